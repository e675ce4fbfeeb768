/- The code of the functions that the law reaches does what the plain functions say. -/
import Derived.Test.YtkmjmhjfadaebaaF14
import Derived.Test.YtkmjmhjfadaebaaAmB
import Derived.KernelRfl
import Derived.Test.YtkmjmhjfadaebaaProg
set_option linter.unusedVariables false
set_option maxRecDepth 100000
namespace Go.Am.G
open Go Go.Am
open Go.Proofs
def tt : TT := [(3, ⟨1, false, (.int .i64), 0, [], [.int .i64 0], 8, true, false, []⟩), (4, ⟨1, false, .bool, 0, [], [.bool false], 1, true, false, []⟩), (67, ⟨1, false, (.sl (.pr (.int .i64) (.int .i64))), 91, [], [.nil], 24, true, true, []⟩), (71, ⟨1, false, (.sl (.pr (.int .i64) (.int .i64))), 89, [], [.nil], 24, true, true, []⟩), (89, ⟨2, true, (.pr (.int .i64) (.int .i64)), 0, [(0, 1, false), (1, 1, false)], [.int .i64 0, .int .i64 0], 16, true, false, [(.int .i64), (.int .i64)]⟩), (91, ⟨2, true, (.pr (.int .i64) (.int .i64)), 0, [(0, 1, false), (1, 1, false)], [.int .i64 0, .int .i64 0], 16, true, false, [(.int .i64), (.int .i64)]⟩)]
def sig : Sig := sigOf [(14, [.one (.ro (.pr (.int .i64) (.int .i64))), .one .any]), (44, [.one (.ro (.pr (.int .i64) (.int .i64))), .one .any]), (46, [.one (.ro (.pr (.int .i64) (.int .i64)))]), (48, [.one (.ro (.pr (.int .i64) (.int .i64))), .one (.ro (.pr (.int .i64) (.int .i64)))]), (51, [.one (.ro (.pr (.int .i64) (.int .i64))), .one .any]), (52, [.one (.ro (.pr (.int .i64) (.int .i64))), .one .any]), (53, [.one .any, .one .any, .one .any]), (54, [.one .any, .one .any, .one .any]), (67, [.one (.ro (.pr (.int .i64) (.int .i64)))]), (68, [.agg [.any, .any]]), (69, [.one (.ro (.pr (.int .i64) (.int .i64)))]), (70, [.one (.ro (.pr (.int .i64) (.int .i64)))]), (72, [.agg [.any, .any], .agg [.any, .any]]), (73, [.one (.ro (.pr (.int .i64) (.int .i64)))]), (74, [.one (.ro (.pr (.int .i64) (.int .i64))), .one .any]), (75, [.one (.ro (.pr (.int .i64) (.int .i64))), .one .any]), (78, [.one .any]), (79, [.one (.ro (.pr (.int .i64) (.int .i64))), .fn 80 [[.any]]]), (80, [.agg [.any, .any], .box [.any]])]
theorem ttok : TTok Try.prog tt := .of_chk (by kernel_rfl)
theorem mixed : Try.prog.follows .mixedOrders = true := by kernel_rfl

/-! ### loop.example/g00269/laws.szItemS -/
theorem claws_szItemS (n : Nat) : AllOk Try.prog [] := trivial
@[reducible] def Slaws_szItemS : PkS := ⟨[.one (.ro (.pr (.int .i64) (.int .i64))), .one (.int .i64)], []⟩
@[reducible] def Tlaws_szItemS : PkS := ⟨[.one (.int .i64), .one (.dead), .one (.dead)], []⟩
def Hlaws_szItemS : List Sh := [.one .any, .skip, .skip]
def Klaws_szItemS (n : Nat) : KPs := fun R p k => match (PkS.un Slaws_szItemS p : Option ((List (Int × Int)) × Int × Unit)) with
  | some (x0, x1, _) => laws_szItemS n x0 x1 (fun r0 => k (PkS.pack Tlaws_szItemS (r0, ())))
  | none => none
theorem elaws_szItemS {R : Type} (n : Nat) (x0 : List (Int × Int)) (x1 : Int) (k : Pk → Option R) : evF tt sig (mkK [] R) (mkL (mkK []) [] R) Try.f44 Hlaws_szItemS (PkS.pack Slaws_szItemS (x0, x1, ())) k = laws_szItemS n x0 x1 (fun r0 => k (PkS.pack Tlaws_szItemS (r0, ()))) := by kernel_rfl
theorem oklaws_szItemS (n : Nat) : FnOk Try.prog 44 (Klaws_szItemS n) := by
  refine fn_ok (sig := sig) mixed ttok (mkK_nat (claws_szItemS n)) (mkK_ok (claws_szItemS n)) (mkL_nat (mkK_nat (claws_szItemS n)) (l := []) trivial) (fn := Try.f44) (c := bodyOf Try.f44) (by kernel_rfl) (by kernel_rfl) (by kernel_rfl) (.eq (l := []) (by kernel_rfl) trivial) (shs := Hlaws_szItemS) (S := Slaws_szItemS) fun R p k => ?_
  unfold Klaws_szItemS
  cases h : (PkS.un Slaws_szItemS p) with
  | none => rfl
  | some d =>
    obtain ⟨x0, x1, u⟩ := (d : (List (Int × Int)) × Int × Unit)
    have hp := PkS.un_pack h
    subst hp
    exact (elaws_szItemS n x0 x1 k).symm

/-! ### loop.example/g00269/laws.toItem -/
theorem claws_toItem (n : Nat) : AllOk Try.prog [] := trivial
@[reducible] def Slaws_toItem : PkS := ⟨[.agg [.int .i64, .int .i64]], []⟩
@[reducible] def Tlaws_toItem : PkS := ⟨[.agg [.int .i64, .int .i64], .one (.dead)], []⟩
def Hlaws_toItem : List Sh := [.agg [.any, .any], .skip]
def Klaws_toItem (n : Nat) : KPs := fun R p k => match (PkS.un Slaws_toItem p : Option (Int × Int × Unit)) with
  | some (x0, x1, _) => laws_toItem n x0 x1 (fun r0 r1 => k (PkS.pack Tlaws_toItem (r0, r1, ())))
  | none => none
theorem elaws_toItem {R : Type} (n : Nat) (x0 : Int) (x1 : Int) (k : Pk → Option R) : evF tt sig (mkK [] R) (mkL (mkK []) [] R) Try.f68 Hlaws_toItem (PkS.pack Slaws_toItem (x0, x1, ())) k = laws_toItem n x0 x1 (fun r0 r1 => k (PkS.pack Tlaws_toItem (r0, r1, ()))) := by kernel_rfl
theorem oklaws_toItem (n : Nat) : FnOk Try.prog 68 (Klaws_toItem n) := by
  refine fn_ok (sig := sig) mixed ttok (mkK_nat (claws_toItem n)) (mkK_ok (claws_toItem n)) (mkL_nat (mkK_nat (claws_toItem n)) (l := []) trivial) (fn := Try.f68) (c := bodyOf Try.f68) (by kernel_rfl) (by kernel_rfl) (by kernel_rfl) (.eq (l := []) (by kernel_rfl) trivial) (shs := Hlaws_toItem) (S := Slaws_toItem) fun R p k => ?_
  unfold Klaws_toItem
  cases h : (PkS.un Slaws_toItem p) with
  | none => rfl
  | some d =>
    obtain ⟨x0, x1, u⟩ := (d : Int × Int × Unit)
    have hp := PkS.un_pack h
    subst hp
    exact (elaws_toItem n x0 x1 k).symm

/-! ### loop.example/g00269/laws.toItemS -/
theorem claws_toItemS (n : Nat) : AllOk Try.prog [(68, Klaws_toItem n)] := ⟨oklaws_toItem n, trivial⟩
@[reducible] def Slaws_toItemS_l3 : PkS := ⟨[.one (.ro (.pr (.int .i64) (.int .i64))), .one (.whole (100000, 0)), .one (.int .i64), .one (.dead)], [((100000, 0), .arr (.pr (.int .i64) (.int .i64)))]⟩
@[reducible] def Tlaws_toItemS_l3_0 : PkS := ⟨[.one (.whole (100000, 0)), .one (.dead)], [((100000, 0), .arr (.pr (.int .i64) (.int .i64)))]⟩
def Dlaws_toItemS_l3 : LoopD := ⟨23, [0, 3, 4], [.one (.ro (.pr (.int .i64) (.int .i64))), .one (.own (.pr (.int .i64) (.int .i64))), .one .any, .skip], fun x => match x with
  | .exit 0 => some ([3], [.one (.own (.pr (.int .i64) (.int .i64))), .skip])
  | _ => none⟩
def Plaws_toItemS_l3 (n : Nat) : LPs := fun R q kk => match (PkS.un Slaws_toItemS_l3 q : Option ((List (Int × Int)) × Int × (List (Int × Int)) × Unit)) with
  | some (y3_0, y3_1, y3_2, _) => laws_toItemS_l3 n y3_0 y3_1 y3_2 (fun r0 => kk (.exit 0) (PkS.pack Tlaws_toItemS_l3_0 (r0, ())))
  | none => none
theorem elaws_toItemS_l3 {R : Type} (n : Nat) (y3_0 : List (Int × Int)) (y3_1 : Int) (y3_2 : List (Int × Int)) (kk : Ex → Pk → Option R) : Dlaws_toItemS_l3.step tt sig (mkK [(68, Klaws_toItem n)] R) (mkL (mkK [(68, Klaws_toItem n)]) [] R) (loopIn 3 (bodyOf Try.f46)) (fun q' => Plaws_toItemS_l3 n R q' kk) (PkS.pack Slaws_toItemS_l3 (y3_0, y3_1, y3_2, ())) kk = laws_toItemS_l3 (n + 1) y3_0 y3_1 y3_2 (fun r0 => kk (.exit 0) (PkS.pack Tlaws_toItemS_l3_0 (r0, ()))) := by kernel_rfl
theorem lelaws_toItemS_l3 : LoopEq tt sig (fun n => mkK [(68, Klaws_toItem n)]) (fun n => mkL (mkK [(68, Klaws_toItem n)]) []) Dlaws_toItemS_l3 Slaws_toItemS_l3 (loopIn 3 (bodyOf Try.f46)) Plaws_toItemS_l3 where
  zero R q kk := by unfold Plaws_toItemS_l3; cases (PkS.un Slaws_toItemS_l3 q) <;> rfl
  succ n R q kk := by
    unfold Plaws_toItemS_l3
    cases h : (PkS.un Slaws_toItemS_l3 q) with
    | none => rfl
    | some d =>
      obtain ⟨y3_0, y3_1, y3_2, u⟩ := (d : (List (Int × Int)) × Int × (List (Int × Int)) × Unit)
      have hp := PkS.un_pack h
      subst hp
      exact (elaws_toItemS_l3 n y3_0 y3_1 y3_2 kk).symm
theorem nllaws_toItemS_l3 : ∀ n, NatLP (Plaws_toItemS_l3 n) := lelaws_toItemS_l3.nat (fun n => mkK_nat (claws_toItemS n)) fun n => mkL_nat (mkK_nat (claws_toItemS n)) (l := []) trivial
theorem inlaws_toItemS_l3 (n : Nat) (R : Type) : LoopsOk Try.prog (mkL (mkK [(68, Klaws_toItem n)]) [] R) (loopIn 3 (bodyOf Try.f46)) := .eq (l := []) (by kernel_rfl) trivial
theorem lklaws_toItemS_l3 (n : Nat) (R : Type) (L0 : LK R) (h0 : ∀ id, firstRegion (loopIn 3 (bodyOf Try.f46)) = some id → L0 id = Dlaws_toItemS_l3.oracle (mkK [(68, Klaws_toItem n)] R) (Plaws_toItemS_l3 n R)) : LoopOk Try.prog L0 (loopIn 3 (bodyOf Try.f46)) :=
  lelaws_toItemS_l3.ok mixed ttok (fun n => mkK_nat (claws_toItemS n)) (fun n => mkK_ok (claws_toItemS n)) (fun n => inlaws_toItemS_l3 n R) (mkK_nat (claws_toItemS n)) h0
@[reducible] def Slaws_toItemS : PkS := ⟨[.one (.ro (.pr (.int .i64) (.int .i64)))], []⟩
@[reducible] def Tlaws_toItemS : PkS := ⟨[.one (.whole (300000, 0)), .one (.dead)], [((300000, 0), .arr (.pr (.int .i64) (.int .i64)))]⟩
def Hlaws_toItemS : List Sh := [.one (.own (.pr (.int .i64) (.int .i64))), .skip]
def Klaws_toItemS (n : Nat) : KPs := fun R p k => match (PkS.un Slaws_toItemS p : Option ((List (Int × Int)) × Unit)) with
  | some (x0, _) => laws_toItemS n x0 (fun r0 => k (PkS.pack Tlaws_toItemS (r0, ())))
  | none => none
theorem elaws_toItemS {R : Type} (n : Nat) (x0 : List (Int × Int)) (k : Pk → Option R) : evF tt sig (mkK [(68, Klaws_toItem n)] R) (mkL (mkK [(68, Klaws_toItem n)]) [(3, Dlaws_toItemS_l3, Plaws_toItemS_l3 n)] R) Try.f46 Hlaws_toItemS (PkS.pack Slaws_toItemS (x0, ())) k = laws_toItemS n x0 (fun r0 => k (PkS.pack Tlaws_toItemS (r0, ()))) := by kernel_rfl
theorem oklaws_toItemS (n : Nat) : FnOk Try.prog 46 (Klaws_toItemS n) := by
  refine fn_ok (sig := sig) mixed ttok (mkK_nat (claws_toItemS n)) (mkK_ok (claws_toItemS n)) (mkL_nat (mkK_nat (claws_toItemS n)) (l := [(3, Dlaws_toItemS_l3, Plaws_toItemS_l3 n)]) ⟨nllaws_toItemS_l3 n, trivial⟩) (fn := Try.f46) (c := bodyOf Try.f46) (by kernel_rfl) (by kernel_rfl) (by kernel_rfl) (.eq (l := [loopIn 3 (bodyOf Try.f46)]) (by kernel_rfl) ⟨(lklaws_toItemS_l3 n _ _ (at_id (i := 3) (by kernel_rfl) rfl)), trivial⟩) (shs := Hlaws_toItemS) (S := Slaws_toItemS) fun R p k => ?_
  unfold Klaws_toItemS
  cases h : (PkS.un Slaws_toItemS p) with
  | none => rfl
  | some d =>
    obtain ⟨x0, u⟩ := (d : (List (Int × Int)) × Unit)
    have hp := PkS.un_pack h
    subst hp
    exact (elaws_toItemS n x0 k).symm

/-! ### loop.example/g00269/spec.l1In -/
theorem cspec_l1In (n : Nat) : AllOk Try.prog [] := trivial
@[reducible] def Sspec_l1In : PkS := ⟨[.one (.int .i64), .one (.int .i64), .one (.int .i64)], []⟩
@[reducible] def Tspec_l1In : PkS := ⟨[.one (.bool), .one (.dead), .one (.dead), .one (.dead)], []⟩
def Hspec_l1In : List Sh := [.one .any, .skip, .skip, .skip]
def Kspec_l1In (n : Nat) : KPs := fun R p k => match (PkS.un Sspec_l1In p : Option (Int × Int × Int × Unit)) with
  | some (x0, x1, x2, _) => spec_l1In n x0 x1 x2 (fun r0 => k (PkS.pack Tspec_l1In (r0, ())))
  | none => none
theorem espec_l1In {R : Type} (n : Nat) (x0 : Int) (x1 : Int) (x2 : Int) (k : Pk → Option R) : evF tt sig (mkK [] R) (mkL (mkK []) [] R) Try.f53 Hspec_l1In (PkS.pack Sspec_l1In (x0, x1, x2, ())) k = spec_l1In n x0 x1 x2 (fun r0 => k (PkS.pack Tspec_l1In (r0, ()))) := by kernel_rfl
theorem okspec_l1In (n : Nat) : FnOk Try.prog 53 (Kspec_l1In n) := by
  refine fn_ok (sig := sig) mixed ttok (mkK_nat (cspec_l1In n)) (mkK_ok (cspec_l1In n)) (mkL_nat (mkK_nat (cspec_l1In n)) (l := []) trivial) (fn := Try.f53) (c := bodyOf Try.f53) (by kernel_rfl) (by kernel_rfl) (by kernel_rfl) (.eq (l := []) (by kernel_rfl) trivial) (shs := Hspec_l1In) (S := Sspec_l1In) fun R p k => ?_
  unfold Kspec_l1In
  cases h : (PkS.un Sspec_l1In p) with
  | none => rfl
  | some d =>
    obtain ⟨x0, x1, x2, u⟩ := (d : Int × Int × Int × Unit)
    have hp := PkS.un_pack h
    subst hp
    exact (espec_l1In n x0 x1 x2 k).symm

/-! ### loop.example/g00269/spec.GoodItems -/
theorem cspec_GoodItems (n : Nat) : AllOk Try.prog [(53, Kspec_l1In n)] := ⟨okspec_l1In n, trivial⟩
@[reducible] def Sspec_GoodItems_l2 : PkS := ⟨[.one (.ro (.pr (.int .i64) (.int .i64))), .one (.ro (.pr (.int .i64) (.int .i64))), .one (.int .i64), .one (.int .i64), .one (.dead)], []⟩
@[reducible] def Tspec_GoodItems_l2_0 : PkS := ⟨[.one (.bool), .one (.dead)], []⟩
@[reducible] def Tspec_GoodItems_l2_1 : PkS := ⟨[.one (.ro (.pr (.int .i64) (.int .i64))), .one (.dead)], []⟩
def Dspec_GoodItems_l2 : LoopD := ⟨52, [0, 5, 6, 7], [.one (.ro (.pr (.int .i64) (.int .i64))), .one (.ro (.pr (.int .i64) (.int .i64))), .one .any, .one .any, .skip], fun x => match x with
  | .ret => some ([2], [.one .any, .skip])
  | .exit 0 => some ([0], [.one (.ro (.pr (.int .i64) (.int .i64))), .skip])
  | _ => none⟩
def Pspec_GoodItems_l2 (n : Nat) : LPs := fun R q kk => match (PkS.un Sspec_GoodItems_l2 q : Option ((List (Int × Int)) × (List (Int × Int)) × Int × Int × Unit)) with
  | some (y2_0, y2_1, y2_2, y2_3, _) => spec_GoodItems_l2 n y2_0 y2_1 y2_2 y2_3 (fun r0 => kk .ret (PkS.pack Tspec_GoodItems_l2_0 (r0, ()))) (fun r0 => kk (.exit 0) (PkS.pack Tspec_GoodItems_l2_1 (r0, ())))
  | none => none
theorem espec_GoodItems_l2 {R : Type} (n : Nat) (y2_0 : List (Int × Int)) (y2_1 : List (Int × Int)) (y2_2 : Int) (y2_3 : Int) (kk : Ex → Pk → Option R) : Dspec_GoodItems_l2.step tt sig (mkK [(53, Kspec_l1In n)] R) (mkL (mkK [(53, Kspec_l1In n)]) [] R) (loopIn 2 (bodyOf Try.f67)) (fun q' => Pspec_GoodItems_l2 n R q' kk) (PkS.pack Sspec_GoodItems_l2 (y2_0, y2_1, y2_2, y2_3, ())) kk = spec_GoodItems_l2 (n + 1) y2_0 y2_1 y2_2 y2_3 (fun r0 => kk .ret (PkS.pack Tspec_GoodItems_l2_0 (r0, ()))) (fun r0 => kk (.exit 0) (PkS.pack Tspec_GoodItems_l2_1 (r0, ()))) := by kernel_rfl
theorem lespec_GoodItems_l2 : LoopEq tt sig (fun n => mkK [(53, Kspec_l1In n)]) (fun n => mkL (mkK [(53, Kspec_l1In n)]) []) Dspec_GoodItems_l2 Sspec_GoodItems_l2 (loopIn 2 (bodyOf Try.f67)) Pspec_GoodItems_l2 where
  zero R q kk := by unfold Pspec_GoodItems_l2; cases (PkS.un Sspec_GoodItems_l2 q) <;> rfl
  succ n R q kk := by
    unfold Pspec_GoodItems_l2
    cases h : (PkS.un Sspec_GoodItems_l2 q) with
    | none => rfl
    | some d =>
      obtain ⟨y2_0, y2_1, y2_2, y2_3, u⟩ := (d : (List (Int × Int)) × (List (Int × Int)) × Int × Int × Unit)
      have hp := PkS.un_pack h
      subst hp
      exact (espec_GoodItems_l2 n y2_0 y2_1 y2_2 y2_3 kk).symm
theorem nlspec_GoodItems_l2 : ∀ n, NatLP (Pspec_GoodItems_l2 n) := lespec_GoodItems_l2.nat (fun n => mkK_nat (cspec_GoodItems n)) fun n => mkL_nat (mkK_nat (cspec_GoodItems n)) (l := []) trivial
theorem inspec_GoodItems_l2 (n : Nat) (R : Type) : LoopsOk Try.prog (mkL (mkK [(53, Kspec_l1In n)]) [] R) (loopIn 2 (bodyOf Try.f67)) := .eq (l := []) (by kernel_rfl) trivial
theorem lkspec_GoodItems_l2 (n : Nat) (R : Type) (L0 : LK R) (h0 : ∀ id, firstRegion (loopIn 2 (bodyOf Try.f67)) = some id → L0 id = Dspec_GoodItems_l2.oracle (mkK [(53, Kspec_l1In n)] R) (Pspec_GoodItems_l2 n R)) : LoopOk Try.prog L0 (loopIn 2 (bodyOf Try.f67)) :=
  lespec_GoodItems_l2.ok mixed ttok (fun n => mkK_nat (cspec_GoodItems n)) (fun n => mkK_ok (cspec_GoodItems n)) (fun n => inspec_GoodItems_l2 n R) (mkK_nat (cspec_GoodItems n)) h0
@[reducible] def Sspec_GoodItems : PkS := ⟨[.one (.ro (.pr (.int .i64) (.int .i64)))], []⟩
@[reducible] def Tspec_GoodItems : PkS := ⟨[.one (.bool), .one (.dead)], []⟩
def Hspec_GoodItems : List Sh := [.one .any, .skip]
def Kspec_GoodItems (n : Nat) : KPs := fun R p k => match (PkS.un Sspec_GoodItems p : Option ((List (Int × Int)) × Unit)) with
  | some (x0, _) => spec_GoodItems n x0 (fun r0 => k (PkS.pack Tspec_GoodItems (r0, ())))
  | none => none
theorem espec_GoodItems {R : Type} (n : Nat) (x0 : List (Int × Int)) (k : Pk → Option R) : evF tt sig (mkK [(53, Kspec_l1In n)] R) (mkL (mkK [(53, Kspec_l1In n)]) [(2, Dspec_GoodItems_l2, Pspec_GoodItems_l2 n)] R) Try.f67 Hspec_GoodItems (PkS.pack Sspec_GoodItems (x0, ())) k = spec_GoodItems n x0 (fun r0 => k (PkS.pack Tspec_GoodItems (r0, ()))) := by kernel_rfl
theorem okspec_GoodItems (n : Nat) : FnOk Try.prog 67 (Kspec_GoodItems n) := by
  refine fn_ok (sig := sig) mixed ttok (mkK_nat (cspec_GoodItems n)) (mkK_ok (cspec_GoodItems n)) (mkL_nat (mkK_nat (cspec_GoodItems n)) (l := [(2, Dspec_GoodItems_l2, Pspec_GoodItems_l2 n)]) ⟨nlspec_GoodItems_l2 n, trivial⟩) (fn := Try.f67) (c := bodyOf Try.f67) (by kernel_rfl) (by kernel_rfl) (by kernel_rfl) (.eq (l := [loopIn 2 (bodyOf Try.f67)]) (by kernel_rfl) ⟨(lkspec_GoodItems_l2 n _ _ (at_id (i := 2) (by kernel_rfl) rfl)), trivial⟩) (shs := Hspec_GoodItems) (S := Sspec_GoodItems) fun R p k => ?_
  unfold Kspec_GoodItems
  cases h : (PkS.un Sspec_GoodItems p) with
  | none => rfl
  | some d =>
    obtain ⟨x0, u⟩ := (d : (List (Int × Int)) × Unit)
    have hp := PkS.un_pack h
    subst hp
    exact (espec_GoodItems n x0 k).symm

/-! ### loop.example/g00269/spec.l11Last -/
theorem cspec_l11Last (n : Nat) : AllOk Try.prog [] := trivial
@[reducible] def Sspec_l11Last : PkS := ⟨[.one (.ro (.pr (.int .i64) (.int .i64)))], []⟩
@[reducible] def Tspec_l11Last : PkS := ⟨[.one (.int .i64), .one (.dead)], []⟩
def Hspec_l11Last : List Sh := [.one .any, .skip]
def Kspec_l11Last (n : Nat) : KPs := fun R p k => match (PkS.un Sspec_l11Last p : Option ((List (Int × Int)) × Unit)) with
  | some (x0, _) => spec_l11Last n x0 (fun r0 => k (PkS.pack Tspec_l11Last (r0, ())))
  | none => none
theorem espec_l11Last {R : Type} (n : Nat) (x0 : List (Int × Int)) (k : Pk → Option R) : evF tt sig (mkK [] R) (mkL (mkK []) [] R) Try.f73 Hspec_l11Last (PkS.pack Sspec_l11Last (x0, ())) k = spec_l11Last n x0 (fun r0 => k (PkS.pack Tspec_l11Last (r0, ()))) := by kernel_rfl
theorem okspec_l11Last (n : Nat) : FnOk Try.prog 73 (Kspec_l11Last n) := by
  refine fn_ok (sig := sig) mixed ttok (mkK_nat (cspec_l11Last n)) (mkK_ok (cspec_l11Last n)) (mkL_nat (mkK_nat (cspec_l11Last n)) (l := []) trivial) (fn := Try.f73) (c := bodyOf Try.f73) (by kernel_rfl) (by kernel_rfl) (by kernel_rfl) (.eq (l := []) (by kernel_rfl) trivial) (shs := Hspec_l11Last) (S := Sspec_l11Last) fun R p k => ?_
  unfold Kspec_l11Last
  cases h : (PkS.un Sspec_l11Last p) with
  | none => rfl
  | some d =>
    obtain ⟨x0, u⟩ := (d : (List (Int × Int)) × Unit)
    have hp := PkS.un_pack h
    subst hp
    exact (espec_l11Last n x0 k).symm

/-! ### loop.example/g00269/spec.l11At -/
theorem cspec_l11At (n : Nat) : AllOk Try.prog [] := trivial
@[reducible] def Sspec_l11At_l2 : PkS := ⟨[.one (.int .i64), .one (.ro (.pr (.int .i64) (.int .i64))), .one (.int .i64), .one (.int .i64), .one (.dead), .one (.dead)], []⟩
@[reducible] def Tspec_l11At_l2_0 : PkS := ⟨[.one (.int .i64), .one (.dead), .one (.dead)], []⟩
@[reducible] def Tspec_l11At_l2_1 : PkS := ⟨[.one (.dead), .one (.dead)], []⟩
def Dspec_l11At_l2 : LoopD := ⟨20, [1, 7, 8, 9], [.one .any, .one (.ro (.pr (.int .i64) (.int .i64))), .one .any, .one .any, .skip, .skip], fun x => match x with
  | .ret => some ([4], [.one .any, .skip, .skip])
  | .exit 0 => some ([], [.skip, .skip])
  | _ => none⟩
def Pspec_l11At_l2 (n : Nat) : LPs := fun R q kk => match (PkS.un Sspec_l11At_l2 q : Option (Int × (List (Int × Int)) × Int × Int × Unit)) with
  | some (y2_0, y2_1, y2_2, y2_3, _) => spec_l11At_l2 n y2_0 y2_1 y2_2 y2_3 (fun r0 => kk .ret (PkS.pack Tspec_l11At_l2_0 (r0, ()))) (kk (.exit 0) (PkS.pack Tspec_l11At_l2_1 ()))
  | none => none
theorem espec_l11At_l2 {R : Type} (n : Nat) (y2_0 : Int) (y2_1 : List (Int × Int)) (y2_2 : Int) (y2_3 : Int) (kk : Ex → Pk → Option R) : Dspec_l11At_l2.step tt sig (mkK [] R) (mkL (mkK []) [] R) (loopIn 2 (bodyOf Try.f74)) (fun q' => Pspec_l11At_l2 n R q' kk) (PkS.pack Sspec_l11At_l2 (y2_0, y2_1, y2_2, y2_3, ())) kk = spec_l11At_l2 (n + 1) y2_0 y2_1 y2_2 y2_3 (fun r0 => kk .ret (PkS.pack Tspec_l11At_l2_0 (r0, ()))) (kk (.exit 0) (PkS.pack Tspec_l11At_l2_1 ())) := by kernel_rfl
theorem lespec_l11At_l2 : LoopEq tt sig (fun n => mkK []) (fun n => mkL (mkK []) []) Dspec_l11At_l2 Sspec_l11At_l2 (loopIn 2 (bodyOf Try.f74)) Pspec_l11At_l2 where
  zero R q kk := by unfold Pspec_l11At_l2; cases (PkS.un Sspec_l11At_l2 q) <;> rfl
  succ n R q kk := by
    unfold Pspec_l11At_l2
    cases h : (PkS.un Sspec_l11At_l2 q) with
    | none => rfl
    | some d =>
      obtain ⟨y2_0, y2_1, y2_2, y2_3, u⟩ := (d : Int × (List (Int × Int)) × Int × Int × Unit)
      have hp := PkS.un_pack h
      subst hp
      exact (espec_l11At_l2 n y2_0 y2_1 y2_2 y2_3 kk).symm
theorem nlspec_l11At_l2 : ∀ n, NatLP (Pspec_l11At_l2 n) := lespec_l11At_l2.nat (fun n => mkK_nat (cspec_l11At n)) fun n => mkL_nat (mkK_nat (cspec_l11At n)) (l := []) trivial
theorem inspec_l11At_l2 (n : Nat) (R : Type) : LoopsOk Try.prog (mkL (mkK []) [] R) (loopIn 2 (bodyOf Try.f74)) := .eq (l := []) (by kernel_rfl) trivial
theorem lkspec_l11At_l2 (n : Nat) (R : Type) (L0 : LK R) (h0 : ∀ id, firstRegion (loopIn 2 (bodyOf Try.f74)) = some id → L0 id = Dspec_l11At_l2.oracle (mkK [] R) (Pspec_l11At_l2 n R)) : LoopOk Try.prog L0 (loopIn 2 (bodyOf Try.f74)) :=
  lespec_l11At_l2.ok mixed ttok (fun n => mkK_nat (cspec_l11At n)) (fun n => mkK_ok (cspec_l11At n)) (fun n => inspec_l11At_l2 n R) (mkK_nat (cspec_l11At n)) h0
@[reducible] def Sspec_l11At : PkS := ⟨[.one (.ro (.pr (.int .i64) (.int .i64))), .one (.int .i64)], []⟩
@[reducible] def Tspec_l11At : PkS := ⟨[.one (.int .i64), .one (.dead), .one (.dead)], []⟩
def Hspec_l11At : List Sh := [.one .any, .skip, .skip]
def Kspec_l11At (n : Nat) : KPs := fun R p k => match (PkS.un Sspec_l11At p : Option ((List (Int × Int)) × Int × Unit)) with
  | some (x0, x1, _) => spec_l11At n x0 x1 (fun r0 => k (PkS.pack Tspec_l11At (r0, ())))
  | none => none
theorem espec_l11At {R : Type} (n : Nat) (x0 : List (Int × Int)) (x1 : Int) (k : Pk → Option R) : evF tt sig (mkK [] R) (mkL (mkK []) [(2, Dspec_l11At_l2, Pspec_l11At_l2 n)] R) Try.f74 Hspec_l11At (PkS.pack Sspec_l11At (x0, x1, ())) k = spec_l11At n x0 x1 (fun r0 => k (PkS.pack Tspec_l11At (r0, ()))) := by kernel_rfl
theorem okspec_l11At (n : Nat) : FnOk Try.prog 74 (Kspec_l11At n) := by
  refine fn_ok (sig := sig) mixed ttok (mkK_nat (cspec_l11At n)) (mkK_ok (cspec_l11At n)) (mkL_nat (mkK_nat (cspec_l11At n)) (l := [(2, Dspec_l11At_l2, Pspec_l11At_l2 n)]) ⟨nlspec_l11At_l2 n, trivial⟩) (fn := Try.f74) (c := bodyOf Try.f74) (by kernel_rfl) (by kernel_rfl) (by kernel_rfl) (.eq (l := [loopIn 2 (bodyOf Try.f74)]) (by kernel_rfl) ⟨(lkspec_l11At_l2 n _ _ (at_id (i := 2) (by kernel_rfl) rfl)), trivial⟩) (shs := Hspec_l11At) (S := Sspec_l11At) fun R p k => ?_
  unfold Kspec_l11At
  cases h : (PkS.un Sspec_l11At p) with
  | none => rfl
  | some d =>
    obtain ⟨x0, x1, u⟩ := (d : (List (Int × Int)) × Int × Unit)
    have hp := PkS.un_pack h
    subst hp
    exact (espec_l11At n x0 x1 k).symm

/-! ### loop.example/g00269/spec.VersionAt -/
theorem cspec_VersionAt (n : Nat) : AllOk Try.prog [(67, Kspec_GoodItems n), (73, Kspec_l11Last n), (53, Kspec_l1In n), (74, Kspec_l11At n)] := ⟨okspec_GoodItems n, ⟨okspec_l11Last n, ⟨okspec_l1In n, ⟨okspec_l11At n, trivial⟩⟩⟩⟩
@[reducible] def Sspec_VersionAt : PkS := ⟨[.one (.ro (.pr (.int .i64) (.int .i64))), .one (.int .i64)], []⟩
@[reducible] def Tspec_VersionAt : PkS := ⟨[.tup [(false, [.int .i64]), (false, [.bool])], .one (.dead), .one (.dead)], []⟩
def Hspec_VersionAt : List Sh := [.tup [(false, [.any]), (false, [.any])], .skip, .skip]
def Kspec_VersionAt (n : Nat) : KPs := fun R p k => match (PkS.un Sspec_VersionAt p : Option ((List (Int × Int)) × Int × Unit)) with
  | some (x0, x1, _) => spec_VersionAt n x0 x1 (fun r0 r1 => k (PkS.pack Tspec_VersionAt (r0, r1, ())))
  | none => none
theorem espec_VersionAt {R : Type} (n : Nat) (x0 : List (Int × Int)) (x1 : Int) (k : Pk → Option R) : evF tt sig (mkK [(67, Kspec_GoodItems n), (73, Kspec_l11Last n), (53, Kspec_l1In n), (74, Kspec_l11At n)] R) (mkL (mkK [(67, Kspec_GoodItems n), (73, Kspec_l11Last n), (53, Kspec_l1In n), (74, Kspec_l11At n)]) [] R) Try.f51 Hspec_VersionAt (PkS.pack Sspec_VersionAt (x0, x1, ())) k = spec_VersionAt n x0 x1 (fun r0 r1 => k (PkS.pack Tspec_VersionAt (r0, r1, ()))) := by kernel_rfl
theorem okspec_VersionAt (n : Nat) : FnOk Try.prog 51 (Kspec_VersionAt n) := by
  refine fn_ok (sig := sig) mixed ttok (mkK_nat (cspec_VersionAt n)) (mkK_ok (cspec_VersionAt n)) (mkL_nat (mkK_nat (cspec_VersionAt n)) (l := []) trivial) (fn := Try.f51) (c := bodyOf Try.f51) (by kernel_rfl) (by kernel_rfl) (by kernel_rfl) (.eq (l := []) (by kernel_rfl) trivial) (shs := Hspec_VersionAt) (S := Sspec_VersionAt) fun R p k => ?_
  unfold Kspec_VersionAt
  cases h : (PkS.un Sspec_VersionAt p) with
  | none => rfl
  | some d =>
    obtain ⟨x0, x1, u⟩ := (d : (List (Int × Int)) × Int × Unit)
    have hp := PkS.un_pack h
    subst hp
    exact (espec_VersionAt n x0 x1 k).symm

/-! ### loop.example/g00269/impl.in -/
theorem cimpl_in (n : Nat) : AllOk Try.prog [] := trivial
@[reducible] def Simpl_in : PkS := ⟨[.one (.int .i64), .one (.int .i64), .one (.int .i64)], []⟩
@[reducible] def Timpl_in : PkS := ⟨[.one (.bool), .one (.dead), .one (.dead), .one (.dead)], []⟩
def Himpl_in : List Sh := [.one .any, .skip, .skip, .skip]
def Kimpl_in (n : Nat) : KPs := fun R p k => match (PkS.un Simpl_in p : Option (Int × Int × Int × Unit)) with
  | some (x0, x1, x2, _) => impl_in n x0 x1 x2 (fun r0 => k (PkS.pack Timpl_in (r0, ())))
  | none => none
theorem eimpl_in {R : Type} (n : Nat) (x0 : Int) (x1 : Int) (x2 : Int) (k : Pk → Option R) : evF tt sig (mkK [] R) (mkL (mkK []) [] R) Try.f54 Himpl_in (PkS.pack Simpl_in (x0, x1, x2, ())) k = impl_in n x0 x1 x2 (fun r0 => k (PkS.pack Timpl_in (r0, ()))) := by kernel_rfl
theorem okimpl_in (n : Nat) : FnOk Try.prog 54 (Kimpl_in n) := by
  refine fn_ok (sig := sig) mixed ttok (mkK_nat (cimpl_in n)) (mkK_ok (cimpl_in n)) (mkL_nat (mkK_nat (cimpl_in n)) (l := []) trivial) (fn := Try.f54) (c := bodyOf Try.f54) (by kernel_rfl) (by kernel_rfl) (by kernel_rfl) (.eq (l := []) (by kernel_rfl) trivial) (shs := Himpl_in) (S := Simpl_in) fun R p k => ?_
  unfold Kimpl_in
  cases h : (PkS.un Simpl_in p) with
  | none => rfl
  | some d =>
    obtain ⟨x0, x1, x2, u⟩ := (d : Int × Int × Int × Unit)
    have hp := PkS.un_pack h
    subst hp
    exact (eimpl_in n x0 x1 x2 k).symm

/-! ### loop.example/g00269/impl.isVersion -/
theorem cimpl_isVersion (n : Nat) : AllOk Try.prog [(54, Kimpl_in n)] := ⟨okimpl_in n, trivial⟩
@[reducible] def Simpl_isVersion : PkS := ⟨[.one (.int .i64)], []⟩
@[reducible] def Timpl_isVersion : PkS := ⟨[.one (.bool), .one (.dead)], []⟩
def Himpl_isVersion : List Sh := [.one .any, .skip]
def Kimpl_isVersion (n : Nat) : KPs := fun R p k => match (PkS.un Simpl_isVersion p : Option (Int × Unit)) with
  | some (x0, _) => impl_isVersion n x0 (fun r0 => k (PkS.pack Timpl_isVersion (r0, ())))
  | none => none
theorem eimpl_isVersion {R : Type} (n : Nat) (x0 : Int) (k : Pk → Option R) : evF tt sig (mkK [(54, Kimpl_in n)] R) (mkL (mkK [(54, Kimpl_in n)]) [] R) Try.f78 Himpl_isVersion (PkS.pack Simpl_isVersion (x0, ())) k = impl_isVersion n x0 (fun r0 => k (PkS.pack Timpl_isVersion (r0, ()))) := by kernel_rfl
theorem okimpl_isVersion (n : Nat) : FnOk Try.prog 78 (Kimpl_isVersion n) := by
  refine fn_ok (sig := sig) mixed ttok (mkK_nat (cimpl_isVersion n)) (mkK_ok (cimpl_isVersion n)) (mkL_nat (mkK_nat (cimpl_isVersion n)) (l := []) trivial) (fn := Try.f78) (c := bodyOf Try.f78) (by kernel_rfl) (by kernel_rfl) (by kernel_rfl) (.eq (l := []) (by kernel_rfl) trivial) (shs := Himpl_isVersion) (S := Simpl_isVersion) fun R p k => ?_
  unfold Kimpl_isVersion
  cases h : (PkS.un Simpl_isVersion p) with
  | none => rfl
  | some d =>
    obtain ⟨x0, u⟩ := (d : Int × Unit)
    have hp := PkS.un_pack h
    subst hp
    exact (eimpl_isVersion n x0 k).symm

/-! ### loop.example/g00269/impl.GoodItems -/
theorem cimpl_GoodItems (n : Nat) : AllOk Try.prog [(54, Kimpl_in n), (78, Kimpl_isVersion n)] := ⟨okimpl_in n, ⟨okimpl_isVersion n, trivial⟩⟩
@[reducible] def Simpl_GoodItems_l4 : PkS := ⟨[.one (.ro (.pr (.int .i64) (.int .i64))), .one (.ro (.pr (.int .i64) (.int .i64))), .one (.int .i64), .one (.int .i64), .one (.dead)], []⟩
@[reducible] def Timpl_GoodItems_l4_0 : PkS := ⟨[.one (.bool), .one (.dead)], []⟩
@[reducible] def Timpl_GoodItems_l4_1 : PkS := ⟨[.one (.dead)], []⟩
def Dimpl_GoodItems_l4 : LoopD := ⟨52, [0, 8, 9, 10], [.one (.ro (.pr (.int .i64) (.int .i64))), .one (.ro (.pr (.int .i64) (.int .i64))), .one .any, .one .any, .skip], fun x => match x with
  | .ret => some ([2], [.one .any, .skip])
  | .exit 0 => some ([], [.skip])
  | _ => none⟩
def Pimpl_GoodItems_l4 (n : Nat) : LPs := fun R q kk => match (PkS.un Simpl_GoodItems_l4 q : Option ((List (Int × Int)) × (List (Int × Int)) × Int × Int × Unit)) with
  | some (y4_0, y4_1, y4_2, y4_3, _) => impl_GoodItems_l4 n y4_0 y4_1 y4_2 y4_3 (fun r0 => kk .ret (PkS.pack Timpl_GoodItems_l4_0 (r0, ()))) (kk (.exit 0) (PkS.pack Timpl_GoodItems_l4_1 ()))
  | none => none
theorem eimpl_GoodItems_l4 {R : Type} (n : Nat) (y4_0 : List (Int × Int)) (y4_1 : List (Int × Int)) (y4_2 : Int) (y4_3 : Int) (kk : Ex → Pk → Option R) : Dimpl_GoodItems_l4.step tt sig (mkK [(54, Kimpl_in n), (78, Kimpl_isVersion n)] R) (mkL (mkK [(54, Kimpl_in n), (78, Kimpl_isVersion n)]) [] R) (loopIn 4 (bodyOf Try.f69)) (fun q' => Pimpl_GoodItems_l4 n R q' kk) (PkS.pack Simpl_GoodItems_l4 (y4_0, y4_1, y4_2, y4_3, ())) kk = impl_GoodItems_l4 (n + 1) y4_0 y4_1 y4_2 y4_3 (fun r0 => kk .ret (PkS.pack Timpl_GoodItems_l4_0 (r0, ()))) (kk (.exit 0) (PkS.pack Timpl_GoodItems_l4_1 ())) := by kernel_rfl
theorem leimpl_GoodItems_l4 : LoopEq tt sig (fun n => mkK [(54, Kimpl_in n), (78, Kimpl_isVersion n)]) (fun n => mkL (mkK [(54, Kimpl_in n), (78, Kimpl_isVersion n)]) []) Dimpl_GoodItems_l4 Simpl_GoodItems_l4 (loopIn 4 (bodyOf Try.f69)) Pimpl_GoodItems_l4 where
  zero R q kk := by unfold Pimpl_GoodItems_l4; cases (PkS.un Simpl_GoodItems_l4 q) <;> rfl
  succ n R q kk := by
    unfold Pimpl_GoodItems_l4
    cases h : (PkS.un Simpl_GoodItems_l4 q) with
    | none => rfl
    | some d =>
      obtain ⟨y4_0, y4_1, y4_2, y4_3, u⟩ := (d : (List (Int × Int)) × (List (Int × Int)) × Int × Int × Unit)
      have hp := PkS.un_pack h
      subst hp
      exact (eimpl_GoodItems_l4 n y4_0 y4_1 y4_2 y4_3 kk).symm
theorem nlimpl_GoodItems_l4 : ∀ n, NatLP (Pimpl_GoodItems_l4 n) := leimpl_GoodItems_l4.nat (fun n => mkK_nat (cimpl_GoodItems n)) fun n => mkL_nat (mkK_nat (cimpl_GoodItems n)) (l := []) trivial
theorem inimpl_GoodItems_l4 (n : Nat) (R : Type) : LoopsOk Try.prog (mkL (mkK [(54, Kimpl_in n), (78, Kimpl_isVersion n)]) [] R) (loopIn 4 (bodyOf Try.f69)) := .eq (l := []) (by kernel_rfl) trivial
theorem lkimpl_GoodItems_l4 (n : Nat) (R : Type) (L0 : LK R) (h0 : ∀ id, firstRegion (loopIn 4 (bodyOf Try.f69)) = some id → L0 id = Dimpl_GoodItems_l4.oracle (mkK [(54, Kimpl_in n), (78, Kimpl_isVersion n)] R) (Pimpl_GoodItems_l4 n R)) : LoopOk Try.prog L0 (loopIn 4 (bodyOf Try.f69)) :=
  leimpl_GoodItems_l4.ok mixed ttok (fun n => mkK_nat (cimpl_GoodItems n)) (fun n => mkK_ok (cimpl_GoodItems n)) (fun n => inimpl_GoodItems_l4 n R) (mkK_nat (cimpl_GoodItems n)) h0
@[reducible] def Simpl_GoodItems : PkS := ⟨[.one (.ro (.pr (.int .i64) (.int .i64)))], []⟩
@[reducible] def Timpl_GoodItems : PkS := ⟨[.one (.bool), .one (.dead)], []⟩
def Himpl_GoodItems : List Sh := [.one .any, .skip]
def Kimpl_GoodItems (n : Nat) : KPs := fun R p k => match (PkS.un Simpl_GoodItems p : Option ((List (Int × Int)) × Unit)) with
  | some (x0, _) => impl_GoodItems n x0 (fun r0 => k (PkS.pack Timpl_GoodItems (r0, ())))
  | none => none
theorem eimpl_GoodItems {R : Type} (n : Nat) (x0 : List (Int × Int)) (k : Pk → Option R) : evF tt sig (mkK [(54, Kimpl_in n), (78, Kimpl_isVersion n)] R) (mkL (mkK [(54, Kimpl_in n), (78, Kimpl_isVersion n)]) [(4, Dimpl_GoodItems_l4, Pimpl_GoodItems_l4 n)] R) Try.f69 Himpl_GoodItems (PkS.pack Simpl_GoodItems (x0, ())) k = impl_GoodItems n x0 (fun r0 => k (PkS.pack Timpl_GoodItems (r0, ()))) := by kernel_rfl
theorem okimpl_GoodItems (n : Nat) : FnOk Try.prog 69 (Kimpl_GoodItems n) := by
  refine fn_ok (sig := sig) mixed ttok (mkK_nat (cimpl_GoodItems n)) (mkK_ok (cimpl_GoodItems n)) (mkL_nat (mkK_nat (cimpl_GoodItems n)) (l := [(4, Dimpl_GoodItems_l4, Pimpl_GoodItems_l4 n)]) ⟨nlimpl_GoodItems_l4 n, trivial⟩) (fn := Try.f69) (c := bodyOf Try.f69) (by kernel_rfl) (by kernel_rfl) (by kernel_rfl) (.eq (l := [loopIn 4 (bodyOf Try.f69)]) (by kernel_rfl) ⟨(lkimpl_GoodItems_l4 n _ _ (at_id (i := 4) (by kernel_rfl) rfl)), trivial⟩) (shs := Himpl_GoodItems) (S := Simpl_GoodItems) fun R p k => ?_
  unfold Kimpl_GoodItems
  cases h : (PkS.un Simpl_GoodItems p) with
  | none => rfl
  | some d =>
    obtain ⟨x0, u⟩ := (d : (List (Int × Int)) × Unit)
    have hp := PkS.un_pack h
    subst hp
    exact (eimpl_GoodItems n x0 k).symm

/-! ### loop.example/g00269/impl.last -/
theorem cimpl_last (n : Nat) : AllOk Try.prog [] := trivial
@[reducible] def Simpl_last : PkS := ⟨[.one (.ro (.pr (.int .i64) (.int .i64)))], []⟩
@[reducible] def Timpl_last : PkS := ⟨[.one (.int .i64), .one (.dead)], []⟩
def Himpl_last : List Sh := [.one .any, .skip]
def Kimpl_last (n : Nat) : KPs := fun R p k => match (PkS.un Simpl_last p : Option ((List (Int × Int)) × Unit)) with
  | some (x0, _) => impl_last n x0 (fun r0 => k (PkS.pack Timpl_last (r0, ())))
  | none => none
theorem eimpl_last {R : Type} (n : Nat) (x0 : List (Int × Int)) (k : Pk → Option R) : evF tt sig (mkK [] R) (mkL (mkK []) [] R) Try.f70 Himpl_last (PkS.pack Simpl_last (x0, ())) k = impl_last n x0 (fun r0 => k (PkS.pack Timpl_last (r0, ()))) := by kernel_rfl
theorem okimpl_last (n : Nat) : FnOk Try.prog 70 (Kimpl_last n) := by
  refine fn_ok (sig := sig) mixed ttok (mkK_nat (cimpl_last n)) (mkK_ok (cimpl_last n)) (mkL_nat (mkK_nat (cimpl_last n)) (l := []) trivial) (fn := Try.f70) (c := bodyOf Try.f70) (by kernel_rfl) (by kernel_rfl) (by kernel_rfl) (.eq (l := []) (by kernel_rfl) trivial) (shs := Himpl_last) (S := Simpl_last) fun R p k => ?_
  unfold Kimpl_last
  cases h : (PkS.un Simpl_last p) with
  | none => rfl
  | some d =>
    obtain ⟨x0, u⟩ := (d : (List (Int × Int)) × Unit)
    have hp := PkS.un_pack h
    subst hp
    exact (eimpl_last n x0 k).symm

/-! ### loop.example/g00269/impl.versionAt$1 -/
theorem cimpl_versionAt_c1 (n : Nat) : AllOk Try.prog [] := trivial
@[reducible] def Simpl_versionAt_c1 : PkS := ⟨[.agg [.int .i64, .int .i64], .one (.box (200000, 0) 0)], [((200000, 0), .box [.int .i64])]⟩
@[reducible] def Timpl_versionAt_c1 : PkS := ⟨[.one (.bool), .one (.dead), .one (.box (300000, 0) 0)], [((300000, 0), .box [.int .i64])]⟩
def Himpl_versionAt_c1 : List Sh := [.one .any, .skip, .box [.any]]
def Kimpl_versionAt_c1 (n : Nat) : KPs := fun R p k => match (PkS.un Simpl_versionAt_c1 p : Option (Int × Int × Int × Unit)) with
  | some (x0, x1, x2, _) => impl_versionAt_c1 n x0 x1 x2 (fun r0 r1 => k (PkS.pack Timpl_versionAt_c1 (r0, r1, ())))
  | none => none
theorem eimpl_versionAt_c1 {R : Type} (n : Nat) (x0 : Int) (x1 : Int) (x2 : Int) (k : Pk → Option R) : evF tt sig (mkK [] R) (mkL (mkK []) [] R) Try.f80 Himpl_versionAt_c1 (PkS.pack Simpl_versionAt_c1 (x0, x1, x2, ())) k = impl_versionAt_c1 n x0 x1 x2 (fun r0 r1 => k (PkS.pack Timpl_versionAt_c1 (r0, r1, ()))) := by kernel_rfl
theorem okimpl_versionAt_c1 (n : Nat) : FnOk Try.prog 80 (Kimpl_versionAt_c1 n) := by
  refine fn_ok (sig := sig) mixed ttok (mkK_nat (cimpl_versionAt_c1 n)) (mkK_ok (cimpl_versionAt_c1 n)) (mkL_nat (mkK_nat (cimpl_versionAt_c1 n)) (l := []) trivial) (fn := Try.f80) (c := bodyOf Try.f80) (by kernel_rfl) (by kernel_rfl) (by kernel_rfl) (.eq (l := []) (by kernel_rfl) trivial) (shs := Himpl_versionAt_c1) (S := Simpl_versionAt_c1) fun R p k => ?_
  unfold Kimpl_versionAt_c1
  cases h : (PkS.un Simpl_versionAt_c1 p) with
  | none => rfl
  | some d =>
    obtain ⟨x0, x1, x2, u⟩ := (d : Int × Int × Int × Unit)
    have hp := PkS.un_pack h
    subst hp
    exact (eimpl_versionAt_c1 n x0 x1 x2 k).symm

/-! ### slices.IndexFunc[[]loop.example/g00269/impl.Item,loop.example/g00269/impl.Item] -/
theorem cslices_IndexFunc_impl_Item_impl_versionAt_c1 (n : Nat) : AllOk Try.prog [(80, Kimpl_versionAt_c1 n)] := ⟨okimpl_versionAt_c1 n, trivial⟩
@[reducible] def Sslices_IndexFunc_impl_Item_impl_versionAt_c1_l2 : PkS := ⟨[.one (.ro (.pr (.int .i64) (.int .i64))), .one (.fn 80 [((100000, 0), 0)]), .one (.int .i64), .one (.int .i64), .one (.dead), .one (.fn 80 [((100000, 0), 0)])], [((100000, 0), .box [.int .i64])]⟩
@[reducible] def Tslices_IndexFunc_impl_Item_impl_versionAt_c1_l2_0 : PkS := ⟨[.one (.int .i64), .one (.dead), .one (.fn 80 [((100000, 0), 0)])], [((100000, 0), .box [.int .i64])]⟩
@[reducible] def Tslices_IndexFunc_impl_Item_impl_versionAt_c1_l2_1 : PkS := ⟨[.one (.dead), .one (.fn 80 [((100000, 0), 0)])], [((100000, 0), .box [.int .i64])]⟩
def Dslices_IndexFunc_impl_Item_impl_versionAt_c1_l2 : LoopD := ⟨19, [0, 1, 7, 8], [.one (.ro (.pr (.int .i64) (.int .i64))), .fn 80 [[.any]], .one .any, .one .any, .skip, .fn 80 [[.any]]], fun x => match x with
  | .ret => some ([4], [.one .any, .skip, .fn 80 [[.any]]])
  | .exit 0 => some ([], [.skip, .fn 80 [[.any]]])
  | _ => none⟩
def Pslices_IndexFunc_impl_Item_impl_versionAt_c1_l2 (n : Nat) : LPs := fun R q kk => match (PkS.un Sslices_IndexFunc_impl_Item_impl_versionAt_c1_l2 q : Option ((List (Int × Int)) × Int × Int × Int × Unit)) with
  | some (y2_0, y2_1, y2_2, y2_3, _) => slices_IndexFunc_impl_Item_impl_versionAt_c1_l2 n y2_0 y2_1 y2_2 y2_3 (fun r0 r1 => kk .ret (PkS.pack Tslices_IndexFunc_impl_Item_impl_versionAt_c1_l2_0 (r0, r1, ()))) (fun r0 => kk (.exit 0) (PkS.pack Tslices_IndexFunc_impl_Item_impl_versionAt_c1_l2_1 (r0, ())))
  | none => none
theorem eslices_IndexFunc_impl_Item_impl_versionAt_c1_l2 {R : Type} (n : Nat) (y2_0 : List (Int × Int)) (y2_1 : Int) (y2_2 : Int) (y2_3 : Int) (kk : Ex → Pk → Option R) : Dslices_IndexFunc_impl_Item_impl_versionAt_c1_l2.step tt sig (mkK [(80, Kimpl_versionAt_c1 n)] R) (mkL (mkK [(80, Kimpl_versionAt_c1 n)]) [] R) (loopIn 2 (bodyOf Try.f79)) (fun q' => Pslices_IndexFunc_impl_Item_impl_versionAt_c1_l2 n R q' kk) (PkS.pack Sslices_IndexFunc_impl_Item_impl_versionAt_c1_l2 (y2_0, y2_1, y2_2, y2_3, ())) kk = slices_IndexFunc_impl_Item_impl_versionAt_c1_l2 (n + 1) y2_0 y2_1 y2_2 y2_3 (fun r0 r1 => kk .ret (PkS.pack Tslices_IndexFunc_impl_Item_impl_versionAt_c1_l2_0 (r0, r1, ()))) (fun r0 => kk (.exit 0) (PkS.pack Tslices_IndexFunc_impl_Item_impl_versionAt_c1_l2_1 (r0, ()))) := by kernel_rfl
theorem leslices_IndexFunc_impl_Item_impl_versionAt_c1_l2 : LoopEq tt sig (fun n => mkK [(80, Kimpl_versionAt_c1 n)]) (fun n => mkL (mkK [(80, Kimpl_versionAt_c1 n)]) []) Dslices_IndexFunc_impl_Item_impl_versionAt_c1_l2 Sslices_IndexFunc_impl_Item_impl_versionAt_c1_l2 (loopIn 2 (bodyOf Try.f79)) Pslices_IndexFunc_impl_Item_impl_versionAt_c1_l2 where
  zero R q kk := by unfold Pslices_IndexFunc_impl_Item_impl_versionAt_c1_l2; cases (PkS.un Sslices_IndexFunc_impl_Item_impl_versionAt_c1_l2 q) <;> rfl
  succ n R q kk := by
    unfold Pslices_IndexFunc_impl_Item_impl_versionAt_c1_l2
    cases h : (PkS.un Sslices_IndexFunc_impl_Item_impl_versionAt_c1_l2 q) with
    | none => rfl
    | some d =>
      obtain ⟨y2_0, y2_1, y2_2, y2_3, u⟩ := (d : (List (Int × Int)) × Int × Int × Int × Unit)
      have hp := PkS.un_pack h
      subst hp
      exact (eslices_IndexFunc_impl_Item_impl_versionAt_c1_l2 n y2_0 y2_1 y2_2 y2_3 kk).symm
theorem nlslices_IndexFunc_impl_Item_impl_versionAt_c1_l2 : ∀ n, NatLP (Pslices_IndexFunc_impl_Item_impl_versionAt_c1_l2 n) := leslices_IndexFunc_impl_Item_impl_versionAt_c1_l2.nat (fun n => mkK_nat (cslices_IndexFunc_impl_Item_impl_versionAt_c1 n)) fun n => mkL_nat (mkK_nat (cslices_IndexFunc_impl_Item_impl_versionAt_c1 n)) (l := []) trivial
theorem inslices_IndexFunc_impl_Item_impl_versionAt_c1_l2 (n : Nat) (R : Type) : LoopsOk Try.prog (mkL (mkK [(80, Kimpl_versionAt_c1 n)]) [] R) (loopIn 2 (bodyOf Try.f79)) := .eq (l := []) (by kernel_rfl) trivial
theorem lkslices_IndexFunc_impl_Item_impl_versionAt_c1_l2 (n : Nat) (R : Type) (L0 : LK R) (h0 : ∀ id, firstRegion (loopIn 2 (bodyOf Try.f79)) = some id → L0 id = Dslices_IndexFunc_impl_Item_impl_versionAt_c1_l2.oracle (mkK [(80, Kimpl_versionAt_c1 n)] R) (Pslices_IndexFunc_impl_Item_impl_versionAt_c1_l2 n R)) : LoopOk Try.prog L0 (loopIn 2 (bodyOf Try.f79)) :=
  leslices_IndexFunc_impl_Item_impl_versionAt_c1_l2.ok mixed ttok (fun n => mkK_nat (cslices_IndexFunc_impl_Item_impl_versionAt_c1 n)) (fun n => mkK_ok (cslices_IndexFunc_impl_Item_impl_versionAt_c1 n)) (fun n => inslices_IndexFunc_impl_Item_impl_versionAt_c1_l2 n R) (mkK_nat (cslices_IndexFunc_impl_Item_impl_versionAt_c1 n)) h0
@[reducible] def Sslices_IndexFunc_impl_Item_impl_versionAt_c1 : PkS := ⟨[.one (.ro (.pr (.int .i64) (.int .i64))), .one (.fn 80 [((200000, 0), 0)])], [((200000, 0), .box [.int .i64])]⟩
@[reducible] def Tslices_IndexFunc_impl_Item_impl_versionAt_c1 : PkS := ⟨[.one (.int .i64), .one (.dead), .one (.fn 80 [((300000, 0), 0)])], [((300000, 0), .box [.int .i64])]⟩
def Hslices_IndexFunc_impl_Item_impl_versionAt_c1 : List Sh := [.one .any, .skip, .fn 80 [[.any]]]
def Kslices_IndexFunc_impl_Item_impl_versionAt_c1 (n : Nat) : KPs := fun R p k => match (PkS.un Sslices_IndexFunc_impl_Item_impl_versionAt_c1 p : Option ((List (Int × Int)) × Int × Unit)) with
  | some (x0, x1, _) => slices_IndexFunc_impl_Item_impl_versionAt_c1 n x0 x1 (fun r0 r1 => k (PkS.pack Tslices_IndexFunc_impl_Item_impl_versionAt_c1 (r0, r1, ())))
  | none => none
theorem eslices_IndexFunc_impl_Item_impl_versionAt_c1 {R : Type} (n : Nat) (x0 : List (Int × Int)) (x1 : Int) (k : Pk → Option R) : evF tt sig (mkK [(80, Kimpl_versionAt_c1 n)] R) (mkL (mkK [(80, Kimpl_versionAt_c1 n)]) [(2, Dslices_IndexFunc_impl_Item_impl_versionAt_c1_l2, Pslices_IndexFunc_impl_Item_impl_versionAt_c1_l2 n)] R) Try.f79 Hslices_IndexFunc_impl_Item_impl_versionAt_c1 (PkS.pack Sslices_IndexFunc_impl_Item_impl_versionAt_c1 (x0, x1, ())) k = slices_IndexFunc_impl_Item_impl_versionAt_c1 n x0 x1 (fun r0 r1 => k (PkS.pack Tslices_IndexFunc_impl_Item_impl_versionAt_c1 (r0, r1, ()))) := by kernel_rfl
theorem okslices_IndexFunc_impl_Item_impl_versionAt_c1 (n : Nat) : FnOk Try.prog 79 (Kslices_IndexFunc_impl_Item_impl_versionAt_c1 n) := by
  refine fn_ok (sig := sig) mixed ttok (mkK_nat (cslices_IndexFunc_impl_Item_impl_versionAt_c1 n)) (mkK_ok (cslices_IndexFunc_impl_Item_impl_versionAt_c1 n)) (mkL_nat (mkK_nat (cslices_IndexFunc_impl_Item_impl_versionAt_c1 n)) (l := [(2, Dslices_IndexFunc_impl_Item_impl_versionAt_c1_l2, Pslices_IndexFunc_impl_Item_impl_versionAt_c1_l2 n)]) ⟨nlslices_IndexFunc_impl_Item_impl_versionAt_c1_l2 n, trivial⟩) (fn := Try.f79) (c := bodyOf Try.f79) (by kernel_rfl) (by kernel_rfl) (by kernel_rfl) (.eq (l := [loopIn 2 (bodyOf Try.f79)]) (by kernel_rfl) ⟨(lkslices_IndexFunc_impl_Item_impl_versionAt_c1_l2 n _ _ (at_id (i := 2) (by kernel_rfl) rfl)), trivial⟩) (shs := Hslices_IndexFunc_impl_Item_impl_versionAt_c1) (S := Sslices_IndexFunc_impl_Item_impl_versionAt_c1) fun R p k => ?_
  unfold Kslices_IndexFunc_impl_Item_impl_versionAt_c1
  cases h : (PkS.un Sslices_IndexFunc_impl_Item_impl_versionAt_c1 p) with
  | none => rfl
  | some d =>
    obtain ⟨x0, x1, u⟩ := (d : (List (Int × Int)) × Int × Unit)
    have hp := PkS.un_pack h
    subst hp
    exact (eslices_IndexFunc_impl_Item_impl_versionAt_c1 n x0 x1 k).symm

/-! ### loop.example/g00269/impl.versionAt -/
theorem cimpl_versionAt (n : Nat) : AllOk Try.prog [(79, Kslices_IndexFunc_impl_Item_impl_versionAt_c1 n)] := ⟨okslices_IndexFunc_impl_Item_impl_versionAt_c1 n, trivial⟩
@[reducible] def Simpl_versionAt : PkS := ⟨[.one (.ro (.pr (.int .i64) (.int .i64))), .one (.int .i64)], []⟩
@[reducible] def Timpl_versionAt : PkS := ⟨[.one (.int .i64), .one (.dead), .one (.dead)], []⟩
def Himpl_versionAt : List Sh := [.one .any, .skip, .skip]
def Kimpl_versionAt (n : Nat) : KPs := fun R p k => match (PkS.un Simpl_versionAt p : Option ((List (Int × Int)) × Int × Unit)) with
  | some (x0, x1, _) => impl_versionAt n x0 x1 (fun r0 => k (PkS.pack Timpl_versionAt (r0, ())))
  | none => none
theorem eimpl_versionAt {R : Type} (n : Nat) (x0 : List (Int × Int)) (x1 : Int) (k : Pk → Option R) : evF tt sig (mkK [(79, Kslices_IndexFunc_impl_Item_impl_versionAt_c1 n)] R) (mkL (mkK [(79, Kslices_IndexFunc_impl_Item_impl_versionAt_c1 n)]) [] R) Try.f75 Himpl_versionAt (PkS.pack Simpl_versionAt (x0, x1, ())) k = impl_versionAt n x0 x1 (fun r0 => k (PkS.pack Timpl_versionAt (r0, ()))) := by kernel_rfl
theorem okimpl_versionAt (n : Nat) : FnOk Try.prog 75 (Kimpl_versionAt n) := by
  refine fn_ok (sig := sig) mixed ttok (mkK_nat (cimpl_versionAt n)) (mkK_ok (cimpl_versionAt n)) (mkL_nat (mkK_nat (cimpl_versionAt n)) (l := []) trivial) (fn := Try.f75) (c := bodyOf Try.f75) (by kernel_rfl) (by kernel_rfl) (by kernel_rfl) (.eq (l := []) (by kernel_rfl) trivial) (shs := Himpl_versionAt) (S := Simpl_versionAt) fun R p k => ?_
  unfold Kimpl_versionAt
  cases h : (PkS.un Simpl_versionAt p) with
  | none => rfl
  | some d =>
    obtain ⟨x0, x1, u⟩ := (d : (List (Int × Int)) × Int × Unit)
    have hp := PkS.un_pack h
    subst hp
    exact (eimpl_versionAt n x0 x1 k).symm

/-! ### loop.example/g00269/impl.VersionAt -/
theorem cimpl_VersionAt (n : Nat) : AllOk Try.prog [(69, Kimpl_GoodItems n), (70, Kimpl_last n), (54, Kimpl_in n), (75, Kimpl_versionAt n)] := ⟨okimpl_GoodItems n, ⟨okimpl_last n, ⟨okimpl_in n, ⟨okimpl_versionAt n, trivial⟩⟩⟩⟩
@[reducible] def Simpl_VersionAt : PkS := ⟨[.one (.ro (.pr (.int .i64) (.int .i64))), .one (.int .i64)], []⟩
@[reducible] def Timpl_VersionAt : PkS := ⟨[.tup [(false, [.int .i64]), (false, [.bool])], .one (.dead), .one (.dead)], []⟩
def Himpl_VersionAt : List Sh := [.tup [(false, [.any]), (false, [.any])], .skip, .skip]
def Kimpl_VersionAt (n : Nat) : KPs := fun R p k => match (PkS.un Simpl_VersionAt p : Option ((List (Int × Int)) × Int × Unit)) with
  | some (x0, x1, _) => impl_VersionAt n x0 x1 (fun r0 r1 => k (PkS.pack Timpl_VersionAt (r0, r1, ())))
  | none => none
theorem eimpl_VersionAt {R : Type} (n : Nat) (x0 : List (Int × Int)) (x1 : Int) (k : Pk → Option R) : evF tt sig (mkK [(69, Kimpl_GoodItems n), (70, Kimpl_last n), (54, Kimpl_in n), (75, Kimpl_versionAt n)] R) (mkL (mkK [(69, Kimpl_GoodItems n), (70, Kimpl_last n), (54, Kimpl_in n), (75, Kimpl_versionAt n)]) [] R) Try.f52 Himpl_VersionAt (PkS.pack Simpl_VersionAt (x0, x1, ())) k = impl_VersionAt n x0 x1 (fun r0 r1 => k (PkS.pack Timpl_VersionAt (r0, r1, ()))) := by kernel_rfl
theorem okimpl_VersionAt (n : Nat) : FnOk Try.prog 52 (Kimpl_VersionAt n) := by
  refine fn_ok (sig := sig) mixed ttok (mkK_nat (cimpl_VersionAt n)) (mkK_ok (cimpl_VersionAt n)) (mkL_nat (mkK_nat (cimpl_VersionAt n)) (l := []) trivial) (fn := Try.f52) (c := bodyOf Try.f52) (by kernel_rfl) (by kernel_rfl) (by kernel_rfl) (.eq (l := []) (by kernel_rfl) trivial) (shs := Himpl_VersionAt) (S := Simpl_VersionAt) fun R p k => ?_
  unfold Kimpl_VersionAt
  cases h : (PkS.un Simpl_VersionAt p) with
  | none => rfl
  | some d =>
    obtain ⟨x0, x1, u⟩ := (d : (List (Int × Int)) × Int × Unit)
    have hp := PkS.un_pack h
    subst hp
    exact (eimpl_VersionAt n x0 x1 k).symm

/-! ### loop.example/g00269/laws.eqItem -/
theorem claws_eqItem (n : Nat) : AllOk Try.prog [] := trivial
@[reducible] def Slaws_eqItem : PkS := ⟨[.agg [.int .i64, .int .i64], .agg [.int .i64, .int .i64]], []⟩
@[reducible] def Tlaws_eqItem : PkS := ⟨[.one (.bool), .one (.dead), .one (.dead)], []⟩
def Hlaws_eqItem : List Sh := [.one .any, .skip, .skip]
def Klaws_eqItem (n : Nat) : KPs := fun R p k => match (PkS.un Slaws_eqItem p : Option (Int × Int × Int × Int × Unit)) with
  | some (x0, x1, x2, x3, _) => laws_eqItem n x0 x1 x2 x3 (fun r0 => k (PkS.pack Tlaws_eqItem (r0, ())))
  | none => none
theorem elaws_eqItem {R : Type} (n : Nat) (x0 : Int) (x1 : Int) (x2 : Int) (x3 : Int) (k : Pk → Option R) : evF tt sig (mkK [] R) (mkL (mkK []) [] R) Try.f72 Hlaws_eqItem (PkS.pack Slaws_eqItem (x0, x1, x2, x3, ())) k = laws_eqItem n x0 x1 x2 x3 (fun r0 => k (PkS.pack Tlaws_eqItem (r0, ()))) := by kernel_rfl
theorem oklaws_eqItem (n : Nat) : FnOk Try.prog 72 (Klaws_eqItem n) := by
  refine fn_ok (sig := sig) mixed ttok (mkK_nat (claws_eqItem n)) (mkK_ok (claws_eqItem n)) (mkL_nat (mkK_nat (claws_eqItem n)) (l := []) trivial) (fn := Try.f72) (c := bodyOf Try.f72) (by kernel_rfl) (by kernel_rfl) (by kernel_rfl) (.eq (l := []) (by kernel_rfl) trivial) (shs := Hlaws_eqItem) (S := Slaws_eqItem) fun R p k => ?_
  unfold Klaws_eqItem
  cases h : (PkS.un Slaws_eqItem p) with
  | none => rfl
  | some d =>
    obtain ⟨x0, x1, x2, x3, u⟩ := (d : Int × Int × Int × Int × Unit)
    have hp := PkS.un_pack h
    subst hp
    exact (elaws_eqItem n x0 x1 x2 x3 k).symm

/-! ### loop.example/g00269/laws.eqItemS -/
theorem claws_eqItemS (n : Nat) : AllOk Try.prog [(72, Klaws_eqItem n)] := ⟨oklaws_eqItem n, trivial⟩
@[reducible] def Slaws_eqItemS_l4 : PkS := ⟨[.one (.ro (.pr (.int .i64) (.int .i64))), .one (.ro (.pr (.int .i64) (.int .i64))), .one (.int .i64), .one (.dead), .one (.dead)], []⟩
@[reducible] def Tlaws_eqItemS_l4_0 : PkS := ⟨[.one (.bool), .one (.dead), .one (.dead)], []⟩
@[reducible] def Tlaws_eqItemS_l4_1 : PkS := ⟨[.one (.dead), .one (.dead)], []⟩
def Dlaws_eqItemS_l4 : LoopD := ⟨27, [0, 1, 5], [.one (.ro (.pr (.int .i64) (.int .i64))), .one (.ro (.pr (.int .i64) (.int .i64))), .one .any, .skip, .skip], fun x => match x with
  | .ret => some ([4], [.one .any, .skip, .skip])
  | .exit 0 => some ([], [.skip, .skip])
  | _ => none⟩
def Plaws_eqItemS_l4 (n : Nat) : LPs := fun R q kk => match (PkS.un Slaws_eqItemS_l4 q : Option ((List (Int × Int)) × (List (Int × Int)) × Int × Unit)) with
  | some (y4_0, y4_1, y4_2, _) => laws_eqItemS_l4 n y4_0 y4_1 y4_2 (fun r0 => kk .ret (PkS.pack Tlaws_eqItemS_l4_0 (r0, ()))) (kk (.exit 0) (PkS.pack Tlaws_eqItemS_l4_1 ()))
  | none => none
theorem elaws_eqItemS_l4 {R : Type} (n : Nat) (y4_0 : List (Int × Int)) (y4_1 : List (Int × Int)) (y4_2 : Int) (kk : Ex → Pk → Option R) : Dlaws_eqItemS_l4.step tt sig (mkK [(72, Klaws_eqItem n)] R) (mkL (mkK [(72, Klaws_eqItem n)]) [] R) (loopIn 4 (bodyOf Try.f48)) (fun q' => Plaws_eqItemS_l4 n R q' kk) (PkS.pack Slaws_eqItemS_l4 (y4_0, y4_1, y4_2, ())) kk = laws_eqItemS_l4 (n + 1) y4_0 y4_1 y4_2 (fun r0 => kk .ret (PkS.pack Tlaws_eqItemS_l4_0 (r0, ()))) (kk (.exit 0) (PkS.pack Tlaws_eqItemS_l4_1 ())) := by kernel_rfl
theorem lelaws_eqItemS_l4 : LoopEq tt sig (fun n => mkK [(72, Klaws_eqItem n)]) (fun n => mkL (mkK [(72, Klaws_eqItem n)]) []) Dlaws_eqItemS_l4 Slaws_eqItemS_l4 (loopIn 4 (bodyOf Try.f48)) Plaws_eqItemS_l4 where
  zero R q kk := by unfold Plaws_eqItemS_l4; cases (PkS.un Slaws_eqItemS_l4 q) <;> rfl
  succ n R q kk := by
    unfold Plaws_eqItemS_l4
    cases h : (PkS.un Slaws_eqItemS_l4 q) with
    | none => rfl
    | some d =>
      obtain ⟨y4_0, y4_1, y4_2, u⟩ := (d : (List (Int × Int)) × (List (Int × Int)) × Int × Unit)
      have hp := PkS.un_pack h
      subst hp
      exact (elaws_eqItemS_l4 n y4_0 y4_1 y4_2 kk).symm
theorem nllaws_eqItemS_l4 : ∀ n, NatLP (Plaws_eqItemS_l4 n) := lelaws_eqItemS_l4.nat (fun n => mkK_nat (claws_eqItemS n)) fun n => mkL_nat (mkK_nat (claws_eqItemS n)) (l := []) trivial
theorem inlaws_eqItemS_l4 (n : Nat) (R : Type) : LoopsOk Try.prog (mkL (mkK [(72, Klaws_eqItem n)]) [] R) (loopIn 4 (bodyOf Try.f48)) := .eq (l := []) (by kernel_rfl) trivial
theorem lklaws_eqItemS_l4 (n : Nat) (R : Type) (L0 : LK R) (h0 : ∀ id, firstRegion (loopIn 4 (bodyOf Try.f48)) = some id → L0 id = Dlaws_eqItemS_l4.oracle (mkK [(72, Klaws_eqItem n)] R) (Plaws_eqItemS_l4 n R)) : LoopOk Try.prog L0 (loopIn 4 (bodyOf Try.f48)) :=
  lelaws_eqItemS_l4.ok mixed ttok (fun n => mkK_nat (claws_eqItemS n)) (fun n => mkK_ok (claws_eqItemS n)) (fun n => inlaws_eqItemS_l4 n R) (mkK_nat (claws_eqItemS n)) h0
@[reducible] def Slaws_eqItemS : PkS := ⟨[.one (.ro (.pr (.int .i64) (.int .i64))), .one (.ro (.pr (.int .i64) (.int .i64)))], []⟩
@[reducible] def Tlaws_eqItemS : PkS := ⟨[.one (.bool), .one (.dead), .one (.dead)], []⟩
def Hlaws_eqItemS : List Sh := [.one .any, .skip, .skip]
def Klaws_eqItemS (n : Nat) : KPs := fun R p k => match (PkS.un Slaws_eqItemS p : Option ((List (Int × Int)) × (List (Int × Int)) × Unit)) with
  | some (x0, x1, _) => laws_eqItemS n x0 x1 (fun r0 => k (PkS.pack Tlaws_eqItemS (r0, ())))
  | none => none
theorem elaws_eqItemS {R : Type} (n : Nat) (x0 : List (Int × Int)) (x1 : List (Int × Int)) (k : Pk → Option R) : evF tt sig (mkK [(72, Klaws_eqItem n)] R) (mkL (mkK [(72, Klaws_eqItem n)]) [(4, Dlaws_eqItemS_l4, Plaws_eqItemS_l4 n)] R) Try.f48 Hlaws_eqItemS (PkS.pack Slaws_eqItemS (x0, x1, ())) k = laws_eqItemS n x0 x1 (fun r0 => k (PkS.pack Tlaws_eqItemS (r0, ()))) := by kernel_rfl
theorem oklaws_eqItemS (n : Nat) : FnOk Try.prog 48 (Klaws_eqItemS n) := by
  refine fn_ok (sig := sig) mixed ttok (mkK_nat (claws_eqItemS n)) (mkK_ok (claws_eqItemS n)) (mkL_nat (mkK_nat (claws_eqItemS n)) (l := [(4, Dlaws_eqItemS_l4, Plaws_eqItemS_l4 n)]) ⟨nllaws_eqItemS_l4 n, trivial⟩) (fn := Try.f48) (c := bodyOf Try.f48) (by kernel_rfl) (by kernel_rfl) (by kernel_rfl) (.eq (l := [loopIn 4 (bodyOf Try.f48)]) (by kernel_rfl) ⟨(lklaws_eqItemS_l4 n _ _ (at_id (i := 4) (by kernel_rfl) rfl)), trivial⟩) (shs := Hlaws_eqItemS) (S := Slaws_eqItemS) fun R p k => ?_
  unfold Klaws_eqItemS
  cases h : (PkS.un Slaws_eqItemS p) with
  | none => rfl
  | some d =>
    obtain ⟨x0, x1, u⟩ := (d : (List (Int × Int)) × (List (Int × Int)) × Unit)
    have hp := PkS.un_pack h
    subst hp
    exact (elaws_eqItemS n x0 x1 k).symm

/-! ### loop.example/g00269/laws.FnExactVersionAt -/
theorem claws_FnExactVersionAt (n : Nat) : AllOk Try.prog [(44, Klaws_szItemS n), (46, Klaws_toItemS n), (51, Kspec_VersionAt n), (52, Kimpl_VersionAt n), (48, Klaws_eqItemS n)] := ⟨oklaws_szItemS n, ⟨oklaws_toItemS n, ⟨okspec_VersionAt n, ⟨okimpl_VersionAt n, ⟨oklaws_eqItemS n, trivial⟩⟩⟩⟩⟩
@[reducible] def Slaws_FnExactVersionAt : PkS := ⟨[.one (.ro (.pr (.int .i64) (.int .i64))), .one (.int .i64)], []⟩
@[reducible] def Tlaws_FnExactVersionAt : PkS := ⟨[.one (.bool), .one (.dead), .one (.dead)], []⟩
def Hlaws_FnExactVersionAt : List Sh := [.one .any, .skip, .skip]
def Klaws_FnExactVersionAt (n : Nat) : KPs := fun R p k => match (PkS.un Slaws_FnExactVersionAt p : Option ((List (Int × Int)) × Int × Unit)) with
  | some (x0, x1, _) => laws_FnExactVersionAt n x0 x1 (fun r0 => k (PkS.pack Tlaws_FnExactVersionAt (r0, ())))
  | none => none
theorem elaws_FnExactVersionAt {R : Type} (n : Nat) (x0 : List (Int × Int)) (x1 : Int) (k : Pk → Option R) : evF tt sig (mkK [(44, Klaws_szItemS n), (46, Klaws_toItemS n), (51, Kspec_VersionAt n), (52, Kimpl_VersionAt n), (48, Klaws_eqItemS n)] R) (mkL (mkK [(44, Klaws_szItemS n), (46, Klaws_toItemS n), (51, Kspec_VersionAt n), (52, Kimpl_VersionAt n), (48, Klaws_eqItemS n)]) [] R) Try.f14 Hlaws_FnExactVersionAt (PkS.pack Slaws_FnExactVersionAt (x0, x1, ())) k = laws_FnExactVersionAt n x0 x1 (fun r0 => k (PkS.pack Tlaws_FnExactVersionAt (r0, ()))) := by kernel_rfl
theorem oklaws_FnExactVersionAt (n : Nat) : FnOk Try.prog 14 (Klaws_FnExactVersionAt n) := by
  refine fn_ok (sig := sig) mixed ttok (mkK_nat (claws_FnExactVersionAt n)) (mkK_ok (claws_FnExactVersionAt n)) (mkL_nat (mkK_nat (claws_FnExactVersionAt n)) (l := []) trivial) (fn := Try.f14) (c := bodyOf Try.f14) (by kernel_rfl) (by kernel_rfl) (by kernel_rfl) (.eq (l := []) (by kernel_rfl) trivial) (shs := Hlaws_FnExactVersionAt) (S := Slaws_FnExactVersionAt) fun R p k => ?_
  unfold Klaws_FnExactVersionAt
  cases h : (PkS.un Slaws_FnExactVersionAt p) with
  | none => rfl
  | some d =>
    obtain ⟨x0, x1, u⟩ := (d : (List (Int × Int)) × Int × Unit)
    have hp := PkS.un_pack h
    subst hp
    exact (elaws_FnExactVersionAt n x0 x1 k).symm
end Go.Am.G
