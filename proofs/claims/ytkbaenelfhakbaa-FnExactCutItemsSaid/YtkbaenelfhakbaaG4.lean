/- The code of the functions that the law reaches does what the plain functions say. -/
import Derived.Test.YtkbaenelfhakbaaF4
import Derived.Test.YtkbaenelfhakbaaAmB
import Derived.KernelRfl
import Derived.Test.YtkbaenelfhakbaaProg
set_option linter.unusedVariables false
set_option maxRecDepth 100000
namespace Go.Am.G
open Go Go.Am
open Go.Proofs
def tt : TT := [(3, ⟨1, false, (.int .i64), 0, [], [.int .i64 0], 8, true, false, []⟩), (4, ⟨1, false, .bool, 0, [], [.bool false], 1, true, false, []⟩), (22, ⟨1, false, (.sl (.pr (.int .i64) (.int .i64))), 50, [], [.nil], 24, true, true, []⟩), (26, ⟨1, false, (.sl (.pr (.int .i64) (.int .i64))), 35, [], [.nil], 24, true, true, []⟩), (35, ⟨2, true, (.pr (.int .i64) (.int .i64)), 0, [(0, 1, false), (1, 1, false)], [.int .i64 0, .int .i64 0], 16, true, false, [(.int .i64), (.int .i64)]⟩), (50, ⟨2, true, (.pr (.int .i64) (.int .i64)), 0, [(0, 1, false), (1, 1, false)], [.int .i64 0, .int .i64 0], 16, true, false, [(.int .i64), (.int .i64)]⟩)]
def sig : Sig := sigOf [(4, [.one (.ro (.pr (.int .i64) (.int .i64))), .one .any]), (7, [.one (.ro (.pr (.int .i64) (.int .i64))), .one .any]), (9, [.one (.ro (.pr (.int .i64) (.int .i64)))]), (11, [.one (.ro (.pr (.int .i64) (.int .i64))), .one (.ro (.pr (.int .i64) (.int .i64)))]), (12, [.one (.ro (.pr (.int .i64) (.int .i64))), .one .any]), (13, [.one (.ro (.pr (.int .i64) (.int .i64))), .one .any]), (14, [.one (.own (.pr (.int .i64) (.int .i64))), .one .any]), (15, [.one (.ro (.pr (.int .i64) (.int .i64))), .one .any]), (18, [.agg [.any, .any], .agg [.any, .any]]), (22, [.one (.ro (.pr (.int .i64) (.int .i64)))]), (23, [.one (.ro (.pr (.int .i64) (.int .i64)))]), (27, [.one (.ro (.pr (.int .i64) (.int .i64)))]), (28, [.agg [.any, .any]]), (30, [.one (.ro (.pr (.int .i64) (.int .i64)))]), (31, [.one .any, .one .any, .one .any]), (32, [.one (.ro (.pr (.int .i64) (.int .i64))), .one .any]), (33, [.one .any, .one .any, .one .any]), (38, [.one .any])]
theorem ttok : TTok Try.prog tt := .of_chk (by kernel_rfl)
theorem mixed : Try.prog.follows .mixedOrders = true := by kernel_rfl

/-! ### loop.example/g00269/laws.szItemS -/
theorem claws_szItemS (n : Nat) : AllOk Try.prog [] := trivial
@[reducible] def Slaws_szItemS : PkS := ⟨[.one (.ro (.pr (.int .i64) (.int .i64))), .one (.int .i64)], []⟩
@[reducible] def Tlaws_szItemS : PkS := ⟨[.one (.int .i64), .one (.dead), .one (.dead)], []⟩
def Hlaws_szItemS : List Sh := [.one .any, .skip, .skip]
def Klaws_szItemS (n : Nat) : KPs := fun R p k => match (PkS.un Slaws_szItemS p : Option ((List (Int × Int)) × Int × Unit)) with
  | some (x0, x1, _) => laws_szItemS n x0 x1 (fun r0 => k (PkS.pack Tlaws_szItemS (r0, ())))
  | none => none
theorem elaws_szItemS {R : Type} (n : Nat) (x0 : List (Int × Int)) (x1 : Int) (k : Pk → Option R) : evF tt sig (mkK [] R) (mkL (mkK []) [] R) Try.f7 Hlaws_szItemS (PkS.pack Slaws_szItemS (x0, x1, ())) k = laws_szItemS n x0 x1 (fun r0 => k (PkS.pack Tlaws_szItemS (r0, ()))) := by kernel_rfl
theorem oklaws_szItemS (n : Nat) : FnOk Try.prog 7 (Klaws_szItemS n) := by
  refine fn_ok (sig := sig) mixed ttok (mkK_nat (claws_szItemS n)) (mkK_ok (claws_szItemS n)) (mkL_nat (mkK_nat (claws_szItemS n)) (l := []) trivial) (fn := Try.f7) (c := bodyOf Try.f7) (by kernel_rfl) (by kernel_rfl) (by kernel_rfl) (.eq (l := []) (by kernel_rfl) trivial) (shs := Hlaws_szItemS) (S := Slaws_szItemS) fun R p k => ?_
  unfold Klaws_szItemS
  cases h : (PkS.un Slaws_szItemS p) with
  | none => rfl
  | some d =>
    obtain ⟨x0, x1, u⟩ := (d : (List (Int × Int)) × Int × Unit)
    have hp := PkS.un_pack h
    subst hp
    exact (elaws_szItemS n x0 x1 k).symm

/-! ### loop.example/g00269/laws.toItem -/
theorem claws_toItem (n : Nat) : AllOk Try.prog [] := trivial
@[reducible] def Slaws_toItem : PkS := ⟨[.agg [.int .i64, .int .i64]], []⟩
@[reducible] def Tlaws_toItem : PkS := ⟨[.agg [.int .i64, .int .i64], .one (.dead)], []⟩
def Hlaws_toItem : List Sh := [.agg [.any, .any], .skip]
def Klaws_toItem (n : Nat) : KPs := fun R p k => match (PkS.un Slaws_toItem p : Option (Int × Int × Unit)) with
  | some (x0, x1, _) => laws_toItem n x0 x1 (fun r0 r1 => k (PkS.pack Tlaws_toItem (r0, r1, ())))
  | none => none
theorem elaws_toItem {R : Type} (n : Nat) (x0 : Int) (x1 : Int) (k : Pk → Option R) : evF tt sig (mkK [] R) (mkL (mkK []) [] R) Try.f28 Hlaws_toItem (PkS.pack Slaws_toItem (x0, x1, ())) k = laws_toItem n x0 x1 (fun r0 r1 => k (PkS.pack Tlaws_toItem (r0, r1, ()))) := by kernel_rfl
theorem oklaws_toItem (n : Nat) : FnOk Try.prog 28 (Klaws_toItem n) := by
  refine fn_ok (sig := sig) mixed ttok (mkK_nat (claws_toItem n)) (mkK_ok (claws_toItem n)) (mkL_nat (mkK_nat (claws_toItem n)) (l := []) trivial) (fn := Try.f28) (c := bodyOf Try.f28) (by kernel_rfl) (by kernel_rfl) (by kernel_rfl) (.eq (l := []) (by kernel_rfl) trivial) (shs := Hlaws_toItem) (S := Slaws_toItem) fun R p k => ?_
  unfold Klaws_toItem
  cases h : (PkS.un Slaws_toItem p) with
  | none => rfl
  | some d =>
    obtain ⟨x0, x1, u⟩ := (d : Int × Int × Unit)
    have hp := PkS.un_pack h
    subst hp
    exact (elaws_toItem n x0 x1 k).symm

/-! ### loop.example/g00269/laws.toItemS -/
theorem claws_toItemS (n : Nat) : AllOk Try.prog [(28, Klaws_toItem n)] := ⟨oklaws_toItem n, trivial⟩
@[reducible] def Slaws_toItemS_l3 : PkS := ⟨[.one (.ro (.pr (.int .i64) (.int .i64))), .one (.whole (100000, 0)), .one (.int .i64), .one (.dead)], [((100000, 0), .arr (.pr (.int .i64) (.int .i64)))]⟩
@[reducible] def Tlaws_toItemS_l3_0 : PkS := ⟨[.one (.whole (100000, 0)), .one (.dead)], [((100000, 0), .arr (.pr (.int .i64) (.int .i64)))]⟩
def Dlaws_toItemS_l3 : LoopD := ⟨23, [0, 3, 4], [.one (.ro (.pr (.int .i64) (.int .i64))), .one (.own (.pr (.int .i64) (.int .i64))), .one .any, .skip], fun x => match x with
  | .exit 0 => some ([3], [.one (.own (.pr (.int .i64) (.int .i64))), .skip])
  | _ => none⟩
def Plaws_toItemS_l3 (n : Nat) : LPs := fun R q kk => match (PkS.un Slaws_toItemS_l3 q : Option ((List (Int × Int)) × Int × (List (Int × Int)) × Unit)) with
  | some (y3_0, y3_1, y3_2, _) => laws_toItemS_l3 n y3_0 y3_1 y3_2 (fun r0 => kk (.exit 0) (PkS.pack Tlaws_toItemS_l3_0 (r0, ())))
  | none => none
theorem elaws_toItemS_l3 {R : Type} (n : Nat) (y3_0 : List (Int × Int)) (y3_1 : Int) (y3_2 : List (Int × Int)) (kk : Ex → Pk → Option R) : Dlaws_toItemS_l3.step tt sig (mkK [(28, Klaws_toItem n)] R) (mkL (mkK [(28, Klaws_toItem n)]) [] R) (loopIn 3 (bodyOf Try.f9)) (fun q' => Plaws_toItemS_l3 n R q' kk) (PkS.pack Slaws_toItemS_l3 (y3_0, y3_1, y3_2, ())) kk = laws_toItemS_l3 (n + 1) y3_0 y3_1 y3_2 (fun r0 => kk (.exit 0) (PkS.pack Tlaws_toItemS_l3_0 (r0, ()))) := by kernel_rfl
theorem lelaws_toItemS_l3 : LoopEq tt sig (fun n => mkK [(28, Klaws_toItem n)]) (fun n => mkL (mkK [(28, Klaws_toItem n)]) []) Dlaws_toItemS_l3 Slaws_toItemS_l3 (loopIn 3 (bodyOf Try.f9)) Plaws_toItemS_l3 where
  zero R q kk := by unfold Plaws_toItemS_l3; cases (PkS.un Slaws_toItemS_l3 q) <;> rfl
  succ n R q kk := by
    unfold Plaws_toItemS_l3
    cases h : (PkS.un Slaws_toItemS_l3 q) with
    | none => rfl
    | some d =>
      obtain ⟨y3_0, y3_1, y3_2, u⟩ := (d : (List (Int × Int)) × Int × (List (Int × Int)) × Unit)
      have hp := PkS.un_pack h
      subst hp
      exact (elaws_toItemS_l3 n y3_0 y3_1 y3_2 kk).symm
theorem nllaws_toItemS_l3 : ∀ n, NatLP (Plaws_toItemS_l3 n) := lelaws_toItemS_l3.nat (fun n => mkK_nat (claws_toItemS n)) fun n => mkL_nat (mkK_nat (claws_toItemS n)) (l := []) trivial
theorem inlaws_toItemS_l3 (n : Nat) (R : Type) : LoopsOk Try.prog (mkL (mkK [(28, Klaws_toItem n)]) [] R) (loopIn 3 (bodyOf Try.f9)) := .eq (l := []) (by kernel_rfl) trivial
theorem lklaws_toItemS_l3 (n : Nat) (R : Type) (L0 : LK R) (h0 : ∀ id, firstRegion (loopIn 3 (bodyOf Try.f9)) = some id → L0 id = Dlaws_toItemS_l3.oracle (mkK [(28, Klaws_toItem n)] R) (Plaws_toItemS_l3 n R)) : LoopOk Try.prog L0 (loopIn 3 (bodyOf Try.f9)) :=
  lelaws_toItemS_l3.ok mixed ttok (fun n => mkK_nat (claws_toItemS n)) (fun n => mkK_ok (claws_toItemS n)) (fun n => inlaws_toItemS_l3 n R) (mkK_nat (claws_toItemS n)) h0
@[reducible] def Slaws_toItemS : PkS := ⟨[.one (.ro (.pr (.int .i64) (.int .i64)))], []⟩
@[reducible] def Tlaws_toItemS : PkS := ⟨[.one (.whole (300000, 0)), .one (.dead)], [((300000, 0), .arr (.pr (.int .i64) (.int .i64)))]⟩
def Hlaws_toItemS : List Sh := [.one (.own (.pr (.int .i64) (.int .i64))), .skip]
def Klaws_toItemS (n : Nat) : KPs := fun R p k => match (PkS.un Slaws_toItemS p : Option ((List (Int × Int)) × Unit)) with
  | some (x0, _) => laws_toItemS n x0 (fun r0 => k (PkS.pack Tlaws_toItemS (r0, ())))
  | none => none
theorem elaws_toItemS {R : Type} (n : Nat) (x0 : List (Int × Int)) (k : Pk → Option R) : evF tt sig (mkK [(28, Klaws_toItem n)] R) (mkL (mkK [(28, Klaws_toItem n)]) [(3, Dlaws_toItemS_l3, Plaws_toItemS_l3 n)] R) Try.f9 Hlaws_toItemS (PkS.pack Slaws_toItemS (x0, ())) k = laws_toItemS n x0 (fun r0 => k (PkS.pack Tlaws_toItemS (r0, ()))) := by kernel_rfl
theorem oklaws_toItemS (n : Nat) : FnOk Try.prog 9 (Klaws_toItemS n) := by
  refine fn_ok (sig := sig) mixed ttok (mkK_nat (claws_toItemS n)) (mkK_ok (claws_toItemS n)) (mkL_nat (mkK_nat (claws_toItemS n)) (l := [(3, Dlaws_toItemS_l3, Plaws_toItemS_l3 n)]) ⟨nllaws_toItemS_l3 n, trivial⟩) (fn := Try.f9) (c := bodyOf Try.f9) (by kernel_rfl) (by kernel_rfl) (by kernel_rfl) (.eq (l := [loopIn 3 (bodyOf Try.f9)]) (by kernel_rfl) ⟨(lklaws_toItemS_l3 n _ _ (at_id (i := 3) (by kernel_rfl) rfl)), trivial⟩) (shs := Hlaws_toItemS) (S := Slaws_toItemS) fun R p k => ?_
  unfold Klaws_toItemS
  cases h : (PkS.un Slaws_toItemS p) with
  | none => rfl
  | some d =>
    obtain ⟨x0, u⟩ := (d : (List (Int × Int)) × Unit)
    have hp := PkS.un_pack h
    subst hp
    exact (elaws_toItemS n x0 k).symm

/-! ### loop.example/g00269/spec.l1In -/
theorem cspec_l1In (n : Nat) : AllOk Try.prog [] := trivial
@[reducible] def Sspec_l1In : PkS := ⟨[.one (.int .i64), .one (.int .i64), .one (.int .i64)], []⟩
@[reducible] def Tspec_l1In : PkS := ⟨[.one (.bool), .one (.dead), .one (.dead), .one (.dead)], []⟩
def Hspec_l1In : List Sh := [.one .any, .skip, .skip, .skip]
def Kspec_l1In (n : Nat) : KPs := fun R p k => match (PkS.un Sspec_l1In p : Option (Int × Int × Int × Unit)) with
  | some (x0, x1, x2, _) => spec_l1In n x0 x1 x2 (fun r0 => k (PkS.pack Tspec_l1In (r0, ())))
  | none => none
theorem espec_l1In {R : Type} (n : Nat) (x0 : Int) (x1 : Int) (x2 : Int) (k : Pk → Option R) : evF tt sig (mkK [] R) (mkL (mkK []) [] R) Try.f31 Hspec_l1In (PkS.pack Sspec_l1In (x0, x1, x2, ())) k = spec_l1In n x0 x1 x2 (fun r0 => k (PkS.pack Tspec_l1In (r0, ()))) := by kernel_rfl
theorem okspec_l1In (n : Nat) : FnOk Try.prog 31 (Kspec_l1In n) := by
  refine fn_ok (sig := sig) mixed ttok (mkK_nat (cspec_l1In n)) (mkK_ok (cspec_l1In n)) (mkL_nat (mkK_nat (cspec_l1In n)) (l := []) trivial) (fn := Try.f31) (c := bodyOf Try.f31) (by kernel_rfl) (by kernel_rfl) (by kernel_rfl) (.eq (l := []) (by kernel_rfl) trivial) (shs := Hspec_l1In) (S := Sspec_l1In) fun R p k => ?_
  unfold Kspec_l1In
  cases h : (PkS.un Sspec_l1In p) with
  | none => rfl
  | some d =>
    obtain ⟨x0, x1, x2, u⟩ := (d : Int × Int × Int × Unit)
    have hp := PkS.un_pack h
    subst hp
    exact (espec_l1In n x0 x1 x2 k).symm

/-! ### loop.example/g00269/spec.GoodItems -/
theorem cspec_GoodItems (n : Nat) : AllOk Try.prog [(31, Kspec_l1In n)] := ⟨okspec_l1In n, trivial⟩
@[reducible] def Sspec_GoodItems_l2 : PkS := ⟨[.one (.ro (.pr (.int .i64) (.int .i64))), .one (.ro (.pr (.int .i64) (.int .i64))), .one (.int .i64), .one (.int .i64), .one (.dead)], []⟩
@[reducible] def Tspec_GoodItems_l2_0 : PkS := ⟨[.one (.bool), .one (.dead)], []⟩
@[reducible] def Tspec_GoodItems_l2_1 : PkS := ⟨[.one (.ro (.pr (.int .i64) (.int .i64))), .one (.dead)], []⟩
def Dspec_GoodItems_l2 : LoopD := ⟨52, [0, 5, 6, 7], [.one (.ro (.pr (.int .i64) (.int .i64))), .one (.ro (.pr (.int .i64) (.int .i64))), .one .any, .one .any, .skip], fun x => match x with
  | .ret => some ([2], [.one .any, .skip])
  | .exit 0 => some ([0], [.one (.ro (.pr (.int .i64) (.int .i64))), .skip])
  | _ => none⟩
def Pspec_GoodItems_l2 (n : Nat) : LPs := fun R q kk => match (PkS.un Sspec_GoodItems_l2 q : Option ((List (Int × Int)) × (List (Int × Int)) × Int × Int × Unit)) with
  | some (y2_0, y2_1, y2_2, y2_3, _) => spec_GoodItems_l2 n y2_0 y2_1 y2_2 y2_3 (fun r0 => kk .ret (PkS.pack Tspec_GoodItems_l2_0 (r0, ()))) (fun r0 => kk (.exit 0) (PkS.pack Tspec_GoodItems_l2_1 (r0, ())))
  | none => none
theorem espec_GoodItems_l2 {R : Type} (n : Nat) (y2_0 : List (Int × Int)) (y2_1 : List (Int × Int)) (y2_2 : Int) (y2_3 : Int) (kk : Ex → Pk → Option R) : Dspec_GoodItems_l2.step tt sig (mkK [(31, Kspec_l1In n)] R) (mkL (mkK [(31, Kspec_l1In n)]) [] R) (loopIn 2 (bodyOf Try.f23)) (fun q' => Pspec_GoodItems_l2 n R q' kk) (PkS.pack Sspec_GoodItems_l2 (y2_0, y2_1, y2_2, y2_3, ())) kk = spec_GoodItems_l2 (n + 1) y2_0 y2_1 y2_2 y2_3 (fun r0 => kk .ret (PkS.pack Tspec_GoodItems_l2_0 (r0, ()))) (fun r0 => kk (.exit 0) (PkS.pack Tspec_GoodItems_l2_1 (r0, ()))) := by kernel_rfl
theorem lespec_GoodItems_l2 : LoopEq tt sig (fun n => mkK [(31, Kspec_l1In n)]) (fun n => mkL (mkK [(31, Kspec_l1In n)]) []) Dspec_GoodItems_l2 Sspec_GoodItems_l2 (loopIn 2 (bodyOf Try.f23)) Pspec_GoodItems_l2 where
  zero R q kk := by unfold Pspec_GoodItems_l2; cases (PkS.un Sspec_GoodItems_l2 q) <;> rfl
  succ n R q kk := by
    unfold Pspec_GoodItems_l2
    cases h : (PkS.un Sspec_GoodItems_l2 q) with
    | none => rfl
    | some d =>
      obtain ⟨y2_0, y2_1, y2_2, y2_3, u⟩ := (d : (List (Int × Int)) × (List (Int × Int)) × Int × Int × Unit)
      have hp := PkS.un_pack h
      subst hp
      exact (espec_GoodItems_l2 n y2_0 y2_1 y2_2 y2_3 kk).symm
theorem nlspec_GoodItems_l2 : ∀ n, NatLP (Pspec_GoodItems_l2 n) := lespec_GoodItems_l2.nat (fun n => mkK_nat (cspec_GoodItems n)) fun n => mkL_nat (mkK_nat (cspec_GoodItems n)) (l := []) trivial
theorem inspec_GoodItems_l2 (n : Nat) (R : Type) : LoopsOk Try.prog (mkL (mkK [(31, Kspec_l1In n)]) [] R) (loopIn 2 (bodyOf Try.f23)) := .eq (l := []) (by kernel_rfl) trivial
theorem lkspec_GoodItems_l2 (n : Nat) (R : Type) (L0 : LK R) (h0 : ∀ id, firstRegion (loopIn 2 (bodyOf Try.f23)) = some id → L0 id = Dspec_GoodItems_l2.oracle (mkK [(31, Kspec_l1In n)] R) (Pspec_GoodItems_l2 n R)) : LoopOk Try.prog L0 (loopIn 2 (bodyOf Try.f23)) :=
  lespec_GoodItems_l2.ok mixed ttok (fun n => mkK_nat (cspec_GoodItems n)) (fun n => mkK_ok (cspec_GoodItems n)) (fun n => inspec_GoodItems_l2 n R) (mkK_nat (cspec_GoodItems n)) h0
@[reducible] def Sspec_GoodItems : PkS := ⟨[.one (.ro (.pr (.int .i64) (.int .i64)))], []⟩
@[reducible] def Tspec_GoodItems : PkS := ⟨[.one (.bool), .one (.dead)], []⟩
def Hspec_GoodItems : List Sh := [.one .any, .skip]
def Kspec_GoodItems (n : Nat) : KPs := fun R p k => match (PkS.un Sspec_GoodItems p : Option ((List (Int × Int)) × Unit)) with
  | some (x0, _) => spec_GoodItems n x0 (fun r0 => k (PkS.pack Tspec_GoodItems (r0, ())))
  | none => none
theorem espec_GoodItems {R : Type} (n : Nat) (x0 : List (Int × Int)) (k : Pk → Option R) : evF tt sig (mkK [(31, Kspec_l1In n)] R) (mkL (mkK [(31, Kspec_l1In n)]) [(2, Dspec_GoodItems_l2, Pspec_GoodItems_l2 n)] R) Try.f23 Hspec_GoodItems (PkS.pack Sspec_GoodItems (x0, ())) k = spec_GoodItems n x0 (fun r0 => k (PkS.pack Tspec_GoodItems (r0, ()))) := by kernel_rfl
theorem okspec_GoodItems (n : Nat) : FnOk Try.prog 23 (Kspec_GoodItems n) := by
  refine fn_ok (sig := sig) mixed ttok (mkK_nat (cspec_GoodItems n)) (mkK_ok (cspec_GoodItems n)) (mkL_nat (mkK_nat (cspec_GoodItems n)) (l := [(2, Dspec_GoodItems_l2, Pspec_GoodItems_l2 n)]) ⟨nlspec_GoodItems_l2 n, trivial⟩) (fn := Try.f23) (c := bodyOf Try.f23) (by kernel_rfl) (by kernel_rfl) (by kernel_rfl) (.eq (l := [loopIn 2 (bodyOf Try.f23)]) (by kernel_rfl) ⟨(lkspec_GoodItems_l2 n _ _ (at_id (i := 2) (by kernel_rfl) rfl)), trivial⟩) (shs := Hspec_GoodItems) (S := Sspec_GoodItems) fun R p k => ?_
  unfold Kspec_GoodItems
  cases h : (PkS.un Sspec_GoodItems p) with
  | none => rfl
  | some d =>
    obtain ⟨x0, u⟩ := (d : (List (Int × Int)) × Unit)
    have hp := PkS.un_pack h
    subst hp
    exact (espec_GoodItems n x0 k).symm

/-! ### loop.example/g00269/spec.l11Last -/
theorem cspec_l11Last (n : Nat) : AllOk Try.prog [] := trivial
@[reducible] def Sspec_l11Last : PkS := ⟨[.one (.ro (.pr (.int .i64) (.int .i64)))], []⟩
@[reducible] def Tspec_l11Last : PkS := ⟨[.one (.int .i64), .one (.dead)], []⟩
def Hspec_l11Last : List Sh := [.one .any, .skip]
def Kspec_l11Last (n : Nat) : KPs := fun R p k => match (PkS.un Sspec_l11Last p : Option ((List (Int × Int)) × Unit)) with
  | some (x0, _) => spec_l11Last n x0 (fun r0 => k (PkS.pack Tspec_l11Last (r0, ())))
  | none => none
theorem espec_l11Last {R : Type} (n : Nat) (x0 : List (Int × Int)) (k : Pk → Option R) : evF tt sig (mkK [] R) (mkL (mkK []) [] R) Try.f27 Hspec_l11Last (PkS.pack Sspec_l11Last (x0, ())) k = spec_l11Last n x0 (fun r0 => k (PkS.pack Tspec_l11Last (r0, ()))) := by kernel_rfl
theorem okspec_l11Last (n : Nat) : FnOk Try.prog 27 (Kspec_l11Last n) := by
  refine fn_ok (sig := sig) mixed ttok (mkK_nat (cspec_l11Last n)) (mkK_ok (cspec_l11Last n)) (mkL_nat (mkK_nat (cspec_l11Last n)) (l := []) trivial) (fn := Try.f27) (c := bodyOf Try.f27) (by kernel_rfl) (by kernel_rfl) (by kernel_rfl) (.eq (l := []) (by kernel_rfl) trivial) (shs := Hspec_l11Last) (S := Sspec_l11Last) fun R p k => ?_
  unfold Kspec_l11Last
  cases h : (PkS.un Sspec_l11Last p) with
  | none => rfl
  | some d =>
    obtain ⟨x0, u⟩ := (d : (List (Int × Int)) × Unit)
    have hp := PkS.un_pack h
    subst hp
    exact (espec_l11Last n x0 k).symm

/-! ### loop.example/g00269/spec.l11Cut -/
theorem cspec_l11Cut (n : Nat) : AllOk Try.prog [(27, Kspec_l11Last n)] := ⟨okspec_l11Last n, trivial⟩
@[reducible] def Sspec_l11Cut_l3 : PkS := ⟨[.one (.int .i64), .one (.whole (100000, 0)), .one (.ro (.pr (.int .i64) (.int .i64))), .one (.int .i64), .one (.int .i64), .one (.dead), .one (.dead)], [((100000, 0), .arr (.pr (.int .i64) (.int .i64)))]⟩
@[reducible] def Tspec_l11Cut_l3_0 : PkS := ⟨[.one (.ro (.pr (.int .i64) (.int .i64))), .one (.dead), .one (.dead)], []⟩
def Dspec_l11Cut_l3 : LoopD := ⟨30, [1, 5, 8, 9, 10], [.one .any, .one (.own (.pr (.int .i64) (.int .i64))), .one (.ro (.pr (.int .i64) (.int .i64))), .one .any, .one .any, .skip, .skip], fun x => match x with
  | .exit 0 => some ([5], [.one (.ro (.pr (.int .i64) (.int .i64))), .skip, .skip])
  | _ => none⟩
def Pspec_l11Cut_l3 (n : Nat) : LPs := fun R q kk => match (PkS.un Sspec_l11Cut_l3 q : Option (Int × (List (Int × Int)) × Int × Int × (List (Int × Int)) × Unit)) with
  | some (y3_0, y3_1, y3_2, y3_3, y3_4, _) => spec_l11Cut_l3 n y3_0 y3_1 y3_2 y3_3 y3_4 (fun r0 => kk (.exit 0) (PkS.pack Tspec_l11Cut_l3_0 (r0, ())))
  | none => none
theorem espec_l11Cut_l3 {R : Type} (n : Nat) (y3_0 : Int) (y3_1 : List (Int × Int)) (y3_2 : Int) (y3_3 : Int) (y3_4 : List (Int × Int)) (kk : Ex → Pk → Option R) : Dspec_l11Cut_l3.step tt sig (mkK [(27, Kspec_l11Last n)] R) (mkL (mkK [(27, Kspec_l11Last n)]) [] R) (loopIn 3 (bodyOf Try.f32)) (fun q' => Pspec_l11Cut_l3 n R q' kk) (PkS.pack Sspec_l11Cut_l3 (y3_0, y3_1, y3_2, y3_3, y3_4, ())) kk = spec_l11Cut_l3 (n + 1) y3_0 y3_1 y3_2 y3_3 y3_4 (fun r0 => kk (.exit 0) (PkS.pack Tspec_l11Cut_l3_0 (r0, ()))) := by kernel_rfl
theorem lespec_l11Cut_l3 : LoopEq tt sig (fun n => mkK [(27, Kspec_l11Last n)]) (fun n => mkL (mkK [(27, Kspec_l11Last n)]) []) Dspec_l11Cut_l3 Sspec_l11Cut_l3 (loopIn 3 (bodyOf Try.f32)) Pspec_l11Cut_l3 where
  zero R q kk := by unfold Pspec_l11Cut_l3; cases (PkS.un Sspec_l11Cut_l3 q) <;> rfl
  succ n R q kk := by
    unfold Pspec_l11Cut_l3
    cases h : (PkS.un Sspec_l11Cut_l3 q) with
    | none => rfl
    | some d =>
      obtain ⟨y3_0, y3_1, y3_2, y3_3, y3_4, u⟩ := (d : Int × (List (Int × Int)) × Int × Int × (List (Int × Int)) × Unit)
      have hp := PkS.un_pack h
      subst hp
      exact (espec_l11Cut_l3 n y3_0 y3_1 y3_2 y3_3 y3_4 kk).symm
theorem nlspec_l11Cut_l3 : ∀ n, NatLP (Pspec_l11Cut_l3 n) := lespec_l11Cut_l3.nat (fun n => mkK_nat (cspec_l11Cut n)) fun n => mkL_nat (mkK_nat (cspec_l11Cut n)) (l := []) trivial
theorem inspec_l11Cut_l3 (n : Nat) (R : Type) : LoopsOk Try.prog (mkL (mkK [(27, Kspec_l11Last n)]) [] R) (loopIn 3 (bodyOf Try.f32)) := .eq (l := []) (by kernel_rfl) trivial
theorem lkspec_l11Cut_l3 (n : Nat) (R : Type) (L0 : LK R) (h0 : ∀ id, firstRegion (loopIn 3 (bodyOf Try.f32)) = some id → L0 id = Dspec_l11Cut_l3.oracle (mkK [(27, Kspec_l11Last n)] R) (Pspec_l11Cut_l3 n R)) : LoopOk Try.prog L0 (loopIn 3 (bodyOf Try.f32)) :=
  lespec_l11Cut_l3.ok mixed ttok (fun n => mkK_nat (cspec_l11Cut n)) (fun n => mkK_ok (cspec_l11Cut n)) (fun n => inspec_l11Cut_l3 n R) (mkK_nat (cspec_l11Cut n)) h0
@[reducible] def Sspec_l11Cut : PkS := ⟨[.one (.ro (.pr (.int .i64) (.int .i64))), .one (.int .i64)], []⟩
@[reducible] def Tspec_l11Cut : PkS := ⟨[.one (.ro (.pr (.int .i64) (.int .i64))), .one (.dead), .one (.dead)], []⟩
def Hspec_l11Cut : List Sh := [.one (.ro (.pr (.int .i64) (.int .i64))), .skip, .skip]
def Kspec_l11Cut (n : Nat) : KPs := fun R p k => match (PkS.un Sspec_l11Cut p : Option ((List (Int × Int)) × Int × Unit)) with
  | some (x0, x1, _) => spec_l11Cut n x0 x1 (fun r0 => k (PkS.pack Tspec_l11Cut (r0, ())))
  | none => none
theorem espec_l11Cut {R : Type} (n : Nat) (x0 : List (Int × Int)) (x1 : Int) (k : Pk → Option R) : evF tt sig (mkK [(27, Kspec_l11Last n)] R) (mkL (mkK [(27, Kspec_l11Last n)]) [(3, Dspec_l11Cut_l3, Pspec_l11Cut_l3 n)] R) Try.f32 Hspec_l11Cut (PkS.pack Sspec_l11Cut (x0, x1, ())) k = spec_l11Cut n x0 x1 (fun r0 => k (PkS.pack Tspec_l11Cut (r0, ()))) := by kernel_rfl
theorem okspec_l11Cut (n : Nat) : FnOk Try.prog 32 (Kspec_l11Cut n) := by
  refine fn_ok (sig := sig) mixed ttok (mkK_nat (cspec_l11Cut n)) (mkK_ok (cspec_l11Cut n)) (mkL_nat (mkK_nat (cspec_l11Cut n)) (l := [(3, Dspec_l11Cut_l3, Pspec_l11Cut_l3 n)]) ⟨nlspec_l11Cut_l3 n, trivial⟩) (fn := Try.f32) (c := bodyOf Try.f32) (by kernel_rfl) (by kernel_rfl) (by kernel_rfl) (.eq (l := [loopIn 3 (bodyOf Try.f32)]) (by kernel_rfl) ⟨(lkspec_l11Cut_l3 n _ _ (at_id (i := 3) (by kernel_rfl) rfl)), trivial⟩) (shs := Hspec_l11Cut) (S := Sspec_l11Cut) fun R p k => ?_
  unfold Kspec_l11Cut
  cases h : (PkS.un Sspec_l11Cut p) with
  | none => rfl
  | some d =>
    obtain ⟨x0, x1, u⟩ := (d : (List (Int × Int)) × Int × Unit)
    have hp := PkS.un_pack h
    subst hp
    exact (espec_l11Cut n x0 x1 k).symm

/-! ### loop.example/g00269/spec.CutItems -/
theorem cspec_CutItems (n : Nat) : AllOk Try.prog [(23, Kspec_GoodItems n), (27, Kspec_l11Last n), (31, Kspec_l1In n), (32, Kspec_l11Cut n)] := ⟨okspec_GoodItems n, ⟨okspec_l11Last n, ⟨okspec_l1In n, ⟨okspec_l11Cut n, trivial⟩⟩⟩⟩
@[reducible] def Sspec_CutItems : PkS := ⟨[.one (.ro (.pr (.int .i64) (.int .i64))), .one (.int .i64)], []⟩
@[reducible] def Tspec_CutItems : PkS := ⟨[.tup [(false, [.ro (.pr (.int .i64) (.int .i64))]), (false, [.bool])], .one (.dead), .one (.dead)], []⟩
def Hspec_CutItems : List Sh := [.tup [(false, [(.ro (.pr (.int .i64) (.int .i64)))]), (false, [.any])], .skip, .skip]
def Kspec_CutItems (n : Nat) : KPs := fun R p k => match (PkS.un Sspec_CutItems p : Option ((List (Int × Int)) × Int × Unit)) with
  | some (x0, x1, _) => spec_CutItems n x0 x1 (fun r0 r1 => k (PkS.pack Tspec_CutItems (r0, r1, ())))
  | none => none
theorem espec_CutItems {R : Type} (n : Nat) (x0 : List (Int × Int)) (x1 : Int) (k : Pk → Option R) : evF tt sig (mkK [(23, Kspec_GoodItems n), (27, Kspec_l11Last n), (31, Kspec_l1In n), (32, Kspec_l11Cut n)] R) (mkL (mkK [(23, Kspec_GoodItems n), (27, Kspec_l11Last n), (31, Kspec_l1In n), (32, Kspec_l11Cut n)]) [] R) Try.f12 Hspec_CutItems (PkS.pack Sspec_CutItems (x0, x1, ())) k = spec_CutItems n x0 x1 (fun r0 r1 => k (PkS.pack Tspec_CutItems (r0, r1, ()))) := by kernel_rfl
theorem okspec_CutItems (n : Nat) : FnOk Try.prog 12 (Kspec_CutItems n) := by
  refine fn_ok (sig := sig) mixed ttok (mkK_nat (cspec_CutItems n)) (mkK_ok (cspec_CutItems n)) (mkL_nat (mkK_nat (cspec_CutItems n)) (l := []) trivial) (fn := Try.f12) (c := bodyOf Try.f12) (by kernel_rfl) (by kernel_rfl) (by kernel_rfl) (.eq (l := []) (by kernel_rfl) trivial) (shs := Hspec_CutItems) (S := Sspec_CutItems) fun R p k => ?_
  unfold Kspec_CutItems
  cases h : (PkS.un Sspec_CutItems p) with
  | none => rfl
  | some d =>
    obtain ⟨x0, x1, u⟩ := (d : (List (Int × Int)) × Int × Unit)
    have hp := PkS.un_pack h
    subst hp
    exact (espec_CutItems n x0 x1 k).symm

/-! ### loop.example/g00269/impl.in -/
theorem cimpl_in (n : Nat) : AllOk Try.prog [] := trivial
@[reducible] def Simpl_in : PkS := ⟨[.one (.int .i64), .one (.int .i64), .one (.int .i64)], []⟩
@[reducible] def Timpl_in : PkS := ⟨[.one (.bool), .one (.dead), .one (.dead), .one (.dead)], []⟩
def Himpl_in : List Sh := [.one .any, .skip, .skip, .skip]
def Kimpl_in (n : Nat) : KPs := fun R p k => match (PkS.un Simpl_in p : Option (Int × Int × Int × Unit)) with
  | some (x0, x1, x2, _) => impl_in n x0 x1 x2 (fun r0 => k (PkS.pack Timpl_in (r0, ())))
  | none => none
theorem eimpl_in {R : Type} (n : Nat) (x0 : Int) (x1 : Int) (x2 : Int) (k : Pk → Option R) : evF tt sig (mkK [] R) (mkL (mkK []) [] R) Try.f33 Himpl_in (PkS.pack Simpl_in (x0, x1, x2, ())) k = impl_in n x0 x1 x2 (fun r0 => k (PkS.pack Timpl_in (r0, ()))) := by kernel_rfl
theorem okimpl_in (n : Nat) : FnOk Try.prog 33 (Kimpl_in n) := by
  refine fn_ok (sig := sig) mixed ttok (mkK_nat (cimpl_in n)) (mkK_ok (cimpl_in n)) (mkL_nat (mkK_nat (cimpl_in n)) (l := []) trivial) (fn := Try.f33) (c := bodyOf Try.f33) (by kernel_rfl) (by kernel_rfl) (by kernel_rfl) (.eq (l := []) (by kernel_rfl) trivial) (shs := Himpl_in) (S := Simpl_in) fun R p k => ?_
  unfold Kimpl_in
  cases h : (PkS.un Simpl_in p) with
  | none => rfl
  | some d =>
    obtain ⟨x0, x1, x2, u⟩ := (d : Int × Int × Int × Unit)
    have hp := PkS.un_pack h
    subst hp
    exact (eimpl_in n x0 x1 x2 k).symm

/-! ### loop.example/g00269/impl.isVersion -/
theorem cimpl_isVersion (n : Nat) : AllOk Try.prog [(33, Kimpl_in n)] := ⟨okimpl_in n, trivial⟩
@[reducible] def Simpl_isVersion : PkS := ⟨[.one (.int .i64)], []⟩
@[reducible] def Timpl_isVersion : PkS := ⟨[.one (.bool), .one (.dead)], []⟩
def Himpl_isVersion : List Sh := [.one .any, .skip]
def Kimpl_isVersion (n : Nat) : KPs := fun R p k => match (PkS.un Simpl_isVersion p : Option (Int × Unit)) with
  | some (x0, _) => impl_isVersion n x0 (fun r0 => k (PkS.pack Timpl_isVersion (r0, ())))
  | none => none
theorem eimpl_isVersion {R : Type} (n : Nat) (x0 : Int) (k : Pk → Option R) : evF tt sig (mkK [(33, Kimpl_in n)] R) (mkL (mkK [(33, Kimpl_in n)]) [] R) Try.f38 Himpl_isVersion (PkS.pack Simpl_isVersion (x0, ())) k = impl_isVersion n x0 (fun r0 => k (PkS.pack Timpl_isVersion (r0, ()))) := by kernel_rfl
theorem okimpl_isVersion (n : Nat) : FnOk Try.prog 38 (Kimpl_isVersion n) := by
  refine fn_ok (sig := sig) mixed ttok (mkK_nat (cimpl_isVersion n)) (mkK_ok (cimpl_isVersion n)) (mkL_nat (mkK_nat (cimpl_isVersion n)) (l := []) trivial) (fn := Try.f38) (c := bodyOf Try.f38) (by kernel_rfl) (by kernel_rfl) (by kernel_rfl) (.eq (l := []) (by kernel_rfl) trivial) (shs := Himpl_isVersion) (S := Simpl_isVersion) fun R p k => ?_
  unfold Kimpl_isVersion
  cases h : (PkS.un Simpl_isVersion p) with
  | none => rfl
  | some d =>
    obtain ⟨x0, u⟩ := (d : Int × Unit)
    have hp := PkS.un_pack h
    subst hp
    exact (eimpl_isVersion n x0 k).symm

/-! ### loop.example/g00269/impl.GoodItems -/
theorem cimpl_GoodItems (n : Nat) : AllOk Try.prog [(33, Kimpl_in n), (38, Kimpl_isVersion n)] := ⟨okimpl_in n, ⟨okimpl_isVersion n, trivial⟩⟩
@[reducible] def Simpl_GoodItems_l4 : PkS := ⟨[.one (.ro (.pr (.int .i64) (.int .i64))), .one (.ro (.pr (.int .i64) (.int .i64))), .one (.int .i64), .one (.int .i64), .one (.dead)], []⟩
@[reducible] def Timpl_GoodItems_l4_0 : PkS := ⟨[.one (.bool), .one (.dead)], []⟩
@[reducible] def Timpl_GoodItems_l4_1 : PkS := ⟨[.one (.dead)], []⟩
def Dimpl_GoodItems_l4 : LoopD := ⟨52, [0, 8, 9, 10], [.one (.ro (.pr (.int .i64) (.int .i64))), .one (.ro (.pr (.int .i64) (.int .i64))), .one .any, .one .any, .skip], fun x => match x with
  | .ret => some ([2], [.one .any, .skip])
  | .exit 0 => some ([], [.skip])
  | _ => none⟩
def Pimpl_GoodItems_l4 (n : Nat) : LPs := fun R q kk => match (PkS.un Simpl_GoodItems_l4 q : Option ((List (Int × Int)) × (List (Int × Int)) × Int × Int × Unit)) with
  | some (y4_0, y4_1, y4_2, y4_3, _) => impl_GoodItems_l4 n y4_0 y4_1 y4_2 y4_3 (fun r0 => kk .ret (PkS.pack Timpl_GoodItems_l4_0 (r0, ()))) (kk (.exit 0) (PkS.pack Timpl_GoodItems_l4_1 ()))
  | none => none
theorem eimpl_GoodItems_l4 {R : Type} (n : Nat) (y4_0 : List (Int × Int)) (y4_1 : List (Int × Int)) (y4_2 : Int) (y4_3 : Int) (kk : Ex → Pk → Option R) : Dimpl_GoodItems_l4.step tt sig (mkK [(33, Kimpl_in n), (38, Kimpl_isVersion n)] R) (mkL (mkK [(33, Kimpl_in n), (38, Kimpl_isVersion n)]) [] R) (loopIn 4 (bodyOf Try.f22)) (fun q' => Pimpl_GoodItems_l4 n R q' kk) (PkS.pack Simpl_GoodItems_l4 (y4_0, y4_1, y4_2, y4_3, ())) kk = impl_GoodItems_l4 (n + 1) y4_0 y4_1 y4_2 y4_3 (fun r0 => kk .ret (PkS.pack Timpl_GoodItems_l4_0 (r0, ()))) (kk (.exit 0) (PkS.pack Timpl_GoodItems_l4_1 ())) := by kernel_rfl
theorem leimpl_GoodItems_l4 : LoopEq tt sig (fun n => mkK [(33, Kimpl_in n), (38, Kimpl_isVersion n)]) (fun n => mkL (mkK [(33, Kimpl_in n), (38, Kimpl_isVersion n)]) []) Dimpl_GoodItems_l4 Simpl_GoodItems_l4 (loopIn 4 (bodyOf Try.f22)) Pimpl_GoodItems_l4 where
  zero R q kk := by unfold Pimpl_GoodItems_l4; cases (PkS.un Simpl_GoodItems_l4 q) <;> rfl
  succ n R q kk := by
    unfold Pimpl_GoodItems_l4
    cases h : (PkS.un Simpl_GoodItems_l4 q) with
    | none => rfl
    | some d =>
      obtain ⟨y4_0, y4_1, y4_2, y4_3, u⟩ := (d : (List (Int × Int)) × (List (Int × Int)) × Int × Int × Unit)
      have hp := PkS.un_pack h
      subst hp
      exact (eimpl_GoodItems_l4 n y4_0 y4_1 y4_2 y4_3 kk).symm
theorem nlimpl_GoodItems_l4 : ∀ n, NatLP (Pimpl_GoodItems_l4 n) := leimpl_GoodItems_l4.nat (fun n => mkK_nat (cimpl_GoodItems n)) fun n => mkL_nat (mkK_nat (cimpl_GoodItems n)) (l := []) trivial
theorem inimpl_GoodItems_l4 (n : Nat) (R : Type) : LoopsOk Try.prog (mkL (mkK [(33, Kimpl_in n), (38, Kimpl_isVersion n)]) [] R) (loopIn 4 (bodyOf Try.f22)) := .eq (l := []) (by kernel_rfl) trivial
theorem lkimpl_GoodItems_l4 (n : Nat) (R : Type) (L0 : LK R) (h0 : ∀ id, firstRegion (loopIn 4 (bodyOf Try.f22)) = some id → L0 id = Dimpl_GoodItems_l4.oracle (mkK [(33, Kimpl_in n), (38, Kimpl_isVersion n)] R) (Pimpl_GoodItems_l4 n R)) : LoopOk Try.prog L0 (loopIn 4 (bodyOf Try.f22)) :=
  leimpl_GoodItems_l4.ok mixed ttok (fun n => mkK_nat (cimpl_GoodItems n)) (fun n => mkK_ok (cimpl_GoodItems n)) (fun n => inimpl_GoodItems_l4 n R) (mkK_nat (cimpl_GoodItems n)) h0
@[reducible] def Simpl_GoodItems : PkS := ⟨[.one (.ro (.pr (.int .i64) (.int .i64)))], []⟩
@[reducible] def Timpl_GoodItems : PkS := ⟨[.one (.bool), .one (.dead)], []⟩
def Himpl_GoodItems : List Sh := [.one .any, .skip]
def Kimpl_GoodItems (n : Nat) : KPs := fun R p k => match (PkS.un Simpl_GoodItems p : Option ((List (Int × Int)) × Unit)) with
  | some (x0, _) => impl_GoodItems n x0 (fun r0 => k (PkS.pack Timpl_GoodItems (r0, ())))
  | none => none
theorem eimpl_GoodItems {R : Type} (n : Nat) (x0 : List (Int × Int)) (k : Pk → Option R) : evF tt sig (mkK [(33, Kimpl_in n), (38, Kimpl_isVersion n)] R) (mkL (mkK [(33, Kimpl_in n), (38, Kimpl_isVersion n)]) [(4, Dimpl_GoodItems_l4, Pimpl_GoodItems_l4 n)] R) Try.f22 Himpl_GoodItems (PkS.pack Simpl_GoodItems (x0, ())) k = impl_GoodItems n x0 (fun r0 => k (PkS.pack Timpl_GoodItems (r0, ()))) := by kernel_rfl
theorem okimpl_GoodItems (n : Nat) : FnOk Try.prog 22 (Kimpl_GoodItems n) := by
  refine fn_ok (sig := sig) mixed ttok (mkK_nat (cimpl_GoodItems n)) (mkK_ok (cimpl_GoodItems n)) (mkL_nat (mkK_nat (cimpl_GoodItems n)) (l := [(4, Dimpl_GoodItems_l4, Pimpl_GoodItems_l4 n)]) ⟨nlimpl_GoodItems_l4 n, trivial⟩) (fn := Try.f22) (c := bodyOf Try.f22) (by kernel_rfl) (by kernel_rfl) (by kernel_rfl) (.eq (l := [loopIn 4 (bodyOf Try.f22)]) (by kernel_rfl) ⟨(lkimpl_GoodItems_l4 n _ _ (at_id (i := 4) (by kernel_rfl) rfl)), trivial⟩) (shs := Himpl_GoodItems) (S := Simpl_GoodItems) fun R p k => ?_
  unfold Kimpl_GoodItems
  cases h : (PkS.un Simpl_GoodItems p) with
  | none => rfl
  | some d =>
    obtain ⟨x0, u⟩ := (d : (List (Int × Int)) × Unit)
    have hp := PkS.un_pack h
    subst hp
    exact (eimpl_GoodItems n x0 k).symm

/-! ### loop.example/g00269/impl.last -/
theorem cimpl_last (n : Nat) : AllOk Try.prog [] := trivial
@[reducible] def Simpl_last : PkS := ⟨[.one (.ro (.pr (.int .i64) (.int .i64)))], []⟩
@[reducible] def Timpl_last : PkS := ⟨[.one (.int .i64), .one (.dead)], []⟩
def Himpl_last : List Sh := [.one .any, .skip]
def Kimpl_last (n : Nat) : KPs := fun R p k => match (PkS.un Simpl_last p : Option ((List (Int × Int)) × Unit)) with
  | some (x0, _) => impl_last n x0 (fun r0 => k (PkS.pack Timpl_last (r0, ())))
  | none => none
theorem eimpl_last {R : Type} (n : Nat) (x0 : List (Int × Int)) (k : Pk → Option R) : evF tt sig (mkK [] R) (mkL (mkK []) [] R) Try.f30 Himpl_last (PkS.pack Simpl_last (x0, ())) k = impl_last n x0 (fun r0 => k (PkS.pack Timpl_last (r0, ()))) := by kernel_rfl
theorem okimpl_last (n : Nat) : FnOk Try.prog 30 (Kimpl_last n) := by
  refine fn_ok (sig := sig) mixed ttok (mkK_nat (cimpl_last n)) (mkK_ok (cimpl_last n)) (mkL_nat (mkK_nat (cimpl_last n)) (l := []) trivial) (fn := Try.f30) (c := bodyOf Try.f30) (by kernel_rfl) (by kernel_rfl) (by kernel_rfl) (.eq (l := []) (by kernel_rfl) trivial) (shs := Himpl_last) (S := Simpl_last) fun R p k => ?_
  unfold Kimpl_last
  cases h : (PkS.un Simpl_last p) with
  | none => rfl
  | some d =>
    obtain ⟨x0, u⟩ := (d : (List (Int × Int)) × Unit)
    have hp := PkS.un_pack h
    subst hp
    exact (eimpl_last n x0 k).symm

/-! ### loop.example/g00269/impl.CutItems -/
theorem cimpl_CutItems (n : Nat) : AllOk Try.prog [(22, Kimpl_GoodItems n), (30, Kimpl_last n), (33, Kimpl_in n)] := ⟨okimpl_GoodItems n, ⟨okimpl_last n, ⟨okimpl_in n, trivial⟩⟩⟩
@[reducible] def Simpl_CutItems_l5 : PkS := ⟨[.one (.int .i64), .one (.whole (100000, 0)), .one (.ro (.pr (.int .i64) (.int .i64))), .one (.int .i64), .one (.int .i64), .one (.dead), .one (.dead)], [((100000, 0), .arr (.pr (.int .i64) (.int .i64)))]⟩
@[reducible] def Timpl_CutItems_l5_0 : PkS := ⟨[.one (.whole (100000, 0)), .one (.dead), .one (.dead)], [((100000, 0), .arr (.pr (.int .i64) (.int .i64)))]⟩
def Dimpl_CutItems_l5 : LoopD := ⟨42, [1, 6, 20, 21, 22], [.one .any, .one (.own (.pr (.int .i64) (.int .i64))), .one (.ro (.pr (.int .i64) (.int .i64))), .one .any, .one .any, .skip, .skip], fun x => match x with
  | .exit 0 => some ([6], [.one (.own (.pr (.int .i64) (.int .i64))), .skip, .skip])
  | _ => none⟩
def Pimpl_CutItems_l5 (n : Nat) : LPs := fun R q kk => match (PkS.un Simpl_CutItems_l5 q : Option (Int × (List (Int × Int)) × Int × Int × (List (Int × Int)) × Unit)) with
  | some (y5_0, y5_1, y5_2, y5_3, y5_4, _) => impl_CutItems_l5 n y5_0 y5_1 y5_2 y5_3 y5_4 (fun r0 => kk (.exit 0) (PkS.pack Timpl_CutItems_l5_0 (r0, ())))
  | none => none
theorem eimpl_CutItems_l5 {R : Type} (n : Nat) (y5_0 : Int) (y5_1 : List (Int × Int)) (y5_2 : Int) (y5_3 : Int) (y5_4 : List (Int × Int)) (kk : Ex → Pk → Option R) : Dimpl_CutItems_l5.step tt sig (mkK [(22, Kimpl_GoodItems n), (30, Kimpl_last n), (33, Kimpl_in n)] R) (mkL (mkK [(22, Kimpl_GoodItems n), (30, Kimpl_last n), (33, Kimpl_in n)]) [] R) (loopIn 5 (bodyOf Try.f13)) (fun q' => Pimpl_CutItems_l5 n R q' kk) (PkS.pack Simpl_CutItems_l5 (y5_0, y5_1, y5_2, y5_3, y5_4, ())) kk = impl_CutItems_l5 (n + 1) y5_0 y5_1 y5_2 y5_3 y5_4 (fun r0 => kk (.exit 0) (PkS.pack Timpl_CutItems_l5_0 (r0, ()))) := by kernel_rfl
theorem leimpl_CutItems_l5 : LoopEq tt sig (fun n => mkK [(22, Kimpl_GoodItems n), (30, Kimpl_last n), (33, Kimpl_in n)]) (fun n => mkL (mkK [(22, Kimpl_GoodItems n), (30, Kimpl_last n), (33, Kimpl_in n)]) []) Dimpl_CutItems_l5 Simpl_CutItems_l5 (loopIn 5 (bodyOf Try.f13)) Pimpl_CutItems_l5 where
  zero R q kk := by unfold Pimpl_CutItems_l5; cases (PkS.un Simpl_CutItems_l5 q) <;> rfl
  succ n R q kk := by
    unfold Pimpl_CutItems_l5
    cases h : (PkS.un Simpl_CutItems_l5 q) with
    | none => rfl
    | some d =>
      obtain ⟨y5_0, y5_1, y5_2, y5_3, y5_4, u⟩ := (d : Int × (List (Int × Int)) × Int × Int × (List (Int × Int)) × Unit)
      have hp := PkS.un_pack h
      subst hp
      exact (eimpl_CutItems_l5 n y5_0 y5_1 y5_2 y5_3 y5_4 kk).symm
theorem nlimpl_CutItems_l5 : ∀ n, NatLP (Pimpl_CutItems_l5 n) := leimpl_CutItems_l5.nat (fun n => mkK_nat (cimpl_CutItems n)) fun n => mkL_nat (mkK_nat (cimpl_CutItems n)) (l := []) trivial
theorem inimpl_CutItems_l5 (n : Nat) (R : Type) : LoopsOk Try.prog (mkL (mkK [(22, Kimpl_GoodItems n), (30, Kimpl_last n), (33, Kimpl_in n)]) [] R) (loopIn 5 (bodyOf Try.f13)) := .eq (l := []) (by kernel_rfl) trivial
theorem lkimpl_CutItems_l5 (n : Nat) (R : Type) (L0 : LK R) (h0 : ∀ id, firstRegion (loopIn 5 (bodyOf Try.f13)) = some id → L0 id = Dimpl_CutItems_l5.oracle (mkK [(22, Kimpl_GoodItems n), (30, Kimpl_last n), (33, Kimpl_in n)] R) (Pimpl_CutItems_l5 n R)) : LoopOk Try.prog L0 (loopIn 5 (bodyOf Try.f13)) :=
  leimpl_CutItems_l5.ok mixed ttok (fun n => mkK_nat (cimpl_CutItems n)) (fun n => mkK_ok (cimpl_CutItems n)) (fun n => inimpl_CutItems_l5 n R) (mkK_nat (cimpl_CutItems n)) h0
@[reducible] def Simpl_CutItems : PkS := ⟨[.one (.ro (.pr (.int .i64) (.int .i64))), .one (.int .i64)], []⟩
@[reducible] def Timpl_CutItems : PkS := ⟨[.tup [(false, [.whole (300000, 0)]), (false, [.bool])], .one (.dead), .one (.dead)], [((300000, 0), .arr (.pr (.int .i64) (.int .i64)))]⟩
def Himpl_CutItems : List Sh := [.tup [(false, [(.own (.pr (.int .i64) (.int .i64)))]), (false, [.any])], .skip, .skip]
def Kimpl_CutItems (n : Nat) : KPs := fun R p k => match (PkS.un Simpl_CutItems p : Option ((List (Int × Int)) × Int × Unit)) with
  | some (x0, x1, _) => impl_CutItems n x0 x1 (fun r0 r1 => k (PkS.pack Timpl_CutItems (r0, r1, ())))
  | none => none
theorem eimpl_CutItems {R : Type} (n : Nat) (x0 : List (Int × Int)) (x1 : Int) (k : Pk → Option R) : evF tt sig (mkK [(22, Kimpl_GoodItems n), (30, Kimpl_last n), (33, Kimpl_in n)] R) (mkL (mkK [(22, Kimpl_GoodItems n), (30, Kimpl_last n), (33, Kimpl_in n)]) [(5, Dimpl_CutItems_l5, Pimpl_CutItems_l5 n)] R) Try.f13 Himpl_CutItems (PkS.pack Simpl_CutItems (x0, x1, ())) k = impl_CutItems n x0 x1 (fun r0 r1 => k (PkS.pack Timpl_CutItems (r0, r1, ()))) := by kernel_rfl
theorem okimpl_CutItems (n : Nat) : FnOk Try.prog 13 (Kimpl_CutItems n) := by
  refine fn_ok (sig := sig) mixed ttok (mkK_nat (cimpl_CutItems n)) (mkK_ok (cimpl_CutItems n)) (mkL_nat (mkK_nat (cimpl_CutItems n)) (l := [(5, Dimpl_CutItems_l5, Pimpl_CutItems_l5 n)]) ⟨nlimpl_CutItems_l5 n, trivial⟩) (fn := Try.f13) (c := bodyOf Try.f13) (by kernel_rfl) (by kernel_rfl) (by kernel_rfl) (.eq (l := [loopIn 5 (bodyOf Try.f13)]) (by kernel_rfl) ⟨(lkimpl_CutItems_l5 n _ _ (at_id (i := 5) (by kernel_rfl) rfl)), trivial⟩) (shs := Himpl_CutItems) (S := Simpl_CutItems) fun R p k => ?_
  unfold Kimpl_CutItems
  cases h : (PkS.un Simpl_CutItems p) with
  | none => rfl
  | some d =>
    obtain ⟨x0, x1, u⟩ := (d : (List (Int × Int)) × Int × Unit)
    have hp := PkS.un_pack h
    subst hp
    exact (eimpl_CutItems n x0 x1 k).symm

/-! ### loop.example/g00269/laws.eqItem -/
theorem claws_eqItem (n : Nat) : AllOk Try.prog [] := trivial
@[reducible] def Slaws_eqItem : PkS := ⟨[.agg [.int .i64, .int .i64], .agg [.int .i64, .int .i64]], []⟩
@[reducible] def Tlaws_eqItem : PkS := ⟨[.one (.bool), .one (.dead), .one (.dead)], []⟩
def Hlaws_eqItem : List Sh := [.one .any, .skip, .skip]
def Klaws_eqItem (n : Nat) : KPs := fun R p k => match (PkS.un Slaws_eqItem p : Option (Int × Int × Int × Int × Unit)) with
  | some (x0, x1, x2, x3, _) => laws_eqItem n x0 x1 x2 x3 (fun r0 => k (PkS.pack Tlaws_eqItem (r0, ())))
  | none => none
theorem elaws_eqItem {R : Type} (n : Nat) (x0 : Int) (x1 : Int) (x2 : Int) (x3 : Int) (k : Pk → Option R) : evF tt sig (mkK [] R) (mkL (mkK []) [] R) Try.f18 Hlaws_eqItem (PkS.pack Slaws_eqItem (x0, x1, x2, x3, ())) k = laws_eqItem n x0 x1 x2 x3 (fun r0 => k (PkS.pack Tlaws_eqItem (r0, ()))) := by kernel_rfl
theorem oklaws_eqItem (n : Nat) : FnOk Try.prog 18 (Klaws_eqItem n) := by
  refine fn_ok (sig := sig) mixed ttok (mkK_nat (claws_eqItem n)) (mkK_ok (claws_eqItem n)) (mkL_nat (mkK_nat (claws_eqItem n)) (l := []) trivial) (fn := Try.f18) (c := bodyOf Try.f18) (by kernel_rfl) (by kernel_rfl) (by kernel_rfl) (.eq (l := []) (by kernel_rfl) trivial) (shs := Hlaws_eqItem) (S := Slaws_eqItem) fun R p k => ?_
  unfold Klaws_eqItem
  cases h : (PkS.un Slaws_eqItem p) with
  | none => rfl
  | some d =>
    obtain ⟨x0, x1, x2, x3, u⟩ := (d : Int × Int × Int × Int × Unit)
    have hp := PkS.un_pack h
    subst hp
    exact (elaws_eqItem n x0 x1 x2 x3 k).symm

/-! ### loop.example/g00269/laws.eqItemS -/
theorem claws_eqItemS (n : Nat) : AllOk Try.prog [(18, Klaws_eqItem n)] := ⟨oklaws_eqItem n, trivial⟩
@[reducible] def Slaws_eqItemS_l4 : PkS := ⟨[.one (.ro (.pr (.int .i64) (.int .i64))), .one (.ro (.pr (.int .i64) (.int .i64))), .one (.int .i64), .one (.dead), .one (.dead)], []⟩
@[reducible] def Tlaws_eqItemS_l4_0 : PkS := ⟨[.one (.bool), .one (.dead), .one (.dead)], []⟩
@[reducible] def Tlaws_eqItemS_l4_1 : PkS := ⟨[.one (.dead), .one (.dead)], []⟩
def Dlaws_eqItemS_l4 : LoopD := ⟨27, [0, 1, 5], [.one (.ro (.pr (.int .i64) (.int .i64))), .one (.ro (.pr (.int .i64) (.int .i64))), .one .any, .skip, .skip], fun x => match x with
  | .ret => some ([4], [.one .any, .skip, .skip])
  | .exit 0 => some ([], [.skip, .skip])
  | _ => none⟩
def Plaws_eqItemS_l4 (n : Nat) : LPs := fun R q kk => match (PkS.un Slaws_eqItemS_l4 q : Option ((List (Int × Int)) × (List (Int × Int)) × Int × Unit)) with
  | some (y4_0, y4_1, y4_2, _) => laws_eqItemS_l4 n y4_0 y4_1 y4_2 (fun r0 => kk .ret (PkS.pack Tlaws_eqItemS_l4_0 (r0, ()))) (kk (.exit 0) (PkS.pack Tlaws_eqItemS_l4_1 ()))
  | none => none
theorem elaws_eqItemS_l4 {R : Type} (n : Nat) (y4_0 : List (Int × Int)) (y4_1 : List (Int × Int)) (y4_2 : Int) (kk : Ex → Pk → Option R) : Dlaws_eqItemS_l4.step tt sig (mkK [(18, Klaws_eqItem n)] R) (mkL (mkK [(18, Klaws_eqItem n)]) [] R) (loopIn 4 (bodyOf Try.f11)) (fun q' => Plaws_eqItemS_l4 n R q' kk) (PkS.pack Slaws_eqItemS_l4 (y4_0, y4_1, y4_2, ())) kk = laws_eqItemS_l4 (n + 1) y4_0 y4_1 y4_2 (fun r0 => kk .ret (PkS.pack Tlaws_eqItemS_l4_0 (r0, ()))) (kk (.exit 0) (PkS.pack Tlaws_eqItemS_l4_1 ())) := by kernel_rfl
theorem lelaws_eqItemS_l4 : LoopEq tt sig (fun n => mkK [(18, Klaws_eqItem n)]) (fun n => mkL (mkK [(18, Klaws_eqItem n)]) []) Dlaws_eqItemS_l4 Slaws_eqItemS_l4 (loopIn 4 (bodyOf Try.f11)) Plaws_eqItemS_l4 where
  zero R q kk := by unfold Plaws_eqItemS_l4; cases (PkS.un Slaws_eqItemS_l4 q) <;> rfl
  succ n R q kk := by
    unfold Plaws_eqItemS_l4
    cases h : (PkS.un Slaws_eqItemS_l4 q) with
    | none => rfl
    | some d =>
      obtain ⟨y4_0, y4_1, y4_2, u⟩ := (d : (List (Int × Int)) × (List (Int × Int)) × Int × Unit)
      have hp := PkS.un_pack h
      subst hp
      exact (elaws_eqItemS_l4 n y4_0 y4_1 y4_2 kk).symm
theorem nllaws_eqItemS_l4 : ∀ n, NatLP (Plaws_eqItemS_l4 n) := lelaws_eqItemS_l4.nat (fun n => mkK_nat (claws_eqItemS n)) fun n => mkL_nat (mkK_nat (claws_eqItemS n)) (l := []) trivial
theorem inlaws_eqItemS_l4 (n : Nat) (R : Type) : LoopsOk Try.prog (mkL (mkK [(18, Klaws_eqItem n)]) [] R) (loopIn 4 (bodyOf Try.f11)) := .eq (l := []) (by kernel_rfl) trivial
theorem lklaws_eqItemS_l4 (n : Nat) (R : Type) (L0 : LK R) (h0 : ∀ id, firstRegion (loopIn 4 (bodyOf Try.f11)) = some id → L0 id = Dlaws_eqItemS_l4.oracle (mkK [(18, Klaws_eqItem n)] R) (Plaws_eqItemS_l4 n R)) : LoopOk Try.prog L0 (loopIn 4 (bodyOf Try.f11)) :=
  lelaws_eqItemS_l4.ok mixed ttok (fun n => mkK_nat (claws_eqItemS n)) (fun n => mkK_ok (claws_eqItemS n)) (fun n => inlaws_eqItemS_l4 n R) (mkK_nat (claws_eqItemS n)) h0
@[reducible] def Slaws_eqItemS : PkS := ⟨[.one (.ro (.pr (.int .i64) (.int .i64))), .one (.ro (.pr (.int .i64) (.int .i64)))], []⟩
@[reducible] def Tlaws_eqItemS : PkS := ⟨[.one (.bool), .one (.dead), .one (.dead)], []⟩
def Hlaws_eqItemS : List Sh := [.one .any, .skip, .skip]
def Klaws_eqItemS (n : Nat) : KPs := fun R p k => match (PkS.un Slaws_eqItemS p : Option ((List (Int × Int)) × (List (Int × Int)) × Unit)) with
  | some (x0, x1, _) => laws_eqItemS n x0 x1 (fun r0 => k (PkS.pack Tlaws_eqItemS (r0, ())))
  | none => none
theorem elaws_eqItemS {R : Type} (n : Nat) (x0 : List (Int × Int)) (x1 : List (Int × Int)) (k : Pk → Option R) : evF tt sig (mkK [(18, Klaws_eqItem n)] R) (mkL (mkK [(18, Klaws_eqItem n)]) [(4, Dlaws_eqItemS_l4, Plaws_eqItemS_l4 n)] R) Try.f11 Hlaws_eqItemS (PkS.pack Slaws_eqItemS (x0, x1, ())) k = laws_eqItemS n x0 x1 (fun r0 => k (PkS.pack Tlaws_eqItemS (r0, ()))) := by kernel_rfl
theorem oklaws_eqItemS (n : Nat) : FnOk Try.prog 11 (Klaws_eqItemS n) := by
  refine fn_ok (sig := sig) mixed ttok (mkK_nat (claws_eqItemS n)) (mkK_ok (claws_eqItemS n)) (mkL_nat (mkK_nat (claws_eqItemS n)) (l := [(4, Dlaws_eqItemS_l4, Plaws_eqItemS_l4 n)]) ⟨nllaws_eqItemS_l4 n, trivial⟩) (fn := Try.f11) (c := bodyOf Try.f11) (by kernel_rfl) (by kernel_rfl) (by kernel_rfl) (.eq (l := [loopIn 4 (bodyOf Try.f11)]) (by kernel_rfl) ⟨(lklaws_eqItemS_l4 n _ _ (at_id (i := 4) (by kernel_rfl) rfl)), trivial⟩) (shs := Hlaws_eqItemS) (S := Slaws_eqItemS) fun R p k => ?_
  unfold Klaws_eqItemS
  cases h : (PkS.un Slaws_eqItemS p) with
  | none => rfl
  | some d =>
    obtain ⟨x0, x1, u⟩ := (d : (List (Int × Int)) × (List (Int × Int)) × Unit)
    have hp := PkS.un_pack h
    subst hp
    exact (elaws_eqItemS n x0 x1 k).symm

/-! ### loop.example/g00269/laws.markItemS -/
theorem claws_markItemS (n : Nat) : AllOk Try.prog [] := trivial
@[reducible] def Slaws_markItemS_l2 : PkS := ⟨[.one (.whole (100000, 0)), .one (.int .i64), .one (.int .i64), .one (.whole (100000, 0)), .one (.dead)], [((100000, 0), .arr (.pr (.int .i64) (.int .i64)))]⟩
@[reducible] def Tlaws_markItemS_l2_0 : PkS := ⟨[.one (.int .i64), .one (.whole (100000, 0)), .one (.dead)], [((100000, 0), .arr (.pr (.int .i64) (.int .i64)))]⟩
def Dlaws_markItemS_l2 : LoopD := ⟨27, [0, 1, 5], [.one (.own (.pr (.int .i64) (.int .i64))), .one .any, .one .any, .one (.own (.pr (.int .i64) (.int .i64))), .skip], fun x => match x with
  | .exit 0 => some ([1], [.one .any, .one (.own (.pr (.int .i64) (.int .i64))), .skip])
  | _ => none⟩
def Plaws_markItemS_l2 (n : Nat) : LPs := fun R q kk => match (PkS.un Slaws_markItemS_l2 q : Option (Int × Int × (List (Int × Int)) × Unit)) with
  | some (y2_0, y2_1, y2_2, _) => laws_markItemS_l2 n y2_0 y2_1 y2_2 (fun r0 r1 => kk (.exit 0) (PkS.pack Tlaws_markItemS_l2_0 (r0, r1, ())))
  | none => none
theorem elaws_markItemS_l2 {R : Type} (n : Nat) (y2_0 : Int) (y2_1 : Int) (y2_2 : List (Int × Int)) (kk : Ex → Pk → Option R) : Dlaws_markItemS_l2.step tt sig (mkK [] R) (mkL (mkK []) [] R) (loopIn 2 (bodyOf Try.f14)) (fun q' => Plaws_markItemS_l2 n R q' kk) (PkS.pack Slaws_markItemS_l2 (y2_0, y2_1, y2_2, ())) kk = laws_markItemS_l2 (n + 1) y2_0 y2_1 y2_2 (fun r0 r1 => kk (.exit 0) (PkS.pack Tlaws_markItemS_l2_0 (r0, r1, ()))) := by kernel_rfl
theorem lelaws_markItemS_l2 : LoopEq tt sig (fun n => mkK []) (fun n => mkL (mkK []) []) Dlaws_markItemS_l2 Slaws_markItemS_l2 (loopIn 2 (bodyOf Try.f14)) Plaws_markItemS_l2 where
  zero R q kk := by unfold Plaws_markItemS_l2; cases (PkS.un Slaws_markItemS_l2 q) <;> rfl
  succ n R q kk := by
    unfold Plaws_markItemS_l2
    cases h : (PkS.un Slaws_markItemS_l2 q) with
    | none => rfl
    | some d =>
      obtain ⟨y2_0, y2_1, y2_2, u⟩ := (d : Int × Int × (List (Int × Int)) × Unit)
      have hp := PkS.un_pack h
      subst hp
      exact (elaws_markItemS_l2 n y2_0 y2_1 y2_2 kk).symm
theorem nllaws_markItemS_l2 : ∀ n, NatLP (Plaws_markItemS_l2 n) := lelaws_markItemS_l2.nat (fun n => mkK_nat (claws_markItemS n)) fun n => mkL_nat (mkK_nat (claws_markItemS n)) (l := []) trivial
theorem inlaws_markItemS_l2 (n : Nat) (R : Type) : LoopsOk Try.prog (mkL (mkK []) [] R) (loopIn 2 (bodyOf Try.f14)) := .eq (l := []) (by kernel_rfl) trivial
theorem lklaws_markItemS_l2 (n : Nat) (R : Type) (L0 : LK R) (h0 : ∀ id, firstRegion (loopIn 2 (bodyOf Try.f14)) = some id → L0 id = Dlaws_markItemS_l2.oracle (mkK [] R) (Plaws_markItemS_l2 n R)) : LoopOk Try.prog L0 (loopIn 2 (bodyOf Try.f14)) :=
  lelaws_markItemS_l2.ok mixed ttok (fun n => mkK_nat (claws_markItemS n)) (fun n => mkK_ok (claws_markItemS n)) (fun n => inlaws_markItemS_l2 n R) (mkK_nat (claws_markItemS n)) h0
@[reducible] def Slaws_markItemS : PkS := ⟨[.one (.whole (200000, 0)), .one (.int .i64)], [((200000, 0), .arr (.pr (.int .i64) (.int .i64)))]⟩
@[reducible] def Tlaws_markItemS : PkS := ⟨[.one (.int .i64), .one (.whole (300000, 0)), .one (.dead)], [((300000, 0), .arr (.pr (.int .i64) (.int .i64)))]⟩
def Hlaws_markItemS : List Sh := [.one .any, .one (.own (.pr (.int .i64) (.int .i64))), .skip]
def Klaws_markItemS (n : Nat) : KPs := fun R p k => match (PkS.un Slaws_markItemS p : Option (Int × (List (Int × Int)) × Unit)) with
  | some (x0, x1, _) => laws_markItemS n x0 x1 (fun r0 r1 => k (PkS.pack Tlaws_markItemS (r0, r1, ())))
  | none => none
theorem elaws_markItemS {R : Type} (n : Nat) (x0 : Int) (x1 : List (Int × Int)) (k : Pk → Option R) : evF tt sig (mkK [] R) (mkL (mkK []) [(2, Dlaws_markItemS_l2, Plaws_markItemS_l2 n)] R) Try.f14 Hlaws_markItemS (PkS.pack Slaws_markItemS (x0, x1, ())) k = laws_markItemS n x0 x1 (fun r0 r1 => k (PkS.pack Tlaws_markItemS (r0, r1, ()))) := by kernel_rfl
theorem oklaws_markItemS (n : Nat) : FnOk Try.prog 14 (Klaws_markItemS n) := by
  refine fn_ok (sig := sig) mixed ttok (mkK_nat (claws_markItemS n)) (mkK_ok (claws_markItemS n)) (mkL_nat (mkK_nat (claws_markItemS n)) (l := [(2, Dlaws_markItemS_l2, Plaws_markItemS_l2 n)]) ⟨nllaws_markItemS_l2 n, trivial⟩) (fn := Try.f14) (c := bodyOf Try.f14) (by kernel_rfl) (by kernel_rfl) (by kernel_rfl) (.eq (l := [loopIn 2 (bodyOf Try.f14)]) (by kernel_rfl) ⟨(lklaws_markItemS_l2 n _ _ (at_id (i := 2) (by kernel_rfl) rfl)), trivial⟩) (shs := Hlaws_markItemS) (S := Slaws_markItemS) fun R p k => ?_
  unfold Klaws_markItemS
  cases h : (PkS.un Slaws_markItemS p) with
  | none => rfl
  | some d =>
    obtain ⟨x0, x1, u⟩ := (d : Int × (List (Int × Int)) × Unit)
    have hp := PkS.un_pack h
    subst hp
    exact (elaws_markItemS n x0 x1 k).symm

/-! ### loop.example/g00269/laws.heldItemS -/
theorem claws_heldItemS (n : Nat) : AllOk Try.prog [] := trivial
@[reducible] def Slaws_heldItemS_l2 : PkS := ⟨[.one (.ro (.pr (.int .i64) (.int .i64))), .one (.int .i64), .one (.int .i64), .one (.dead), .one (.dead)], []⟩
@[reducible] def Tlaws_heldItemS_l2_0 : PkS := ⟨[.one (.int .i64), .one (.dead), .one (.dead)], []⟩
@[reducible] def Tlaws_heldItemS_l2_1 : PkS := ⟨[.one (.int .i64), .one (.dead), .one (.dead)], []⟩
def Dlaws_heldItemS_l2 : LoopD := ⟨31, [0, 1, 5], [.one (.ro (.pr (.int .i64) (.int .i64))), .one .any, .one .any, .skip, .skip], fun x => match x with
  | .ret => some ([4], [.one .any, .skip, .skip])
  | .exit 0 => some ([1], [.one .any, .skip, .skip])
  | _ => none⟩
def Plaws_heldItemS_l2 (n : Nat) : LPs := fun R q kk => match (PkS.un Slaws_heldItemS_l2 q : Option ((List (Int × Int)) × Int × Int × Unit)) with
  | some (y2_0, y2_1, y2_2, _) => laws_heldItemS_l2 n y2_0 y2_1 y2_2 (fun r0 => kk .ret (PkS.pack Tlaws_heldItemS_l2_0 (r0, ()))) (fun r0 => kk (.exit 0) (PkS.pack Tlaws_heldItemS_l2_1 (r0, ())))
  | none => none
theorem elaws_heldItemS_l2 {R : Type} (n : Nat) (y2_0 : List (Int × Int)) (y2_1 : Int) (y2_2 : Int) (kk : Ex → Pk → Option R) : Dlaws_heldItemS_l2.step tt sig (mkK [] R) (mkL (mkK []) [] R) (loopIn 2 (bodyOf Try.f15)) (fun q' => Plaws_heldItemS_l2 n R q' kk) (PkS.pack Slaws_heldItemS_l2 (y2_0, y2_1, y2_2, ())) kk = laws_heldItemS_l2 (n + 1) y2_0 y2_1 y2_2 (fun r0 => kk .ret (PkS.pack Tlaws_heldItemS_l2_0 (r0, ()))) (fun r0 => kk (.exit 0) (PkS.pack Tlaws_heldItemS_l2_1 (r0, ()))) := by kernel_rfl
theorem lelaws_heldItemS_l2 : LoopEq tt sig (fun n => mkK []) (fun n => mkL (mkK []) []) Dlaws_heldItemS_l2 Slaws_heldItemS_l2 (loopIn 2 (bodyOf Try.f15)) Plaws_heldItemS_l2 where
  zero R q kk := by unfold Plaws_heldItemS_l2; cases (PkS.un Slaws_heldItemS_l2 q) <;> rfl
  succ n R q kk := by
    unfold Plaws_heldItemS_l2
    cases h : (PkS.un Slaws_heldItemS_l2 q) with
    | none => rfl
    | some d =>
      obtain ⟨y2_0, y2_1, y2_2, u⟩ := (d : (List (Int × Int)) × Int × Int × Unit)
      have hp := PkS.un_pack h
      subst hp
      exact (elaws_heldItemS_l2 n y2_0 y2_1 y2_2 kk).symm
theorem nllaws_heldItemS_l2 : ∀ n, NatLP (Plaws_heldItemS_l2 n) := lelaws_heldItemS_l2.nat (fun n => mkK_nat (claws_heldItemS n)) fun n => mkL_nat (mkK_nat (claws_heldItemS n)) (l := []) trivial
theorem inlaws_heldItemS_l2 (n : Nat) (R : Type) : LoopsOk Try.prog (mkL (mkK []) [] R) (loopIn 2 (bodyOf Try.f15)) := .eq (l := []) (by kernel_rfl) trivial
theorem lklaws_heldItemS_l2 (n : Nat) (R : Type) (L0 : LK R) (h0 : ∀ id, firstRegion (loopIn 2 (bodyOf Try.f15)) = some id → L0 id = Dlaws_heldItemS_l2.oracle (mkK [] R) (Plaws_heldItemS_l2 n R)) : LoopOk Try.prog L0 (loopIn 2 (bodyOf Try.f15)) :=
  lelaws_heldItemS_l2.ok mixed ttok (fun n => mkK_nat (claws_heldItemS n)) (fun n => mkK_ok (claws_heldItemS n)) (fun n => inlaws_heldItemS_l2 n R) (mkK_nat (claws_heldItemS n)) h0
@[reducible] def Slaws_heldItemS : PkS := ⟨[.one (.ro (.pr (.int .i64) (.int .i64))), .one (.int .i64)], []⟩
@[reducible] def Tlaws_heldItemS : PkS := ⟨[.one (.int .i64), .one (.dead), .one (.dead)], []⟩
def Hlaws_heldItemS : List Sh := [.one .any, .skip, .skip]
def Klaws_heldItemS (n : Nat) : KPs := fun R p k => match (PkS.un Slaws_heldItemS p : Option ((List (Int × Int)) × Int × Unit)) with
  | some (x0, x1, _) => laws_heldItemS n x0 x1 (fun r0 => k (PkS.pack Tlaws_heldItemS (r0, ())))
  | none => none
theorem elaws_heldItemS {R : Type} (n : Nat) (x0 : List (Int × Int)) (x1 : Int) (k : Pk → Option R) : evF tt sig (mkK [] R) (mkL (mkK []) [(2, Dlaws_heldItemS_l2, Plaws_heldItemS_l2 n)] R) Try.f15 Hlaws_heldItemS (PkS.pack Slaws_heldItemS (x0, x1, ())) k = laws_heldItemS n x0 x1 (fun r0 => k (PkS.pack Tlaws_heldItemS (r0, ()))) := by kernel_rfl
theorem oklaws_heldItemS (n : Nat) : FnOk Try.prog 15 (Klaws_heldItemS n) := by
  refine fn_ok (sig := sig) mixed ttok (mkK_nat (claws_heldItemS n)) (mkK_ok (claws_heldItemS n)) (mkL_nat (mkK_nat (claws_heldItemS n)) (l := [(2, Dlaws_heldItemS_l2, Plaws_heldItemS_l2 n)]) ⟨nllaws_heldItemS_l2 n, trivial⟩) (fn := Try.f15) (c := bodyOf Try.f15) (by kernel_rfl) (by kernel_rfl) (by kernel_rfl) (.eq (l := [loopIn 2 (bodyOf Try.f15)]) (by kernel_rfl) ⟨(lklaws_heldItemS_l2 n _ _ (at_id (i := 2) (by kernel_rfl) rfl)), trivial⟩) (shs := Hlaws_heldItemS) (S := Slaws_heldItemS) fun R p k => ?_
  unfold Klaws_heldItemS
  cases h : (PkS.un Slaws_heldItemS p) with
  | none => rfl
  | some d =>
    obtain ⟨x0, x1, u⟩ := (d : (List (Int × Int)) × Int × Unit)
    have hp := PkS.un_pack h
    subst hp
    exact (elaws_heldItemS n x0 x1 k).symm

/-! ### loop.example/g00269/laws.FnExactCutItems -/
theorem claws_FnExactCutItems (n : Nat) : AllOk Try.prog [(7, Klaws_szItemS n), (9, Klaws_toItemS n), (12, Kspec_CutItems n), (13, Kimpl_CutItems n), (11, Klaws_eqItemS n), (14, Klaws_markItemS n), (15, Klaws_heldItemS n)] := ⟨oklaws_szItemS n, ⟨oklaws_toItemS n, ⟨okspec_CutItems n, ⟨okimpl_CutItems n, ⟨oklaws_eqItemS n, ⟨oklaws_markItemS n, ⟨oklaws_heldItemS n, trivial⟩⟩⟩⟩⟩⟩⟩
@[reducible] def Slaws_FnExactCutItems : PkS := ⟨[.one (.ro (.pr (.int .i64) (.int .i64))), .one (.int .i64)], []⟩
@[reducible] def Tlaws_FnExactCutItems : PkS := ⟨[.one (.bool), .one (.dead), .one (.dead)], []⟩
def Hlaws_FnExactCutItems : List Sh := [.one .any, .skip, .skip]
def Klaws_FnExactCutItems (n : Nat) : KPs := fun R p k => match (PkS.un Slaws_FnExactCutItems p : Option ((List (Int × Int)) × Int × Unit)) with
  | some (x0, x1, _) => laws_FnExactCutItems n x0 x1 (fun r0 => k (PkS.pack Tlaws_FnExactCutItems (r0, ())))
  | none => none
theorem elaws_FnExactCutItems {R : Type} (n : Nat) (x0 : List (Int × Int)) (x1 : Int) (k : Pk → Option R) : evF tt sig (mkK [(7, Klaws_szItemS n), (9, Klaws_toItemS n), (12, Kspec_CutItems n), (13, Kimpl_CutItems n), (11, Klaws_eqItemS n), (14, Klaws_markItemS n), (15, Klaws_heldItemS n)] R) (mkL (mkK [(7, Klaws_szItemS n), (9, Klaws_toItemS n), (12, Kspec_CutItems n), (13, Kimpl_CutItems n), (11, Klaws_eqItemS n), (14, Klaws_markItemS n), (15, Klaws_heldItemS n)]) [] R) Try.f4 Hlaws_FnExactCutItems (PkS.pack Slaws_FnExactCutItems (x0, x1, ())) k = laws_FnExactCutItems n x0 x1 (fun r0 => k (PkS.pack Tlaws_FnExactCutItems (r0, ()))) := by kernel_rfl
theorem oklaws_FnExactCutItems (n : Nat) : FnOk Try.prog 4 (Klaws_FnExactCutItems n) := by
  refine fn_ok (sig := sig) mixed ttok (mkK_nat (claws_FnExactCutItems n)) (mkK_ok (claws_FnExactCutItems n)) (mkL_nat (mkK_nat (claws_FnExactCutItems n)) (l := []) trivial) (fn := Try.f4) (c := bodyOf Try.f4) (by kernel_rfl) (by kernel_rfl) (by kernel_rfl) (.eq (l := []) (by kernel_rfl) trivial) (shs := Hlaws_FnExactCutItems) (S := Slaws_FnExactCutItems) fun R p k => ?_
  unfold Klaws_FnExactCutItems
  cases h : (PkS.un Slaws_FnExactCutItems p) with
  | none => rfl
  | some d =>
    obtain ⟨x0, x1, u⟩ := (d : (List (Int × Int)) × Int × Unit)
    have hp := PkS.un_pack h
    subst hp
    exact (elaws_FnExactCutItems n x0 x1 k).symm
end Go.Am.G
