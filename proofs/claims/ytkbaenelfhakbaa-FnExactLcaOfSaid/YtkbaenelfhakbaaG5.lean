/- The code of the functions that the law reaches does what the plain functions say. -/
import Derived.Test.YtkbaenelfhakbaaF5
import Derived.Test.YtkbaenelfhakbaaAmB
import Derived.KernelRfl
import Derived.Test.YtkbaenelfhakbaaProg
set_option linter.unusedVariables false
set_option maxRecDepth 100000
namespace Go.Am.G
open Go Go.Am
open Go.Proofs
def tt : TT := [(3, ⟨1, false, (.int .i64), 0, [], [.int .i64 0], 8, true, false, []⟩), (4, ⟨1, false, .bool, 0, [], [.bool false], 1, true, false, []⟩), (22, ⟨1, false, (.sl (.pr (.int .i64) (.int .i64))), 50, [], [.nil], 24, true, true, []⟩), (26, ⟨1, false, (.sl (.pr (.int .i64) (.int .i64))), 35, [], [.nil], 24, true, true, []⟩), (35, ⟨2, true, (.pr (.int .i64) (.int .i64)), 0, [(0, 1, false), (1, 1, false)], [.int .i64 0, .int .i64 0], 16, true, false, [(.int .i64), (.int .i64)]⟩), (50, ⟨2, true, (.pr (.int .i64) (.int .i64)), 0, [(0, 1, false), (1, 1, false)], [.int .i64 0, .int .i64 0], 16, true, false, [(.int .i64), (.int .i64)]⟩)]
def sig : Sig := sigOf [(5, [.one (.ro (.pr (.int .i64) (.int .i64))), .one (.ro (.pr (.int .i64) (.int .i64)))]), (7, [.one (.ro (.pr (.int .i64) (.int .i64))), .one .any]), (9, [.one (.ro (.pr (.int .i64) (.int .i64)))]), (11, [.one (.ro (.pr (.int .i64) (.int .i64))), .one (.ro (.pr (.int .i64) (.int .i64)))]), (16, [.one (.ro (.pr (.int .i64) (.int .i64))), .one (.ro (.pr (.int .i64) (.int .i64)))]), (17, [.one (.ro (.pr (.int .i64) (.int .i64))), .one (.ro (.pr (.int .i64) (.int .i64)))]), (18, [.agg [.any, .any], .agg [.any, .any]]), (22, [.one (.ro (.pr (.int .i64) (.int .i64)))]), (23, [.one (.ro (.pr (.int .i64) (.int .i64)))]), (26, [.one (.ro (.pr (.int .i64) (.int .i64))), .one (.ro (.pr (.int .i64) (.int .i64)))]), (27, [.one (.ro (.pr (.int .i64) (.int .i64)))]), (28, [.agg [.any, .any]]), (29, [.one (.ro (.pr (.int .i64) (.int .i64))), .one (.ro (.pr (.int .i64) (.int .i64)))]), (30, [.one (.ro (.pr (.int .i64) (.int .i64)))]), (31, [.one .any, .one .any, .one .any]), (33, [.one .any, .one .any, .one .any]), (34, [.one (.ro (.pr (.int .i64) (.int .i64))), .one .any]), (35, [.one (.ro (.pr (.int .i64) (.int .i64))), .one .any]), (38, [.one .any]), (39, [.one (.ro (.pr (.int .i64) (.int .i64))), .fn 40 [[.any]]]), (40, [.agg [.any, .any], .box [.any]])]
theorem ttok : TTok Try.prog tt := .of_chk (by kernel_rfl)
theorem mixed : Try.prog.follows .mixedOrders = true := by kernel_rfl

/-! ### loop.example/g00269/laws.szItemS -/
theorem claws_szItemS (n : Nat) : AllOk Try.prog [] := trivial
@[reducible] def Slaws_szItemS : PkS := ⟨[.one (.ro (.pr (.int .i64) (.int .i64))), .one (.int .i64)], []⟩
@[reducible] def Tlaws_szItemS : PkS := ⟨[.one (.int .i64), .one (.dead), .one (.dead)], []⟩
def Hlaws_szItemS : List Sh := [.one .any, .skip, .skip]
def Klaws_szItemS (n : Nat) : KPs := fun R p k => match (PkS.un Slaws_szItemS p : Option ((List (Int × Int)) × Int × Unit)) with
  | some (x0, x1, _) => laws_szItemS n x0 x1 (fun r0 => k (PkS.pack Tlaws_szItemS (r0, ())))
  | none => none
theorem elaws_szItemS {R : Type} (n : Nat) (x0 : List (Int × Int)) (x1 : Int) (k : Pk → Option R) : evF tt sig (mkK [] R) (mkL (mkK []) [] R) Try.f7 Hlaws_szItemS (PkS.pack Slaws_szItemS (x0, x1, ())) k = laws_szItemS n x0 x1 (fun r0 => k (PkS.pack Tlaws_szItemS (r0, ()))) := by kernel_rfl
theorem oklaws_szItemS (n : Nat) : FnOk Try.prog 7 (Klaws_szItemS n) := by
  refine fn_ok (sig := sig) mixed ttok (mkK_nat (claws_szItemS n)) (mkK_ok (claws_szItemS n)) (mkL_nat (mkK_nat (claws_szItemS n)) (l := []) trivial) (fn := Try.f7) (c := bodyOf Try.f7) (by kernel_rfl) (by kernel_rfl) (by kernel_rfl) (.eq (l := []) (by kernel_rfl) trivial) (shs := Hlaws_szItemS) (S := Slaws_szItemS) fun R p k => ?_
  unfold Klaws_szItemS
  cases h : (PkS.un Slaws_szItemS p) with
  | none => rfl
  | some d =>
    obtain ⟨x0, x1, u⟩ := (d : (List (Int × Int)) × Int × Unit)
    have hp := PkS.un_pack h
    subst hp
    exact (elaws_szItemS n x0 x1 k).symm

/-! ### loop.example/g00269/laws.toItem -/
theorem claws_toItem (n : Nat) : AllOk Try.prog [] := trivial
@[reducible] def Slaws_toItem : PkS := ⟨[.agg [.int .i64, .int .i64]], []⟩
@[reducible] def Tlaws_toItem : PkS := ⟨[.agg [.int .i64, .int .i64], .one (.dead)], []⟩
def Hlaws_toItem : List Sh := [.agg [.any, .any], .skip]
def Klaws_toItem (n : Nat) : KPs := fun R p k => match (PkS.un Slaws_toItem p : Option (Int × Int × Unit)) with
  | some (x0, x1, _) => laws_toItem n x0 x1 (fun r0 r1 => k (PkS.pack Tlaws_toItem (r0, r1, ())))
  | none => none
theorem elaws_toItem {R : Type} (n : Nat) (x0 : Int) (x1 : Int) (k : Pk → Option R) : evF tt sig (mkK [] R) (mkL (mkK []) [] R) Try.f28 Hlaws_toItem (PkS.pack Slaws_toItem (x0, x1, ())) k = laws_toItem n x0 x1 (fun r0 r1 => k (PkS.pack Tlaws_toItem (r0, r1, ()))) := by kernel_rfl
theorem oklaws_toItem (n : Nat) : FnOk Try.prog 28 (Klaws_toItem n) := by
  refine fn_ok (sig := sig) mixed ttok (mkK_nat (claws_toItem n)) (mkK_ok (claws_toItem n)) (mkL_nat (mkK_nat (claws_toItem n)) (l := []) trivial) (fn := Try.f28) (c := bodyOf Try.f28) (by kernel_rfl) (by kernel_rfl) (by kernel_rfl) (.eq (l := []) (by kernel_rfl) trivial) (shs := Hlaws_toItem) (S := Slaws_toItem) fun R p k => ?_
  unfold Klaws_toItem
  cases h : (PkS.un Slaws_toItem p) with
  | none => rfl
  | some d =>
    obtain ⟨x0, x1, u⟩ := (d : Int × Int × Unit)
    have hp := PkS.un_pack h
    subst hp
    exact (elaws_toItem n x0 x1 k).symm

/-! ### loop.example/g00269/laws.toItemS -/
theorem claws_toItemS (n : Nat) : AllOk Try.prog [(28, Klaws_toItem n)] := ⟨oklaws_toItem n, trivial⟩
@[reducible] def Slaws_toItemS_l3 : PkS := ⟨[.one (.ro (.pr (.int .i64) (.int .i64))), .one (.whole (100000, 0)), .one (.int .i64), .one (.dead)], [((100000, 0), .arr (.pr (.int .i64) (.int .i64)))]⟩
@[reducible] def Tlaws_toItemS_l3_0 : PkS := ⟨[.one (.whole (100000, 0)), .one (.dead)], [((100000, 0), .arr (.pr (.int .i64) (.int .i64)))]⟩
def Dlaws_toItemS_l3 : LoopD := ⟨23, [0, 3, 4], [.one (.ro (.pr (.int .i64) (.int .i64))), .one (.own (.pr (.int .i64) (.int .i64))), .one .any, .skip], fun x => match x with
  | .exit 0 => some ([3], [.one (.own (.pr (.int .i64) (.int .i64))), .skip])
  | _ => none⟩
def Plaws_toItemS_l3 (n : Nat) : LPs := fun R q kk => match (PkS.un Slaws_toItemS_l3 q : Option ((List (Int × Int)) × Int × (List (Int × Int)) × Unit)) with
  | some (y3_0, y3_1, y3_2, _) => laws_toItemS_l3 n y3_0 y3_1 y3_2 (fun r0 => kk (.exit 0) (PkS.pack Tlaws_toItemS_l3_0 (r0, ())))
  | none => none
theorem elaws_toItemS_l3 {R : Type} (n : Nat) (y3_0 : List (Int × Int)) (y3_1 : Int) (y3_2 : List (Int × Int)) (kk : Ex → Pk → Option R) : Dlaws_toItemS_l3.step tt sig (mkK [(28, Klaws_toItem n)] R) (mkL (mkK [(28, Klaws_toItem n)]) [] R) (loopIn 3 (bodyOf Try.f9)) (fun q' => Plaws_toItemS_l3 n R q' kk) (PkS.pack Slaws_toItemS_l3 (y3_0, y3_1, y3_2, ())) kk = laws_toItemS_l3 (n + 1) y3_0 y3_1 y3_2 (fun r0 => kk (.exit 0) (PkS.pack Tlaws_toItemS_l3_0 (r0, ()))) := by kernel_rfl
theorem lelaws_toItemS_l3 : LoopEq tt sig (fun n => mkK [(28, Klaws_toItem n)]) (fun n => mkL (mkK [(28, Klaws_toItem n)]) []) Dlaws_toItemS_l3 Slaws_toItemS_l3 (loopIn 3 (bodyOf Try.f9)) Plaws_toItemS_l3 where
  zero R q kk := by unfold Plaws_toItemS_l3; cases (PkS.un Slaws_toItemS_l3 q) <;> rfl
  succ n R q kk := by
    unfold Plaws_toItemS_l3
    cases h : (PkS.un Slaws_toItemS_l3 q) with
    | none => rfl
    | some d =>
      obtain ⟨y3_0, y3_1, y3_2, u⟩ := (d : (List (Int × Int)) × Int × (List (Int × Int)) × Unit)
      have hp := PkS.un_pack h
      subst hp
      exact (elaws_toItemS_l3 n y3_0 y3_1 y3_2 kk).symm
theorem nllaws_toItemS_l3 : ∀ n, NatLP (Plaws_toItemS_l3 n) := lelaws_toItemS_l3.nat (fun n => mkK_nat (claws_toItemS n)) fun n => mkL_nat (mkK_nat (claws_toItemS n)) (l := []) trivial
theorem inlaws_toItemS_l3 (n : Nat) (R : Type) : LoopsOk Try.prog (mkL (mkK [(28, Klaws_toItem n)]) [] R) (loopIn 3 (bodyOf Try.f9)) := .eq (l := []) (by kernel_rfl) trivial
theorem lklaws_toItemS_l3 (n : Nat) (R : Type) (L0 : LK R) (h0 : ∀ id, firstRegion (loopIn 3 (bodyOf Try.f9)) = some id → L0 id = Dlaws_toItemS_l3.oracle (mkK [(28, Klaws_toItem n)] R) (Plaws_toItemS_l3 n R)) : LoopOk Try.prog L0 (loopIn 3 (bodyOf Try.f9)) :=
  lelaws_toItemS_l3.ok mixed ttok (fun n => mkK_nat (claws_toItemS n)) (fun n => mkK_ok (claws_toItemS n)) (fun n => inlaws_toItemS_l3 n R) (mkK_nat (claws_toItemS n)) h0
@[reducible] def Slaws_toItemS : PkS := ⟨[.one (.ro (.pr (.int .i64) (.int .i64)))], []⟩
@[reducible] def Tlaws_toItemS : PkS := ⟨[.one (.whole (300000, 0)), .one (.dead)], [((300000, 0), .arr (.pr (.int .i64) (.int .i64)))]⟩
def Hlaws_toItemS : List Sh := [.one (.own (.pr (.int .i64) (.int .i64))), .skip]
def Klaws_toItemS (n : Nat) : KPs := fun R p k => match (PkS.un Slaws_toItemS p : Option ((List (Int × Int)) × Unit)) with
  | some (x0, _) => laws_toItemS n x0 (fun r0 => k (PkS.pack Tlaws_toItemS (r0, ())))
  | none => none
theorem elaws_toItemS {R : Type} (n : Nat) (x0 : List (Int × Int)) (k : Pk → Option R) : evF tt sig (mkK [(28, Klaws_toItem n)] R) (mkL (mkK [(28, Klaws_toItem n)]) [(3, Dlaws_toItemS_l3, Plaws_toItemS_l3 n)] R) Try.f9 Hlaws_toItemS (PkS.pack Slaws_toItemS (x0, ())) k = laws_toItemS n x0 (fun r0 => k (PkS.pack Tlaws_toItemS (r0, ()))) := by kernel_rfl
theorem oklaws_toItemS (n : Nat) : FnOk Try.prog 9 (Klaws_toItemS n) := by
  refine fn_ok (sig := sig) mixed ttok (mkK_nat (claws_toItemS n)) (mkK_ok (claws_toItemS n)) (mkL_nat (mkK_nat (claws_toItemS n)) (l := [(3, Dlaws_toItemS_l3, Plaws_toItemS_l3 n)]) ⟨nllaws_toItemS_l3 n, trivial⟩) (fn := Try.f9) (c := bodyOf Try.f9) (by kernel_rfl) (by kernel_rfl) (by kernel_rfl) (.eq (l := [loopIn 3 (bodyOf Try.f9)]) (by kernel_rfl) ⟨(lklaws_toItemS_l3 n _ _ (at_id (i := 3) (by kernel_rfl) rfl)), trivial⟩) (shs := Hlaws_toItemS) (S := Slaws_toItemS) fun R p k => ?_
  unfold Klaws_toItemS
  cases h : (PkS.un Slaws_toItemS p) with
  | none => rfl
  | some d =>
    obtain ⟨x0, u⟩ := (d : (List (Int × Int)) × Unit)
    have hp := PkS.un_pack h
    subst hp
    exact (elaws_toItemS n x0 k).symm

/-! ### loop.example/g00269/spec.l1In -/
theorem cspec_l1In (n : Nat) : AllOk Try.prog [] := trivial
@[reducible] def Sspec_l1In : PkS := ⟨[.one (.int .i64), .one (.int .i64), .one (.int .i64)], []⟩
@[reducible] def Tspec_l1In : PkS := ⟨[.one (.bool), .one (.dead), .one (.dead), .one (.dead)], []⟩
def Hspec_l1In : List Sh := [.one .any, .skip, .skip, .skip]
def Kspec_l1In (n : Nat) : KPs := fun R p k => match (PkS.un Sspec_l1In p : Option (Int × Int × Int × Unit)) with
  | some (x0, x1, x2, _) => spec_l1In n x0 x1 x2 (fun r0 => k (PkS.pack Tspec_l1In (r0, ())))
  | none => none
theorem espec_l1In {R : Type} (n : Nat) (x0 : Int) (x1 : Int) (x2 : Int) (k : Pk → Option R) : evF tt sig (mkK [] R) (mkL (mkK []) [] R) Try.f31 Hspec_l1In (PkS.pack Sspec_l1In (x0, x1, x2, ())) k = spec_l1In n x0 x1 x2 (fun r0 => k (PkS.pack Tspec_l1In (r0, ()))) := by kernel_rfl
theorem okspec_l1In (n : Nat) : FnOk Try.prog 31 (Kspec_l1In n) := by
  refine fn_ok (sig := sig) mixed ttok (mkK_nat (cspec_l1In n)) (mkK_ok (cspec_l1In n)) (mkL_nat (mkK_nat (cspec_l1In n)) (l := []) trivial) (fn := Try.f31) (c := bodyOf Try.f31) (by kernel_rfl) (by kernel_rfl) (by kernel_rfl) (.eq (l := []) (by kernel_rfl) trivial) (shs := Hspec_l1In) (S := Sspec_l1In) fun R p k => ?_
  unfold Kspec_l1In
  cases h : (PkS.un Sspec_l1In p) with
  | none => rfl
  | some d =>
    obtain ⟨x0, x1, x2, u⟩ := (d : Int × Int × Int × Unit)
    have hp := PkS.un_pack h
    subst hp
    exact (espec_l1In n x0 x1 x2 k).symm

/-! ### loop.example/g00269/spec.GoodItems -/
theorem cspec_GoodItems (n : Nat) : AllOk Try.prog [(31, Kspec_l1In n)] := ⟨okspec_l1In n, trivial⟩
@[reducible] def Sspec_GoodItems_l2 : PkS := ⟨[.one (.ro (.pr (.int .i64) (.int .i64))), .one (.ro (.pr (.int .i64) (.int .i64))), .one (.int .i64), .one (.int .i64), .one (.dead)], []⟩
@[reducible] def Tspec_GoodItems_l2_0 : PkS := ⟨[.one (.bool), .one (.dead)], []⟩
@[reducible] def Tspec_GoodItems_l2_1 : PkS := ⟨[.one (.ro (.pr (.int .i64) (.int .i64))), .one (.dead)], []⟩
def Dspec_GoodItems_l2 : LoopD := ⟨52, [0, 5, 6, 7], [.one (.ro (.pr (.int .i64) (.int .i64))), .one (.ro (.pr (.int .i64) (.int .i64))), .one .any, .one .any, .skip], fun x => match x with
  | .ret => some ([2], [.one .any, .skip])
  | .exit 0 => some ([0], [.one (.ro (.pr (.int .i64) (.int .i64))), .skip])
  | _ => none⟩
def Pspec_GoodItems_l2 (n : Nat) : LPs := fun R q kk => match (PkS.un Sspec_GoodItems_l2 q : Option ((List (Int × Int)) × (List (Int × Int)) × Int × Int × Unit)) with
  | some (y2_0, y2_1, y2_2, y2_3, _) => spec_GoodItems_l2 n y2_0 y2_1 y2_2 y2_3 (fun r0 => kk .ret (PkS.pack Tspec_GoodItems_l2_0 (r0, ()))) (fun r0 => kk (.exit 0) (PkS.pack Tspec_GoodItems_l2_1 (r0, ())))
  | none => none
theorem espec_GoodItems_l2 {R : Type} (n : Nat) (y2_0 : List (Int × Int)) (y2_1 : List (Int × Int)) (y2_2 : Int) (y2_3 : Int) (kk : Ex → Pk → Option R) : Dspec_GoodItems_l2.step tt sig (mkK [(31, Kspec_l1In n)] R) (mkL (mkK [(31, Kspec_l1In n)]) [] R) (loopIn 2 (bodyOf Try.f23)) (fun q' => Pspec_GoodItems_l2 n R q' kk) (PkS.pack Sspec_GoodItems_l2 (y2_0, y2_1, y2_2, y2_3, ())) kk = spec_GoodItems_l2 (n + 1) y2_0 y2_1 y2_2 y2_3 (fun r0 => kk .ret (PkS.pack Tspec_GoodItems_l2_0 (r0, ()))) (fun r0 => kk (.exit 0) (PkS.pack Tspec_GoodItems_l2_1 (r0, ()))) := by kernel_rfl
theorem lespec_GoodItems_l2 : LoopEq tt sig (fun n => mkK [(31, Kspec_l1In n)]) (fun n => mkL (mkK [(31, Kspec_l1In n)]) []) Dspec_GoodItems_l2 Sspec_GoodItems_l2 (loopIn 2 (bodyOf Try.f23)) Pspec_GoodItems_l2 where
  zero R q kk := by unfold Pspec_GoodItems_l2; cases (PkS.un Sspec_GoodItems_l2 q) <;> rfl
  succ n R q kk := by
    unfold Pspec_GoodItems_l2
    cases h : (PkS.un Sspec_GoodItems_l2 q) with
    | none => rfl
    | some d =>
      obtain ⟨y2_0, y2_1, y2_2, y2_3, u⟩ := (d : (List (Int × Int)) × (List (Int × Int)) × Int × Int × Unit)
      have hp := PkS.un_pack h
      subst hp
      exact (espec_GoodItems_l2 n y2_0 y2_1 y2_2 y2_3 kk).symm
theorem nlspec_GoodItems_l2 : ∀ n, NatLP (Pspec_GoodItems_l2 n) := lespec_GoodItems_l2.nat (fun n => mkK_nat (cspec_GoodItems n)) fun n => mkL_nat (mkK_nat (cspec_GoodItems n)) (l := []) trivial
theorem inspec_GoodItems_l2 (n : Nat) (R : Type) : LoopsOk Try.prog (mkL (mkK [(31, Kspec_l1In n)]) [] R) (loopIn 2 (bodyOf Try.f23)) := .eq (l := []) (by kernel_rfl) trivial
theorem lkspec_GoodItems_l2 (n : Nat) (R : Type) (L0 : LK R) (h0 : ∀ id, firstRegion (loopIn 2 (bodyOf Try.f23)) = some id → L0 id = Dspec_GoodItems_l2.oracle (mkK [(31, Kspec_l1In n)] R) (Pspec_GoodItems_l2 n R)) : LoopOk Try.prog L0 (loopIn 2 (bodyOf Try.f23)) :=
  lespec_GoodItems_l2.ok mixed ttok (fun n => mkK_nat (cspec_GoodItems n)) (fun n => mkK_ok (cspec_GoodItems n)) (fun n => inspec_GoodItems_l2 n R) (mkK_nat (cspec_GoodItems n)) h0
@[reducible] def Sspec_GoodItems : PkS := ⟨[.one (.ro (.pr (.int .i64) (.int .i64)))], []⟩
@[reducible] def Tspec_GoodItems : PkS := ⟨[.one (.bool), .one (.dead)], []⟩
def Hspec_GoodItems : List Sh := [.one .any, .skip]
def Kspec_GoodItems (n : Nat) : KPs := fun R p k => match (PkS.un Sspec_GoodItems p : Option ((List (Int × Int)) × Unit)) with
  | some (x0, _) => spec_GoodItems n x0 (fun r0 => k (PkS.pack Tspec_GoodItems (r0, ())))
  | none => none
theorem espec_GoodItems {R : Type} (n : Nat) (x0 : List (Int × Int)) (k : Pk → Option R) : evF tt sig (mkK [(31, Kspec_l1In n)] R) (mkL (mkK [(31, Kspec_l1In n)]) [(2, Dspec_GoodItems_l2, Pspec_GoodItems_l2 n)] R) Try.f23 Hspec_GoodItems (PkS.pack Sspec_GoodItems (x0, ())) k = spec_GoodItems n x0 (fun r0 => k (PkS.pack Tspec_GoodItems (r0, ()))) := by kernel_rfl
theorem okspec_GoodItems (n : Nat) : FnOk Try.prog 23 (Kspec_GoodItems n) := by
  refine fn_ok (sig := sig) mixed ttok (mkK_nat (cspec_GoodItems n)) (mkK_ok (cspec_GoodItems n)) (mkL_nat (mkK_nat (cspec_GoodItems n)) (l := [(2, Dspec_GoodItems_l2, Pspec_GoodItems_l2 n)]) ⟨nlspec_GoodItems_l2 n, trivial⟩) (fn := Try.f23) (c := bodyOf Try.f23) (by kernel_rfl) (by kernel_rfl) (by kernel_rfl) (.eq (l := [loopIn 2 (bodyOf Try.f23)]) (by kernel_rfl) ⟨(lkspec_GoodItems_l2 n _ _ (at_id (i := 2) (by kernel_rfl) rfl)), trivial⟩) (shs := Hspec_GoodItems) (S := Sspec_GoodItems) fun R p k => ?_
  unfold Kspec_GoodItems
  cases h : (PkS.un Sspec_GoodItems p) with
  | none => rfl
  | some d =>
    obtain ⟨x0, u⟩ := (d : (List (Int × Int)) × Unit)
    have hp := PkS.un_pack h
    subst hp
    exact (espec_GoodItems n x0 k).symm

/-! ### loop.example/g00269/spec.l11Last -/
theorem cspec_l11Last (n : Nat) : AllOk Try.prog [] := trivial
@[reducible] def Sspec_l11Last : PkS := ⟨[.one (.ro (.pr (.int .i64) (.int .i64)))], []⟩
@[reducible] def Tspec_l11Last : PkS := ⟨[.one (.int .i64), .one (.dead)], []⟩
def Hspec_l11Last : List Sh := [.one .any, .skip]
def Kspec_l11Last (n : Nat) : KPs := fun R p k => match (PkS.un Sspec_l11Last p : Option ((List (Int × Int)) × Unit)) with
  | some (x0, _) => spec_l11Last n x0 (fun r0 => k (PkS.pack Tspec_l11Last (r0, ())))
  | none => none
theorem espec_l11Last {R : Type} (n : Nat) (x0 : List (Int × Int)) (k : Pk → Option R) : evF tt sig (mkK [] R) (mkL (mkK []) [] R) Try.f27 Hspec_l11Last (PkS.pack Sspec_l11Last (x0, ())) k = spec_l11Last n x0 (fun r0 => k (PkS.pack Tspec_l11Last (r0, ()))) := by kernel_rfl
theorem okspec_l11Last (n : Nat) : FnOk Try.prog 27 (Kspec_l11Last n) := by
  refine fn_ok (sig := sig) mixed ttok (mkK_nat (cspec_l11Last n)) (mkK_ok (cspec_l11Last n)) (mkL_nat (mkK_nat (cspec_l11Last n)) (l := []) trivial) (fn := Try.f27) (c := bodyOf Try.f27) (by kernel_rfl) (by kernel_rfl) (by kernel_rfl) (.eq (l := []) (by kernel_rfl) trivial) (shs := Hspec_l11Last) (S := Sspec_l11Last) fun R p k => ?_
  unfold Kspec_l11Last
  cases h : (PkS.un Sspec_l11Last p) with
  | none => rfl
  | some d =>
    obtain ⟨x0, u⟩ := (d : (List (Int × Int)) × Unit)
    have hp := PkS.un_pack h
    subst hp
    exact (espec_l11Last n x0 k).symm

/-! ### loop.example/g00269/spec.l11At -/
theorem cspec_l11At (n : Nat) : AllOk Try.prog [] := trivial
@[reducible] def Sspec_l11At_l2 : PkS := ⟨[.one (.int .i64), .one (.ro (.pr (.int .i64) (.int .i64))), .one (.int .i64), .one (.int .i64), .one (.dead), .one (.dead)], []⟩
@[reducible] def Tspec_l11At_l2_0 : PkS := ⟨[.one (.int .i64), .one (.dead), .one (.dead)], []⟩
@[reducible] def Tspec_l11At_l2_1 : PkS := ⟨[.one (.dead), .one (.dead)], []⟩
def Dspec_l11At_l2 : LoopD := ⟨20, [1, 7, 8, 9], [.one .any, .one (.ro (.pr (.int .i64) (.int .i64))), .one .any, .one .any, .skip, .skip], fun x => match x with
  | .ret => some ([4], [.one .any, .skip, .skip])
  | .exit 0 => some ([], [.skip, .skip])
  | _ => none⟩
def Pspec_l11At_l2 (n : Nat) : LPs := fun R q kk => match (PkS.un Sspec_l11At_l2 q : Option (Int × (List (Int × Int)) × Int × Int × Unit)) with
  | some (y2_0, y2_1, y2_2, y2_3, _) => spec_l11At_l2 n y2_0 y2_1 y2_2 y2_3 (fun r0 => kk .ret (PkS.pack Tspec_l11At_l2_0 (r0, ()))) (kk (.exit 0) (PkS.pack Tspec_l11At_l2_1 ()))
  | none => none
theorem espec_l11At_l2 {R : Type} (n : Nat) (y2_0 : Int) (y2_1 : List (Int × Int)) (y2_2 : Int) (y2_3 : Int) (kk : Ex → Pk → Option R) : Dspec_l11At_l2.step tt sig (mkK [] R) (mkL (mkK []) [] R) (loopIn 2 (bodyOf Try.f34)) (fun q' => Pspec_l11At_l2 n R q' kk) (PkS.pack Sspec_l11At_l2 (y2_0, y2_1, y2_2, y2_3, ())) kk = spec_l11At_l2 (n + 1) y2_0 y2_1 y2_2 y2_3 (fun r0 => kk .ret (PkS.pack Tspec_l11At_l2_0 (r0, ()))) (kk (.exit 0) (PkS.pack Tspec_l11At_l2_1 ())) := by kernel_rfl
theorem lespec_l11At_l2 : LoopEq tt sig (fun n => mkK []) (fun n => mkL (mkK []) []) Dspec_l11At_l2 Sspec_l11At_l2 (loopIn 2 (bodyOf Try.f34)) Pspec_l11At_l2 where
  zero R q kk := by unfold Pspec_l11At_l2; cases (PkS.un Sspec_l11At_l2 q) <;> rfl
  succ n R q kk := by
    unfold Pspec_l11At_l2
    cases h : (PkS.un Sspec_l11At_l2 q) with
    | none => rfl
    | some d =>
      obtain ⟨y2_0, y2_1, y2_2, y2_3, u⟩ := (d : Int × (List (Int × Int)) × Int × Int × Unit)
      have hp := PkS.un_pack h
      subst hp
      exact (espec_l11At_l2 n y2_0 y2_1 y2_2 y2_3 kk).symm
theorem nlspec_l11At_l2 : ∀ n, NatLP (Pspec_l11At_l2 n) := lespec_l11At_l2.nat (fun n => mkK_nat (cspec_l11At n)) fun n => mkL_nat (mkK_nat (cspec_l11At n)) (l := []) trivial
theorem inspec_l11At_l2 (n : Nat) (R : Type) : LoopsOk Try.prog (mkL (mkK []) [] R) (loopIn 2 (bodyOf Try.f34)) := .eq (l := []) (by kernel_rfl) trivial
theorem lkspec_l11At_l2 (n : Nat) (R : Type) (L0 : LK R) (h0 : ∀ id, firstRegion (loopIn 2 (bodyOf Try.f34)) = some id → L0 id = Dspec_l11At_l2.oracle (mkK [] R) (Pspec_l11At_l2 n R)) : LoopOk Try.prog L0 (loopIn 2 (bodyOf Try.f34)) :=
  lespec_l11At_l2.ok mixed ttok (fun n => mkK_nat (cspec_l11At n)) (fun n => mkK_ok (cspec_l11At n)) (fun n => inspec_l11At_l2 n R) (mkK_nat (cspec_l11At n)) h0
@[reducible] def Sspec_l11At : PkS := ⟨[.one (.ro (.pr (.int .i64) (.int .i64))), .one (.int .i64)], []⟩
@[reducible] def Tspec_l11At : PkS := ⟨[.one (.int .i64), .one (.dead), .one (.dead)], []⟩
def Hspec_l11At : List Sh := [.one .any, .skip, .skip]
def Kspec_l11At (n : Nat) : KPs := fun R p k => match (PkS.un Sspec_l11At p : Option ((List (Int × Int)) × Int × Unit)) with
  | some (x0, x1, _) => spec_l11At n x0 x1 (fun r0 => k (PkS.pack Tspec_l11At (r0, ())))
  | none => none
theorem espec_l11At {R : Type} (n : Nat) (x0 : List (Int × Int)) (x1 : Int) (k : Pk → Option R) : evF tt sig (mkK [] R) (mkL (mkK []) [(2, Dspec_l11At_l2, Pspec_l11At_l2 n)] R) Try.f34 Hspec_l11At (PkS.pack Sspec_l11At (x0, x1, ())) k = spec_l11At n x0 x1 (fun r0 => k (PkS.pack Tspec_l11At (r0, ()))) := by kernel_rfl
theorem okspec_l11At (n : Nat) : FnOk Try.prog 34 (Kspec_l11At n) := by
  refine fn_ok (sig := sig) mixed ttok (mkK_nat (cspec_l11At n)) (mkK_ok (cspec_l11At n)) (mkL_nat (mkK_nat (cspec_l11At n)) (l := [(2, Dspec_l11At_l2, Pspec_l11At_l2 n)]) ⟨nlspec_l11At_l2 n, trivial⟩) (fn := Try.f34) (c := bodyOf Try.f34) (by kernel_rfl) (by kernel_rfl) (by kernel_rfl) (.eq (l := [loopIn 2 (bodyOf Try.f34)]) (by kernel_rfl) ⟨(lkspec_l11At_l2 n _ _ (at_id (i := 2) (by kernel_rfl) rfl)), trivial⟩) (shs := Hspec_l11At) (S := Sspec_l11At) fun R p k => ?_
  unfold Kspec_l11At
  cases h : (PkS.un Sspec_l11At p) with
  | none => rfl
  | some d =>
    obtain ⟨x0, x1, u⟩ := (d : (List (Int × Int)) × Int × Unit)
    have hp := PkS.un_pack h
    subst hp
    exact (espec_l11At n x0 x1 k).symm

/-! ### loop.example/g00269/spec.l11Lca -/
theorem cspec_l11Lca (n : Nat) : AllOk Try.prog [(27, Kspec_l11Last n), (34, Kspec_l11At n)] := ⟨okspec_l11Last n, ⟨okspec_l11At n, trivial⟩⟩
@[reducible] def Sspec_l11Lca_l2 : PkS := ⟨[.one (.ro (.pr (.int .i64) (.int .i64))), .one (.ro (.pr (.int .i64) (.int .i64))), .one (.int .i64), .one (.dead), .one (.dead)], []⟩
@[reducible] def Tspec_l11Lca_l2_0 : PkS := ⟨[.one (.int .i64), .one (.dead), .one (.dead)], []⟩
def Dspec_l11Lca_l2 : LoopD := ⟨30, [0, 1, 5], [.one (.ro (.pr (.int .i64) (.int .i64))), .one (.ro (.pr (.int .i64) (.int .i64))), .one .any, .skip, .skip], fun x => match x with
  | .exit 0 => some ([5], [.one .any, .skip, .skip])
  | _ => none⟩
def Pspec_l11Lca_l2 (n : Nat) : LPs := fun R q kk => match (PkS.un Sspec_l11Lca_l2 q : Option ((List (Int × Int)) × (List (Int × Int)) × Int × Unit)) with
  | some (y2_0, y2_1, y2_2, _) => spec_l11Lca_l2 n y2_0 y2_1 y2_2 (fun r0 => kk (.exit 0) (PkS.pack Tspec_l11Lca_l2_0 (r0, ())))
  | none => none
theorem espec_l11Lca_l2 {R : Type} (n : Nat) (y2_0 : List (Int × Int)) (y2_1 : List (Int × Int)) (y2_2 : Int) (kk : Ex → Pk → Option R) : Dspec_l11Lca_l2.step tt sig (mkK [(27, Kspec_l11Last n), (34, Kspec_l11At n)] R) (mkL (mkK [(27, Kspec_l11Last n), (34, Kspec_l11At n)]) [] R) (loopIn 2 (bodyOf Try.f26)) (fun q' => Pspec_l11Lca_l2 n R q' kk) (PkS.pack Sspec_l11Lca_l2 (y2_0, y2_1, y2_2, ())) kk = spec_l11Lca_l2 (n + 1) y2_0 y2_1 y2_2 (fun r0 => kk (.exit 0) (PkS.pack Tspec_l11Lca_l2_0 (r0, ()))) := by kernel_rfl
theorem lespec_l11Lca_l2 : LoopEq tt sig (fun n => mkK [(27, Kspec_l11Last n), (34, Kspec_l11At n)]) (fun n => mkL (mkK [(27, Kspec_l11Last n), (34, Kspec_l11At n)]) []) Dspec_l11Lca_l2 Sspec_l11Lca_l2 (loopIn 2 (bodyOf Try.f26)) Pspec_l11Lca_l2 where
  zero R q kk := by unfold Pspec_l11Lca_l2; cases (PkS.un Sspec_l11Lca_l2 q) <;> rfl
  succ n R q kk := by
    unfold Pspec_l11Lca_l2
    cases h : (PkS.un Sspec_l11Lca_l2 q) with
    | none => rfl
    | some d =>
      obtain ⟨y2_0, y2_1, y2_2, u⟩ := (d : (List (Int × Int)) × (List (Int × Int)) × Int × Unit)
      have hp := PkS.un_pack h
      subst hp
      exact (espec_l11Lca_l2 n y2_0 y2_1 y2_2 kk).symm
theorem nlspec_l11Lca_l2 : ∀ n, NatLP (Pspec_l11Lca_l2 n) := lespec_l11Lca_l2.nat (fun n => mkK_nat (cspec_l11Lca n)) fun n => mkL_nat (mkK_nat (cspec_l11Lca n)) (l := []) trivial
theorem inspec_l11Lca_l2 (n : Nat) (R : Type) : LoopsOk Try.prog (mkL (mkK [(27, Kspec_l11Last n), (34, Kspec_l11At n)]) [] R) (loopIn 2 (bodyOf Try.f26)) := .eq (l := []) (by kernel_rfl) trivial
theorem lkspec_l11Lca_l2 (n : Nat) (R : Type) (L0 : LK R) (h0 : ∀ id, firstRegion (loopIn 2 (bodyOf Try.f26)) = some id → L0 id = Dspec_l11Lca_l2.oracle (mkK [(27, Kspec_l11Last n), (34, Kspec_l11At n)] R) (Pspec_l11Lca_l2 n R)) : LoopOk Try.prog L0 (loopIn 2 (bodyOf Try.f26)) :=
  lespec_l11Lca_l2.ok mixed ttok (fun n => mkK_nat (cspec_l11Lca n)) (fun n => mkK_ok (cspec_l11Lca n)) (fun n => inspec_l11Lca_l2 n R) (mkK_nat (cspec_l11Lca n)) h0
@[reducible] def Sspec_l11Lca : PkS := ⟨[.one (.ro (.pr (.int .i64) (.int .i64))), .one (.ro (.pr (.int .i64) (.int .i64)))], []⟩
@[reducible] def Tspec_l11Lca : PkS := ⟨[.one (.int .i64), .one (.dead), .one (.dead)], []⟩
def Hspec_l11Lca : List Sh := [.one .any, .skip, .skip]
def Kspec_l11Lca (n : Nat) : KPs := fun R p k => match (PkS.un Sspec_l11Lca p : Option ((List (Int × Int)) × (List (Int × Int)) × Unit)) with
  | some (x0, x1, _) => spec_l11Lca n x0 x1 (fun r0 => k (PkS.pack Tspec_l11Lca (r0, ())))
  | none => none
theorem espec_l11Lca {R : Type} (n : Nat) (x0 : List (Int × Int)) (x1 : List (Int × Int)) (k : Pk → Option R) : evF tt sig (mkK [(27, Kspec_l11Last n), (34, Kspec_l11At n)] R) (mkL (mkK [(27, Kspec_l11Last n), (34, Kspec_l11At n)]) [(2, Dspec_l11Lca_l2, Pspec_l11Lca_l2 n)] R) Try.f26 Hspec_l11Lca (PkS.pack Sspec_l11Lca (x0, x1, ())) k = spec_l11Lca n x0 x1 (fun r0 => k (PkS.pack Tspec_l11Lca (r0, ()))) := by kernel_rfl
theorem okspec_l11Lca (n : Nat) : FnOk Try.prog 26 (Kspec_l11Lca n) := by
  refine fn_ok (sig := sig) mixed ttok (mkK_nat (cspec_l11Lca n)) (mkK_ok (cspec_l11Lca n)) (mkL_nat (mkK_nat (cspec_l11Lca n)) (l := [(2, Dspec_l11Lca_l2, Pspec_l11Lca_l2 n)]) ⟨nlspec_l11Lca_l2 n, trivial⟩) (fn := Try.f26) (c := bodyOf Try.f26) (by kernel_rfl) (by kernel_rfl) (by kernel_rfl) (.eq (l := [loopIn 2 (bodyOf Try.f26)]) (by kernel_rfl) ⟨(lkspec_l11Lca_l2 n _ _ (at_id (i := 2) (by kernel_rfl) rfl)), trivial⟩) (shs := Hspec_l11Lca) (S := Sspec_l11Lca) fun R p k => ?_
  unfold Kspec_l11Lca
  cases h : (PkS.un Sspec_l11Lca p) with
  | none => rfl
  | some d =>
    obtain ⟨x0, x1, u⟩ := (d : (List (Int × Int)) × (List (Int × Int)) × Unit)
    have hp := PkS.un_pack h
    subst hp
    exact (espec_l11Lca n x0 x1 k).symm

/-! ### loop.example/g00269/spec.LcaOf -/
theorem cspec_LcaOf (n : Nat) : AllOk Try.prog [(23, Kspec_GoodItems n), (26, Kspec_l11Lca n), (34, Kspec_l11At n)] := ⟨okspec_GoodItems n, ⟨okspec_l11Lca n, ⟨okspec_l11At n, trivial⟩⟩⟩
@[reducible] def Sspec_LcaOf : PkS := ⟨[.one (.ro (.pr (.int .i64) (.int .i64))), .one (.ro (.pr (.int .i64) (.int .i64)))], []⟩
@[reducible] def Tspec_LcaOf : PkS := ⟨[.tup [(true, [.int .i64, .int .i64]), (false, [.bool])], .one (.dead), .one (.dead)], []⟩
def Hspec_LcaOf : List Sh := [.tup [(true, [.any, .any]), (false, [.any])], .skip, .skip]
def Kspec_LcaOf (n : Nat) : KPs := fun R p k => match (PkS.un Sspec_LcaOf p : Option ((List (Int × Int)) × (List (Int × Int)) × Unit)) with
  | some (x0, x1, _) => spec_LcaOf n x0 x1 (fun r0 r1 r2 => k (PkS.pack Tspec_LcaOf (r0, r1, r2, ())))
  | none => none
theorem espec_LcaOf {R : Type} (n : Nat) (x0 : List (Int × Int)) (x1 : List (Int × Int)) (k : Pk → Option R) : evF tt sig (mkK [(23, Kspec_GoodItems n), (26, Kspec_l11Lca n), (34, Kspec_l11At n)] R) (mkL (mkK [(23, Kspec_GoodItems n), (26, Kspec_l11Lca n), (34, Kspec_l11At n)]) [] R) Try.f16 Hspec_LcaOf (PkS.pack Sspec_LcaOf (x0, x1, ())) k = spec_LcaOf n x0 x1 (fun r0 r1 r2 => k (PkS.pack Tspec_LcaOf (r0, r1, r2, ()))) := by kernel_rfl
theorem okspec_LcaOf (n : Nat) : FnOk Try.prog 16 (Kspec_LcaOf n) := by
  refine fn_ok (sig := sig) mixed ttok (mkK_nat (cspec_LcaOf n)) (mkK_ok (cspec_LcaOf n)) (mkL_nat (mkK_nat (cspec_LcaOf n)) (l := []) trivial) (fn := Try.f16) (c := bodyOf Try.f16) (by kernel_rfl) (by kernel_rfl) (by kernel_rfl) (.eq (l := []) (by kernel_rfl) trivial) (shs := Hspec_LcaOf) (S := Sspec_LcaOf) fun R p k => ?_
  unfold Kspec_LcaOf
  cases h : (PkS.un Sspec_LcaOf p) with
  | none => rfl
  | some d =>
    obtain ⟨x0, x1, u⟩ := (d : (List (Int × Int)) × (List (Int × Int)) × Unit)
    have hp := PkS.un_pack h
    subst hp
    exact (espec_LcaOf n x0 x1 k).symm

/-! ### loop.example/g00269/impl.in -/
theorem cimpl_in (n : Nat) : AllOk Try.prog [] := trivial
@[reducible] def Simpl_in : PkS := ⟨[.one (.int .i64), .one (.int .i64), .one (.int .i64)], []⟩
@[reducible] def Timpl_in : PkS := ⟨[.one (.bool), .one (.dead), .one (.dead), .one (.dead)], []⟩
def Himpl_in : List Sh := [.one .any, .skip, .skip, .skip]
def Kimpl_in (n : Nat) : KPs := fun R p k => match (PkS.un Simpl_in p : Option (Int × Int × Int × Unit)) with
  | some (x0, x1, x2, _) => impl_in n x0 x1 x2 (fun r0 => k (PkS.pack Timpl_in (r0, ())))
  | none => none
theorem eimpl_in {R : Type} (n : Nat) (x0 : Int) (x1 : Int) (x2 : Int) (k : Pk → Option R) : evF tt sig (mkK [] R) (mkL (mkK []) [] R) Try.f33 Himpl_in (PkS.pack Simpl_in (x0, x1, x2, ())) k = impl_in n x0 x1 x2 (fun r0 => k (PkS.pack Timpl_in (r0, ()))) := by kernel_rfl
theorem okimpl_in (n : Nat) : FnOk Try.prog 33 (Kimpl_in n) := by
  refine fn_ok (sig := sig) mixed ttok (mkK_nat (cimpl_in n)) (mkK_ok (cimpl_in n)) (mkL_nat (mkK_nat (cimpl_in n)) (l := []) trivial) (fn := Try.f33) (c := bodyOf Try.f33) (by kernel_rfl) (by kernel_rfl) (by kernel_rfl) (.eq (l := []) (by kernel_rfl) trivial) (shs := Himpl_in) (S := Simpl_in) fun R p k => ?_
  unfold Kimpl_in
  cases h : (PkS.un Simpl_in p) with
  | none => rfl
  | some d =>
    obtain ⟨x0, x1, x2, u⟩ := (d : Int × Int × Int × Unit)
    have hp := PkS.un_pack h
    subst hp
    exact (eimpl_in n x0 x1 x2 k).symm

/-! ### loop.example/g00269/impl.isVersion -/
theorem cimpl_isVersion (n : Nat) : AllOk Try.prog [(33, Kimpl_in n)] := ⟨okimpl_in n, trivial⟩
@[reducible] def Simpl_isVersion : PkS := ⟨[.one (.int .i64)], []⟩
@[reducible] def Timpl_isVersion : PkS := ⟨[.one (.bool), .one (.dead)], []⟩
def Himpl_isVersion : List Sh := [.one .any, .skip]
def Kimpl_isVersion (n : Nat) : KPs := fun R p k => match (PkS.un Simpl_isVersion p : Option (Int × Unit)) with
  | some (x0, _) => impl_isVersion n x0 (fun r0 => k (PkS.pack Timpl_isVersion (r0, ())))
  | none => none
theorem eimpl_isVersion {R : Type} (n : Nat) (x0 : Int) (k : Pk → Option R) : evF tt sig (mkK [(33, Kimpl_in n)] R) (mkL (mkK [(33, Kimpl_in n)]) [] R) Try.f38 Himpl_isVersion (PkS.pack Simpl_isVersion (x0, ())) k = impl_isVersion n x0 (fun r0 => k (PkS.pack Timpl_isVersion (r0, ()))) := by kernel_rfl
theorem okimpl_isVersion (n : Nat) : FnOk Try.prog 38 (Kimpl_isVersion n) := by
  refine fn_ok (sig := sig) mixed ttok (mkK_nat (cimpl_isVersion n)) (mkK_ok (cimpl_isVersion n)) (mkL_nat (mkK_nat (cimpl_isVersion n)) (l := []) trivial) (fn := Try.f38) (c := bodyOf Try.f38) (by kernel_rfl) (by kernel_rfl) (by kernel_rfl) (.eq (l := []) (by kernel_rfl) trivial) (shs := Himpl_isVersion) (S := Simpl_isVersion) fun R p k => ?_
  unfold Kimpl_isVersion
  cases h : (PkS.un Simpl_isVersion p) with
  | none => rfl
  | some d =>
    obtain ⟨x0, u⟩ := (d : Int × Unit)
    have hp := PkS.un_pack h
    subst hp
    exact (eimpl_isVersion n x0 k).symm

/-! ### loop.example/g00269/impl.GoodItems -/
theorem cimpl_GoodItems (n : Nat) : AllOk Try.prog [(33, Kimpl_in n), (38, Kimpl_isVersion n)] := ⟨okimpl_in n, ⟨okimpl_isVersion n, trivial⟩⟩
@[reducible] def Simpl_GoodItems_l4 : PkS := ⟨[.one (.ro (.pr (.int .i64) (.int .i64))), .one (.ro (.pr (.int .i64) (.int .i64))), .one (.int .i64), .one (.int .i64), .one (.dead)], []⟩
@[reducible] def Timpl_GoodItems_l4_0 : PkS := ⟨[.one (.bool), .one (.dead)], []⟩
@[reducible] def Timpl_GoodItems_l4_1 : PkS := ⟨[.one (.dead)], []⟩
def Dimpl_GoodItems_l4 : LoopD := ⟨52, [0, 8, 9, 10], [.one (.ro (.pr (.int .i64) (.int .i64))), .one (.ro (.pr (.int .i64) (.int .i64))), .one .any, .one .any, .skip], fun x => match x with
  | .ret => some ([2], [.one .any, .skip])
  | .exit 0 => some ([], [.skip])
  | _ => none⟩
def Pimpl_GoodItems_l4 (n : Nat) : LPs := fun R q kk => match (PkS.un Simpl_GoodItems_l4 q : Option ((List (Int × Int)) × (List (Int × Int)) × Int × Int × Unit)) with
  | some (y4_0, y4_1, y4_2, y4_3, _) => impl_GoodItems_l4 n y4_0 y4_1 y4_2 y4_3 (fun r0 => kk .ret (PkS.pack Timpl_GoodItems_l4_0 (r0, ()))) (kk (.exit 0) (PkS.pack Timpl_GoodItems_l4_1 ()))
  | none => none
theorem eimpl_GoodItems_l4 {R : Type} (n : Nat) (y4_0 : List (Int × Int)) (y4_1 : List (Int × Int)) (y4_2 : Int) (y4_3 : Int) (kk : Ex → Pk → Option R) : Dimpl_GoodItems_l4.step tt sig (mkK [(33, Kimpl_in n), (38, Kimpl_isVersion n)] R) (mkL (mkK [(33, Kimpl_in n), (38, Kimpl_isVersion n)]) [] R) (loopIn 4 (bodyOf Try.f22)) (fun q' => Pimpl_GoodItems_l4 n R q' kk) (PkS.pack Simpl_GoodItems_l4 (y4_0, y4_1, y4_2, y4_3, ())) kk = impl_GoodItems_l4 (n + 1) y4_0 y4_1 y4_2 y4_3 (fun r0 => kk .ret (PkS.pack Timpl_GoodItems_l4_0 (r0, ()))) (kk (.exit 0) (PkS.pack Timpl_GoodItems_l4_1 ())) := by kernel_rfl
theorem leimpl_GoodItems_l4 : LoopEq tt sig (fun n => mkK [(33, Kimpl_in n), (38, Kimpl_isVersion n)]) (fun n => mkL (mkK [(33, Kimpl_in n), (38, Kimpl_isVersion n)]) []) Dimpl_GoodItems_l4 Simpl_GoodItems_l4 (loopIn 4 (bodyOf Try.f22)) Pimpl_GoodItems_l4 where
  zero R q kk := by unfold Pimpl_GoodItems_l4; cases (PkS.un Simpl_GoodItems_l4 q) <;> rfl
  succ n R q kk := by
    unfold Pimpl_GoodItems_l4
    cases h : (PkS.un Simpl_GoodItems_l4 q) with
    | none => rfl
    | some d =>
      obtain ⟨y4_0, y4_1, y4_2, y4_3, u⟩ := (d : (List (Int × Int)) × (List (Int × Int)) × Int × Int × Unit)
      have hp := PkS.un_pack h
      subst hp
      exact (eimpl_GoodItems_l4 n y4_0 y4_1 y4_2 y4_3 kk).symm
theorem nlimpl_GoodItems_l4 : ∀ n, NatLP (Pimpl_GoodItems_l4 n) := leimpl_GoodItems_l4.nat (fun n => mkK_nat (cimpl_GoodItems n)) fun n => mkL_nat (mkK_nat (cimpl_GoodItems n)) (l := []) trivial
theorem inimpl_GoodItems_l4 (n : Nat) (R : Type) : LoopsOk Try.prog (mkL (mkK [(33, Kimpl_in n), (38, Kimpl_isVersion n)]) [] R) (loopIn 4 (bodyOf Try.f22)) := .eq (l := []) (by kernel_rfl) trivial
theorem lkimpl_GoodItems_l4 (n : Nat) (R : Type) (L0 : LK R) (h0 : ∀ id, firstRegion (loopIn 4 (bodyOf Try.f22)) = some id → L0 id = Dimpl_GoodItems_l4.oracle (mkK [(33, Kimpl_in n), (38, Kimpl_isVersion n)] R) (Pimpl_GoodItems_l4 n R)) : LoopOk Try.prog L0 (loopIn 4 (bodyOf Try.f22)) :=
  leimpl_GoodItems_l4.ok mixed ttok (fun n => mkK_nat (cimpl_GoodItems n)) (fun n => mkK_ok (cimpl_GoodItems n)) (fun n => inimpl_GoodItems_l4 n R) (mkK_nat (cimpl_GoodItems n)) h0
@[reducible] def Simpl_GoodItems : PkS := ⟨[.one (.ro (.pr (.int .i64) (.int .i64)))], []⟩
@[reducible] def Timpl_GoodItems : PkS := ⟨[.one (.bool), .one (.dead)], []⟩
def Himpl_GoodItems : List Sh := [.one .any, .skip]
def Kimpl_GoodItems (n : Nat) : KPs := fun R p k => match (PkS.un Simpl_GoodItems p : Option ((List (Int × Int)) × Unit)) with
  | some (x0, _) => impl_GoodItems n x0 (fun r0 => k (PkS.pack Timpl_GoodItems (r0, ())))
  | none => none
theorem eimpl_GoodItems {R : Type} (n : Nat) (x0 : List (Int × Int)) (k : Pk → Option R) : evF tt sig (mkK [(33, Kimpl_in n), (38, Kimpl_isVersion n)] R) (mkL (mkK [(33, Kimpl_in n), (38, Kimpl_isVersion n)]) [(4, Dimpl_GoodItems_l4, Pimpl_GoodItems_l4 n)] R) Try.f22 Himpl_GoodItems (PkS.pack Simpl_GoodItems (x0, ())) k = impl_GoodItems n x0 (fun r0 => k (PkS.pack Timpl_GoodItems (r0, ()))) := by kernel_rfl
theorem okimpl_GoodItems (n : Nat) : FnOk Try.prog 22 (Kimpl_GoodItems n) := by
  refine fn_ok (sig := sig) mixed ttok (mkK_nat (cimpl_GoodItems n)) (mkK_ok (cimpl_GoodItems n)) (mkL_nat (mkK_nat (cimpl_GoodItems n)) (l := [(4, Dimpl_GoodItems_l4, Pimpl_GoodItems_l4 n)]) ⟨nlimpl_GoodItems_l4 n, trivial⟩) (fn := Try.f22) (c := bodyOf Try.f22) (by kernel_rfl) (by kernel_rfl) (by kernel_rfl) (.eq (l := [loopIn 4 (bodyOf Try.f22)]) (by kernel_rfl) ⟨(lkimpl_GoodItems_l4 n _ _ (at_id (i := 4) (by kernel_rfl) rfl)), trivial⟩) (shs := Himpl_GoodItems) (S := Simpl_GoodItems) fun R p k => ?_
  unfold Kimpl_GoodItems
  cases h : (PkS.un Simpl_GoodItems p) with
  | none => rfl
  | some d =>
    obtain ⟨x0, u⟩ := (d : (List (Int × Int)) × Unit)
    have hp := PkS.un_pack h
    subst hp
    exact (eimpl_GoodItems n x0 k).symm

/-! ### loop.example/g00269/impl.last -/
theorem cimpl_last (n : Nat) : AllOk Try.prog [] := trivial
@[reducible] def Simpl_last : PkS := ⟨[.one (.ro (.pr (.int .i64) (.int .i64)))], []⟩
@[reducible] def Timpl_last : PkS := ⟨[.one (.int .i64), .one (.dead)], []⟩
def Himpl_last : List Sh := [.one .any, .skip]
def Kimpl_last (n : Nat) : KPs := fun R p k => match (PkS.un Simpl_last p : Option ((List (Int × Int)) × Unit)) with
  | some (x0, _) => impl_last n x0 (fun r0 => k (PkS.pack Timpl_last (r0, ())))
  | none => none
theorem eimpl_last {R : Type} (n : Nat) (x0 : List (Int × Int)) (k : Pk → Option R) : evF tt sig (mkK [] R) (mkL (mkK []) [] R) Try.f30 Himpl_last (PkS.pack Simpl_last (x0, ())) k = impl_last n x0 (fun r0 => k (PkS.pack Timpl_last (r0, ()))) := by kernel_rfl
theorem okimpl_last (n : Nat) : FnOk Try.prog 30 (Kimpl_last n) := by
  refine fn_ok (sig := sig) mixed ttok (mkK_nat (cimpl_last n)) (mkK_ok (cimpl_last n)) (mkL_nat (mkK_nat (cimpl_last n)) (l := []) trivial) (fn := Try.f30) (c := bodyOf Try.f30) (by kernel_rfl) (by kernel_rfl) (by kernel_rfl) (.eq (l := []) (by kernel_rfl) trivial) (shs := Himpl_last) (S := Simpl_last) fun R p k => ?_
  unfold Kimpl_last
  cases h : (PkS.un Simpl_last p) with
  | none => rfl
  | some d =>
    obtain ⟨x0, u⟩ := (d : (List (Int × Int)) × Unit)
    have hp := PkS.un_pack h
    subst hp
    exact (eimpl_last n x0 k).symm

/-! ### loop.example/g00269/impl.versionAt$1 -/
theorem cimpl_versionAt_c1 (n : Nat) : AllOk Try.prog [] := trivial
@[reducible] def Simpl_versionAt_c1 : PkS := ⟨[.agg [.int .i64, .int .i64], .one (.box (200000, 0) 0)], [((200000, 0), .box [.int .i64])]⟩
@[reducible] def Timpl_versionAt_c1 : PkS := ⟨[.one (.bool), .one (.dead), .one (.box (300000, 0) 0)], [((300000, 0), .box [.int .i64])]⟩
def Himpl_versionAt_c1 : List Sh := [.one .any, .skip, .box [.any]]
def Kimpl_versionAt_c1 (n : Nat) : KPs := fun R p k => match (PkS.un Simpl_versionAt_c1 p : Option (Int × Int × Int × Unit)) with
  | some (x0, x1, x2, _) => impl_versionAt_c1 n x0 x1 x2 (fun r0 r1 => k (PkS.pack Timpl_versionAt_c1 (r0, r1, ())))
  | none => none
theorem eimpl_versionAt_c1 {R : Type} (n : Nat) (x0 : Int) (x1 : Int) (x2 : Int) (k : Pk → Option R) : evF tt sig (mkK [] R) (mkL (mkK []) [] R) Try.f40 Himpl_versionAt_c1 (PkS.pack Simpl_versionAt_c1 (x0, x1, x2, ())) k = impl_versionAt_c1 n x0 x1 x2 (fun r0 r1 => k (PkS.pack Timpl_versionAt_c1 (r0, r1, ()))) := by kernel_rfl
theorem okimpl_versionAt_c1 (n : Nat) : FnOk Try.prog 40 (Kimpl_versionAt_c1 n) := by
  refine fn_ok (sig := sig) mixed ttok (mkK_nat (cimpl_versionAt_c1 n)) (mkK_ok (cimpl_versionAt_c1 n)) (mkL_nat (mkK_nat (cimpl_versionAt_c1 n)) (l := []) trivial) (fn := Try.f40) (c := bodyOf Try.f40) (by kernel_rfl) (by kernel_rfl) (by kernel_rfl) (.eq (l := []) (by kernel_rfl) trivial) (shs := Himpl_versionAt_c1) (S := Simpl_versionAt_c1) fun R p k => ?_
  unfold Kimpl_versionAt_c1
  cases h : (PkS.un Simpl_versionAt_c1 p) with
  | none => rfl
  | some d =>
    obtain ⟨x0, x1, x2, u⟩ := (d : Int × Int × Int × Unit)
    have hp := PkS.un_pack h
    subst hp
    exact (eimpl_versionAt_c1 n x0 x1 x2 k).symm

/-! ### slices.IndexFunc[[]loop.example/g00269/impl.Item,loop.example/g00269/impl.Item] -/
theorem cslices_IndexFunc_impl_Item_impl_versionAt_c1 (n : Nat) : AllOk Try.prog [(40, Kimpl_versionAt_c1 n)] := ⟨okimpl_versionAt_c1 n, trivial⟩
@[reducible] def Sslices_IndexFunc_impl_Item_impl_versionAt_c1_l2 : PkS := ⟨[.one (.ro (.pr (.int .i64) (.int .i64))), .one (.fn 40 [((100000, 0), 0)]), .one (.int .i64), .one (.int .i64), .one (.dead), .one (.fn 40 [((100000, 0), 0)])], [((100000, 0), .box [.int .i64])]⟩
@[reducible] def Tslices_IndexFunc_impl_Item_impl_versionAt_c1_l2_0 : PkS := ⟨[.one (.int .i64), .one (.dead), .one (.fn 40 [((100000, 0), 0)])], [((100000, 0), .box [.int .i64])]⟩
@[reducible] def Tslices_IndexFunc_impl_Item_impl_versionAt_c1_l2_1 : PkS := ⟨[.one (.dead), .one (.fn 40 [((100000, 0), 0)])], [((100000, 0), .box [.int .i64])]⟩
def Dslices_IndexFunc_impl_Item_impl_versionAt_c1_l2 : LoopD := ⟨19, [0, 1, 7, 8], [.one (.ro (.pr (.int .i64) (.int .i64))), .fn 40 [[.any]], .one .any, .one .any, .skip, .fn 40 [[.any]]], fun x => match x with
  | .ret => some ([4], [.one .any, .skip, .fn 40 [[.any]]])
  | .exit 0 => some ([], [.skip, .fn 40 [[.any]]])
  | _ => none⟩
def Pslices_IndexFunc_impl_Item_impl_versionAt_c1_l2 (n : Nat) : LPs := fun R q kk => match (PkS.un Sslices_IndexFunc_impl_Item_impl_versionAt_c1_l2 q : Option ((List (Int × Int)) × Int × Int × Int × Unit)) with
  | some (y2_0, y2_1, y2_2, y2_3, _) => slices_IndexFunc_impl_Item_impl_versionAt_c1_l2 n y2_0 y2_1 y2_2 y2_3 (fun r0 r1 => kk .ret (PkS.pack Tslices_IndexFunc_impl_Item_impl_versionAt_c1_l2_0 (r0, r1, ()))) (fun r0 => kk (.exit 0) (PkS.pack Tslices_IndexFunc_impl_Item_impl_versionAt_c1_l2_1 (r0, ())))
  | none => none
theorem eslices_IndexFunc_impl_Item_impl_versionAt_c1_l2 {R : Type} (n : Nat) (y2_0 : List (Int × Int)) (y2_1 : Int) (y2_2 : Int) (y2_3 : Int) (kk : Ex → Pk → Option R) : Dslices_IndexFunc_impl_Item_impl_versionAt_c1_l2.step tt sig (mkK [(40, Kimpl_versionAt_c1 n)] R) (mkL (mkK [(40, Kimpl_versionAt_c1 n)]) [] R) (loopIn 2 (bodyOf Try.f39)) (fun q' => Pslices_IndexFunc_impl_Item_impl_versionAt_c1_l2 n R q' kk) (PkS.pack Sslices_IndexFunc_impl_Item_impl_versionAt_c1_l2 (y2_0, y2_1, y2_2, y2_3, ())) kk = slices_IndexFunc_impl_Item_impl_versionAt_c1_l2 (n + 1) y2_0 y2_1 y2_2 y2_3 (fun r0 r1 => kk .ret (PkS.pack Tslices_IndexFunc_impl_Item_impl_versionAt_c1_l2_0 (r0, r1, ()))) (fun r0 => kk (.exit 0) (PkS.pack Tslices_IndexFunc_impl_Item_impl_versionAt_c1_l2_1 (r0, ()))) := by kernel_rfl
theorem leslices_IndexFunc_impl_Item_impl_versionAt_c1_l2 : LoopEq tt sig (fun n => mkK [(40, Kimpl_versionAt_c1 n)]) (fun n => mkL (mkK [(40, Kimpl_versionAt_c1 n)]) []) Dslices_IndexFunc_impl_Item_impl_versionAt_c1_l2 Sslices_IndexFunc_impl_Item_impl_versionAt_c1_l2 (loopIn 2 (bodyOf Try.f39)) Pslices_IndexFunc_impl_Item_impl_versionAt_c1_l2 where
  zero R q kk := by unfold Pslices_IndexFunc_impl_Item_impl_versionAt_c1_l2; cases (PkS.un Sslices_IndexFunc_impl_Item_impl_versionAt_c1_l2 q) <;> rfl
  succ n R q kk := by
    unfold Pslices_IndexFunc_impl_Item_impl_versionAt_c1_l2
    cases h : (PkS.un Sslices_IndexFunc_impl_Item_impl_versionAt_c1_l2 q) with
    | none => rfl
    | some d =>
      obtain ⟨y2_0, y2_1, y2_2, y2_3, u⟩ := (d : (List (Int × Int)) × Int × Int × Int × Unit)
      have hp := PkS.un_pack h
      subst hp
      exact (eslices_IndexFunc_impl_Item_impl_versionAt_c1_l2 n y2_0 y2_1 y2_2 y2_3 kk).symm
theorem nlslices_IndexFunc_impl_Item_impl_versionAt_c1_l2 : ∀ n, NatLP (Pslices_IndexFunc_impl_Item_impl_versionAt_c1_l2 n) := leslices_IndexFunc_impl_Item_impl_versionAt_c1_l2.nat (fun n => mkK_nat (cslices_IndexFunc_impl_Item_impl_versionAt_c1 n)) fun n => mkL_nat (mkK_nat (cslices_IndexFunc_impl_Item_impl_versionAt_c1 n)) (l := []) trivial
theorem inslices_IndexFunc_impl_Item_impl_versionAt_c1_l2 (n : Nat) (R : Type) : LoopsOk Try.prog (mkL (mkK [(40, Kimpl_versionAt_c1 n)]) [] R) (loopIn 2 (bodyOf Try.f39)) := .eq (l := []) (by kernel_rfl) trivial
theorem lkslices_IndexFunc_impl_Item_impl_versionAt_c1_l2 (n : Nat) (R : Type) (L0 : LK R) (h0 : ∀ id, firstRegion (loopIn 2 (bodyOf Try.f39)) = some id → L0 id = Dslices_IndexFunc_impl_Item_impl_versionAt_c1_l2.oracle (mkK [(40, Kimpl_versionAt_c1 n)] R) (Pslices_IndexFunc_impl_Item_impl_versionAt_c1_l2 n R)) : LoopOk Try.prog L0 (loopIn 2 (bodyOf Try.f39)) :=
  leslices_IndexFunc_impl_Item_impl_versionAt_c1_l2.ok mixed ttok (fun n => mkK_nat (cslices_IndexFunc_impl_Item_impl_versionAt_c1 n)) (fun n => mkK_ok (cslices_IndexFunc_impl_Item_impl_versionAt_c1 n)) (fun n => inslices_IndexFunc_impl_Item_impl_versionAt_c1_l2 n R) (mkK_nat (cslices_IndexFunc_impl_Item_impl_versionAt_c1 n)) h0
@[reducible] def Sslices_IndexFunc_impl_Item_impl_versionAt_c1 : PkS := ⟨[.one (.ro (.pr (.int .i64) (.int .i64))), .one (.fn 40 [((200000, 0), 0)])], [((200000, 0), .box [.int .i64])]⟩
@[reducible] def Tslices_IndexFunc_impl_Item_impl_versionAt_c1 : PkS := ⟨[.one (.int .i64), .one (.dead), .one (.fn 40 [((300000, 0), 0)])], [((300000, 0), .box [.int .i64])]⟩
def Hslices_IndexFunc_impl_Item_impl_versionAt_c1 : List Sh := [.one .any, .skip, .fn 40 [[.any]]]
def Kslices_IndexFunc_impl_Item_impl_versionAt_c1 (n : Nat) : KPs := fun R p k => match (PkS.un Sslices_IndexFunc_impl_Item_impl_versionAt_c1 p : Option ((List (Int × Int)) × Int × Unit)) with
  | some (x0, x1, _) => slices_IndexFunc_impl_Item_impl_versionAt_c1 n x0 x1 (fun r0 r1 => k (PkS.pack Tslices_IndexFunc_impl_Item_impl_versionAt_c1 (r0, r1, ())))
  | none => none
theorem eslices_IndexFunc_impl_Item_impl_versionAt_c1 {R : Type} (n : Nat) (x0 : List (Int × Int)) (x1 : Int) (k : Pk → Option R) : evF tt sig (mkK [(40, Kimpl_versionAt_c1 n)] R) (mkL (mkK [(40, Kimpl_versionAt_c1 n)]) [(2, Dslices_IndexFunc_impl_Item_impl_versionAt_c1_l2, Pslices_IndexFunc_impl_Item_impl_versionAt_c1_l2 n)] R) Try.f39 Hslices_IndexFunc_impl_Item_impl_versionAt_c1 (PkS.pack Sslices_IndexFunc_impl_Item_impl_versionAt_c1 (x0, x1, ())) k = slices_IndexFunc_impl_Item_impl_versionAt_c1 n x0 x1 (fun r0 r1 => k (PkS.pack Tslices_IndexFunc_impl_Item_impl_versionAt_c1 (r0, r1, ()))) := by kernel_rfl
theorem okslices_IndexFunc_impl_Item_impl_versionAt_c1 (n : Nat) : FnOk Try.prog 39 (Kslices_IndexFunc_impl_Item_impl_versionAt_c1 n) := by
  refine fn_ok (sig := sig) mixed ttok (mkK_nat (cslices_IndexFunc_impl_Item_impl_versionAt_c1 n)) (mkK_ok (cslices_IndexFunc_impl_Item_impl_versionAt_c1 n)) (mkL_nat (mkK_nat (cslices_IndexFunc_impl_Item_impl_versionAt_c1 n)) (l := [(2, Dslices_IndexFunc_impl_Item_impl_versionAt_c1_l2, Pslices_IndexFunc_impl_Item_impl_versionAt_c1_l2 n)]) ⟨nlslices_IndexFunc_impl_Item_impl_versionAt_c1_l2 n, trivial⟩) (fn := Try.f39) (c := bodyOf Try.f39) (by kernel_rfl) (by kernel_rfl) (by kernel_rfl) (.eq (l := [loopIn 2 (bodyOf Try.f39)]) (by kernel_rfl) ⟨(lkslices_IndexFunc_impl_Item_impl_versionAt_c1_l2 n _ _ (at_id (i := 2) (by kernel_rfl) rfl)), trivial⟩) (shs := Hslices_IndexFunc_impl_Item_impl_versionAt_c1) (S := Sslices_IndexFunc_impl_Item_impl_versionAt_c1) fun R p k => ?_
  unfold Kslices_IndexFunc_impl_Item_impl_versionAt_c1
  cases h : (PkS.un Sslices_IndexFunc_impl_Item_impl_versionAt_c1 p) with
  | none => rfl
  | some d =>
    obtain ⟨x0, x1, u⟩ := (d : (List (Int × Int)) × Int × Unit)
    have hp := PkS.un_pack h
    subst hp
    exact (eslices_IndexFunc_impl_Item_impl_versionAt_c1 n x0 x1 k).symm

/-! ### loop.example/g00269/impl.versionAt -/
theorem cimpl_versionAt (n : Nat) : AllOk Try.prog [(39, Kslices_IndexFunc_impl_Item_impl_versionAt_c1 n)] := ⟨okslices_IndexFunc_impl_Item_impl_versionAt_c1 n, trivial⟩
@[reducible] def Simpl_versionAt : PkS := ⟨[.one (.ro (.pr (.int .i64) (.int .i64))), .one (.int .i64)], []⟩
@[reducible] def Timpl_versionAt : PkS := ⟨[.one (.int .i64), .one (.dead), .one (.dead)], []⟩
def Himpl_versionAt : List Sh := [.one .any, .skip, .skip]
def Kimpl_versionAt (n : Nat) : KPs := fun R p k => match (PkS.un Simpl_versionAt p : Option ((List (Int × Int)) × Int × Unit)) with
  | some (x0, x1, _) => impl_versionAt n x0 x1 (fun r0 => k (PkS.pack Timpl_versionAt (r0, ())))
  | none => none
theorem eimpl_versionAt {R : Type} (n : Nat) (x0 : List (Int × Int)) (x1 : Int) (k : Pk → Option R) : evF tt sig (mkK [(39, Kslices_IndexFunc_impl_Item_impl_versionAt_c1 n)] R) (mkL (mkK [(39, Kslices_IndexFunc_impl_Item_impl_versionAt_c1 n)]) [] R) Try.f35 Himpl_versionAt (PkS.pack Simpl_versionAt (x0, x1, ())) k = impl_versionAt n x0 x1 (fun r0 => k (PkS.pack Timpl_versionAt (r0, ()))) := by kernel_rfl
theorem okimpl_versionAt (n : Nat) : FnOk Try.prog 35 (Kimpl_versionAt n) := by
  refine fn_ok (sig := sig) mixed ttok (mkK_nat (cimpl_versionAt n)) (mkK_ok (cimpl_versionAt n)) (mkL_nat (mkK_nat (cimpl_versionAt n)) (l := []) trivial) (fn := Try.f35) (c := bodyOf Try.f35) (by kernel_rfl) (by kernel_rfl) (by kernel_rfl) (.eq (l := []) (by kernel_rfl) trivial) (shs := Himpl_versionAt) (S := Simpl_versionAt) fun R p k => ?_
  unfold Kimpl_versionAt
  cases h : (PkS.un Simpl_versionAt p) with
  | none => rfl
  | some d =>
    obtain ⟨x0, x1, u⟩ := (d : (List (Int × Int)) × Int × Unit)
    have hp := PkS.un_pack h
    subst hp
    exact (eimpl_versionAt n x0 x1 k).symm

/-! ### loop.example/g00269/impl.common -/
theorem cimpl_common (n : Nat) : AllOk Try.prog [(30, Kimpl_last n), (35, Kimpl_versionAt n)] := ⟨okimpl_last n, ⟨okimpl_versionAt n, trivial⟩⟩
@[reducible] def Simpl_common_l2 : PkS := ⟨[.one (.ro (.pr (.int .i64) (.int .i64))), .one (.ro (.pr (.int .i64) (.int .i64))), .one (.int .i64), .one (.dead), .one (.dead)], []⟩
@[reducible] def Timpl_common_l2_0 : PkS := ⟨[.one (.int .i64), .one (.dead), .one (.dead)], []⟩
def Dimpl_common_l2 : LoopD := ⟨27, [0, 1, 5], [.one (.ro (.pr (.int .i64) (.int .i64))), .one (.ro (.pr (.int .i64) (.int .i64))), .one .any, .skip, .skip], fun x => match x with
  | .exit 0 => some ([5], [.one .any, .skip, .skip])
  | _ => none⟩
def Pimpl_common_l2 (n : Nat) : LPs := fun R q kk => match (PkS.un Simpl_common_l2 q : Option ((List (Int × Int)) × (List (Int × Int)) × Int × Unit)) with
  | some (y2_0, y2_1, y2_2, _) => impl_common_l2 n y2_0 y2_1 y2_2 (fun r0 => kk (.exit 0) (PkS.pack Timpl_common_l2_0 (r0, ())))
  | none => none
theorem eimpl_common_l2 {R : Type} (n : Nat) (y2_0 : List (Int × Int)) (y2_1 : List (Int × Int)) (y2_2 : Int) (kk : Ex → Pk → Option R) : Dimpl_common_l2.step tt sig (mkK [(30, Kimpl_last n), (35, Kimpl_versionAt n)] R) (mkL (mkK [(30, Kimpl_last n), (35, Kimpl_versionAt n)]) [] R) (loopIn 2 (bodyOf Try.f29)) (fun q' => Pimpl_common_l2 n R q' kk) (PkS.pack Simpl_common_l2 (y2_0, y2_1, y2_2, ())) kk = impl_common_l2 (n + 1) y2_0 y2_1 y2_2 (fun r0 => kk (.exit 0) (PkS.pack Timpl_common_l2_0 (r0, ()))) := by kernel_rfl
theorem leimpl_common_l2 : LoopEq tt sig (fun n => mkK [(30, Kimpl_last n), (35, Kimpl_versionAt n)]) (fun n => mkL (mkK [(30, Kimpl_last n), (35, Kimpl_versionAt n)]) []) Dimpl_common_l2 Simpl_common_l2 (loopIn 2 (bodyOf Try.f29)) Pimpl_common_l2 where
  zero R q kk := by unfold Pimpl_common_l2; cases (PkS.un Simpl_common_l2 q) <;> rfl
  succ n R q kk := by
    unfold Pimpl_common_l2
    cases h : (PkS.un Simpl_common_l2 q) with
    | none => rfl
    | some d =>
      obtain ⟨y2_0, y2_1, y2_2, u⟩ := (d : (List (Int × Int)) × (List (Int × Int)) × Int × Unit)
      have hp := PkS.un_pack h
      subst hp
      exact (eimpl_common_l2 n y2_0 y2_1 y2_2 kk).symm
theorem nlimpl_common_l2 : ∀ n, NatLP (Pimpl_common_l2 n) := leimpl_common_l2.nat (fun n => mkK_nat (cimpl_common n)) fun n => mkL_nat (mkK_nat (cimpl_common n)) (l := []) trivial
theorem inimpl_common_l2 (n : Nat) (R : Type) : LoopsOk Try.prog (mkL (mkK [(30, Kimpl_last n), (35, Kimpl_versionAt n)]) [] R) (loopIn 2 (bodyOf Try.f29)) := .eq (l := []) (by kernel_rfl) trivial
theorem lkimpl_common_l2 (n : Nat) (R : Type) (L0 : LK R) (h0 : ∀ id, firstRegion (loopIn 2 (bodyOf Try.f29)) = some id → L0 id = Dimpl_common_l2.oracle (mkK [(30, Kimpl_last n), (35, Kimpl_versionAt n)] R) (Pimpl_common_l2 n R)) : LoopOk Try.prog L0 (loopIn 2 (bodyOf Try.f29)) :=
  leimpl_common_l2.ok mixed ttok (fun n => mkK_nat (cimpl_common n)) (fun n => mkK_ok (cimpl_common n)) (fun n => inimpl_common_l2 n R) (mkK_nat (cimpl_common n)) h0
@[reducible] def Simpl_common : PkS := ⟨[.one (.ro (.pr (.int .i64) (.int .i64))), .one (.ro (.pr (.int .i64) (.int .i64)))], []⟩
@[reducible] def Timpl_common : PkS := ⟨[.one (.int .i64), .one (.dead), .one (.dead)], []⟩
def Himpl_common : List Sh := [.one .any, .skip, .skip]
def Kimpl_common (n : Nat) : KPs := fun R p k => match (PkS.un Simpl_common p : Option ((List (Int × Int)) × (List (Int × Int)) × Unit)) with
  | some (x0, x1, _) => impl_common n x0 x1 (fun r0 => k (PkS.pack Timpl_common (r0, ())))
  | none => none
theorem eimpl_common {R : Type} (n : Nat) (x0 : List (Int × Int)) (x1 : List (Int × Int)) (k : Pk → Option R) : evF tt sig (mkK [(30, Kimpl_last n), (35, Kimpl_versionAt n)] R) (mkL (mkK [(30, Kimpl_last n), (35, Kimpl_versionAt n)]) [(2, Dimpl_common_l2, Pimpl_common_l2 n)] R) Try.f29 Himpl_common (PkS.pack Simpl_common (x0, x1, ())) k = impl_common n x0 x1 (fun r0 => k (PkS.pack Timpl_common (r0, ()))) := by kernel_rfl
theorem okimpl_common (n : Nat) : FnOk Try.prog 29 (Kimpl_common n) := by
  refine fn_ok (sig := sig) mixed ttok (mkK_nat (cimpl_common n)) (mkK_ok (cimpl_common n)) (mkL_nat (mkK_nat (cimpl_common n)) (l := [(2, Dimpl_common_l2, Pimpl_common_l2 n)]) ⟨nlimpl_common_l2 n, trivial⟩) (fn := Try.f29) (c := bodyOf Try.f29) (by kernel_rfl) (by kernel_rfl) (by kernel_rfl) (.eq (l := [loopIn 2 (bodyOf Try.f29)]) (by kernel_rfl) ⟨(lkimpl_common_l2 n _ _ (at_id (i := 2) (by kernel_rfl) rfl)), trivial⟩) (shs := Himpl_common) (S := Simpl_common) fun R p k => ?_
  unfold Kimpl_common
  cases h : (PkS.un Simpl_common p) with
  | none => rfl
  | some d =>
    obtain ⟨x0, x1, u⟩ := (d : (List (Int × Int)) × (List (Int × Int)) × Unit)
    have hp := PkS.un_pack h
    subst hp
    exact (eimpl_common n x0 x1 k).symm

/-! ### loop.example/g00269/impl.LcaOf -/
theorem cimpl_LcaOf (n : Nat) : AllOk Try.prog [(22, Kimpl_GoodItems n), (29, Kimpl_common n), (35, Kimpl_versionAt n)] := ⟨okimpl_GoodItems n, ⟨okimpl_common n, ⟨okimpl_versionAt n, trivial⟩⟩⟩
@[reducible] def Simpl_LcaOf : PkS := ⟨[.one (.ro (.pr (.int .i64) (.int .i64))), .one (.ro (.pr (.int .i64) (.int .i64)))], []⟩
@[reducible] def Timpl_LcaOf : PkS := ⟨[.tup [(true, [.int .i64, .int .i64]), (false, [.bool])], .one (.dead), .one (.dead)], []⟩
def Himpl_LcaOf : List Sh := [.tup [(true, [.any, .any]), (false, [.any])], .skip, .skip]
def Kimpl_LcaOf (n : Nat) : KPs := fun R p k => match (PkS.un Simpl_LcaOf p : Option ((List (Int × Int)) × (List (Int × Int)) × Unit)) with
  | some (x0, x1, _) => impl_LcaOf n x0 x1 (fun r0 r1 r2 => k (PkS.pack Timpl_LcaOf (r0, r1, r2, ())))
  | none => none
theorem eimpl_LcaOf {R : Type} (n : Nat) (x0 : List (Int × Int)) (x1 : List (Int × Int)) (k : Pk → Option R) : evF tt sig (mkK [(22, Kimpl_GoodItems n), (29, Kimpl_common n), (35, Kimpl_versionAt n)] R) (mkL (mkK [(22, Kimpl_GoodItems n), (29, Kimpl_common n), (35, Kimpl_versionAt n)]) [] R) Try.f17 Himpl_LcaOf (PkS.pack Simpl_LcaOf (x0, x1, ())) k = impl_LcaOf n x0 x1 (fun r0 r1 r2 => k (PkS.pack Timpl_LcaOf (r0, r1, r2, ()))) := by kernel_rfl
theorem okimpl_LcaOf (n : Nat) : FnOk Try.prog 17 (Kimpl_LcaOf n) := by
  refine fn_ok (sig := sig) mixed ttok (mkK_nat (cimpl_LcaOf n)) (mkK_ok (cimpl_LcaOf n)) (mkL_nat (mkK_nat (cimpl_LcaOf n)) (l := []) trivial) (fn := Try.f17) (c := bodyOf Try.f17) (by kernel_rfl) (by kernel_rfl) (by kernel_rfl) (.eq (l := []) (by kernel_rfl) trivial) (shs := Himpl_LcaOf) (S := Simpl_LcaOf) fun R p k => ?_
  unfold Kimpl_LcaOf
  cases h : (PkS.un Simpl_LcaOf p) with
  | none => rfl
  | some d =>
    obtain ⟨x0, x1, u⟩ := (d : (List (Int × Int)) × (List (Int × Int)) × Unit)
    have hp := PkS.un_pack h
    subst hp
    exact (eimpl_LcaOf n x0 x1 k).symm

/-! ### loop.example/g00269/laws.eqItem -/
theorem claws_eqItem (n : Nat) : AllOk Try.prog [] := trivial
@[reducible] def Slaws_eqItem : PkS := ⟨[.agg [.int .i64, .int .i64], .agg [.int .i64, .int .i64]], []⟩
@[reducible] def Tlaws_eqItem : PkS := ⟨[.one (.bool), .one (.dead), .one (.dead)], []⟩
def Hlaws_eqItem : List Sh := [.one .any, .skip, .skip]
def Klaws_eqItem (n : Nat) : KPs := fun R p k => match (PkS.un Slaws_eqItem p : Option (Int × Int × Int × Int × Unit)) with
  | some (x0, x1, x2, x3, _) => laws_eqItem n x0 x1 x2 x3 (fun r0 => k (PkS.pack Tlaws_eqItem (r0, ())))
  | none => none
theorem elaws_eqItem {R : Type} (n : Nat) (x0 : Int) (x1 : Int) (x2 : Int) (x3 : Int) (k : Pk → Option R) : evF tt sig (mkK [] R) (mkL (mkK []) [] R) Try.f18 Hlaws_eqItem (PkS.pack Slaws_eqItem (x0, x1, x2, x3, ())) k = laws_eqItem n x0 x1 x2 x3 (fun r0 => k (PkS.pack Tlaws_eqItem (r0, ()))) := by kernel_rfl
theorem oklaws_eqItem (n : Nat) : FnOk Try.prog 18 (Klaws_eqItem n) := by
  refine fn_ok (sig := sig) mixed ttok (mkK_nat (claws_eqItem n)) (mkK_ok (claws_eqItem n)) (mkL_nat (mkK_nat (claws_eqItem n)) (l := []) trivial) (fn := Try.f18) (c := bodyOf Try.f18) (by kernel_rfl) (by kernel_rfl) (by kernel_rfl) (.eq (l := []) (by kernel_rfl) trivial) (shs := Hlaws_eqItem) (S := Slaws_eqItem) fun R p k => ?_
  unfold Klaws_eqItem
  cases h : (PkS.un Slaws_eqItem p) with
  | none => rfl
  | some d =>
    obtain ⟨x0, x1, x2, x3, u⟩ := (d : Int × Int × Int × Int × Unit)
    have hp := PkS.un_pack h
    subst hp
    exact (elaws_eqItem n x0 x1 x2 x3 k).symm

/-! ### loop.example/g00269/laws.eqItemS -/
theorem claws_eqItemS (n : Nat) : AllOk Try.prog [(18, Klaws_eqItem n)] := ⟨oklaws_eqItem n, trivial⟩
@[reducible] def Slaws_eqItemS_l4 : PkS := ⟨[.one (.ro (.pr (.int .i64) (.int .i64))), .one (.ro (.pr (.int .i64) (.int .i64))), .one (.int .i64), .one (.dead), .one (.dead)], []⟩
@[reducible] def Tlaws_eqItemS_l4_0 : PkS := ⟨[.one (.bool), .one (.dead), .one (.dead)], []⟩
@[reducible] def Tlaws_eqItemS_l4_1 : PkS := ⟨[.one (.dead), .one (.dead)], []⟩
def Dlaws_eqItemS_l4 : LoopD := ⟨27, [0, 1, 5], [.one (.ro (.pr (.int .i64) (.int .i64))), .one (.ro (.pr (.int .i64) (.int .i64))), .one .any, .skip, .skip], fun x => match x with
  | .ret => some ([4], [.one .any, .skip, .skip])
  | .exit 0 => some ([], [.skip, .skip])
  | _ => none⟩
def Plaws_eqItemS_l4 (n : Nat) : LPs := fun R q kk => match (PkS.un Slaws_eqItemS_l4 q : Option ((List (Int × Int)) × (List (Int × Int)) × Int × Unit)) with
  | some (y4_0, y4_1, y4_2, _) => laws_eqItemS_l4 n y4_0 y4_1 y4_2 (fun r0 => kk .ret (PkS.pack Tlaws_eqItemS_l4_0 (r0, ()))) (kk (.exit 0) (PkS.pack Tlaws_eqItemS_l4_1 ()))
  | none => none
theorem elaws_eqItemS_l4 {R : Type} (n : Nat) (y4_0 : List (Int × Int)) (y4_1 : List (Int × Int)) (y4_2 : Int) (kk : Ex → Pk → Option R) : Dlaws_eqItemS_l4.step tt sig (mkK [(18, Klaws_eqItem n)] R) (mkL (mkK [(18, Klaws_eqItem n)]) [] R) (loopIn 4 (bodyOf Try.f11)) (fun q' => Plaws_eqItemS_l4 n R q' kk) (PkS.pack Slaws_eqItemS_l4 (y4_0, y4_1, y4_2, ())) kk = laws_eqItemS_l4 (n + 1) y4_0 y4_1 y4_2 (fun r0 => kk .ret (PkS.pack Tlaws_eqItemS_l4_0 (r0, ()))) (kk (.exit 0) (PkS.pack Tlaws_eqItemS_l4_1 ())) := by kernel_rfl
theorem lelaws_eqItemS_l4 : LoopEq tt sig (fun n => mkK [(18, Klaws_eqItem n)]) (fun n => mkL (mkK [(18, Klaws_eqItem n)]) []) Dlaws_eqItemS_l4 Slaws_eqItemS_l4 (loopIn 4 (bodyOf Try.f11)) Plaws_eqItemS_l4 where
  zero R q kk := by unfold Plaws_eqItemS_l4; cases (PkS.un Slaws_eqItemS_l4 q) <;> rfl
  succ n R q kk := by
    unfold Plaws_eqItemS_l4
    cases h : (PkS.un Slaws_eqItemS_l4 q) with
    | none => rfl
    | some d =>
      obtain ⟨y4_0, y4_1, y4_2, u⟩ := (d : (List (Int × Int)) × (List (Int × Int)) × Int × Unit)
      have hp := PkS.un_pack h
      subst hp
      exact (elaws_eqItemS_l4 n y4_0 y4_1 y4_2 kk).symm
theorem nllaws_eqItemS_l4 : ∀ n, NatLP (Plaws_eqItemS_l4 n) := lelaws_eqItemS_l4.nat (fun n => mkK_nat (claws_eqItemS n)) fun n => mkL_nat (mkK_nat (claws_eqItemS n)) (l := []) trivial
theorem inlaws_eqItemS_l4 (n : Nat) (R : Type) : LoopsOk Try.prog (mkL (mkK [(18, Klaws_eqItem n)]) [] R) (loopIn 4 (bodyOf Try.f11)) := .eq (l := []) (by kernel_rfl) trivial
theorem lklaws_eqItemS_l4 (n : Nat) (R : Type) (L0 : LK R) (h0 : ∀ id, firstRegion (loopIn 4 (bodyOf Try.f11)) = some id → L0 id = Dlaws_eqItemS_l4.oracle (mkK [(18, Klaws_eqItem n)] R) (Plaws_eqItemS_l4 n R)) : LoopOk Try.prog L0 (loopIn 4 (bodyOf Try.f11)) :=
  lelaws_eqItemS_l4.ok mixed ttok (fun n => mkK_nat (claws_eqItemS n)) (fun n => mkK_ok (claws_eqItemS n)) (fun n => inlaws_eqItemS_l4 n R) (mkK_nat (claws_eqItemS n)) h0
@[reducible] def Slaws_eqItemS : PkS := ⟨[.one (.ro (.pr (.int .i64) (.int .i64))), .one (.ro (.pr (.int .i64) (.int .i64)))], []⟩
@[reducible] def Tlaws_eqItemS : PkS := ⟨[.one (.bool), .one (.dead), .one (.dead)], []⟩
def Hlaws_eqItemS : List Sh := [.one .any, .skip, .skip]
def Klaws_eqItemS (n : Nat) : KPs := fun R p k => match (PkS.un Slaws_eqItemS p : Option ((List (Int × Int)) × (List (Int × Int)) × Unit)) with
  | some (x0, x1, _) => laws_eqItemS n x0 x1 (fun r0 => k (PkS.pack Tlaws_eqItemS (r0, ())))
  | none => none
theorem elaws_eqItemS {R : Type} (n : Nat) (x0 : List (Int × Int)) (x1 : List (Int × Int)) (k : Pk → Option R) : evF tt sig (mkK [(18, Klaws_eqItem n)] R) (mkL (mkK [(18, Klaws_eqItem n)]) [(4, Dlaws_eqItemS_l4, Plaws_eqItemS_l4 n)] R) Try.f11 Hlaws_eqItemS (PkS.pack Slaws_eqItemS (x0, x1, ())) k = laws_eqItemS n x0 x1 (fun r0 => k (PkS.pack Tlaws_eqItemS (r0, ()))) := by kernel_rfl
theorem oklaws_eqItemS (n : Nat) : FnOk Try.prog 11 (Klaws_eqItemS n) := by
  refine fn_ok (sig := sig) mixed ttok (mkK_nat (claws_eqItemS n)) (mkK_ok (claws_eqItemS n)) (mkL_nat (mkK_nat (claws_eqItemS n)) (l := [(4, Dlaws_eqItemS_l4, Plaws_eqItemS_l4 n)]) ⟨nllaws_eqItemS_l4 n, trivial⟩) (fn := Try.f11) (c := bodyOf Try.f11) (by kernel_rfl) (by kernel_rfl) (by kernel_rfl) (.eq (l := [loopIn 4 (bodyOf Try.f11)]) (by kernel_rfl) ⟨(lklaws_eqItemS_l4 n _ _ (at_id (i := 4) (by kernel_rfl) rfl)), trivial⟩) (shs := Hlaws_eqItemS) (S := Slaws_eqItemS) fun R p k => ?_
  unfold Klaws_eqItemS
  cases h : (PkS.un Slaws_eqItemS p) with
  | none => rfl
  | some d =>
    obtain ⟨x0, x1, u⟩ := (d : (List (Int × Int)) × (List (Int × Int)) × Unit)
    have hp := PkS.un_pack h
    subst hp
    exact (elaws_eqItemS n x0 x1 k).symm

/-! ### loop.example/g00269/laws.FnExactLcaOf -/
theorem claws_FnExactLcaOf (n : Nat) : AllOk Try.prog [(7, Klaws_szItemS n), (9, Klaws_toItemS n), (16, Kspec_LcaOf n), (17, Kimpl_LcaOf n), (18, Klaws_eqItem n), (11, Klaws_eqItemS n)] := ⟨oklaws_szItemS n, ⟨oklaws_toItemS n, ⟨okspec_LcaOf n, ⟨okimpl_LcaOf n, ⟨oklaws_eqItem n, ⟨oklaws_eqItemS n, trivial⟩⟩⟩⟩⟩⟩
@[reducible] def Slaws_FnExactLcaOf : PkS := ⟨[.one (.ro (.pr (.int .i64) (.int .i64))), .one (.ro (.pr (.int .i64) (.int .i64)))], []⟩
@[reducible] def Tlaws_FnExactLcaOf : PkS := ⟨[.one (.bool), .one (.dead), .one (.dead)], []⟩
def Hlaws_FnExactLcaOf : List Sh := [.one .any, .skip, .skip]
def Klaws_FnExactLcaOf (n : Nat) : KPs := fun R p k => match (PkS.un Slaws_FnExactLcaOf p : Option ((List (Int × Int)) × (List (Int × Int)) × Unit)) with
  | some (x0, x1, _) => laws_FnExactLcaOf n x0 x1 (fun r0 => k (PkS.pack Tlaws_FnExactLcaOf (r0, ())))
  | none => none
theorem elaws_FnExactLcaOf {R : Type} (n : Nat) (x0 : List (Int × Int)) (x1 : List (Int × Int)) (k : Pk → Option R) : evF tt sig (mkK [(7, Klaws_szItemS n), (9, Klaws_toItemS n), (16, Kspec_LcaOf n), (17, Kimpl_LcaOf n), (18, Klaws_eqItem n), (11, Klaws_eqItemS n)] R) (mkL (mkK [(7, Klaws_szItemS n), (9, Klaws_toItemS n), (16, Kspec_LcaOf n), (17, Kimpl_LcaOf n), (18, Klaws_eqItem n), (11, Klaws_eqItemS n)]) [] R) Try.f5 Hlaws_FnExactLcaOf (PkS.pack Slaws_FnExactLcaOf (x0, x1, ())) k = laws_FnExactLcaOf n x0 x1 (fun r0 => k (PkS.pack Tlaws_FnExactLcaOf (r0, ()))) := by kernel_rfl
theorem oklaws_FnExactLcaOf (n : Nat) : FnOk Try.prog 5 (Klaws_FnExactLcaOf n) := by
  refine fn_ok (sig := sig) mixed ttok (mkK_nat (claws_FnExactLcaOf n)) (mkK_ok (claws_FnExactLcaOf n)) (mkL_nat (mkK_nat (claws_FnExactLcaOf n)) (l := []) trivial) (fn := Try.f5) (c := bodyOf Try.f5) (by kernel_rfl) (by kernel_rfl) (by kernel_rfl) (.eq (l := []) (by kernel_rfl) trivial) (shs := Hlaws_FnExactLcaOf) (S := Slaws_FnExactLcaOf) fun R p k => ?_
  unfold Klaws_FnExactLcaOf
  cases h : (PkS.un Slaws_FnExactLcaOf p) with
  | none => rfl
  | some d =>
    obtain ⟨x0, x1, u⟩ := (d : (List (Int × Int)) × (List (Int × Int)) × Unit)
    have hp := PkS.un_pack h
    subst hp
    exact (elaws_FnExactLcaOf n x0 x1 k).symm
end Go.Am.G
