/- The code of the functions that the law reaches does what the plain functions say. -/
import Derived.Test.YtkmjmhjfadaebaaF9
import Derived.Test.YtkmjmhjfadaebaaAmB
import Derived.KernelRfl
import Derived.Test.YtkmjmhjfadaebaaProg
set_option linter.unusedVariables false
set_option maxRecDepth 100000
namespace Go.Am.G
open Go Go.Am
open Go.Proofs
def tt : TT := [(3, ⟨1, false, (.int .i64), 0, [], [.int .i64 0], 8, true, false, []⟩), (4, ⟨1, false, .bool, 0, [], [.bool false], 1, true, false, []⟩), (23, ⟨4, true, (.pr (.int .i64) (.pr (.int .i64) (.pr (.int .i64) (.int .i64)))), 0, [(0, 1, false), (1, 1, false), (2, 1, false), (3, 1, false)], [.int .i64 0, .int .i64 0, .int .i64 0, .int .i64 0], 32, true, false, [(.int .i64), (.int .i64), (.int .i64), (.int .i64)]⟩), (25, ⟨4, true, (.pr (.int .i64) (.pr (.int .i64) (.pr (.int .i64) (.int .i64)))), 0, [(0, 1, false), (1, 1, false), (2, 1, false), (3, 1, false)], [.int .i64 0, .int .i64 0, .int .i64 0, .int .i64 0], 32, true, false, [(.int .i64), (.int .i64), (.int .i64), (.int .i64)]⟩), (52, ⟨1, false, (.sl (.int .i64)), 3, [], [.nil], 24, true, true, []⟩)]
def sig : Sig := sigOf [(9, [.agg [.any, .any, .any, .any]]), (15, [.agg [.any, .any, .any, .any]]), (16, [.agg [.any, .any, .any, .any]]), (17, [.agg [.any, .any, .any, .any]]), (32, [.agg [.any, .any, .any, .any]]), (33, [.agg [.any, .any, .any, .any]]), (34, [.one (.ro (.int .i64)), .one (.ro (.int .i64))]), (35, [.one (.own (.int .i64)), .one .any]), (36, [.one (.ro (.int .i64)), .one .any]), (53, [.one .any, .one .any, .one .any]), (54, [.one .any, .one .any, .one .any]), (61, [.agg [.any, .any, .any, .any], .one .any]), (62, [.box [.any, .any, .any, .any], .one .any])]
theorem ttok : TTok Try.prog tt := .of_chk (by kernel_rfl)
theorem mixed : Try.prog.follows .mixedOrders = true := by kernel_rfl

/-! ### loop.example/g00269/laws.toPolicy -/
theorem claws_toPolicy (n : Nat) : AllOk Try.prog [] := trivial
@[reducible] def Slaws_toPolicy : PkS := ⟨[.agg [.int .i64, .int .i64, .int .i64, .int .i64]], []⟩
@[reducible] def Tlaws_toPolicy : PkS := ⟨[.agg [.int .i64, .int .i64, .int .i64, .int .i64], .one (.dead)], []⟩
def Hlaws_toPolicy : List Sh := [.agg [.any, .any, .any, .any], .skip]
def Klaws_toPolicy (n : Nat) : KPs := fun R p k => match (PkS.un Slaws_toPolicy p : Option (Int × Int × Int × Int × Unit)) with
  | some (x0, x1, x2, x3, _) => laws_toPolicy n x0 x1 x2 x3 (fun r0 r1 r2 r3 => k (PkS.pack Tlaws_toPolicy (r0, r1, r2, r3, ())))
  | none => none
theorem elaws_toPolicy {R : Type} (n : Nat) (x0 : Int) (x1 : Int) (x2 : Int) (x3 : Int) (k : Pk → Option R) : evF tt sig (mkK [] R) (mkL (mkK []) [] R) Try.f16 Hlaws_toPolicy (PkS.pack Slaws_toPolicy (x0, x1, x2, x3, ())) k = laws_toPolicy n x0 x1 x2 x3 (fun r0 r1 r2 r3 => k (PkS.pack Tlaws_toPolicy (r0, r1, r2, r3, ()))) := by kernel_rfl
theorem oklaws_toPolicy (n : Nat) : FnOk Try.prog 16 (Klaws_toPolicy n) := by
  refine fn_ok (sig := sig) mixed ttok (mkK_nat (claws_toPolicy n)) (mkK_ok (claws_toPolicy n)) (mkL_nat (mkK_nat (claws_toPolicy n)) (l := []) trivial) (fn := Try.f16) (c := bodyOf Try.f16) (by kernel_rfl) (by kernel_rfl) (by kernel_rfl) (.eq (l := []) (by kernel_rfl) trivial) (shs := Hlaws_toPolicy) (S := Slaws_toPolicy) fun R p k => ?_
  unfold Klaws_toPolicy
  cases h : (PkS.un Slaws_toPolicy p) with
  | none => rfl
  | some d =>
    obtain ⟨x0, x1, x2, x3, u⟩ := (d : Int × Int × Int × Int × Unit)
    have hp := PkS.un_pack h
    subst hp
    exact (elaws_toPolicy n x0 x1 x2 x3 k).symm

/-! ### loop.example/g00269/spec.l1In -/
theorem cspec_l1In (n : Nat) : AllOk Try.prog [] := trivial
@[reducible] def Sspec_l1In : PkS := ⟨[.one (.int .i64), .one (.int .i64), .one (.int .i64)], []⟩
@[reducible] def Tspec_l1In : PkS := ⟨[.one (.bool), .one (.dead), .one (.dead), .one (.dead)], []⟩
def Hspec_l1In : List Sh := [.one .any, .skip, .skip, .skip]
def Kspec_l1In (n : Nat) : KPs := fun R p k => match (PkS.un Sspec_l1In p : Option (Int × Int × Int × Unit)) with
  | some (x0, x1, x2, _) => spec_l1In n x0 x1 x2 (fun r0 => k (PkS.pack Tspec_l1In (r0, ())))
  | none => none
theorem espec_l1In {R : Type} (n : Nat) (x0 : Int) (x1 : Int) (x2 : Int) (k : Pk → Option R) : evF tt sig (mkK [] R) (mkL (mkK []) [] R) Try.f53 Hspec_l1In (PkS.pack Sspec_l1In (x0, x1, x2, ())) k = spec_l1In n x0 x1 x2 (fun r0 => k (PkS.pack Tspec_l1In (r0, ()))) := by kernel_rfl
theorem okspec_l1In (n : Nat) : FnOk Try.prog 53 (Kspec_l1In n) := by
  refine fn_ok (sig := sig) mixed ttok (mkK_nat (cspec_l1In n)) (mkK_ok (cspec_l1In n)) (mkL_nat (mkK_nat (cspec_l1In n)) (l := []) trivial) (fn := Try.f53) (c := bodyOf Try.f53) (by kernel_rfl) (by kernel_rfl) (by kernel_rfl) (.eq (l := []) (by kernel_rfl) trivial) (shs := Hspec_l1In) (S := Sspec_l1In) fun R p k => ?_
  unfold Kspec_l1In
  cases h : (PkS.un Sspec_l1In p) with
  | none => rfl
  | some d =>
    obtain ⟨x0, x1, x2, u⟩ := (d : Int × Int × Int × Unit)
    have hp := PkS.un_pack h
    subst hp
    exact (espec_l1In n x0 x1 x2 k).symm

/-! ### loop.example/g00269/spec.GoodPolicy -/
theorem cspec_GoodPolicy (n : Nat) : AllOk Try.prog [(53, Kspec_l1In n)] := ⟨okspec_l1In n, trivial⟩
@[reducible] def Sspec_GoodPolicy : PkS := ⟨[.agg [.int .i64, .int .i64, .int .i64, .int .i64]], []⟩
@[reducible] def Tspec_GoodPolicy : PkS := ⟨[.one (.bool), .one (.dead)], []⟩
def Hspec_GoodPolicy : List Sh := [.one .any, .skip]
def Kspec_GoodPolicy (n : Nat) : KPs := fun R p k => match (PkS.un Sspec_GoodPolicy p : Option (Int × Int × Int × Int × Unit)) with
  | some (x0, x1, x2, x3, _) => spec_GoodPolicy n x0 x1 x2 x3 (fun r0 => k (PkS.pack Tspec_GoodPolicy (r0, ())))
  | none => none
theorem espec_GoodPolicy {R : Type} (n : Nat) (x0 : Int) (x1 : Int) (x2 : Int) (x3 : Int) (k : Pk → Option R) : evF tt sig (mkK [(53, Kspec_l1In n)] R) (mkL (mkK [(53, Kspec_l1In n)]) [] R) Try.f15 Hspec_GoodPolicy (PkS.pack Sspec_GoodPolicy (x0, x1, x2, x3, ())) k = spec_GoodPolicy n x0 x1 x2 x3 (fun r0 => k (PkS.pack Tspec_GoodPolicy (r0, ()))) := by kernel_rfl
theorem okspec_GoodPolicy (n : Nat) : FnOk Try.prog 15 (Kspec_GoodPolicy n) := by
  refine fn_ok (sig := sig) mixed ttok (mkK_nat (cspec_GoodPolicy n)) (mkK_ok (cspec_GoodPolicy n)) (mkL_nat (mkK_nat (cspec_GoodPolicy n)) (l := []) trivial) (fn := Try.f15) (c := bodyOf Try.f15) (by kernel_rfl) (by kernel_rfl) (by kernel_rfl) (.eq (l := []) (by kernel_rfl) trivial) (shs := Hspec_GoodPolicy) (S := Sspec_GoodPolicy) fun R p k => ?_
  unfold Kspec_GoodPolicy
  cases h : (PkS.un Sspec_GoodPolicy p) with
  | none => rfl
  | some d =>
    obtain ⟨x0, x1, x2, x3, u⟩ := (d : Int × Int × Int × Int × Unit)
    have hp := PkS.un_pack h
    subst hp
    exact (espec_GoodPolicy n x0 x1 x2 x3 k).symm

/-! ### loop.example/g00269/spec.l10Wait -/
theorem cspec_l10Wait (n : Nat) : AllOk Try.prog [] := trivial
@[reducible] def Sspec_l10Wait_l2 : PkS := ⟨[.one (.int .i64), .one (.box (100000, 0) 0), .one (.int .i64), .one (.dead), .one (.dead)], [((100000, 0), .box [.int .i64, .int .i64, .int .i64, .int .i64])]⟩
@[reducible] def Tspec_l10Wait_l2_0 : PkS := ⟨[.one (.int .i64), .one (.dead), .one (.dead)], []⟩
@[reducible] def Tspec_l10Wait_l2_1 : PkS := ⟨[.one (.int .i64), .one (.dead), .one (.dead)], []⟩
def Dspec_l10Wait_l2 : LoopD := ⟨23, [1, 2, 5], [.one .any, .box [.any, .any, .any, .any], .one .any, .skip, .skip], fun x => match x with
  | .ret => some ([4], [.one .any, .skip, .skip])
  | .exit 0 => some ([5], [.one .any, .skip, .skip])
  | _ => none⟩
def Pspec_l10Wait_l2 (n : Nat) : LPs := fun R q kk => match (PkS.un Sspec_l10Wait_l2 q : Option (Int × Int × Int × Int × Int × Int × Unit)) with
  | some (y2_0, y2_1, y2_2, y2_3, y2_4, y2_5, _) => spec_l10Wait_l2 n y2_0 y2_1 y2_2 y2_3 y2_4 y2_5 (fun r0 => kk .ret (PkS.pack Tspec_l10Wait_l2_0 (r0, ()))) (fun r0 => kk (.exit 0) (PkS.pack Tspec_l10Wait_l2_1 (r0, ())))
  | none => none
theorem espec_l10Wait_l2 {R : Type} (n : Nat) (y2_0 : Int) (y2_1 : Int) (y2_2 : Int) (y2_3 : Int) (y2_4 : Int) (y2_5 : Int) (kk : Ex → Pk → Option R) : Dspec_l10Wait_l2.step tt sig (mkK [] R) (mkL (mkK []) [] R) (loopIn 2 (bodyOf Try.f61)) (fun q' => Pspec_l10Wait_l2 n R q' kk) (PkS.pack Sspec_l10Wait_l2 (y2_0, y2_1, y2_2, y2_3, y2_4, y2_5, ())) kk = spec_l10Wait_l2 (n + 1) y2_0 y2_1 y2_2 y2_3 y2_4 y2_5 (fun r0 => kk .ret (PkS.pack Tspec_l10Wait_l2_0 (r0, ()))) (fun r0 => kk (.exit 0) (PkS.pack Tspec_l10Wait_l2_1 (r0, ()))) := by kernel_rfl
theorem lespec_l10Wait_l2 : LoopEq tt sig (fun n => mkK []) (fun n => mkL (mkK []) []) Dspec_l10Wait_l2 Sspec_l10Wait_l2 (loopIn 2 (bodyOf Try.f61)) Pspec_l10Wait_l2 where
  zero R q kk := by unfold Pspec_l10Wait_l2; cases (PkS.un Sspec_l10Wait_l2 q) <;> rfl
  succ n R q kk := by
    unfold Pspec_l10Wait_l2
    cases h : (PkS.un Sspec_l10Wait_l2 q) with
    | none => rfl
    | some d =>
      obtain ⟨y2_0, y2_1, y2_2, y2_3, y2_4, y2_5, u⟩ := (d : Int × Int × Int × Int × Int × Int × Unit)
      have hp := PkS.un_pack h
      subst hp
      exact (espec_l10Wait_l2 n y2_0 y2_1 y2_2 y2_3 y2_4 y2_5 kk).symm
theorem nlspec_l10Wait_l2 : ∀ n, NatLP (Pspec_l10Wait_l2 n) := lespec_l10Wait_l2.nat (fun n => mkK_nat (cspec_l10Wait n)) fun n => mkL_nat (mkK_nat (cspec_l10Wait n)) (l := []) trivial
theorem inspec_l10Wait_l2 (n : Nat) (R : Type) : LoopsOk Try.prog (mkL (mkK []) [] R) (loopIn 2 (bodyOf Try.f61)) := .eq (l := []) (by kernel_rfl) trivial
theorem lkspec_l10Wait_l2 (n : Nat) (R : Type) (L0 : LK R) (h0 : ∀ id, firstRegion (loopIn 2 (bodyOf Try.f61)) = some id → L0 id = Dspec_l10Wait_l2.oracle (mkK [] R) (Pspec_l10Wait_l2 n R)) : LoopOk Try.prog L0 (loopIn 2 (bodyOf Try.f61)) :=
  lespec_l10Wait_l2.ok mixed ttok (fun n => mkK_nat (cspec_l10Wait n)) (fun n => mkK_ok (cspec_l10Wait n)) (fun n => inspec_l10Wait_l2 n R) (mkK_nat (cspec_l10Wait n)) h0
@[reducible] def Sspec_l10Wait : PkS := ⟨[.agg [.int .i64, .int .i64, .int .i64, .int .i64], .one (.int .i64)], []⟩
@[reducible] def Tspec_l10Wait : PkS := ⟨[.one (.int .i64), .one (.dead), .one (.dead)], []⟩
def Hspec_l10Wait : List Sh := [.one .any, .skip, .skip]
def Kspec_l10Wait (n : Nat) : KPs := fun R p k => match (PkS.un Sspec_l10Wait p : Option (Int × Int × Int × Int × Int × Unit)) with
  | some (x0, x1, x2, x3, x4, _) => spec_l10Wait n x0 x1 x2 x3 x4 (fun r0 => k (PkS.pack Tspec_l10Wait (r0, ())))
  | none => none
theorem espec_l10Wait {R : Type} (n : Nat) (x0 : Int) (x1 : Int) (x2 : Int) (x3 : Int) (x4 : Int) (k : Pk → Option R) : evF tt sig (mkK [] R) (mkL (mkK []) [(2, Dspec_l10Wait_l2, Pspec_l10Wait_l2 n)] R) Try.f61 Hspec_l10Wait (PkS.pack Sspec_l10Wait (x0, x1, x2, x3, x4, ())) k = spec_l10Wait n x0 x1 x2 x3 x4 (fun r0 => k (PkS.pack Tspec_l10Wait (r0, ()))) := by kernel_rfl
theorem okspec_l10Wait (n : Nat) : FnOk Try.prog 61 (Kspec_l10Wait n) := by
  refine fn_ok (sig := sig) mixed ttok (mkK_nat (cspec_l10Wait n)) (mkK_ok (cspec_l10Wait n)) (mkL_nat (mkK_nat (cspec_l10Wait n)) (l := [(2, Dspec_l10Wait_l2, Pspec_l10Wait_l2 n)]) ⟨nlspec_l10Wait_l2 n, trivial⟩) (fn := Try.f61) (c := bodyOf Try.f61) (by kernel_rfl) (by kernel_rfl) (by kernel_rfl) (.eq (l := [loopIn 2 (bodyOf Try.f61)]) (by kernel_rfl) ⟨(lkspec_l10Wait_l2 n _ _ (at_id (i := 2) (by kernel_rfl) rfl)), trivial⟩) (shs := Hspec_l10Wait) (S := Sspec_l10Wait) fun R p k => ?_
  unfold Kspec_l10Wait
  cases h : (PkS.un Sspec_l10Wait p) with
  | none => rfl
  | some d =>
    obtain ⟨x0, x1, x2, x3, x4, u⟩ := (d : Int × Int × Int × Int × Int × Unit)
    have hp := PkS.un_pack h
    subst hp
    exact (espec_l10Wait n x0 x1 x2 x3 x4 k).symm

/-! ### loop.example/g00269/spec.WaitsOf -/
theorem cspec_WaitsOf (n : Nat) : AllOk Try.prog [(15, Kspec_GoodPolicy n), (61, Kspec_l10Wait n)] := ⟨okspec_GoodPolicy n, ⟨okspec_l10Wait n, trivial⟩⟩
@[reducible] def Sspec_WaitsOf_l6 : PkS := ⟨[.one (.box (100000, 0) 0), .one (.whole (100000, 1)), .one (.int .i64), .one (.int .i64), .one (.dead)], [((100000, 0), .box [.int .i64, .int .i64, .int .i64, .int .i64]), ((100000, 1), .arr (.int .i64))]⟩
@[reducible] def Tspec_WaitsOf_l6_0 : PkS := ⟨[.one (.whole (100000, 0)), .one (.int .i64), .one (.dead)], [((100000, 0), .arr (.int .i64))]⟩
def Dspec_WaitsOf_l6 : LoopD := ⟨30, [1, 5, 6, 7], [.box [.any, .any, .any, .any], .one (.own (.int .i64)), .one .any, .one .any, .skip], fun x => match x with
  | .exit 0 => some ([5, 6], [.one (.own (.int .i64)), .one .any, .skip])
  | _ => none⟩
def Pspec_WaitsOf_l6 (n : Nat) : LPs := fun R q kk => match (PkS.un Sspec_WaitsOf_l6 q : Option (Int × Int × Int × Int × Int × Int × (List Int) × Unit)) with
  | some (y6_0, y6_1, y6_2, y6_3, y6_4, y6_5, y6_6, _) => spec_WaitsOf_l6 n y6_0 y6_1 y6_2 y6_3 y6_4 y6_5 y6_6 (fun r0 r1 => kk (.exit 0) (PkS.pack Tspec_WaitsOf_l6_0 (r0, r1, ())))
  | none => none
theorem espec_WaitsOf_l6 {R : Type} (n : Nat) (y6_0 : Int) (y6_1 : Int) (y6_2 : Int) (y6_3 : Int) (y6_4 : Int) (y6_5 : Int) (y6_6 : List Int) (kk : Ex → Pk → Option R) : Dspec_WaitsOf_l6.step tt sig (mkK [(15, Kspec_GoodPolicy n), (61, Kspec_l10Wait n)] R) (mkL (mkK [(15, Kspec_GoodPolicy n), (61, Kspec_l10Wait n)]) [] R) (loopIn 6 (bodyOf Try.f32)) (fun q' => Pspec_WaitsOf_l6 n R q' kk) (PkS.pack Sspec_WaitsOf_l6 (y6_0, y6_1, y6_2, y6_3, y6_4, y6_5, y6_6, ())) kk = spec_WaitsOf_l6 (n + 1) y6_0 y6_1 y6_2 y6_3 y6_4 y6_5 y6_6 (fun r0 r1 => kk (.exit 0) (PkS.pack Tspec_WaitsOf_l6_0 (r0, r1, ()))) := by kernel_rfl
theorem lespec_WaitsOf_l6 : LoopEq tt sig (fun n => mkK [(15, Kspec_GoodPolicy n), (61, Kspec_l10Wait n)]) (fun n => mkL (mkK [(15, Kspec_GoodPolicy n), (61, Kspec_l10Wait n)]) []) Dspec_WaitsOf_l6 Sspec_WaitsOf_l6 (loopIn 6 (bodyOf Try.f32)) Pspec_WaitsOf_l6 where
  zero R q kk := by unfold Pspec_WaitsOf_l6; cases (PkS.un Sspec_WaitsOf_l6 q) <;> rfl
  succ n R q kk := by
    unfold Pspec_WaitsOf_l6
    cases h : (PkS.un Sspec_WaitsOf_l6 q) with
    | none => rfl
    | some d =>
      obtain ⟨y6_0, y6_1, y6_2, y6_3, y6_4, y6_5, y6_6, u⟩ := (d : Int × Int × Int × Int × Int × Int × (List Int) × Unit)
      have hp := PkS.un_pack h
      subst hp
      exact (espec_WaitsOf_l6 n y6_0 y6_1 y6_2 y6_3 y6_4 y6_5 y6_6 kk).symm
theorem nlspec_WaitsOf_l6 : ∀ n, NatLP (Pspec_WaitsOf_l6 n) := lespec_WaitsOf_l6.nat (fun n => mkK_nat (cspec_WaitsOf n)) fun n => mkL_nat (mkK_nat (cspec_WaitsOf n)) (l := []) trivial
theorem inspec_WaitsOf_l6 (n : Nat) (R : Type) : LoopsOk Try.prog (mkL (mkK [(15, Kspec_GoodPolicy n), (61, Kspec_l10Wait n)]) [] R) (loopIn 6 (bodyOf Try.f32)) := .eq (l := []) (by kernel_rfl) trivial
theorem lkspec_WaitsOf_l6 (n : Nat) (R : Type) (L0 : LK R) (h0 : ∀ id, firstRegion (loopIn 6 (bodyOf Try.f32)) = some id → L0 id = Dspec_WaitsOf_l6.oracle (mkK [(15, Kspec_GoodPolicy n), (61, Kspec_l10Wait n)] R) (Pspec_WaitsOf_l6 n R)) : LoopOk Try.prog L0 (loopIn 6 (bodyOf Try.f32)) :=
  lespec_WaitsOf_l6.ok mixed ttok (fun n => mkK_nat (cspec_WaitsOf n)) (fun n => mkK_ok (cspec_WaitsOf n)) (fun n => inspec_WaitsOf_l6 n R) (mkK_nat (cspec_WaitsOf n)) h0
@[reducible] def Sspec_WaitsOf : PkS := ⟨[.agg [.int .i64, .int .i64, .int .i64, .int .i64]], []⟩
@[reducible] def Tspec_WaitsOf : PkS := ⟨[.tup [(false, [.whole (300000, 0)]), (false, [.int .i64]), (false, [.bool])], .one (.dead)], [((300000, 0), .arr (.int .i64))]⟩
def Hspec_WaitsOf : List Sh := [.tup [(false, [(.own (.int .i64))]), (false, [.any]), (false, [.any])], .skip]
def Kspec_WaitsOf (n : Nat) : KPs := fun R p k => match (PkS.un Sspec_WaitsOf p : Option (Int × Int × Int × Int × Unit)) with
  | some (x0, x1, x2, x3, _) => spec_WaitsOf n x0 x1 x2 x3 (fun r0 r1 r2 => k (PkS.pack Tspec_WaitsOf (r0, r1, r2, ())))
  | none => none
theorem espec_WaitsOf {R : Type} (n : Nat) (x0 : Int) (x1 : Int) (x2 : Int) (x3 : Int) (k : Pk → Option R) : evF tt sig (mkK [(15, Kspec_GoodPolicy n), (61, Kspec_l10Wait n)] R) (mkL (mkK [(15, Kspec_GoodPolicy n), (61, Kspec_l10Wait n)]) [(6, Dspec_WaitsOf_l6, Pspec_WaitsOf_l6 n)] R) Try.f32 Hspec_WaitsOf (PkS.pack Sspec_WaitsOf (x0, x1, x2, x3, ())) k = spec_WaitsOf n x0 x1 x2 x3 (fun r0 r1 r2 => k (PkS.pack Tspec_WaitsOf (r0, r1, r2, ()))) := by kernel_rfl
theorem okspec_WaitsOf (n : Nat) : FnOk Try.prog 32 (Kspec_WaitsOf n) := by
  refine fn_ok (sig := sig) mixed ttok (mkK_nat (cspec_WaitsOf n)) (mkK_ok (cspec_WaitsOf n)) (mkL_nat (mkK_nat (cspec_WaitsOf n)) (l := [(6, Dspec_WaitsOf_l6, Pspec_WaitsOf_l6 n)]) ⟨nlspec_WaitsOf_l6 n, trivial⟩) (fn := Try.f32) (c := bodyOf Try.f32) (by kernel_rfl) (by kernel_rfl) (by kernel_rfl) (.eq (l := [loopIn 6 (bodyOf Try.f32)]) (by kernel_rfl) ⟨(lkspec_WaitsOf_l6 n _ _ (at_id (i := 6) (by kernel_rfl) rfl)), trivial⟩) (shs := Hspec_WaitsOf) (S := Sspec_WaitsOf) fun R p k => ?_
  unfold Kspec_WaitsOf
  cases h : (PkS.un Sspec_WaitsOf p) with
  | none => rfl
  | some d =>
    obtain ⟨x0, x1, x2, x3, u⟩ := (d : Int × Int × Int × Int × Unit)
    have hp := PkS.un_pack h
    subst hp
    exact (espec_WaitsOf n x0 x1 x2 x3 k).symm

/-! ### loop.example/g00269/impl.in -/
theorem cimpl_in (n : Nat) : AllOk Try.prog [] := trivial
@[reducible] def Simpl_in : PkS := ⟨[.one (.int .i64), .one (.int .i64), .one (.int .i64)], []⟩
@[reducible] def Timpl_in : PkS := ⟨[.one (.bool), .one (.dead), .one (.dead), .one (.dead)], []⟩
def Himpl_in : List Sh := [.one .any, .skip, .skip, .skip]
def Kimpl_in (n : Nat) : KPs := fun R p k => match (PkS.un Simpl_in p : Option (Int × Int × Int × Unit)) with
  | some (x0, x1, x2, _) => impl_in n x0 x1 x2 (fun r0 => k (PkS.pack Timpl_in (r0, ())))
  | none => none
theorem eimpl_in {R : Type} (n : Nat) (x0 : Int) (x1 : Int) (x2 : Int) (k : Pk → Option R) : evF tt sig (mkK [] R) (mkL (mkK []) [] R) Try.f54 Himpl_in (PkS.pack Simpl_in (x0, x1, x2, ())) k = impl_in n x0 x1 x2 (fun r0 => k (PkS.pack Timpl_in (r0, ()))) := by kernel_rfl
theorem okimpl_in (n : Nat) : FnOk Try.prog 54 (Kimpl_in n) := by
  refine fn_ok (sig := sig) mixed ttok (mkK_nat (cimpl_in n)) (mkK_ok (cimpl_in n)) (mkL_nat (mkK_nat (cimpl_in n)) (l := []) trivial) (fn := Try.f54) (c := bodyOf Try.f54) (by kernel_rfl) (by kernel_rfl) (by kernel_rfl) (.eq (l := []) (by kernel_rfl) trivial) (shs := Himpl_in) (S := Simpl_in) fun R p k => ?_
  unfold Kimpl_in
  cases h : (PkS.un Simpl_in p) with
  | none => rfl
  | some d =>
    obtain ⟨x0, x1, x2, u⟩ := (d : Int × Int × Int × Unit)
    have hp := PkS.un_pack h
    subst hp
    exact (eimpl_in n x0 x1 x2 k).symm

/-! ### loop.example/g00269/impl.GoodPolicy -/
theorem cimpl_GoodPolicy (n : Nat) : AllOk Try.prog [(54, Kimpl_in n)] := ⟨okimpl_in n, trivial⟩
@[reducible] def Simpl_GoodPolicy : PkS := ⟨[.agg [.int .i64, .int .i64, .int .i64, .int .i64]], []⟩
@[reducible] def Timpl_GoodPolicy : PkS := ⟨[.one (.bool), .one (.dead)], []⟩
def Himpl_GoodPolicy : List Sh := [.one .any, .skip]
def Kimpl_GoodPolicy (n : Nat) : KPs := fun R p k => match (PkS.un Simpl_GoodPolicy p : Option (Int × Int × Int × Int × Unit)) with
  | some (x0, x1, x2, x3, _) => impl_GoodPolicy n x0 x1 x2 x3 (fun r0 => k (PkS.pack Timpl_GoodPolicy (r0, ())))
  | none => none
theorem eimpl_GoodPolicy {R : Type} (n : Nat) (x0 : Int) (x1 : Int) (x2 : Int) (x3 : Int) (k : Pk → Option R) : evF tt sig (mkK [(54, Kimpl_in n)] R) (mkL (mkK [(54, Kimpl_in n)]) [] R) Try.f17 Himpl_GoodPolicy (PkS.pack Simpl_GoodPolicy (x0, x1, x2, x3, ())) k = impl_GoodPolicy n x0 x1 x2 x3 (fun r0 => k (PkS.pack Timpl_GoodPolicy (r0, ()))) := by kernel_rfl
theorem okimpl_GoodPolicy (n : Nat) : FnOk Try.prog 17 (Kimpl_GoodPolicy n) := by
  refine fn_ok (sig := sig) mixed ttok (mkK_nat (cimpl_GoodPolicy n)) (mkK_ok (cimpl_GoodPolicy n)) (mkL_nat (mkK_nat (cimpl_GoodPolicy n)) (l := []) trivial) (fn := Try.f17) (c := bodyOf Try.f17) (by kernel_rfl) (by kernel_rfl) (by kernel_rfl) (.eq (l := []) (by kernel_rfl) trivial) (shs := Himpl_GoodPolicy) (S := Simpl_GoodPolicy) fun R p k => ?_
  unfold Kimpl_GoodPolicy
  cases h : (PkS.un Simpl_GoodPolicy p) with
  | none => rfl
  | some d =>
    obtain ⟨x0, x1, x2, x3, u⟩ := (d : Int × Int × Int × Int × Unit)
    have hp := PkS.un_pack h
    subst hp
    exact (eimpl_GoodPolicy n x0 x1 x2 x3 k).symm

/-! ### (*loop.example/g00269/impl.Policy).wait -/
theorem cimpl_Policy_wait (n : Nat) : AllOk Try.prog [] := trivial
@[reducible] def Simpl_Policy_wait_l3 : PkS := ⟨[.one (.box (100000, 0) 0), .one (.int .i64), .one (.int .i64), .one (.int .i64), .one (.box (100000, 0) 0), .one (.dead)], [((100000, 0), .box [.int .i64, .int .i64, .int .i64, .int .i64])]⟩
@[reducible] def Timpl_Policy_wait_l3_0 : PkS := ⟨[.one (.box (100000, 0) 0), .one (.int .i64), .one (.box (100000, 0) 0), .one (.dead)], [((100000, 0), .box [.int .i64, .int .i64, .int .i64, .int .i64])]⟩
def Dimpl_Policy_wait_l3 : LoopD := ⟨36, [0, 1, 5, 6], [.box [.any, .any, .any, .any], .one .any, .one .any, .one .any, .box [.any, .any, .any, .any], .skip], fun x => match x with
  | .exit 0 => some ([0, 5], [.box [.any, .any, .any, .any], .one .any, .box [.any, .any, .any, .any], .skip])
  | _ => none⟩
def Pimpl_Policy_wait_l3 (n : Nat) : LPs := fun R q kk => match (PkS.un Simpl_Policy_wait_l3 q : Option (Int × Int × Int × Int × Int × Int × Int × Unit)) with
  | some (y3_0, y3_1, y3_2, y3_3, y3_4, y3_5, y3_6, _) => impl_Policy_wait_l3 n y3_0 y3_1 y3_2 y3_3 y3_4 y3_5 y3_6 (fun r0 r1 r2 r3 r4 => kk (.exit 0) (PkS.pack Timpl_Policy_wait_l3_0 (r0, r1, r2, r3, r4, ())))
  | none => none
theorem eimpl_Policy_wait_l3 {R : Type} (n : Nat) (y3_0 : Int) (y3_1 : Int) (y3_2 : Int) (y3_3 : Int) (y3_4 : Int) (y3_5 : Int) (y3_6 : Int) (kk : Ex → Pk → Option R) : Dimpl_Policy_wait_l3.step tt sig (mkK [] R) (mkL (mkK []) [] R) (loopIn 3 (bodyOf Try.f62)) (fun q' => Pimpl_Policy_wait_l3 n R q' kk) (PkS.pack Simpl_Policy_wait_l3 (y3_0, y3_1, y3_2, y3_3, y3_4, y3_5, y3_6, ())) kk = impl_Policy_wait_l3 (n + 1) y3_0 y3_1 y3_2 y3_3 y3_4 y3_5 y3_6 (fun r0 r1 r2 r3 r4 => kk (.exit 0) (PkS.pack Timpl_Policy_wait_l3_0 (r0, r1, r2, r3, r4, ()))) := by kernel_rfl
theorem leimpl_Policy_wait_l3 : LoopEq tt sig (fun n => mkK []) (fun n => mkL (mkK []) []) Dimpl_Policy_wait_l3 Simpl_Policy_wait_l3 (loopIn 3 (bodyOf Try.f62)) Pimpl_Policy_wait_l3 where
  zero R q kk := by unfold Pimpl_Policy_wait_l3; cases (PkS.un Simpl_Policy_wait_l3 q) <;> rfl
  succ n R q kk := by
    unfold Pimpl_Policy_wait_l3
    cases h : (PkS.un Simpl_Policy_wait_l3 q) with
    | none => rfl
    | some d =>
      obtain ⟨y3_0, y3_1, y3_2, y3_3, y3_4, y3_5, y3_6, u⟩ := (d : Int × Int × Int × Int × Int × Int × Int × Unit)
      have hp := PkS.un_pack h
      subst hp
      exact (eimpl_Policy_wait_l3 n y3_0 y3_1 y3_2 y3_3 y3_4 y3_5 y3_6 kk).symm
theorem nlimpl_Policy_wait_l3 : ∀ n, NatLP (Pimpl_Policy_wait_l3 n) := leimpl_Policy_wait_l3.nat (fun n => mkK_nat (cimpl_Policy_wait n)) fun n => mkL_nat (mkK_nat (cimpl_Policy_wait n)) (l := []) trivial
theorem inimpl_Policy_wait_l3 (n : Nat) (R : Type) : LoopsOk Try.prog (mkL (mkK []) [] R) (loopIn 3 (bodyOf Try.f62)) := .eq (l := []) (by kernel_rfl) trivial
theorem lkimpl_Policy_wait_l3 (n : Nat) (R : Type) (L0 : LK R) (h0 : ∀ id, firstRegion (loopIn 3 (bodyOf Try.f62)) = some id → L0 id = Dimpl_Policy_wait_l3.oracle (mkK [] R) (Pimpl_Policy_wait_l3 n R)) : LoopOk Try.prog L0 (loopIn 3 (bodyOf Try.f62)) :=
  leimpl_Policy_wait_l3.ok mixed ttok (fun n => mkK_nat (cimpl_Policy_wait n)) (fun n => mkK_ok (cimpl_Policy_wait n)) (fun n => inimpl_Policy_wait_l3 n R) (mkK_nat (cimpl_Policy_wait n)) h0
@[reducible] def Simpl_Policy_wait : PkS := ⟨[.one (.box (200000, 0) 0), .one (.int .i64)], [((200000, 0), .box [.int .i64, .int .i64, .int .i64, .int .i64])]⟩
@[reducible] def Timpl_Policy_wait : PkS := ⟨[.one (.int .i64), .one (.box (300000, 0) 0), .one (.dead)], [((300000, 0), .box [.int .i64, .int .i64, .int .i64, .int .i64])]⟩
def Himpl_Policy_wait : List Sh := [.one .any, .box [.any, .any, .any, .any], .skip]
def Kimpl_Policy_wait (n : Nat) : KPs := fun R p k => match (PkS.un Simpl_Policy_wait p : Option (Int × Int × Int × Int × Int × Unit)) with
  | some (x0, x1, x2, x3, x4, _) => impl_Policy_wait n x0 x1 x2 x3 x4 (fun r0 r1 r2 r3 r4 => k (PkS.pack Timpl_Policy_wait (r0, r1, r2, r3, r4, ())))
  | none => none
theorem eimpl_Policy_wait {R : Type} (n : Nat) (x0 : Int) (x1 : Int) (x2 : Int) (x3 : Int) (x4 : Int) (k : Pk → Option R) : evF tt sig (mkK [] R) (mkL (mkK []) [(3, Dimpl_Policy_wait_l3, Pimpl_Policy_wait_l3 n)] R) Try.f62 Himpl_Policy_wait (PkS.pack Simpl_Policy_wait (x0, x1, x2, x3, x4, ())) k = impl_Policy_wait n x0 x1 x2 x3 x4 (fun r0 r1 r2 r3 r4 => k (PkS.pack Timpl_Policy_wait (r0, r1, r2, r3, r4, ()))) := by kernel_rfl
theorem okimpl_Policy_wait (n : Nat) : FnOk Try.prog 62 (Kimpl_Policy_wait n) := by
  refine fn_ok (sig := sig) mixed ttok (mkK_nat (cimpl_Policy_wait n)) (mkK_ok (cimpl_Policy_wait n)) (mkL_nat (mkK_nat (cimpl_Policy_wait n)) (l := [(3, Dimpl_Policy_wait_l3, Pimpl_Policy_wait_l3 n)]) ⟨nlimpl_Policy_wait_l3 n, trivial⟩) (fn := Try.f62) (c := bodyOf Try.f62) (by kernel_rfl) (by kernel_rfl) (by kernel_rfl) (.eq (l := [loopIn 3 (bodyOf Try.f62)]) (by kernel_rfl) ⟨(lkimpl_Policy_wait_l3 n _ _ (at_id (i := 3) (by kernel_rfl) rfl)), trivial⟩) (shs := Himpl_Policy_wait) (S := Simpl_Policy_wait) fun R p k => ?_
  unfold Kimpl_Policy_wait
  cases h : (PkS.un Simpl_Policy_wait p) with
  | none => rfl
  | some d =>
    obtain ⟨x0, x1, x2, x3, x4, u⟩ := (d : Int × Int × Int × Int × Int × Unit)
    have hp := PkS.un_pack h
    subst hp
    exact (eimpl_Policy_wait n x0 x1 x2 x3 x4 k).symm

/-! ### loop.example/g00269/impl.WaitsOf -/
theorem cimpl_WaitsOf (n : Nat) : AllOk Try.prog [(17, Kimpl_GoodPolicy n), (62, Kimpl_Policy_wait n)] := ⟨okimpl_GoodPolicy n, ⟨okimpl_Policy_wait n, trivial⟩⟩
@[reducible] def Simpl_WaitsOf_l5 : PkS := ⟨[.one (.box (100000, 0) 0), .one (.whole (100000, 1)), .one (.int .i64), .one (.int .i64), .one (.dead)], [((100000, 0), .box [.int .i64, .int .i64, .int .i64, .int .i64]), ((100000, 1), .arr (.int .i64))]⟩
@[reducible] def Timpl_WaitsOf_l5_0 : PkS := ⟨[.one (.whole (100000, 0)), .one (.int .i64), .one (.dead)], [((100000, 0), .arr (.int .i64))]⟩
def Dimpl_WaitsOf_l5 : LoopD := ⟨29, [1, 5, 6, 7], [.box [.any, .any, .any, .any], .one (.own (.int .i64)), .one .any, .one .any, .skip], fun x => match x with
  | .exit 0 => some ([5, 6], [.one (.own (.int .i64)), .one .any, .skip])
  | _ => none⟩
def Pimpl_WaitsOf_l5 (n : Nat) : LPs := fun R q kk => match (PkS.un Simpl_WaitsOf_l5 q : Option (Int × Int × Int × Int × Int × Int × (List Int) × Unit)) with
  | some (y5_0, y5_1, y5_2, y5_3, y5_4, y5_5, y5_6, _) => impl_WaitsOf_l5 n y5_0 y5_1 y5_2 y5_3 y5_4 y5_5 y5_6 (fun r0 r1 => kk (.exit 0) (PkS.pack Timpl_WaitsOf_l5_0 (r0, r1, ())))
  | none => none
theorem eimpl_WaitsOf_l5 {R : Type} (n : Nat) (y5_0 : Int) (y5_1 : Int) (y5_2 : Int) (y5_3 : Int) (y5_4 : Int) (y5_5 : Int) (y5_6 : List Int) (kk : Ex → Pk → Option R) : Dimpl_WaitsOf_l5.step tt sig (mkK [(17, Kimpl_GoodPolicy n), (62, Kimpl_Policy_wait n)] R) (mkL (mkK [(17, Kimpl_GoodPolicy n), (62, Kimpl_Policy_wait n)]) [] R) (loopIn 5 (bodyOf Try.f33)) (fun q' => Pimpl_WaitsOf_l5 n R q' kk) (PkS.pack Simpl_WaitsOf_l5 (y5_0, y5_1, y5_2, y5_3, y5_4, y5_5, y5_6, ())) kk = impl_WaitsOf_l5 (n + 1) y5_0 y5_1 y5_2 y5_3 y5_4 y5_5 y5_6 (fun r0 r1 => kk (.exit 0) (PkS.pack Timpl_WaitsOf_l5_0 (r0, r1, ()))) := by kernel_rfl
theorem leimpl_WaitsOf_l5 : LoopEq tt sig (fun n => mkK [(17, Kimpl_GoodPolicy n), (62, Kimpl_Policy_wait n)]) (fun n => mkL (mkK [(17, Kimpl_GoodPolicy n), (62, Kimpl_Policy_wait n)]) []) Dimpl_WaitsOf_l5 Simpl_WaitsOf_l5 (loopIn 5 (bodyOf Try.f33)) Pimpl_WaitsOf_l5 where
  zero R q kk := by unfold Pimpl_WaitsOf_l5; cases (PkS.un Simpl_WaitsOf_l5 q) <;> rfl
  succ n R q kk := by
    unfold Pimpl_WaitsOf_l5
    cases h : (PkS.un Simpl_WaitsOf_l5 q) with
    | none => rfl
    | some d =>
      obtain ⟨y5_0, y5_1, y5_2, y5_3, y5_4, y5_5, y5_6, u⟩ := (d : Int × Int × Int × Int × Int × Int × (List Int) × Unit)
      have hp := PkS.un_pack h
      subst hp
      exact (eimpl_WaitsOf_l5 n y5_0 y5_1 y5_2 y5_3 y5_4 y5_5 y5_6 kk).symm
theorem nlimpl_WaitsOf_l5 : ∀ n, NatLP (Pimpl_WaitsOf_l5 n) := leimpl_WaitsOf_l5.nat (fun n => mkK_nat (cimpl_WaitsOf n)) fun n => mkL_nat (mkK_nat (cimpl_WaitsOf n)) (l := []) trivial
theorem inimpl_WaitsOf_l5 (n : Nat) (R : Type) : LoopsOk Try.prog (mkL (mkK [(17, Kimpl_GoodPolicy n), (62, Kimpl_Policy_wait n)]) [] R) (loopIn 5 (bodyOf Try.f33)) := .eq (l := []) (by kernel_rfl) trivial
theorem lkimpl_WaitsOf_l5 (n : Nat) (R : Type) (L0 : LK R) (h0 : ∀ id, firstRegion (loopIn 5 (bodyOf Try.f33)) = some id → L0 id = Dimpl_WaitsOf_l5.oracle (mkK [(17, Kimpl_GoodPolicy n), (62, Kimpl_Policy_wait n)] R) (Pimpl_WaitsOf_l5 n R)) : LoopOk Try.prog L0 (loopIn 5 (bodyOf Try.f33)) :=
  leimpl_WaitsOf_l5.ok mixed ttok (fun n => mkK_nat (cimpl_WaitsOf n)) (fun n => mkK_ok (cimpl_WaitsOf n)) (fun n => inimpl_WaitsOf_l5 n R) (mkK_nat (cimpl_WaitsOf n)) h0
@[reducible] def Simpl_WaitsOf : PkS := ⟨[.agg [.int .i64, .int .i64, .int .i64, .int .i64]], []⟩
@[reducible] def Timpl_WaitsOf : PkS := ⟨[.tup [(false, [.whole (300000, 0)]), (false, [.int .i64]), (false, [.bool])], .one (.dead)], [((300000, 0), .arr (.int .i64))]⟩
def Himpl_WaitsOf : List Sh := [.tup [(false, [(.own (.int .i64))]), (false, [.any]), (false, [.any])], .skip]
def Kimpl_WaitsOf (n : Nat) : KPs := fun R p k => match (PkS.un Simpl_WaitsOf p : Option (Int × Int × Int × Int × Unit)) with
  | some (x0, x1, x2, x3, _) => impl_WaitsOf n x0 x1 x2 x3 (fun r0 r1 r2 => k (PkS.pack Timpl_WaitsOf (r0, r1, r2, ())))
  | none => none
theorem eimpl_WaitsOf {R : Type} (n : Nat) (x0 : Int) (x1 : Int) (x2 : Int) (x3 : Int) (k : Pk → Option R) : evF tt sig (mkK [(17, Kimpl_GoodPolicy n), (62, Kimpl_Policy_wait n)] R) (mkL (mkK [(17, Kimpl_GoodPolicy n), (62, Kimpl_Policy_wait n)]) [(5, Dimpl_WaitsOf_l5, Pimpl_WaitsOf_l5 n)] R) Try.f33 Himpl_WaitsOf (PkS.pack Simpl_WaitsOf (x0, x1, x2, x3, ())) k = impl_WaitsOf n x0 x1 x2 x3 (fun r0 r1 r2 => k (PkS.pack Timpl_WaitsOf (r0, r1, r2, ()))) := by kernel_rfl
theorem okimpl_WaitsOf (n : Nat) : FnOk Try.prog 33 (Kimpl_WaitsOf n) := by
  refine fn_ok (sig := sig) mixed ttok (mkK_nat (cimpl_WaitsOf n)) (mkK_ok (cimpl_WaitsOf n)) (mkL_nat (mkK_nat (cimpl_WaitsOf n)) (l := [(5, Dimpl_WaitsOf_l5, Pimpl_WaitsOf_l5 n)]) ⟨nlimpl_WaitsOf_l5 n, trivial⟩) (fn := Try.f33) (c := bodyOf Try.f33) (by kernel_rfl) (by kernel_rfl) (by kernel_rfl) (.eq (l := [loopIn 5 (bodyOf Try.f33)]) (by kernel_rfl) ⟨(lkimpl_WaitsOf_l5 n _ _ (at_id (i := 5) (by kernel_rfl) rfl)), trivial⟩) (shs := Himpl_WaitsOf) (S := Simpl_WaitsOf) fun R p k => ?_
  unfold Kimpl_WaitsOf
  cases h : (PkS.un Simpl_WaitsOf p) with
  | none => rfl
  | some d =>
    obtain ⟨x0, x1, x2, x3, u⟩ := (d : Int × Int × Int × Int × Unit)
    have hp := PkS.un_pack h
    subst hp
    exact (eimpl_WaitsOf n x0 x1 x2 x3 k).symm

/-! ### loop.example/g00269/laws.eqIntS -/
theorem claws_eqIntS (n : Nat) : AllOk Try.prog [] := trivial
@[reducible] def Slaws_eqIntS_l4 : PkS := ⟨[.one (.ro (.int .i64)), .one (.ro (.int .i64)), .one (.int .i64), .one (.dead), .one (.dead)], []⟩
@[reducible] def Tlaws_eqIntS_l4_0 : PkS := ⟨[.one (.bool), .one (.dead), .one (.dead)], []⟩
@[reducible] def Tlaws_eqIntS_l4_1 : PkS := ⟨[.one (.dead), .one (.dead)], []⟩
def Dlaws_eqIntS_l4 : LoopD := ⟨26, [0, 1, 5], [.one (.ro (.int .i64)), .one (.ro (.int .i64)), .one .any, .skip, .skip], fun x => match x with
  | .ret => some ([4], [.one .any, .skip, .skip])
  | .exit 0 => some ([], [.skip, .skip])
  | _ => none⟩
def Plaws_eqIntS_l4 (n : Nat) : LPs := fun R q kk => match (PkS.un Slaws_eqIntS_l4 q : Option ((List Int) × (List Int) × Int × Unit)) with
  | some (y4_0, y4_1, y4_2, _) => laws_eqIntS_l4 n y4_0 y4_1 y4_2 (fun r0 => kk .ret (PkS.pack Tlaws_eqIntS_l4_0 (r0, ()))) (kk (.exit 0) (PkS.pack Tlaws_eqIntS_l4_1 ()))
  | none => none
theorem elaws_eqIntS_l4 {R : Type} (n : Nat) (y4_0 : List Int) (y4_1 : List Int) (y4_2 : Int) (kk : Ex → Pk → Option R) : Dlaws_eqIntS_l4.step tt sig (mkK [] R) (mkL (mkK []) [] R) (loopIn 4 (bodyOf Try.f34)) (fun q' => Plaws_eqIntS_l4 n R q' kk) (PkS.pack Slaws_eqIntS_l4 (y4_0, y4_1, y4_2, ())) kk = laws_eqIntS_l4 (n + 1) y4_0 y4_1 y4_2 (fun r0 => kk .ret (PkS.pack Tlaws_eqIntS_l4_0 (r0, ()))) (kk (.exit 0) (PkS.pack Tlaws_eqIntS_l4_1 ())) := by kernel_rfl
theorem lelaws_eqIntS_l4 : LoopEq tt sig (fun n => mkK []) (fun n => mkL (mkK []) []) Dlaws_eqIntS_l4 Slaws_eqIntS_l4 (loopIn 4 (bodyOf Try.f34)) Plaws_eqIntS_l4 where
  zero R q kk := by unfold Plaws_eqIntS_l4; cases (PkS.un Slaws_eqIntS_l4 q) <;> rfl
  succ n R q kk := by
    unfold Plaws_eqIntS_l4
    cases h : (PkS.un Slaws_eqIntS_l4 q) with
    | none => rfl
    | some d =>
      obtain ⟨y4_0, y4_1, y4_2, u⟩ := (d : (List Int) × (List Int) × Int × Unit)
      have hp := PkS.un_pack h
      subst hp
      exact (elaws_eqIntS_l4 n y4_0 y4_1 y4_2 kk).symm
theorem nllaws_eqIntS_l4 : ∀ n, NatLP (Plaws_eqIntS_l4 n) := lelaws_eqIntS_l4.nat (fun n => mkK_nat (claws_eqIntS n)) fun n => mkL_nat (mkK_nat (claws_eqIntS n)) (l := []) trivial
theorem inlaws_eqIntS_l4 (n : Nat) (R : Type) : LoopsOk Try.prog (mkL (mkK []) [] R) (loopIn 4 (bodyOf Try.f34)) := .eq (l := []) (by kernel_rfl) trivial
theorem lklaws_eqIntS_l4 (n : Nat) (R : Type) (L0 : LK R) (h0 : ∀ id, firstRegion (loopIn 4 (bodyOf Try.f34)) = some id → L0 id = Dlaws_eqIntS_l4.oracle (mkK [] R) (Plaws_eqIntS_l4 n R)) : LoopOk Try.prog L0 (loopIn 4 (bodyOf Try.f34)) :=
  lelaws_eqIntS_l4.ok mixed ttok (fun n => mkK_nat (claws_eqIntS n)) (fun n => mkK_ok (claws_eqIntS n)) (fun n => inlaws_eqIntS_l4 n R) (mkK_nat (claws_eqIntS n)) h0
@[reducible] def Slaws_eqIntS : PkS := ⟨[.one (.ro (.int .i64)), .one (.ro (.int .i64))], []⟩
@[reducible] def Tlaws_eqIntS : PkS := ⟨[.one (.bool), .one (.dead), .one (.dead)], []⟩
def Hlaws_eqIntS : List Sh := [.one .any, .skip, .skip]
def Klaws_eqIntS (n : Nat) : KPs := fun R p k => match (PkS.un Slaws_eqIntS p : Option ((List Int) × (List Int) × Unit)) with
  | some (x0, x1, _) => laws_eqIntS n x0 x1 (fun r0 => k (PkS.pack Tlaws_eqIntS (r0, ())))
  | none => none
theorem elaws_eqIntS {R : Type} (n : Nat) (x0 : List Int) (x1 : List Int) (k : Pk → Option R) : evF tt sig (mkK [] R) (mkL (mkK []) [(4, Dlaws_eqIntS_l4, Plaws_eqIntS_l4 n)] R) Try.f34 Hlaws_eqIntS (PkS.pack Slaws_eqIntS (x0, x1, ())) k = laws_eqIntS n x0 x1 (fun r0 => k (PkS.pack Tlaws_eqIntS (r0, ()))) := by kernel_rfl
theorem oklaws_eqIntS (n : Nat) : FnOk Try.prog 34 (Klaws_eqIntS n) := by
  refine fn_ok (sig := sig) mixed ttok (mkK_nat (claws_eqIntS n)) (mkK_ok (claws_eqIntS n)) (mkL_nat (mkK_nat (claws_eqIntS n)) (l := [(4, Dlaws_eqIntS_l4, Plaws_eqIntS_l4 n)]) ⟨nllaws_eqIntS_l4 n, trivial⟩) (fn := Try.f34) (c := bodyOf Try.f34) (by kernel_rfl) (by kernel_rfl) (by kernel_rfl) (.eq (l := [loopIn 4 (bodyOf Try.f34)]) (by kernel_rfl) ⟨(lklaws_eqIntS_l4 n _ _ (at_id (i := 4) (by kernel_rfl) rfl)), trivial⟩) (shs := Hlaws_eqIntS) (S := Slaws_eqIntS) fun R p k => ?_
  unfold Klaws_eqIntS
  cases h : (PkS.un Slaws_eqIntS p) with
  | none => rfl
  | some d =>
    obtain ⟨x0, x1, u⟩ := (d : (List Int) × (List Int) × Unit)
    have hp := PkS.un_pack h
    subst hp
    exact (elaws_eqIntS n x0 x1 k).symm

/-! ### loop.example/g00269/laws.markIntS -/
theorem claws_markIntS (n : Nat) : AllOk Try.prog [] := trivial
@[reducible] def Slaws_markIntS_l2 : PkS := ⟨[.one (.whole (100000, 0)), .one (.int .i64), .one (.int .i64), .one (.whole (100000, 0)), .one (.dead)], [((100000, 0), .arr (.int .i64))]⟩
@[reducible] def Tlaws_markIntS_l2_0 : PkS := ⟨[.one (.int .i64), .one (.whole (100000, 0)), .one (.dead)], [((100000, 0), .arr (.int .i64))]⟩
def Dlaws_markIntS_l2 : LoopD := ⟨19, [0, 1, 5], [.one (.own (.int .i64)), .one .any, .one .any, .one (.own (.int .i64)), .skip], fun x => match x with
  | .exit 0 => some ([1], [.one .any, .one (.own (.int .i64)), .skip])
  | _ => none⟩
def Plaws_markIntS_l2 (n : Nat) : LPs := fun R q kk => match (PkS.un Slaws_markIntS_l2 q : Option (Int × Int × (List Int) × Unit)) with
  | some (y2_0, y2_1, y2_2, _) => laws_markIntS_l2 n y2_0 y2_1 y2_2 (fun r0 r1 => kk (.exit 0) (PkS.pack Tlaws_markIntS_l2_0 (r0, r1, ())))
  | none => none
theorem elaws_markIntS_l2 {R : Type} (n : Nat) (y2_0 : Int) (y2_1 : Int) (y2_2 : List Int) (kk : Ex → Pk → Option R) : Dlaws_markIntS_l2.step tt sig (mkK [] R) (mkL (mkK []) [] R) (loopIn 2 (bodyOf Try.f35)) (fun q' => Plaws_markIntS_l2 n R q' kk) (PkS.pack Slaws_markIntS_l2 (y2_0, y2_1, y2_2, ())) kk = laws_markIntS_l2 (n + 1) y2_0 y2_1 y2_2 (fun r0 r1 => kk (.exit 0) (PkS.pack Tlaws_markIntS_l2_0 (r0, r1, ()))) := by kernel_rfl
theorem lelaws_markIntS_l2 : LoopEq tt sig (fun n => mkK []) (fun n => mkL (mkK []) []) Dlaws_markIntS_l2 Slaws_markIntS_l2 (loopIn 2 (bodyOf Try.f35)) Plaws_markIntS_l2 where
  zero R q kk := by unfold Plaws_markIntS_l2; cases (PkS.un Slaws_markIntS_l2 q) <;> rfl
  succ n R q kk := by
    unfold Plaws_markIntS_l2
    cases h : (PkS.un Slaws_markIntS_l2 q) with
    | none => rfl
    | some d =>
      obtain ⟨y2_0, y2_1, y2_2, u⟩ := (d : Int × Int × (List Int) × Unit)
      have hp := PkS.un_pack h
      subst hp
      exact (elaws_markIntS_l2 n y2_0 y2_1 y2_2 kk).symm
theorem nllaws_markIntS_l2 : ∀ n, NatLP (Plaws_markIntS_l2 n) := lelaws_markIntS_l2.nat (fun n => mkK_nat (claws_markIntS n)) fun n => mkL_nat (mkK_nat (claws_markIntS n)) (l := []) trivial
theorem inlaws_markIntS_l2 (n : Nat) (R : Type) : LoopsOk Try.prog (mkL (mkK []) [] R) (loopIn 2 (bodyOf Try.f35)) := .eq (l := []) (by kernel_rfl) trivial
theorem lklaws_markIntS_l2 (n : Nat) (R : Type) (L0 : LK R) (h0 : ∀ id, firstRegion (loopIn 2 (bodyOf Try.f35)) = some id → L0 id = Dlaws_markIntS_l2.oracle (mkK [] R) (Plaws_markIntS_l2 n R)) : LoopOk Try.prog L0 (loopIn 2 (bodyOf Try.f35)) :=
  lelaws_markIntS_l2.ok mixed ttok (fun n => mkK_nat (claws_markIntS n)) (fun n => mkK_ok (claws_markIntS n)) (fun n => inlaws_markIntS_l2 n R) (mkK_nat (claws_markIntS n)) h0
@[reducible] def Slaws_markIntS : PkS := ⟨[.one (.whole (200000, 0)), .one (.int .i64)], [((200000, 0), .arr (.int .i64))]⟩
@[reducible] def Tlaws_markIntS : PkS := ⟨[.one (.int .i64), .one (.whole (300000, 0)), .one (.dead)], [((300000, 0), .arr (.int .i64))]⟩
def Hlaws_markIntS : List Sh := [.one .any, .one (.own (.int .i64)), .skip]
def Klaws_markIntS (n : Nat) : KPs := fun R p k => match (PkS.un Slaws_markIntS p : Option (Int × (List Int) × Unit)) with
  | some (x0, x1, _) => laws_markIntS n x0 x1 (fun r0 r1 => k (PkS.pack Tlaws_markIntS (r0, r1, ())))
  | none => none
theorem elaws_markIntS {R : Type} (n : Nat) (x0 : Int) (x1 : List Int) (k : Pk → Option R) : evF tt sig (mkK [] R) (mkL (mkK []) [(2, Dlaws_markIntS_l2, Plaws_markIntS_l2 n)] R) Try.f35 Hlaws_markIntS (PkS.pack Slaws_markIntS (x0, x1, ())) k = laws_markIntS n x0 x1 (fun r0 r1 => k (PkS.pack Tlaws_markIntS (r0, r1, ()))) := by kernel_rfl
theorem oklaws_markIntS (n : Nat) : FnOk Try.prog 35 (Klaws_markIntS n) := by
  refine fn_ok (sig := sig) mixed ttok (mkK_nat (claws_markIntS n)) (mkK_ok (claws_markIntS n)) (mkL_nat (mkK_nat (claws_markIntS n)) (l := [(2, Dlaws_markIntS_l2, Plaws_markIntS_l2 n)]) ⟨nllaws_markIntS_l2 n, trivial⟩) (fn := Try.f35) (c := bodyOf Try.f35) (by kernel_rfl) (by kernel_rfl) (by kernel_rfl) (.eq (l := [loopIn 2 (bodyOf Try.f35)]) (by kernel_rfl) ⟨(lklaws_markIntS_l2 n _ _ (at_id (i := 2) (by kernel_rfl) rfl)), trivial⟩) (shs := Hlaws_markIntS) (S := Slaws_markIntS) fun R p k => ?_
  unfold Klaws_markIntS
  cases h : (PkS.un Slaws_markIntS p) with
  | none => rfl
  | some d =>
    obtain ⟨x0, x1, u⟩ := (d : Int × (List Int) × Unit)
    have hp := PkS.un_pack h
    subst hp
    exact (elaws_markIntS n x0 x1 k).symm

/-! ### loop.example/g00269/laws.heldIntS -/
theorem claws_heldIntS (n : Nat) : AllOk Try.prog [] := trivial
@[reducible] def Slaws_heldIntS_l2 : PkS := ⟨[.one (.ro (.int .i64)), .one (.int .i64), .one (.int .i64), .one (.dead), .one (.dead)], []⟩
@[reducible] def Tlaws_heldIntS_l2_0 : PkS := ⟨[.one (.int .i64), .one (.dead), .one (.dead)], []⟩
@[reducible] def Tlaws_heldIntS_l2_1 : PkS := ⟨[.one (.int .i64), .one (.dead), .one (.dead)], []⟩
def Dlaws_heldIntS_l2 : LoopD := ⟨21, [0, 1, 5], [.one (.ro (.int .i64)), .one .any, .one .any, .skip, .skip], fun x => match x with
  | .ret => some ([4], [.one .any, .skip, .skip])
  | .exit 0 => some ([1], [.one .any, .skip, .skip])
  | _ => none⟩
def Plaws_heldIntS_l2 (n : Nat) : LPs := fun R q kk => match (PkS.un Slaws_heldIntS_l2 q : Option ((List Int) × Int × Int × Unit)) with
  | some (y2_0, y2_1, y2_2, _) => laws_heldIntS_l2 n y2_0 y2_1 y2_2 (fun r0 => kk .ret (PkS.pack Tlaws_heldIntS_l2_0 (r0, ()))) (fun r0 => kk (.exit 0) (PkS.pack Tlaws_heldIntS_l2_1 (r0, ())))
  | none => none
theorem elaws_heldIntS_l2 {R : Type} (n : Nat) (y2_0 : List Int) (y2_1 : Int) (y2_2 : Int) (kk : Ex → Pk → Option R) : Dlaws_heldIntS_l2.step tt sig (mkK [] R) (mkL (mkK []) [] R) (loopIn 2 (bodyOf Try.f36)) (fun q' => Plaws_heldIntS_l2 n R q' kk) (PkS.pack Slaws_heldIntS_l2 (y2_0, y2_1, y2_2, ())) kk = laws_heldIntS_l2 (n + 1) y2_0 y2_1 y2_2 (fun r0 => kk .ret (PkS.pack Tlaws_heldIntS_l2_0 (r0, ()))) (fun r0 => kk (.exit 0) (PkS.pack Tlaws_heldIntS_l2_1 (r0, ()))) := by kernel_rfl
theorem lelaws_heldIntS_l2 : LoopEq tt sig (fun n => mkK []) (fun n => mkL (mkK []) []) Dlaws_heldIntS_l2 Slaws_heldIntS_l2 (loopIn 2 (bodyOf Try.f36)) Plaws_heldIntS_l2 where
  zero R q kk := by unfold Plaws_heldIntS_l2; cases (PkS.un Slaws_heldIntS_l2 q) <;> rfl
  succ n R q kk := by
    unfold Plaws_heldIntS_l2
    cases h : (PkS.un Slaws_heldIntS_l2 q) with
    | none => rfl
    | some d =>
      obtain ⟨y2_0, y2_1, y2_2, u⟩ := (d : (List Int) × Int × Int × Unit)
      have hp := PkS.un_pack h
      subst hp
      exact (elaws_heldIntS_l2 n y2_0 y2_1 y2_2 kk).symm
theorem nllaws_heldIntS_l2 : ∀ n, NatLP (Plaws_heldIntS_l2 n) := lelaws_heldIntS_l2.nat (fun n => mkK_nat (claws_heldIntS n)) fun n => mkL_nat (mkK_nat (claws_heldIntS n)) (l := []) trivial
theorem inlaws_heldIntS_l2 (n : Nat) (R : Type) : LoopsOk Try.prog (mkL (mkK []) [] R) (loopIn 2 (bodyOf Try.f36)) := .eq (l := []) (by kernel_rfl) trivial
theorem lklaws_heldIntS_l2 (n : Nat) (R : Type) (L0 : LK R) (h0 : ∀ id, firstRegion (loopIn 2 (bodyOf Try.f36)) = some id → L0 id = Dlaws_heldIntS_l2.oracle (mkK [] R) (Plaws_heldIntS_l2 n R)) : LoopOk Try.prog L0 (loopIn 2 (bodyOf Try.f36)) :=
  lelaws_heldIntS_l2.ok mixed ttok (fun n => mkK_nat (claws_heldIntS n)) (fun n => mkK_ok (claws_heldIntS n)) (fun n => inlaws_heldIntS_l2 n R) (mkK_nat (claws_heldIntS n)) h0
@[reducible] def Slaws_heldIntS : PkS := ⟨[.one (.ro (.int .i64)), .one (.int .i64)], []⟩
@[reducible] def Tlaws_heldIntS : PkS := ⟨[.one (.int .i64), .one (.dead), .one (.dead)], []⟩
def Hlaws_heldIntS : List Sh := [.one .any, .skip, .skip]
def Klaws_heldIntS (n : Nat) : KPs := fun R p k => match (PkS.un Slaws_heldIntS p : Option ((List Int) × Int × Unit)) with
  | some (x0, x1, _) => laws_heldIntS n x0 x1 (fun r0 => k (PkS.pack Tlaws_heldIntS (r0, ())))
  | none => none
theorem elaws_heldIntS {R : Type} (n : Nat) (x0 : List Int) (x1 : Int) (k : Pk → Option R) : evF tt sig (mkK [] R) (mkL (mkK []) [(2, Dlaws_heldIntS_l2, Plaws_heldIntS_l2 n)] R) Try.f36 Hlaws_heldIntS (PkS.pack Slaws_heldIntS (x0, x1, ())) k = laws_heldIntS n x0 x1 (fun r0 => k (PkS.pack Tlaws_heldIntS (r0, ()))) := by kernel_rfl
theorem oklaws_heldIntS (n : Nat) : FnOk Try.prog 36 (Klaws_heldIntS n) := by
  refine fn_ok (sig := sig) mixed ttok (mkK_nat (claws_heldIntS n)) (mkK_ok (claws_heldIntS n)) (mkL_nat (mkK_nat (claws_heldIntS n)) (l := [(2, Dlaws_heldIntS_l2, Plaws_heldIntS_l2 n)]) ⟨nllaws_heldIntS_l2 n, trivial⟩) (fn := Try.f36) (c := bodyOf Try.f36) (by kernel_rfl) (by kernel_rfl) (by kernel_rfl) (.eq (l := [loopIn 2 (bodyOf Try.f36)]) (by kernel_rfl) ⟨(lklaws_heldIntS_l2 n _ _ (at_id (i := 2) (by kernel_rfl) rfl)), trivial⟩) (shs := Hlaws_heldIntS) (S := Slaws_heldIntS) fun R p k => ?_
  unfold Klaws_heldIntS
  cases h : (PkS.un Slaws_heldIntS p) with
  | none => rfl
  | some d =>
    obtain ⟨x0, x1, u⟩ := (d : (List Int) × Int × Unit)
    have hp := PkS.un_pack h
    subst hp
    exact (elaws_heldIntS n x0 x1 k).symm

/-! ### loop.example/g00269/laws.FnExactWaitsOf -/
theorem claws_FnExactWaitsOf (n : Nat) : AllOk Try.prog [(16, Klaws_toPolicy n), (32, Kspec_WaitsOf n), (33, Kimpl_WaitsOf n), (34, Klaws_eqIntS n), (35, Klaws_markIntS n), (36, Klaws_heldIntS n)] := ⟨oklaws_toPolicy n, ⟨okspec_WaitsOf n, ⟨okimpl_WaitsOf n, ⟨oklaws_eqIntS n, ⟨oklaws_markIntS n, ⟨oklaws_heldIntS n, trivial⟩⟩⟩⟩⟩⟩
@[reducible] def Slaws_FnExactWaitsOf : PkS := ⟨[.agg [.int .i64, .int .i64, .int .i64, .int .i64]], []⟩
@[reducible] def Tlaws_FnExactWaitsOf : PkS := ⟨[.one (.bool), .one (.dead)], []⟩
def Hlaws_FnExactWaitsOf : List Sh := [.one .any, .skip]
def Klaws_FnExactWaitsOf (n : Nat) : KPs := fun R p k => match (PkS.un Slaws_FnExactWaitsOf p : Option (Int × Int × Int × Int × Unit)) with
  | some (x0, x1, x2, x3, _) => laws_FnExactWaitsOf n x0 x1 x2 x3 (fun r0 => k (PkS.pack Tlaws_FnExactWaitsOf (r0, ())))
  | none => none
theorem elaws_FnExactWaitsOf {R : Type} (n : Nat) (x0 : Int) (x1 : Int) (x2 : Int) (x3 : Int) (k : Pk → Option R) : evF tt sig (mkK [(16, Klaws_toPolicy n), (32, Kspec_WaitsOf n), (33, Kimpl_WaitsOf n), (34, Klaws_eqIntS n), (35, Klaws_markIntS n), (36, Klaws_heldIntS n)] R) (mkL (mkK [(16, Klaws_toPolicy n), (32, Kspec_WaitsOf n), (33, Kimpl_WaitsOf n), (34, Klaws_eqIntS n), (35, Klaws_markIntS n), (36, Klaws_heldIntS n)]) [] R) Try.f9 Hlaws_FnExactWaitsOf (PkS.pack Slaws_FnExactWaitsOf (x0, x1, x2, x3, ())) k = laws_FnExactWaitsOf n x0 x1 x2 x3 (fun r0 => k (PkS.pack Tlaws_FnExactWaitsOf (r0, ()))) := by kernel_rfl
theorem oklaws_FnExactWaitsOf (n : Nat) : FnOk Try.prog 9 (Klaws_FnExactWaitsOf n) := by
  refine fn_ok (sig := sig) mixed ttok (mkK_nat (claws_FnExactWaitsOf n)) (mkK_ok (claws_FnExactWaitsOf n)) (mkL_nat (mkK_nat (claws_FnExactWaitsOf n)) (l := []) trivial) (fn := Try.f9) (c := bodyOf Try.f9) (by kernel_rfl) (by kernel_rfl) (by kernel_rfl) (.eq (l := []) (by kernel_rfl) trivial) (shs := Hlaws_FnExactWaitsOf) (S := Slaws_FnExactWaitsOf) fun R p k => ?_
  unfold Klaws_FnExactWaitsOf
  cases h : (PkS.un Slaws_FnExactWaitsOf p) with
  | none => rfl
  | some d =>
    obtain ⟨x0, x1, x2, x3, u⟩ := (d : Int × Int × Int × Int × Unit)
    have hp := PkS.un_pack h
    subst hp
    exact (elaws_FnExactWaitsOf n x0 x1 x2 x3 k).symm
end Go.Am.G
