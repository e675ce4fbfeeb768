/- The code of the functions that the law reaches does what the plain functions say. -/
import Derived.Test.YtkmjmhjfadaebaaF8
import Derived.Test.YtkmjmhjfadaebaaAmB
import Derived.KernelRfl
import Derived.Test.YtkmjmhjfadaebaaProg
set_option linter.unusedVariables false
set_option maxRecDepth 100000
namespace Go.Am.G
open Go Go.Am
open Go.Proofs
def tt : TT := [(3, ⟨1, false, (.int .i64), 0, [], [.int .i64 0], 8, true, false, []⟩), (4, ⟨1, false, .bool, 0, [], [.bool false], 1, true, false, []⟩), (23, ⟨4, true, (.pr (.int .i64) (.pr (.int .i64) (.pr (.int .i64) (.int .i64)))), 0, [(0, 1, false), (1, 1, false), (2, 1, false), (3, 1, false)], [.int .i64 0, .int .i64 0, .int .i64 0, .int .i64 0], 32, true, false, [(.int .i64), (.int .i64), (.int .i64), (.int .i64)]⟩), (25, ⟨4, true, (.pr (.int .i64) (.pr (.int .i64) (.pr (.int .i64) (.int .i64)))), 0, [(0, 1, false), (1, 1, false), (2, 1, false), (3, 1, false)], [.int .i64 0, .int .i64 0, .int .i64 0, .int .i64 0], 32, true, false, [(.int .i64), (.int .i64), (.int .i64), (.int .i64)]⟩)]
def sig : Sig := sigOf [(8, [.agg [.any, .any, .any, .any], .one .any]), (15, [.agg [.any, .any, .any, .any]]), (16, [.agg [.any, .any, .any, .any]]), (17, [.agg [.any, .any, .any, .any]]), (30, [.agg [.any, .any, .any, .any], .one .any]), (31, [.agg [.any, .any, .any, .any], .one .any]), (53, [.one .any, .one .any, .one .any]), (54, [.one .any, .one .any, .one .any]), (61, [.agg [.any, .any, .any, .any], .one .any]), (62, [.box [.any, .any, .any, .any], .one .any])]
theorem ttok : TTok Try.prog tt := .of_chk (by kernel_rfl)
theorem mixed : Try.prog.follows .mixedOrders = true := by kernel_rfl

/-! ### loop.example/g00269/laws.toPolicy -/
theorem claws_toPolicy (n : Nat) : AllOk Try.prog [] := trivial
@[reducible] def Slaws_toPolicy : PkS := ⟨[.agg [.int .i64, .int .i64, .int .i64, .int .i64]], []⟩
@[reducible] def Tlaws_toPolicy : PkS := ⟨[.agg [.int .i64, .int .i64, .int .i64, .int .i64], .one (.dead)], []⟩
def Hlaws_toPolicy : List Sh := [.agg [.any, .any, .any, .any], .skip]
def Klaws_toPolicy (n : Nat) : KPs := fun R p k => match (PkS.un Slaws_toPolicy p : Option (Int × Int × Int × Int × Unit)) with
  | some (x0, x1, x2, x3, _) => laws_toPolicy n x0 x1 x2 x3 (fun r0 r1 r2 r3 => k (PkS.pack Tlaws_toPolicy (r0, r1, r2, r3, ())))
  | none => none
theorem elaws_toPolicy {R : Type} (n : Nat) (x0 : Int) (x1 : Int) (x2 : Int) (x3 : Int) (k : Pk → Option R) : evF tt sig (mkK [] R) (mkL (mkK []) [] R) Try.f16 Hlaws_toPolicy (PkS.pack Slaws_toPolicy (x0, x1, x2, x3, ())) k = laws_toPolicy n x0 x1 x2 x3 (fun r0 r1 r2 r3 => k (PkS.pack Tlaws_toPolicy (r0, r1, r2, r3, ()))) := by kernel_rfl
theorem oklaws_toPolicy (n : Nat) : FnOk Try.prog 16 (Klaws_toPolicy n) := by
  refine fn_ok (sig := sig) mixed ttok (mkK_nat (claws_toPolicy n)) (mkK_ok (claws_toPolicy n)) (mkL_nat (mkK_nat (claws_toPolicy n)) (l := []) trivial) (fn := Try.f16) (c := bodyOf Try.f16) (by kernel_rfl) (by kernel_rfl) (by kernel_rfl) (.eq (l := []) (by kernel_rfl) trivial) (shs := Hlaws_toPolicy) (S := Slaws_toPolicy) fun R p k => ?_
  unfold Klaws_toPolicy
  cases h : (PkS.un Slaws_toPolicy p) with
  | none => rfl
  | some d =>
    obtain ⟨x0, x1, x2, x3, u⟩ := (d : Int × Int × Int × Int × Unit)
    have hp := PkS.un_pack h
    subst hp
    exact (elaws_toPolicy n x0 x1 x2 x3 k).symm

/-! ### loop.example/g00269/spec.l1In -/
theorem cspec_l1In (n : Nat) : AllOk Try.prog [] := trivial
@[reducible] def Sspec_l1In : PkS := ⟨[.one (.int .i64), .one (.int .i64), .one (.int .i64)], []⟩
@[reducible] def Tspec_l1In : PkS := ⟨[.one (.bool), .one (.dead), .one (.dead), .one (.dead)], []⟩
def Hspec_l1In : List Sh := [.one .any, .skip, .skip, .skip]
def Kspec_l1In (n : Nat) : KPs := fun R p k => match (PkS.un Sspec_l1In p : Option (Int × Int × Int × Unit)) with
  | some (x0, x1, x2, _) => spec_l1In n x0 x1 x2 (fun r0 => k (PkS.pack Tspec_l1In (r0, ())))
  | none => none
theorem espec_l1In {R : Type} (n : Nat) (x0 : Int) (x1 : Int) (x2 : Int) (k : Pk → Option R) : evF tt sig (mkK [] R) (mkL (mkK []) [] R) Try.f53 Hspec_l1In (PkS.pack Sspec_l1In (x0, x1, x2, ())) k = spec_l1In n x0 x1 x2 (fun r0 => k (PkS.pack Tspec_l1In (r0, ()))) := by kernel_rfl
theorem okspec_l1In (n : Nat) : FnOk Try.prog 53 (Kspec_l1In n) := by
  refine fn_ok (sig := sig) mixed ttok (mkK_nat (cspec_l1In n)) (mkK_ok (cspec_l1In n)) (mkL_nat (mkK_nat (cspec_l1In n)) (l := []) trivial) (fn := Try.f53) (c := bodyOf Try.f53) (by kernel_rfl) (by kernel_rfl) (by kernel_rfl) (.eq (l := []) (by kernel_rfl) trivial) (shs := Hspec_l1In) (S := Sspec_l1In) fun R p k => ?_
  unfold Kspec_l1In
  cases h : (PkS.un Sspec_l1In p) with
  | none => rfl
  | some d =>
    obtain ⟨x0, x1, x2, u⟩ := (d : Int × Int × Int × Unit)
    have hp := PkS.un_pack h
    subst hp
    exact (espec_l1In n x0 x1 x2 k).symm

/-! ### loop.example/g00269/spec.GoodPolicy -/
theorem cspec_GoodPolicy (n : Nat) : AllOk Try.prog [(53, Kspec_l1In n)] := ⟨okspec_l1In n, trivial⟩
@[reducible] def Sspec_GoodPolicy : PkS := ⟨[.agg [.int .i64, .int .i64, .int .i64, .int .i64]], []⟩
@[reducible] def Tspec_GoodPolicy : PkS := ⟨[.one (.bool), .one (.dead)], []⟩
def Hspec_GoodPolicy : List Sh := [.one .any, .skip]
def Kspec_GoodPolicy (n : Nat) : KPs := fun R p k => match (PkS.un Sspec_GoodPolicy p : Option (Int × Int × Int × Int × Unit)) with
  | some (x0, x1, x2, x3, _) => spec_GoodPolicy n x0 x1 x2 x3 (fun r0 => k (PkS.pack Tspec_GoodPolicy (r0, ())))
  | none => none
theorem espec_GoodPolicy {R : Type} (n : Nat) (x0 : Int) (x1 : Int) (x2 : Int) (x3 : Int) (k : Pk → Option R) : evF tt sig (mkK [(53, Kspec_l1In n)] R) (mkL (mkK [(53, Kspec_l1In n)]) [] R) Try.f15 Hspec_GoodPolicy (PkS.pack Sspec_GoodPolicy (x0, x1, x2, x3, ())) k = spec_GoodPolicy n x0 x1 x2 x3 (fun r0 => k (PkS.pack Tspec_GoodPolicy (r0, ()))) := by kernel_rfl
theorem okspec_GoodPolicy (n : Nat) : FnOk Try.prog 15 (Kspec_GoodPolicy n) := by
  refine fn_ok (sig := sig) mixed ttok (mkK_nat (cspec_GoodPolicy n)) (mkK_ok (cspec_GoodPolicy n)) (mkL_nat (mkK_nat (cspec_GoodPolicy n)) (l := []) trivial) (fn := Try.f15) (c := bodyOf Try.f15) (by kernel_rfl) (by kernel_rfl) (by kernel_rfl) (.eq (l := []) (by kernel_rfl) trivial) (shs := Hspec_GoodPolicy) (S := Sspec_GoodPolicy) fun R p k => ?_
  unfold Kspec_GoodPolicy
  cases h : (PkS.un Sspec_GoodPolicy p) with
  | none => rfl
  | some d =>
    obtain ⟨x0, x1, x2, x3, u⟩ := (d : Int × Int × Int × Int × Unit)
    have hp := PkS.un_pack h
    subst hp
    exact (espec_GoodPolicy n x0 x1 x2 x3 k).symm

/-! ### loop.example/g00269/spec.l10Wait -/
theorem cspec_l10Wait (n : Nat) : AllOk Try.prog [] := trivial
@[reducible] def Sspec_l10Wait_l2 : PkS := ⟨[.one (.int .i64), .one (.box (100000, 0) 0), .one (.int .i64), .one (.dead), .one (.dead)], [((100000, 0), .box [.int .i64, .int .i64, .int .i64, .int .i64])]⟩
@[reducible] def Tspec_l10Wait_l2_0 : PkS := ⟨[.one (.int .i64), .one (.dead), .one (.dead)], []⟩
@[reducible] def Tspec_l10Wait_l2_1 : PkS := ⟨[.one (.int .i64), .one (.dead), .one (.dead)], []⟩
def Dspec_l10Wait_l2 : LoopD := ⟨23, [1, 2, 5], [.one .any, .box [.any, .any, .any, .any], .one .any, .skip, .skip], fun x => match x with
  | .ret => some ([4], [.one .any, .skip, .skip])
  | .exit 0 => some ([5], [.one .any, .skip, .skip])
  | _ => none⟩
def Pspec_l10Wait_l2 (n : Nat) : LPs := fun R q kk => match (PkS.un Sspec_l10Wait_l2 q : Option (Int × Int × Int × Int × Int × Int × Unit)) with
  | some (y2_0, y2_1, y2_2, y2_3, y2_4, y2_5, _) => spec_l10Wait_l2 n y2_0 y2_1 y2_2 y2_3 y2_4 y2_5 (fun r0 => kk .ret (PkS.pack Tspec_l10Wait_l2_0 (r0, ()))) (fun r0 => kk (.exit 0) (PkS.pack Tspec_l10Wait_l2_1 (r0, ())))
  | none => none
theorem espec_l10Wait_l2 {R : Type} (n : Nat) (y2_0 : Int) (y2_1 : Int) (y2_2 : Int) (y2_3 : Int) (y2_4 : Int) (y2_5 : Int) (kk : Ex → Pk → Option R) : Dspec_l10Wait_l2.step tt sig (mkK [] R) (mkL (mkK []) [] R) (loopIn 2 (bodyOf Try.f61)) (fun q' => Pspec_l10Wait_l2 n R q' kk) (PkS.pack Sspec_l10Wait_l2 (y2_0, y2_1, y2_2, y2_3, y2_4, y2_5, ())) kk = spec_l10Wait_l2 (n + 1) y2_0 y2_1 y2_2 y2_3 y2_4 y2_5 (fun r0 => kk .ret (PkS.pack Tspec_l10Wait_l2_0 (r0, ()))) (fun r0 => kk (.exit 0) (PkS.pack Tspec_l10Wait_l2_1 (r0, ()))) := by kernel_rfl
theorem lespec_l10Wait_l2 : LoopEq tt sig (fun n => mkK []) (fun n => mkL (mkK []) []) Dspec_l10Wait_l2 Sspec_l10Wait_l2 (loopIn 2 (bodyOf Try.f61)) Pspec_l10Wait_l2 where
  zero R q kk := by unfold Pspec_l10Wait_l2; cases (PkS.un Sspec_l10Wait_l2 q) <;> rfl
  succ n R q kk := by
    unfold Pspec_l10Wait_l2
    cases h : (PkS.un Sspec_l10Wait_l2 q) with
    | none => rfl
    | some d =>
      obtain ⟨y2_0, y2_1, y2_2, y2_3, y2_4, y2_5, u⟩ := (d : Int × Int × Int × Int × Int × Int × Unit)
      have hp := PkS.un_pack h
      subst hp
      exact (espec_l10Wait_l2 n y2_0 y2_1 y2_2 y2_3 y2_4 y2_5 kk).symm
theorem nlspec_l10Wait_l2 : ∀ n, NatLP (Pspec_l10Wait_l2 n) := lespec_l10Wait_l2.nat (fun n => mkK_nat (cspec_l10Wait n)) fun n => mkL_nat (mkK_nat (cspec_l10Wait n)) (l := []) trivial
theorem inspec_l10Wait_l2 (n : Nat) (R : Type) : LoopsOk Try.prog (mkL (mkK []) [] R) (loopIn 2 (bodyOf Try.f61)) := .eq (l := []) (by kernel_rfl) trivial
theorem lkspec_l10Wait_l2 (n : Nat) (R : Type) (L0 : LK R) (h0 : ∀ id, firstRegion (loopIn 2 (bodyOf Try.f61)) = some id → L0 id = Dspec_l10Wait_l2.oracle (mkK [] R) (Pspec_l10Wait_l2 n R)) : LoopOk Try.prog L0 (loopIn 2 (bodyOf Try.f61)) :=
  lespec_l10Wait_l2.ok mixed ttok (fun n => mkK_nat (cspec_l10Wait n)) (fun n => mkK_ok (cspec_l10Wait n)) (fun n => inspec_l10Wait_l2 n R) (mkK_nat (cspec_l10Wait n)) h0
@[reducible] def Sspec_l10Wait : PkS := ⟨[.agg [.int .i64, .int .i64, .int .i64, .int .i64], .one (.int .i64)], []⟩
@[reducible] def Tspec_l10Wait : PkS := ⟨[.one (.int .i64), .one (.dead), .one (.dead)], []⟩
def Hspec_l10Wait : List Sh := [.one .any, .skip, .skip]
def Kspec_l10Wait (n : Nat) : KPs := fun R p k => match (PkS.un Sspec_l10Wait p : Option (Int × Int × Int × Int × Int × Unit)) with
  | some (x0, x1, x2, x3, x4, _) => spec_l10Wait n x0 x1 x2 x3 x4 (fun r0 => k (PkS.pack Tspec_l10Wait (r0, ())))
  | none => none
theorem espec_l10Wait {R : Type} (n : Nat) (x0 : Int) (x1 : Int) (x2 : Int) (x3 : Int) (x4 : Int) (k : Pk → Option R) : evF tt sig (mkK [] R) (mkL (mkK []) [(2, Dspec_l10Wait_l2, Pspec_l10Wait_l2 n)] R) Try.f61 Hspec_l10Wait (PkS.pack Sspec_l10Wait (x0, x1, x2, x3, x4, ())) k = spec_l10Wait n x0 x1 x2 x3 x4 (fun r0 => k (PkS.pack Tspec_l10Wait (r0, ()))) := by kernel_rfl
theorem okspec_l10Wait (n : Nat) : FnOk Try.prog 61 (Kspec_l10Wait n) := by
  refine fn_ok (sig := sig) mixed ttok (mkK_nat (cspec_l10Wait n)) (mkK_ok (cspec_l10Wait n)) (mkL_nat (mkK_nat (cspec_l10Wait n)) (l := [(2, Dspec_l10Wait_l2, Pspec_l10Wait_l2 n)]) ⟨nlspec_l10Wait_l2 n, trivial⟩) (fn := Try.f61) (c := bodyOf Try.f61) (by kernel_rfl) (by kernel_rfl) (by kernel_rfl) (.eq (l := [loopIn 2 (bodyOf Try.f61)]) (by kernel_rfl) ⟨(lkspec_l10Wait_l2 n _ _ (at_id (i := 2) (by kernel_rfl) rfl)), trivial⟩) (shs := Hspec_l10Wait) (S := Sspec_l10Wait) fun R p k => ?_
  unfold Kspec_l10Wait
  cases h : (PkS.un Sspec_l10Wait p) with
  | none => rfl
  | some d =>
    obtain ⟨x0, x1, x2, x3, x4, u⟩ := (d : Int × Int × Int × Int × Int × Unit)
    have hp := PkS.un_pack h
    subst hp
    exact (espec_l10Wait n x0 x1 x2 x3 x4 k).symm

/-! ### loop.example/g00269/spec.WaitOf -/
theorem cspec_WaitOf (n : Nat) : AllOk Try.prog [(15, Kspec_GoodPolicy n), (53, Kspec_l1In n), (61, Kspec_l10Wait n)] := ⟨okspec_GoodPolicy n, ⟨okspec_l1In n, ⟨okspec_l10Wait n, trivial⟩⟩⟩
@[reducible] def Sspec_WaitOf : PkS := ⟨[.agg [.int .i64, .int .i64, .int .i64, .int .i64], .one (.int .i64)], []⟩
@[reducible] def Tspec_WaitOf : PkS := ⟨[.tup [(false, [.int .i64]), (false, [.bool])], .one (.dead), .one (.dead)], []⟩
def Hspec_WaitOf : List Sh := [.tup [(false, [.any]), (false, [.any])], .skip, .skip]
def Kspec_WaitOf (n : Nat) : KPs := fun R p k => match (PkS.un Sspec_WaitOf p : Option (Int × Int × Int × Int × Int × Unit)) with
  | some (x0, x1, x2, x3, x4, _) => spec_WaitOf n x0 x1 x2 x3 x4 (fun r0 r1 => k (PkS.pack Tspec_WaitOf (r0, r1, ())))
  | none => none
theorem espec_WaitOf {R : Type} (n : Nat) (x0 : Int) (x1 : Int) (x2 : Int) (x3 : Int) (x4 : Int) (k : Pk → Option R) : evF tt sig (mkK [(15, Kspec_GoodPolicy n), (53, Kspec_l1In n), (61, Kspec_l10Wait n)] R) (mkL (mkK [(15, Kspec_GoodPolicy n), (53, Kspec_l1In n), (61, Kspec_l10Wait n)]) [] R) Try.f30 Hspec_WaitOf (PkS.pack Sspec_WaitOf (x0, x1, x2, x3, x4, ())) k = spec_WaitOf n x0 x1 x2 x3 x4 (fun r0 r1 => k (PkS.pack Tspec_WaitOf (r0, r1, ()))) := by kernel_rfl
theorem okspec_WaitOf (n : Nat) : FnOk Try.prog 30 (Kspec_WaitOf n) := by
  refine fn_ok (sig := sig) mixed ttok (mkK_nat (cspec_WaitOf n)) (mkK_ok (cspec_WaitOf n)) (mkL_nat (mkK_nat (cspec_WaitOf n)) (l := []) trivial) (fn := Try.f30) (c := bodyOf Try.f30) (by kernel_rfl) (by kernel_rfl) (by kernel_rfl) (.eq (l := []) (by kernel_rfl) trivial) (shs := Hspec_WaitOf) (S := Sspec_WaitOf) fun R p k => ?_
  unfold Kspec_WaitOf
  cases h : (PkS.un Sspec_WaitOf p) with
  | none => rfl
  | some d =>
    obtain ⟨x0, x1, x2, x3, x4, u⟩ := (d : Int × Int × Int × Int × Int × Unit)
    have hp := PkS.un_pack h
    subst hp
    exact (espec_WaitOf n x0 x1 x2 x3 x4 k).symm

/-! ### loop.example/g00269/impl.in -/
theorem cimpl_in (n : Nat) : AllOk Try.prog [] := trivial
@[reducible] def Simpl_in : PkS := ⟨[.one (.int .i64), .one (.int .i64), .one (.int .i64)], []⟩
@[reducible] def Timpl_in : PkS := ⟨[.one (.bool), .one (.dead), .one (.dead), .one (.dead)], []⟩
def Himpl_in : List Sh := [.one .any, .skip, .skip, .skip]
def Kimpl_in (n : Nat) : KPs := fun R p k => match (PkS.un Simpl_in p : Option (Int × Int × Int × Unit)) with
  | some (x0, x1, x2, _) => impl_in n x0 x1 x2 (fun r0 => k (PkS.pack Timpl_in (r0, ())))
  | none => none
theorem eimpl_in {R : Type} (n : Nat) (x0 : Int) (x1 : Int) (x2 : Int) (k : Pk → Option R) : evF tt sig (mkK [] R) (mkL (mkK []) [] R) Try.f54 Himpl_in (PkS.pack Simpl_in (x0, x1, x2, ())) k = impl_in n x0 x1 x2 (fun r0 => k (PkS.pack Timpl_in (r0, ()))) := by kernel_rfl
theorem okimpl_in (n : Nat) : FnOk Try.prog 54 (Kimpl_in n) := by
  refine fn_ok (sig := sig) mixed ttok (mkK_nat (cimpl_in n)) (mkK_ok (cimpl_in n)) (mkL_nat (mkK_nat (cimpl_in n)) (l := []) trivial) (fn := Try.f54) (c := bodyOf Try.f54) (by kernel_rfl) (by kernel_rfl) (by kernel_rfl) (.eq (l := []) (by kernel_rfl) trivial) (shs := Himpl_in) (S := Simpl_in) fun R p k => ?_
  unfold Kimpl_in
  cases h : (PkS.un Simpl_in p) with
  | none => rfl
  | some d =>
    obtain ⟨x0, x1, x2, u⟩ := (d : Int × Int × Int × Unit)
    have hp := PkS.un_pack h
    subst hp
    exact (eimpl_in n x0 x1 x2 k).symm

/-! ### loop.example/g00269/impl.GoodPolicy -/
theorem cimpl_GoodPolicy (n : Nat) : AllOk Try.prog [(54, Kimpl_in n)] := ⟨okimpl_in n, trivial⟩
@[reducible] def Simpl_GoodPolicy : PkS := ⟨[.agg [.int .i64, .int .i64, .int .i64, .int .i64]], []⟩
@[reducible] def Timpl_GoodPolicy : PkS := ⟨[.one (.bool), .one (.dead)], []⟩
def Himpl_GoodPolicy : List Sh := [.one .any, .skip]
def Kimpl_GoodPolicy (n : Nat) : KPs := fun R p k => match (PkS.un Simpl_GoodPolicy p : Option (Int × Int × Int × Int × Unit)) with
  | some (x0, x1, x2, x3, _) => impl_GoodPolicy n x0 x1 x2 x3 (fun r0 => k (PkS.pack Timpl_GoodPolicy (r0, ())))
  | none => none
theorem eimpl_GoodPolicy {R : Type} (n : Nat) (x0 : Int) (x1 : Int) (x2 : Int) (x3 : Int) (k : Pk → Option R) : evF tt sig (mkK [(54, Kimpl_in n)] R) (mkL (mkK [(54, Kimpl_in n)]) [] R) Try.f17 Himpl_GoodPolicy (PkS.pack Simpl_GoodPolicy (x0, x1, x2, x3, ())) k = impl_GoodPolicy n x0 x1 x2 x3 (fun r0 => k (PkS.pack Timpl_GoodPolicy (r0, ()))) := by kernel_rfl
theorem okimpl_GoodPolicy (n : Nat) : FnOk Try.prog 17 (Kimpl_GoodPolicy n) := by
  refine fn_ok (sig := sig) mixed ttok (mkK_nat (cimpl_GoodPolicy n)) (mkK_ok (cimpl_GoodPolicy n)) (mkL_nat (mkK_nat (cimpl_GoodPolicy n)) (l := []) trivial) (fn := Try.f17) (c := bodyOf Try.f17) (by kernel_rfl) (by kernel_rfl) (by kernel_rfl) (.eq (l := []) (by kernel_rfl) trivial) (shs := Himpl_GoodPolicy) (S := Simpl_GoodPolicy) fun R p k => ?_
  unfold Kimpl_GoodPolicy
  cases h : (PkS.un Simpl_GoodPolicy p) with
  | none => rfl
  | some d =>
    obtain ⟨x0, x1, x2, x3, u⟩ := (d : Int × Int × Int × Int × Unit)
    have hp := PkS.un_pack h
    subst hp
    exact (eimpl_GoodPolicy n x0 x1 x2 x3 k).symm

/-! ### (*loop.example/g00269/impl.Policy).wait -/
theorem cimpl_Policy_wait (n : Nat) : AllOk Try.prog [] := trivial
@[reducible] def Simpl_Policy_wait_l3 : PkS := ⟨[.one (.box (100000, 0) 0), .one (.int .i64), .one (.int .i64), .one (.int .i64), .one (.box (100000, 0) 0), .one (.dead)], [((100000, 0), .box [.int .i64, .int .i64, .int .i64, .int .i64])]⟩
@[reducible] def Timpl_Policy_wait_l3_0 : PkS := ⟨[.one (.box (100000, 0) 0), .one (.int .i64), .one (.box (100000, 0) 0), .one (.dead)], [((100000, 0), .box [.int .i64, .int .i64, .int .i64, .int .i64])]⟩
def Dimpl_Policy_wait_l3 : LoopD := ⟨36, [0, 1, 5, 6], [.box [.any, .any, .any, .any], .one .any, .one .any, .one .any, .box [.any, .any, .any, .any], .skip], fun x => match x with
  | .exit 0 => some ([0, 5], [.box [.any, .any, .any, .any], .one .any, .box [.any, .any, .any, .any], .skip])
  | _ => none⟩
def Pimpl_Policy_wait_l3 (n : Nat) : LPs := fun R q kk => match (PkS.un Simpl_Policy_wait_l3 q : Option (Int × Int × Int × Int × Int × Int × Int × Unit)) with
  | some (y3_0, y3_1, y3_2, y3_3, y3_4, y3_5, y3_6, _) => impl_Policy_wait_l3 n y3_0 y3_1 y3_2 y3_3 y3_4 y3_5 y3_6 (fun r0 r1 r2 r3 r4 => kk (.exit 0) (PkS.pack Timpl_Policy_wait_l3_0 (r0, r1, r2, r3, r4, ())))
  | none => none
theorem eimpl_Policy_wait_l3 {R : Type} (n : Nat) (y3_0 : Int) (y3_1 : Int) (y3_2 : Int) (y3_3 : Int) (y3_4 : Int) (y3_5 : Int) (y3_6 : Int) (kk : Ex → Pk → Option R) : Dimpl_Policy_wait_l3.step tt sig (mkK [] R) (mkL (mkK []) [] R) (loopIn 3 (bodyOf Try.f62)) (fun q' => Pimpl_Policy_wait_l3 n R q' kk) (PkS.pack Simpl_Policy_wait_l3 (y3_0, y3_1, y3_2, y3_3, y3_4, y3_5, y3_6, ())) kk = impl_Policy_wait_l3 (n + 1) y3_0 y3_1 y3_2 y3_3 y3_4 y3_5 y3_6 (fun r0 r1 r2 r3 r4 => kk (.exit 0) (PkS.pack Timpl_Policy_wait_l3_0 (r0, r1, r2, r3, r4, ()))) := by kernel_rfl
theorem leimpl_Policy_wait_l3 : LoopEq tt sig (fun n => mkK []) (fun n => mkL (mkK []) []) Dimpl_Policy_wait_l3 Simpl_Policy_wait_l3 (loopIn 3 (bodyOf Try.f62)) Pimpl_Policy_wait_l3 where
  zero R q kk := by unfold Pimpl_Policy_wait_l3; cases (PkS.un Simpl_Policy_wait_l3 q) <;> rfl
  succ n R q kk := by
    unfold Pimpl_Policy_wait_l3
    cases h : (PkS.un Simpl_Policy_wait_l3 q) with
    | none => rfl
    | some d =>
      obtain ⟨y3_0, y3_1, y3_2, y3_3, y3_4, y3_5, y3_6, u⟩ := (d : Int × Int × Int × Int × Int × Int × Int × Unit)
      have hp := PkS.un_pack h
      subst hp
      exact (eimpl_Policy_wait_l3 n y3_0 y3_1 y3_2 y3_3 y3_4 y3_5 y3_6 kk).symm
theorem nlimpl_Policy_wait_l3 : ∀ n, NatLP (Pimpl_Policy_wait_l3 n) := leimpl_Policy_wait_l3.nat (fun n => mkK_nat (cimpl_Policy_wait n)) fun n => mkL_nat (mkK_nat (cimpl_Policy_wait n)) (l := []) trivial
theorem inimpl_Policy_wait_l3 (n : Nat) (R : Type) : LoopsOk Try.prog (mkL (mkK []) [] R) (loopIn 3 (bodyOf Try.f62)) := .eq (l := []) (by kernel_rfl) trivial
theorem lkimpl_Policy_wait_l3 (n : Nat) (R : Type) (L0 : LK R) (h0 : ∀ id, firstRegion (loopIn 3 (bodyOf Try.f62)) = some id → L0 id = Dimpl_Policy_wait_l3.oracle (mkK [] R) (Pimpl_Policy_wait_l3 n R)) : LoopOk Try.prog L0 (loopIn 3 (bodyOf Try.f62)) :=
  leimpl_Policy_wait_l3.ok mixed ttok (fun n => mkK_nat (cimpl_Policy_wait n)) (fun n => mkK_ok (cimpl_Policy_wait n)) (fun n => inimpl_Policy_wait_l3 n R) (mkK_nat (cimpl_Policy_wait n)) h0
@[reducible] def Simpl_Policy_wait : PkS := ⟨[.one (.box (200000, 0) 0), .one (.int .i64)], [((200000, 0), .box [.int .i64, .int .i64, .int .i64, .int .i64])]⟩
@[reducible] def Timpl_Policy_wait : PkS := ⟨[.one (.int .i64), .one (.box (300000, 0) 0), .one (.dead)], [((300000, 0), .box [.int .i64, .int .i64, .int .i64, .int .i64])]⟩
def Himpl_Policy_wait : List Sh := [.one .any, .box [.any, .any, .any, .any], .skip]
def Kimpl_Policy_wait (n : Nat) : KPs := fun R p k => match (PkS.un Simpl_Policy_wait p : Option (Int × Int × Int × Int × Int × Unit)) with
  | some (x0, x1, x2, x3, x4, _) => impl_Policy_wait n x0 x1 x2 x3 x4 (fun r0 r1 r2 r3 r4 => k (PkS.pack Timpl_Policy_wait (r0, r1, r2, r3, r4, ())))
  | none => none
theorem eimpl_Policy_wait {R : Type} (n : Nat) (x0 : Int) (x1 : Int) (x2 : Int) (x3 : Int) (x4 : Int) (k : Pk → Option R) : evF tt sig (mkK [] R) (mkL (mkK []) [(3, Dimpl_Policy_wait_l3, Pimpl_Policy_wait_l3 n)] R) Try.f62 Himpl_Policy_wait (PkS.pack Simpl_Policy_wait (x0, x1, x2, x3, x4, ())) k = impl_Policy_wait n x0 x1 x2 x3 x4 (fun r0 r1 r2 r3 r4 => k (PkS.pack Timpl_Policy_wait (r0, r1, r2, r3, r4, ()))) := by kernel_rfl
theorem okimpl_Policy_wait (n : Nat) : FnOk Try.prog 62 (Kimpl_Policy_wait n) := by
  refine fn_ok (sig := sig) mixed ttok (mkK_nat (cimpl_Policy_wait n)) (mkK_ok (cimpl_Policy_wait n)) (mkL_nat (mkK_nat (cimpl_Policy_wait n)) (l := [(3, Dimpl_Policy_wait_l3, Pimpl_Policy_wait_l3 n)]) ⟨nlimpl_Policy_wait_l3 n, trivial⟩) (fn := Try.f62) (c := bodyOf Try.f62) (by kernel_rfl) (by kernel_rfl) (by kernel_rfl) (.eq (l := [loopIn 3 (bodyOf Try.f62)]) (by kernel_rfl) ⟨(lkimpl_Policy_wait_l3 n _ _ (at_id (i := 3) (by kernel_rfl) rfl)), trivial⟩) (shs := Himpl_Policy_wait) (S := Simpl_Policy_wait) fun R p k => ?_
  unfold Kimpl_Policy_wait
  cases h : (PkS.un Simpl_Policy_wait p) with
  | none => rfl
  | some d =>
    obtain ⟨x0, x1, x2, x3, x4, u⟩ := (d : Int × Int × Int × Int × Int × Unit)
    have hp := PkS.un_pack h
    subst hp
    exact (eimpl_Policy_wait n x0 x1 x2 x3 x4 k).symm

/-! ### loop.example/g00269/impl.WaitOf -/
theorem cimpl_WaitOf (n : Nat) : AllOk Try.prog [(17, Kimpl_GoodPolicy n), (54, Kimpl_in n), (62, Kimpl_Policy_wait n)] := ⟨okimpl_GoodPolicy n, ⟨okimpl_in n, ⟨okimpl_Policy_wait n, trivial⟩⟩⟩
@[reducible] def Simpl_WaitOf : PkS := ⟨[.agg [.int .i64, .int .i64, .int .i64, .int .i64], .one (.int .i64)], []⟩
@[reducible] def Timpl_WaitOf : PkS := ⟨[.tup [(false, [.int .i64]), (false, [.bool])], .one (.dead), .one (.dead)], []⟩
def Himpl_WaitOf : List Sh := [.tup [(false, [.any]), (false, [.any])], .skip, .skip]
def Kimpl_WaitOf (n : Nat) : KPs := fun R p k => match (PkS.un Simpl_WaitOf p : Option (Int × Int × Int × Int × Int × Unit)) with
  | some (x0, x1, x2, x3, x4, _) => impl_WaitOf n x0 x1 x2 x3 x4 (fun r0 r1 => k (PkS.pack Timpl_WaitOf (r0, r1, ())))
  | none => none
theorem eimpl_WaitOf {R : Type} (n : Nat) (x0 : Int) (x1 : Int) (x2 : Int) (x3 : Int) (x4 : Int) (k : Pk → Option R) : evF tt sig (mkK [(17, Kimpl_GoodPolicy n), (54, Kimpl_in n), (62, Kimpl_Policy_wait n)] R) (mkL (mkK [(17, Kimpl_GoodPolicy n), (54, Kimpl_in n), (62, Kimpl_Policy_wait n)]) [] R) Try.f31 Himpl_WaitOf (PkS.pack Simpl_WaitOf (x0, x1, x2, x3, x4, ())) k = impl_WaitOf n x0 x1 x2 x3 x4 (fun r0 r1 => k (PkS.pack Timpl_WaitOf (r0, r1, ()))) := by kernel_rfl
theorem okimpl_WaitOf (n : Nat) : FnOk Try.prog 31 (Kimpl_WaitOf n) := by
  refine fn_ok (sig := sig) mixed ttok (mkK_nat (cimpl_WaitOf n)) (mkK_ok (cimpl_WaitOf n)) (mkL_nat (mkK_nat (cimpl_WaitOf n)) (l := []) trivial) (fn := Try.f31) (c := bodyOf Try.f31) (by kernel_rfl) (by kernel_rfl) (by kernel_rfl) (.eq (l := []) (by kernel_rfl) trivial) (shs := Himpl_WaitOf) (S := Simpl_WaitOf) fun R p k => ?_
  unfold Kimpl_WaitOf
  cases h : (PkS.un Simpl_WaitOf p) with
  | none => rfl
  | some d =>
    obtain ⟨x0, x1, x2, x3, x4, u⟩ := (d : Int × Int × Int × Int × Int × Unit)
    have hp := PkS.un_pack h
    subst hp
    exact (eimpl_WaitOf n x0 x1 x2 x3 x4 k).symm

/-! ### loop.example/g00269/laws.FnExactWaitOf -/
theorem claws_FnExactWaitOf (n : Nat) : AllOk Try.prog [(16, Klaws_toPolicy n), (30, Kspec_WaitOf n), (31, Kimpl_WaitOf n)] := ⟨oklaws_toPolicy n, ⟨okspec_WaitOf n, ⟨okimpl_WaitOf n, trivial⟩⟩⟩
@[reducible] def Slaws_FnExactWaitOf : PkS := ⟨[.agg [.int .i64, .int .i64, .int .i64, .int .i64], .one (.int .i64)], []⟩
@[reducible] def Tlaws_FnExactWaitOf : PkS := ⟨[.one (.bool), .one (.dead), .one (.dead)], []⟩
def Hlaws_FnExactWaitOf : List Sh := [.one .any, .skip, .skip]
def Klaws_FnExactWaitOf (n : Nat) : KPs := fun R p k => match (PkS.un Slaws_FnExactWaitOf p : Option (Int × Int × Int × Int × Int × Unit)) with
  | some (x0, x1, x2, x3, x4, _) => laws_FnExactWaitOf n x0 x1 x2 x3 x4 (fun r0 => k (PkS.pack Tlaws_FnExactWaitOf (r0, ())))
  | none => none
theorem elaws_FnExactWaitOf {R : Type} (n : Nat) (x0 : Int) (x1 : Int) (x2 : Int) (x3 : Int) (x4 : Int) (k : Pk → Option R) : evF tt sig (mkK [(16, Klaws_toPolicy n), (30, Kspec_WaitOf n), (31, Kimpl_WaitOf n)] R) (mkL (mkK [(16, Klaws_toPolicy n), (30, Kspec_WaitOf n), (31, Kimpl_WaitOf n)]) [] R) Try.f8 Hlaws_FnExactWaitOf (PkS.pack Slaws_FnExactWaitOf (x0, x1, x2, x3, x4, ())) k = laws_FnExactWaitOf n x0 x1 x2 x3 x4 (fun r0 => k (PkS.pack Tlaws_FnExactWaitOf (r0, ()))) := by kernel_rfl
theorem oklaws_FnExactWaitOf (n : Nat) : FnOk Try.prog 8 (Klaws_FnExactWaitOf n) := by
  refine fn_ok (sig := sig) mixed ttok (mkK_nat (claws_FnExactWaitOf n)) (mkK_ok (claws_FnExactWaitOf n)) (mkL_nat (mkK_nat (claws_FnExactWaitOf n)) (l := []) trivial) (fn := Try.f8) (c := bodyOf Try.f8) (by kernel_rfl) (by kernel_rfl) (by kernel_rfl) (.eq (l := []) (by kernel_rfl) trivial) (shs := Hlaws_FnExactWaitOf) (S := Slaws_FnExactWaitOf) fun R p k => ?_
  unfold Klaws_FnExactWaitOf
  cases h : (PkS.un Slaws_FnExactWaitOf p) with
  | none => rfl
  | some d =>
    obtain ⟨x0, x1, x2, x3, x4, u⟩ := (d : Int × Int × Int × Int × Int × Unit)
    have hp := PkS.un_pack h
    subst hp
    exact (elaws_FnExactWaitOf n x0 x1 x2 x3 x4 k).symm
end Go.Am.G
