/- What the functions that the law reaches compute, each as a plain function, and that the code does so. -/
import Derived.Test.YtkmjmhjfadaebaaAmB
import Derived.KernelRfl
import Derived.Test.YtkmjmhjfadaebaaProg
set_option linter.unusedVariables false
set_option maxRecDepth 100000
namespace Go.Am.G5
open Go Go.Am
open Go.Proofs
def tt : TT := [(3, ⟨1, false, (.int .i64), 0, [], [.int .i64 0], 8, true, false⟩), (4, ⟨1, false, .bool, 0, [], [.bool false], 1, true, false⟩), (35, ⟨3, true, (.pr (.int .i64) (.pr (.int .i64) (.int .i64))), 0, [(0, 1, false), (1, 1, false), (2, 1, false)], [.int .i64 0, .int .i64 0, .int .i64 0], 24, true, false⟩), (36, ⟨3, true, (.pr (.int .i64) (.pr (.int .i64) (.int .i64))), 0, [(0, 1, false), (1, 1, false), (2, 1, false)], [.int .i64 0, .int .i64 0, .int .i64 0], 24, true, false⟩)]
def sig : Sig := sigOf [(5, [.agg [.any, .any, .any]]), (21, [.agg [.any, .any, .any]]), (22, [.agg [.any, .any, .any]]), (23, [.agg [.any, .any, .any]]), (24, [.agg [.any, .any, .any], .agg [.any, .any, .any]]), (53, [.one .any, .one .any, .one .any]), (54, [.one .any, .one .any, .one .any]), (56, [.agg [.any, .any, .any], .one .any]), (57, [.agg [.any, .any, .any]]), (58, [.agg [.any, .any, .any], .one .any]), (59, [.agg [.any, .any, .any]])]
theorem ttok : TTok Try.prog tt := .of_chk (by kernel_rfl)
theorem mixed : Try.prog.follows .mixedOrders = true := by kernel_rfl

/-! ### loop.example/g00269/laws.toMove -/
theorem cf22 (n : Nat) : AllOk Try.prog [] := trivial
@[reducible] def Sf22 : PkS := ⟨[.agg [.int .i64, .int .i64, .int .i64]], []⟩
@[reducible] def Tf22 : PkS := ⟨[.agg [.int .i64, .int .i64, .int .i64], .one (.dead)], []⟩
def Hf22 : List Sh := [.agg [.any, .any, .any], .skip]
def f22 {R : Type} (n : Nat) (x0 : Int) (x1 : Int) (x2 : Int) (k : Int → Int → Int → Option R) : Option R := k x0 x1 x2
def Kf22 (n : Nat) : KPs := fun R p k => match (PkS.un Sf22 p : Option (Int × Int × Int × Unit)) with
  | some (x0, x1, x2, _) => f22 n x0 x1 x2 (fun r0 r1 r2 => k (PkS.pack Tf22 (r0, r1, r2, ())))
  | none => none
theorem ef22 {R : Type} (n : Nat) (x0 : Int) (x1 : Int) (x2 : Int) (k : Pk → Option R) : evF tt sig (mkK [] R) (mkL (mkK []) [] R) Try.f22 Hf22 (PkS.pack Sf22 (x0, x1, x2, ())) k = f22 n x0 x1 x2 (fun r0 r1 r2 => k (PkS.pack Tf22 (r0, r1, r2, ()))) := by kernel_rfl
theorem okf22 (n : Nat) : FnOk Try.prog 22 (Kf22 n) := by
  refine fn_ok (sig := sig) mixed ttok (mkK_nat (cf22 n)) (mkK_ok (cf22 n)) (mkL_nat (mkK_nat (cf22 n)) (l := []) trivial) (fn := Try.f22) (c := bodyOf Try.f22) (by kernel_rfl) (by kernel_rfl) (by kernel_rfl) (.eq (l := []) (by kernel_rfl) trivial) (shs := Hf22) (S := Sf22) fun R p k => ?_
  unfold Kf22
  cases h : (PkS.un Sf22 p) with
  | none => rfl
  | some d =>
    obtain ⟨x0, x1, x2, u⟩ := (d : Int × Int × Int × Unit)
    have hp := PkS.un_pack h
    subst hp
    exact (ef22 n x0 x1 x2 k).symm

/-! ### loop.example/g00269/spec.l1In -/
theorem cf53 (n : Nat) : AllOk Try.prog [] := trivial
@[reducible] def Sf53 : PkS := ⟨[.one (.int .i64), .one (.int .i64), .one (.int .i64)], []⟩
@[reducible] def Tf53 : PkS := ⟨[.one (.bool), .one (.dead), .one (.dead), .one (.dead)], []⟩
def Hf53 : List Sh := [.one .any, .skip, .skip, .skip]
def f53 {R : Type} (n : Nat) (x0 : Int) (x1 : Int) (x2 : Int) (k : Bool → Option R) : Option R := (bif (decide (x0 ≥ x1)) then k (decide (x0 ≤ x2)) else k false)
def Kf53 (n : Nat) : KPs := fun R p k => match (PkS.un Sf53 p : Option (Int × Int × Int × Unit)) with
  | some (x0, x1, x2, _) => f53 n x0 x1 x2 (fun r0 => k (PkS.pack Tf53 (r0, ())))
  | none => none
theorem ef53 {R : Type} (n : Nat) (x0 : Int) (x1 : Int) (x2 : Int) (k : Pk → Option R) : evF tt sig (mkK [] R) (mkL (mkK []) [] R) Try.f53 Hf53 (PkS.pack Sf53 (x0, x1, x2, ())) k = f53 n x0 x1 x2 (fun r0 => k (PkS.pack Tf53 (r0, ()))) := by kernel_rfl
theorem okf53 (n : Nat) : FnOk Try.prog 53 (Kf53 n) := by
  refine fn_ok (sig := sig) mixed ttok (mkK_nat (cf53 n)) (mkK_ok (cf53 n)) (mkL_nat (mkK_nat (cf53 n)) (l := []) trivial) (fn := Try.f53) (c := bodyOf Try.f53) (by kernel_rfl) (by kernel_rfl) (by kernel_rfl) (.eq (l := []) (by kernel_rfl) trivial) (shs := Hf53) (S := Sf53) fun R p k => ?_
  unfold Kf53
  cases h : (PkS.un Sf53 p) with
  | none => rfl
  | some d =>
    obtain ⟨x0, x1, x2, u⟩ := (d : Int × Int × Int × Unit)
    have hp := PkS.un_pack h
    subst hp
    exact (ef53 n x0 x1 x2 k).symm

/-! ### loop.example/g00269/spec.l9Move -/
theorem cf56 (n : Nat) : AllOk Try.prog [(53, Kf53 n)] := ⟨okf53 n, trivial⟩
@[reducible] def Sf56 : PkS := ⟨[.agg [.int .i64, .int .i64, .int .i64], .one (.int .i64)], []⟩
@[reducible] def Tf56 : PkS := ⟨[.one (.bool), .one (.dead), .one (.dead)], []⟩
def Hf56 : List Sh := [.one .any, .skip, .skip]
def f56 {R : Type} (n : Nat) (x0 : Int) (x1 : Int) (x2 : Int) (x3 : Int) (k : Bool → Option R) : Option R := (f53 n x0 0 (IntKind.wrap .i64 (x3 - 1)) fun r1 => (bif r1 then (f53 n x1 0 (IntKind.wrap .i64 (x3 - 1)) fun r2 => (bif r2 then (bif (x0 != x1) then (f53 n x2 1 1000 fun r3 => k r3) else k false) else k false)) else k false))
def Kf56 (n : Nat) : KPs := fun R p k => match (PkS.un Sf56 p : Option (Int × Int × Int × Int × Unit)) with
  | some (x0, x1, x2, x3, _) => f56 n x0 x1 x2 x3 (fun r0 => k (PkS.pack Tf56 (r0, ())))
  | none => none
theorem ef56 {R : Type} (n : Nat) (x0 : Int) (x1 : Int) (x2 : Int) (x3 : Int) (k : Pk → Option R) : evF tt sig (mkK [(53, Kf53 n)] R) (mkL (mkK [(53, Kf53 n)]) [] R) Try.f56 Hf56 (PkS.pack Sf56 (x0, x1, x2, x3, ())) k = f56 n x0 x1 x2 x3 (fun r0 => k (PkS.pack Tf56 (r0, ()))) := by kernel_rfl
theorem okf56 (n : Nat) : FnOk Try.prog 56 (Kf56 n) := by
  refine fn_ok (sig := sig) mixed ttok (mkK_nat (cf56 n)) (mkK_ok (cf56 n)) (mkL_nat (mkK_nat (cf56 n)) (l := []) trivial) (fn := Try.f56) (c := bodyOf Try.f56) (by kernel_rfl) (by kernel_rfl) (by kernel_rfl) (.eq (l := []) (by kernel_rfl) trivial) (shs := Hf56) (S := Sf56) fun R p k => ?_
  unfold Kf56
  cases h : (PkS.un Sf56 p) with
  | none => rfl
  | some d =>
    obtain ⟨x0, x1, x2, x3, u⟩ := (d : Int × Int × Int × Int × Unit)
    have hp := PkS.un_pack h
    subst hp
    exact (ef56 n x0 x1 x2 x3 k).symm

/-! ### loop.example/g00269/spec.l9Back -/
theorem cf57 (n : Nat) : AllOk Try.prog [] := trivial
@[reducible] def Sf57 : PkS := ⟨[.agg [.int .i64, .int .i64, .int .i64]], []⟩
@[reducible] def Tf57 : PkS := ⟨[.agg [.int .i64, .int .i64, .int .i64], .one (.dead)], []⟩
def Hf57 : List Sh := [.agg [.any, .any, .any], .skip]
def f57 {R : Type} (n : Nat) (x0 : Int) (x1 : Int) (x2 : Int) (k : Int → Int → Int → Option R) : Option R := k x1 x0 x2
def Kf57 (n : Nat) : KPs := fun R p k => match (PkS.un Sf57 p : Option (Int × Int × Int × Unit)) with
  | some (x0, x1, x2, _) => f57 n x0 x1 x2 (fun r0 r1 r2 => k (PkS.pack Tf57 (r0, r1, r2, ())))
  | none => none
theorem ef57 {R : Type} (n : Nat) (x0 : Int) (x1 : Int) (x2 : Int) (k : Pk → Option R) : evF tt sig (mkK [] R) (mkL (mkK []) [] R) Try.f57 Hf57 (PkS.pack Sf57 (x0, x1, x2, ())) k = f57 n x0 x1 x2 (fun r0 r1 r2 => k (PkS.pack Tf57 (r0, r1, r2, ()))) := by kernel_rfl
theorem okf57 (n : Nat) : FnOk Try.prog 57 (Kf57 n) := by
  refine fn_ok (sig := sig) mixed ttok (mkK_nat (cf57 n)) (mkK_ok (cf57 n)) (mkL_nat (mkK_nat (cf57 n)) (l := []) trivial) (fn := Try.f57) (c := bodyOf Try.f57) (by kernel_rfl) (by kernel_rfl) (by kernel_rfl) (.eq (l := []) (by kernel_rfl) trivial) (shs := Hf57) (S := Sf57) fun R p k => ?_
  unfold Kf57
  cases h : (PkS.un Sf57 p) with
  | none => rfl
  | some d =>
    obtain ⟨x0, x1, x2, u⟩ := (d : Int × Int × Int × Unit)
    have hp := PkS.un_pack h
    subst hp
    exact (ef57 n x0 x1 x2 k).symm

/-! ### loop.example/g00269/spec.UndoOf -/
theorem cf21 (n : Nat) : AllOk Try.prog [(56, Kf56 n), (57, Kf57 n)] := ⟨okf56 n, ⟨okf57 n, trivial⟩⟩
@[reducible] def Sf21 : PkS := ⟨[.agg [.int .i64, .int .i64, .int .i64]], []⟩
@[reducible] def Tf21 : PkS := ⟨[.tup [(true, [.int .i64, .int .i64, .int .i64]), (false, [.bool])], .one (.dead)], []⟩
def Hf21 : List Sh := [.tup [(true, [.any, .any, .any]), (false, [.any])], .skip]
def f21 {R : Type} (n : Nat) (x0 : Int) (x1 : Int) (x2 : Int) (k : Int → Int → Int → Bool → Option R) : Option R := (f56 n x0 x1 x2 8 fun r1 => (bif (!r1) then k 0 0 0 false else (f57 n x0 x1 x2 fun r2 r3 r4 => k r2 r3 r4 true)))
def Kf21 (n : Nat) : KPs := fun R p k => match (PkS.un Sf21 p : Option (Int × Int × Int × Unit)) with
  | some (x0, x1, x2, _) => f21 n x0 x1 x2 (fun r0 r1 r2 r3 => k (PkS.pack Tf21 (r0, r1, r2, r3, ())))
  | none => none
theorem ef21 {R : Type} (n : Nat) (x0 : Int) (x1 : Int) (x2 : Int) (k : Pk → Option R) : evF tt sig (mkK [(56, Kf56 n), (57, Kf57 n)] R) (mkL (mkK [(56, Kf56 n), (57, Kf57 n)]) [] R) Try.f21 Hf21 (PkS.pack Sf21 (x0, x1, x2, ())) k = f21 n x0 x1 x2 (fun r0 r1 r2 r3 => k (PkS.pack Tf21 (r0, r1, r2, r3, ()))) := by kernel_rfl
theorem okf21 (n : Nat) : FnOk Try.prog 21 (Kf21 n) := by
  refine fn_ok (sig := sig) mixed ttok (mkK_nat (cf21 n)) (mkK_ok (cf21 n)) (mkL_nat (mkK_nat (cf21 n)) (l := []) trivial) (fn := Try.f21) (c := bodyOf Try.f21) (by kernel_rfl) (by kernel_rfl) (by kernel_rfl) (.eq (l := []) (by kernel_rfl) trivial) (shs := Hf21) (S := Sf21) fun R p k => ?_
  unfold Kf21
  cases h : (PkS.un Sf21 p) with
  | none => rfl
  | some d =>
    obtain ⟨x0, x1, x2, u⟩ := (d : Int × Int × Int × Unit)
    have hp := PkS.un_pack h
    subst hp
    exact (ef21 n x0 x1 x2 k).symm

/-! ### loop.example/g00269/impl.in -/
theorem cf54 (n : Nat) : AllOk Try.prog [] := trivial
@[reducible] def Sf54 : PkS := ⟨[.one (.int .i64), .one (.int .i64), .one (.int .i64)], []⟩
@[reducible] def Tf54 : PkS := ⟨[.one (.bool), .one (.dead), .one (.dead), .one (.dead)], []⟩
def Hf54 : List Sh := [.one .any, .skip, .skip, .skip]
def f54 {R : Type} (n : Nat) (x0 : Int) (x1 : Int) (x2 : Int) (k : Bool → Option R) : Option R := (bif (decide (x0 ≥ x1)) then k (decide (x0 ≤ x2)) else k false)
def Kf54 (n : Nat) : KPs := fun R p k => match (PkS.un Sf54 p : Option (Int × Int × Int × Unit)) with
  | some (x0, x1, x2, _) => f54 n x0 x1 x2 (fun r0 => k (PkS.pack Tf54 (r0, ())))
  | none => none
theorem ef54 {R : Type} (n : Nat) (x0 : Int) (x1 : Int) (x2 : Int) (k : Pk → Option R) : evF tt sig (mkK [] R) (mkL (mkK []) [] R) Try.f54 Hf54 (PkS.pack Sf54 (x0, x1, x2, ())) k = f54 n x0 x1 x2 (fun r0 => k (PkS.pack Tf54 (r0, ()))) := by kernel_rfl
theorem okf54 (n : Nat) : FnOk Try.prog 54 (Kf54 n) := by
  refine fn_ok (sig := sig) mixed ttok (mkK_nat (cf54 n)) (mkK_ok (cf54 n)) (mkL_nat (mkK_nat (cf54 n)) (l := []) trivial) (fn := Try.f54) (c := bodyOf Try.f54) (by kernel_rfl) (by kernel_rfl) (by kernel_rfl) (.eq (l := []) (by kernel_rfl) trivial) (shs := Hf54) (S := Sf54) fun R p k => ?_
  unfold Kf54
  cases h : (PkS.un Sf54 p) with
  | none => rfl
  | some d =>
    obtain ⟨x0, x1, x2, u⟩ := (d : Int × Int × Int × Unit)
    have hp := PkS.un_pack h
    subst hp
    exact (ef54 n x0 x1 x2 k).symm

/-! ### loop.example/g00269/impl.moveOk -/
theorem cf58 (n : Nat) : AllOk Try.prog [(54, Kf54 n)] := ⟨okf54 n, trivial⟩
@[reducible] def Sf58 : PkS := ⟨[.agg [.int .i64, .int .i64, .int .i64], .one (.int .i64)], []⟩
@[reducible] def Tf58 : PkS := ⟨[.one (.bool), .one (.dead), .one (.dead)], []⟩
def Hf58 : List Sh := [.one .any, .skip, .skip]
def f58 {R : Type} (n : Nat) (x0 : Int) (x1 : Int) (x2 : Int) (x3 : Int) (k : Bool → Option R) : Option R := (f54 n x0 0 (IntKind.wrap .i64 (x3 - 1)) fun r1 => (bif r1 then (f54 n x1 0 (IntKind.wrap .i64 (x3 - 1)) fun r2 => (bif r2 then (bif (x0 != x1) then (f54 n x2 1 1000 fun r3 => k r3) else k false) else k false)) else k false))
def Kf58 (n : Nat) : KPs := fun R p k => match (PkS.un Sf58 p : Option (Int × Int × Int × Int × Unit)) with
  | some (x0, x1, x2, x3, _) => f58 n x0 x1 x2 x3 (fun r0 => k (PkS.pack Tf58 (r0, ())))
  | none => none
theorem ef58 {R : Type} (n : Nat) (x0 : Int) (x1 : Int) (x2 : Int) (x3 : Int) (k : Pk → Option R) : evF tt sig (mkK [(54, Kf54 n)] R) (mkL (mkK [(54, Kf54 n)]) [] R) Try.f58 Hf58 (PkS.pack Sf58 (x0, x1, x2, x3, ())) k = f58 n x0 x1 x2 x3 (fun r0 => k (PkS.pack Tf58 (r0, ()))) := by kernel_rfl
theorem okf58 (n : Nat) : FnOk Try.prog 58 (Kf58 n) := by
  refine fn_ok (sig := sig) mixed ttok (mkK_nat (cf58 n)) (mkK_ok (cf58 n)) (mkL_nat (mkK_nat (cf58 n)) (l := []) trivial) (fn := Try.f58) (c := bodyOf Try.f58) (by kernel_rfl) (by kernel_rfl) (by kernel_rfl) (.eq (l := []) (by kernel_rfl) trivial) (shs := Hf58) (S := Sf58) fun R p k => ?_
  unfold Kf58
  cases h : (PkS.un Sf58 p) with
  | none => rfl
  | some d =>
    obtain ⟨x0, x1, x2, x3, u⟩ := (d : Int × Int × Int × Int × Unit)
    have hp := PkS.un_pack h
    subst hp
    exact (ef58 n x0 x1 x2 x3 k).symm

/-! ### loop.example/g00269/impl.back -/
theorem cf59 (n : Nat) : AllOk Try.prog [] := trivial
@[reducible] def Sf59 : PkS := ⟨[.agg [.int .i64, .int .i64, .int .i64]], []⟩
@[reducible] def Tf59 : PkS := ⟨[.agg [.int .i64, .int .i64, .int .i64], .one (.dead)], []⟩
def Hf59 : List Sh := [.agg [.any, .any, .any], .skip]
def f59 {R : Type} (n : Nat) (x0 : Int) (x1 : Int) (x2 : Int) (k : Int → Int → Int → Option R) : Option R := k x1 x0 x2
def Kf59 (n : Nat) : KPs := fun R p k => match (PkS.un Sf59 p : Option (Int × Int × Int × Unit)) with
  | some (x0, x1, x2, _) => f59 n x0 x1 x2 (fun r0 r1 r2 => k (PkS.pack Tf59 (r0, r1, r2, ())))
  | none => none
theorem ef59 {R : Type} (n : Nat) (x0 : Int) (x1 : Int) (x2 : Int) (k : Pk → Option R) : evF tt sig (mkK [] R) (mkL (mkK []) [] R) Try.f59 Hf59 (PkS.pack Sf59 (x0, x1, x2, ())) k = f59 n x0 x1 x2 (fun r0 r1 r2 => k (PkS.pack Tf59 (r0, r1, r2, ()))) := by kernel_rfl
theorem okf59 (n : Nat) : FnOk Try.prog 59 (Kf59 n) := by
  refine fn_ok (sig := sig) mixed ttok (mkK_nat (cf59 n)) (mkK_ok (cf59 n)) (mkL_nat (mkK_nat (cf59 n)) (l := []) trivial) (fn := Try.f59) (c := bodyOf Try.f59) (by kernel_rfl) (by kernel_rfl) (by kernel_rfl) (.eq (l := []) (by kernel_rfl) trivial) (shs := Hf59) (S := Sf59) fun R p k => ?_
  unfold Kf59
  cases h : (PkS.un Sf59 p) with
  | none => rfl
  | some d =>
    obtain ⟨x0, x1, x2, u⟩ := (d : Int × Int × Int × Unit)
    have hp := PkS.un_pack h
    subst hp
    exact (ef59 n x0 x1 x2 k).symm

/-! ### loop.example/g00269/impl.UndoOf -/
theorem cf23 (n : Nat) : AllOk Try.prog [(58, Kf58 n), (59, Kf59 n)] := ⟨okf58 n, ⟨okf59 n, trivial⟩⟩
@[reducible] def Sf23 : PkS := ⟨[.agg [.int .i64, .int .i64, .int .i64]], []⟩
@[reducible] def Tf23 : PkS := ⟨[.tup [(true, [.int .i64, .int .i64, .int .i64]), (false, [.bool])], .one (.dead)], []⟩
def Hf23 : List Sh := [.tup [(true, [.any, .any, .any]), (false, [.any])], .skip]
def f23 {R : Type} (n : Nat) (x0 : Int) (x1 : Int) (x2 : Int) (k : Int → Int → Int → Bool → Option R) : Option R := (f58 n x0 x1 x2 8 fun r1 => (bif (!r1) then k 0 0 0 false else (f59 n x0 x1 x2 fun r2 r3 r4 => k r2 r3 r4 true)))
def Kf23 (n : Nat) : KPs := fun R p k => match (PkS.un Sf23 p : Option (Int × Int × Int × Unit)) with
  | some (x0, x1, x2, _) => f23 n x0 x1 x2 (fun r0 r1 r2 r3 => k (PkS.pack Tf23 (r0, r1, r2, r3, ())))
  | none => none
theorem ef23 {R : Type} (n : Nat) (x0 : Int) (x1 : Int) (x2 : Int) (k : Pk → Option R) : evF tt sig (mkK [(58, Kf58 n), (59, Kf59 n)] R) (mkL (mkK [(58, Kf58 n), (59, Kf59 n)]) [] R) Try.f23 Hf23 (PkS.pack Sf23 (x0, x1, x2, ())) k = f23 n x0 x1 x2 (fun r0 r1 r2 r3 => k (PkS.pack Tf23 (r0, r1, r2, r3, ()))) := by kernel_rfl
theorem okf23 (n : Nat) : FnOk Try.prog 23 (Kf23 n) := by
  refine fn_ok (sig := sig) mixed ttok (mkK_nat (cf23 n)) (mkK_ok (cf23 n)) (mkL_nat (mkK_nat (cf23 n)) (l := []) trivial) (fn := Try.f23) (c := bodyOf Try.f23) (by kernel_rfl) (by kernel_rfl) (by kernel_rfl) (.eq (l := []) (by kernel_rfl) trivial) (shs := Hf23) (S := Sf23) fun R p k => ?_
  unfold Kf23
  cases h : (PkS.un Sf23 p) with
  | none => rfl
  | some d =>
    obtain ⟨x0, x1, x2, u⟩ := (d : Int × Int × Int × Unit)
    have hp := PkS.un_pack h
    subst hp
    exact (ef23 n x0 x1 x2 k).symm

/-! ### loop.example/g00269/laws.eqMove -/
theorem cf24 (n : Nat) : AllOk Try.prog [] := trivial
@[reducible] def Sf24 : PkS := ⟨[.agg [.int .i64, .int .i64, .int .i64], .agg [.int .i64, .int .i64, .int .i64]], []⟩
@[reducible] def Tf24 : PkS := ⟨[.one (.bool), .one (.dead), .one (.dead)], []⟩
def Hf24 : List Sh := [.one .any, .skip, .skip]
def f24 {R : Type} (n : Nat) (x0 : Int) (x1 : Int) (x2 : Int) (x3 : Int) (x4 : Int) (x5 : Int) (k : Bool → Option R) : Option R := (bif (x0 != x3) then k false else (bif (x1 != x4) then k false else (bif (x2 != x5) then k false else k true)))
def Kf24 (n : Nat) : KPs := fun R p k => match (PkS.un Sf24 p : Option (Int × Int × Int × Int × Int × Int × Unit)) with
  | some (x0, x1, x2, x3, x4, x5, _) => f24 n x0 x1 x2 x3 x4 x5 (fun r0 => k (PkS.pack Tf24 (r0, ())))
  | none => none
theorem ef24 {R : Type} (n : Nat) (x0 : Int) (x1 : Int) (x2 : Int) (x3 : Int) (x4 : Int) (x5 : Int) (k : Pk → Option R) : evF tt sig (mkK [] R) (mkL (mkK []) [] R) Try.f24 Hf24 (PkS.pack Sf24 (x0, x1, x2, x3, x4, x5, ())) k = f24 n x0 x1 x2 x3 x4 x5 (fun r0 => k (PkS.pack Tf24 (r0, ()))) := by kernel_rfl
theorem okf24 (n : Nat) : FnOk Try.prog 24 (Kf24 n) := by
  refine fn_ok (sig := sig) mixed ttok (mkK_nat (cf24 n)) (mkK_ok (cf24 n)) (mkL_nat (mkK_nat (cf24 n)) (l := []) trivial) (fn := Try.f24) (c := bodyOf Try.f24) (by kernel_rfl) (by kernel_rfl) (by kernel_rfl) (.eq (l := []) (by kernel_rfl) trivial) (shs := Hf24) (S := Sf24) fun R p k => ?_
  unfold Kf24
  cases h : (PkS.un Sf24 p) with
  | none => rfl
  | some d =>
    obtain ⟨x0, x1, x2, x3, x4, x5, u⟩ := (d : Int × Int × Int × Int × Int × Int × Unit)
    have hp := PkS.un_pack h
    subst hp
    exact (ef24 n x0 x1 x2 x3 x4 x5 k).symm

/-! ### loop.example/g00269/laws.FnExactUndoOf -/
theorem cf5 (n : Nat) : AllOk Try.prog [(22, Kf22 n), (21, Kf21 n), (23, Kf23 n), (24, Kf24 n)] := ⟨okf22 n, ⟨okf21 n, ⟨okf23 n, ⟨okf24 n, trivial⟩⟩⟩⟩
@[reducible] def Sf5 : PkS := ⟨[.agg [.int .i64, .int .i64, .int .i64]], []⟩
@[reducible] def Tf5 : PkS := ⟨[.one (.bool), .one (.dead)], []⟩
def Hf5 : List Sh := [.one .any, .skip]
def f5 {R : Type} (n : Nat) (x0 : Int) (x1 : Int) (x2 : Int) (k : Bool → Option R) : Option R := (f22 n x0 x1 x2 fun r1 r2 r3 => (f21 n r1 r2 r3 fun r4 r5 r6 r7 => (f22 n x0 x1 x2 fun r8 r9 r10 => (f23 n r8 r9 r10 fun r11 r12 r13 r14 => (f24 n r11 r12 r13 r4 r5 r6 fun r15 => (bif (!r15) then k false else (bif (!(r14 == r7)) then k false else k true)))))))
def Kf5 (n : Nat) : KPs := fun R p k => match (PkS.un Sf5 p : Option (Int × Int × Int × Unit)) with
  | some (x0, x1, x2, _) => f5 n x0 x1 x2 (fun r0 => k (PkS.pack Tf5 (r0, ())))
  | none => none
theorem ef5 {R : Type} (n : Nat) (x0 : Int) (x1 : Int) (x2 : Int) (k : Pk → Option R) : evF tt sig (mkK [(22, Kf22 n), (21, Kf21 n), (23, Kf23 n), (24, Kf24 n)] R) (mkL (mkK [(22, Kf22 n), (21, Kf21 n), (23, Kf23 n), (24, Kf24 n)]) [] R) Try.f5 Hf5 (PkS.pack Sf5 (x0, x1, x2, ())) k = f5 n x0 x1 x2 (fun r0 => k (PkS.pack Tf5 (r0, ()))) := by kernel_rfl
theorem okf5 (n : Nat) : FnOk Try.prog 5 (Kf5 n) := by
  refine fn_ok (sig := sig) mixed ttok (mkK_nat (cf5 n)) (mkK_ok (cf5 n)) (mkL_nat (mkK_nat (cf5 n)) (l := []) trivial) (fn := Try.f5) (c := bodyOf Try.f5) (by kernel_rfl) (by kernel_rfl) (by kernel_rfl) (.eq (l := []) (by kernel_rfl) trivial) (shs := Hf5) (S := Sf5) fun R p k => ?_
  unfold Kf5
  cases h : (PkS.un Sf5 p) with
  | none => rfl
  | some d =>
    obtain ⟨x0, x1, x2, u⟩ := (d : Int × Int × Int × Unit)
    have hp := PkS.un_pack h
    subst hp
    exact (ef5 n x0 x1 x2 k).symm
end Go.Am.G5
