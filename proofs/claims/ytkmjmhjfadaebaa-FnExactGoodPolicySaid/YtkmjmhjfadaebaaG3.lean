/- What the functions that the law reaches compute, each as a plain function, and that the code does so. -/
import Derived.Test.YtkmjmhjfadaebaaAmB
import Derived.KernelRfl
import Derived.Test.YtkmjmhjfadaebaaProg
set_option linter.unusedVariables false
set_option maxRecDepth 100000
namespace Go.Am.G3
open Go Go.Am
open Go.Proofs
def tt : TT := [(3, ⟨1, false, (.int .i64), 0, [], [.int .i64 0], 8, true, false⟩), (4, ⟨1, false, .bool, 0, [], [.bool false], 1, true, false⟩), (23, ⟨4, true, (.pr (.int .i64) (.pr (.int .i64) (.pr (.int .i64) (.int .i64)))), 0, [(0, 1, false), (1, 1, false), (2, 1, false), (3, 1, false)], [.int .i64 0, .int .i64 0, .int .i64 0, .int .i64 0], 32, true, false⟩), (25, ⟨4, true, (.pr (.int .i64) (.pr (.int .i64) (.pr (.int .i64) (.int .i64)))), 0, [(0, 1, false), (1, 1, false), (2, 1, false), (3, 1, false)], [.int .i64 0, .int .i64 0, .int .i64 0, .int .i64 0], 32, true, false⟩)]
def sig : Sig := sigOf [(3, [.agg [.any, .any, .any, .any]]), (15, [.agg [.any, .any, .any, .any]]), (16, [.agg [.any, .any, .any, .any]]), (17, [.agg [.any, .any, .any, .any]]), (53, [.one .any, .one .any, .one .any]), (54, [.one .any, .one .any, .one .any])]
theorem ttok : TTok Try.prog tt := .of_chk (by kernel_rfl)
theorem mixed : Try.prog.follows .mixedOrders = true := by kernel_rfl

/-! ### loop.example/g00269/laws.toPolicy -/
theorem cf16 (n : Nat) : AllOk Try.prog [] := trivial
@[reducible] def Sf16 : PkS := ⟨[.agg [.int .i64, .int .i64, .int .i64, .int .i64]], []⟩
@[reducible] def Tf16 : PkS := ⟨[.agg [.int .i64, .int .i64, .int .i64, .int .i64], .one (.dead)], []⟩
def Hf16 : List Sh := [.agg [.any, .any, .any, .any], .skip]
def f16 {R : Type} (n : Nat) (x0 : Int) (x1 : Int) (x2 : Int) (x3 : Int) (k : Int → Int → Int → Int → Option R) : Option R := k x0 x1 x2 x3
def Kf16 (n : Nat) : KPs := fun R p k => match (PkS.un Sf16 p : Option (Int × Int × Int × Int × Unit)) with
  | some (x0, x1, x2, x3, _) => f16 n x0 x1 x2 x3 (fun r0 r1 r2 r3 => k (PkS.pack Tf16 (r0, r1, r2, r3, ())))
  | none => none
theorem ef16 {R : Type} (n : Nat) (x0 : Int) (x1 : Int) (x2 : Int) (x3 : Int) (k : Pk → Option R) : evF tt sig (mkK [] R) (mkL (mkK []) [] R) Try.f16 Hf16 (PkS.pack Sf16 (x0, x1, x2, x3, ())) k = f16 n x0 x1 x2 x3 (fun r0 r1 r2 r3 => k (PkS.pack Tf16 (r0, r1, r2, r3, ()))) := by kernel_rfl
theorem okf16 (n : Nat) : FnOk Try.prog 16 (Kf16 n) := by
  refine fn_ok (sig := sig) mixed ttok (mkK_nat (cf16 n)) (mkK_ok (cf16 n)) (mkL_nat (mkK_nat (cf16 n)) (l := []) trivial) (fn := Try.f16) (c := bodyOf Try.f16) (by kernel_rfl) (by kernel_rfl) (by kernel_rfl) (.eq (l := []) (by kernel_rfl) trivial) (shs := Hf16) (S := Sf16) fun R p k => ?_
  unfold Kf16
  cases h : (PkS.un Sf16 p) with
  | none => rfl
  | some d =>
    obtain ⟨x0, x1, x2, x3, u⟩ := (d : Int × Int × Int × Int × Unit)
    have hp := PkS.un_pack h
    subst hp
    exact (ef16 n x0 x1 x2 x3 k).symm

/-! ### loop.example/g00269/spec.l1In -/
theorem cf53 (n : Nat) : AllOk Try.prog [] := trivial
@[reducible] def Sf53 : PkS := ⟨[.one (.int .i64), .one (.int .i64), .one (.int .i64)], []⟩
@[reducible] def Tf53 : PkS := ⟨[.one (.bool), .one (.dead), .one (.dead), .one (.dead)], []⟩
def Hf53 : List Sh := [.one .any, .skip, .skip, .skip]
def f53 {R : Type} (n : Nat) (x0 : Int) (x1 : Int) (x2 : Int) (k : Bool → Option R) : Option R := (bif (decide (x0 ≥ x1)) then k (decide (x0 ≤ x2)) else k false)
def Kf53 (n : Nat) : KPs := fun R p k => match (PkS.un Sf53 p : Option (Int × Int × Int × Unit)) with
  | some (x0, x1, x2, _) => f53 n x0 x1 x2 (fun r0 => k (PkS.pack Tf53 (r0, ())))
  | none => none
theorem ef53 {R : Type} (n : Nat) (x0 : Int) (x1 : Int) (x2 : Int) (k : Pk → Option R) : evF tt sig (mkK [] R) (mkL (mkK []) [] R) Try.f53 Hf53 (PkS.pack Sf53 (x0, x1, x2, ())) k = f53 n x0 x1 x2 (fun r0 => k (PkS.pack Tf53 (r0, ()))) := by kernel_rfl
theorem okf53 (n : Nat) : FnOk Try.prog 53 (Kf53 n) := by
  refine fn_ok (sig := sig) mixed ttok (mkK_nat (cf53 n)) (mkK_ok (cf53 n)) (mkL_nat (mkK_nat (cf53 n)) (l := []) trivial) (fn := Try.f53) (c := bodyOf Try.f53) (by kernel_rfl) (by kernel_rfl) (by kernel_rfl) (.eq (l := []) (by kernel_rfl) trivial) (shs := Hf53) (S := Sf53) fun R p k => ?_
  unfold Kf53
  cases h : (PkS.un Sf53 p) with
  | none => rfl
  | some d =>
    obtain ⟨x0, x1, x2, u⟩ := (d : Int × Int × Int × Unit)
    have hp := PkS.un_pack h
    subst hp
    exact (ef53 n x0 x1 x2 k).symm

/-! ### loop.example/g00269/spec.GoodPolicy -/
theorem cf15 (n : Nat) : AllOk Try.prog [(53, Kf53 n)] := ⟨okf53 n, trivial⟩
@[reducible] def Sf15 : PkS := ⟨[.agg [.int .i64, .int .i64, .int .i64, .int .i64]], []⟩
@[reducible] def Tf15 : PkS := ⟨[.one (.bool), .one (.dead)], []⟩
def Hf15 : List Sh := [.one .any, .skip]
def f15 {R : Type} (n : Nat) (x0 : Int) (x1 : Int) (x2 : Int) (x3 : Int) (k : Bool → Option R) : Option R := (f53 n x0 1 1000 fun r1 => (bif r1 then (f53 n x1 1 10 fun r2 => (bif r2 then (f53 n x2 x0 1000000 fun r3 => (bif r3 then (f53 n x3 1 40 fun r4 => k r4) else k false)) else k false)) else k false))
def Kf15 (n : Nat) : KPs := fun R p k => match (PkS.un Sf15 p : Option (Int × Int × Int × Int × Unit)) with
  | some (x0, x1, x2, x3, _) => f15 n x0 x1 x2 x3 (fun r0 => k (PkS.pack Tf15 (r0, ())))
  | none => none
theorem ef15 {R : Type} (n : Nat) (x0 : Int) (x1 : Int) (x2 : Int) (x3 : Int) (k : Pk → Option R) : evF tt sig (mkK [(53, Kf53 n)] R) (mkL (mkK [(53, Kf53 n)]) [] R) Try.f15 Hf15 (PkS.pack Sf15 (x0, x1, x2, x3, ())) k = f15 n x0 x1 x2 x3 (fun r0 => k (PkS.pack Tf15 (r0, ()))) := by kernel_rfl
theorem okf15 (n : Nat) : FnOk Try.prog 15 (Kf15 n) := by
  refine fn_ok (sig := sig) mixed ttok (mkK_nat (cf15 n)) (mkK_ok (cf15 n)) (mkL_nat (mkK_nat (cf15 n)) (l := []) trivial) (fn := Try.f15) (c := bodyOf Try.f15) (by kernel_rfl) (by kernel_rfl) (by kernel_rfl) (.eq (l := []) (by kernel_rfl) trivial) (shs := Hf15) (S := Sf15) fun R p k => ?_
  unfold Kf15
  cases h : (PkS.un Sf15 p) with
  | none => rfl
  | some d =>
    obtain ⟨x0, x1, x2, x3, u⟩ := (d : Int × Int × Int × Int × Unit)
    have hp := PkS.un_pack h
    subst hp
    exact (ef15 n x0 x1 x2 x3 k).symm

/-! ### loop.example/g00269/impl.in -/
theorem cf54 (n : Nat) : AllOk Try.prog [] := trivial
@[reducible] def Sf54 : PkS := ⟨[.one (.int .i64), .one (.int .i64), .one (.int .i64)], []⟩
@[reducible] def Tf54 : PkS := ⟨[.one (.bool), .one (.dead), .one (.dead), .one (.dead)], []⟩
def Hf54 : List Sh := [.one .any, .skip, .skip, .skip]
def f54 {R : Type} (n : Nat) (x0 : Int) (x1 : Int) (x2 : Int) (k : Bool → Option R) : Option R := (bif (decide (x0 ≥ x1)) then k (decide (x0 ≤ x2)) else k false)
def Kf54 (n : Nat) : KPs := fun R p k => match (PkS.un Sf54 p : Option (Int × Int × Int × Unit)) with
  | some (x0, x1, x2, _) => f54 n x0 x1 x2 (fun r0 => k (PkS.pack Tf54 (r0, ())))
  | none => none
theorem ef54 {R : Type} (n : Nat) (x0 : Int) (x1 : Int) (x2 : Int) (k : Pk → Option R) : evF tt sig (mkK [] R) (mkL (mkK []) [] R) Try.f54 Hf54 (PkS.pack Sf54 (x0, x1, x2, ())) k = f54 n x0 x1 x2 (fun r0 => k (PkS.pack Tf54 (r0, ()))) := by kernel_rfl
theorem okf54 (n : Nat) : FnOk Try.prog 54 (Kf54 n) := by
  refine fn_ok (sig := sig) mixed ttok (mkK_nat (cf54 n)) (mkK_ok (cf54 n)) (mkL_nat (mkK_nat (cf54 n)) (l := []) trivial) (fn := Try.f54) (c := bodyOf Try.f54) (by kernel_rfl) (by kernel_rfl) (by kernel_rfl) (.eq (l := []) (by kernel_rfl) trivial) (shs := Hf54) (S := Sf54) fun R p k => ?_
  unfold Kf54
  cases h : (PkS.un Sf54 p) with
  | none => rfl
  | some d =>
    obtain ⟨x0, x1, x2, u⟩ := (d : Int × Int × Int × Unit)
    have hp := PkS.un_pack h
    subst hp
    exact (ef54 n x0 x1 x2 k).symm

/-! ### loop.example/g00269/impl.GoodPolicy -/
theorem cf17 (n : Nat) : AllOk Try.prog [(54, Kf54 n)] := ⟨okf54 n, trivial⟩
@[reducible] def Sf17 : PkS := ⟨[.agg [.int .i64, .int .i64, .int .i64, .int .i64]], []⟩
@[reducible] def Tf17 : PkS := ⟨[.one (.bool), .one (.dead)], []⟩
def Hf17 : List Sh := [.one .any, .skip]
def f17 {R : Type} (n : Nat) (x0 : Int) (x1 : Int) (x2 : Int) (x3 : Int) (k : Bool → Option R) : Option R := (f54 n x0 1 1000 fun r1 => (bif r1 then (f54 n x1 1 10 fun r2 => (bif r2 then (f54 n x2 x0 1000000 fun r3 => (bif r3 then (f54 n x3 1 40 fun r4 => k r4) else k false)) else k false)) else k false))
def Kf17 (n : Nat) : KPs := fun R p k => match (PkS.un Sf17 p : Option (Int × Int × Int × Int × Unit)) with
  | some (x0, x1, x2, x3, _) => f17 n x0 x1 x2 x3 (fun r0 => k (PkS.pack Tf17 (r0, ())))
  | none => none
theorem ef17 {R : Type} (n : Nat) (x0 : Int) (x1 : Int) (x2 : Int) (x3 : Int) (k : Pk → Option R) : evF tt sig (mkK [(54, Kf54 n)] R) (mkL (mkK [(54, Kf54 n)]) [] R) Try.f17 Hf17 (PkS.pack Sf17 (x0, x1, x2, x3, ())) k = f17 n x0 x1 x2 x3 (fun r0 => k (PkS.pack Tf17 (r0, ()))) := by kernel_rfl
theorem okf17 (n : Nat) : FnOk Try.prog 17 (Kf17 n) := by
  refine fn_ok (sig := sig) mixed ttok (mkK_nat (cf17 n)) (mkK_ok (cf17 n)) (mkL_nat (mkK_nat (cf17 n)) (l := []) trivial) (fn := Try.f17) (c := bodyOf Try.f17) (by kernel_rfl) (by kernel_rfl) (by kernel_rfl) (.eq (l := []) (by kernel_rfl) trivial) (shs := Hf17) (S := Sf17) fun R p k => ?_
  unfold Kf17
  cases h : (PkS.un Sf17 p) with
  | none => rfl
  | some d =>
    obtain ⟨x0, x1, x2, x3, u⟩ := (d : Int × Int × Int × Int × Unit)
    have hp := PkS.un_pack h
    subst hp
    exact (ef17 n x0 x1 x2 x3 k).symm

/-! ### loop.example/g00269/laws.FnExactGoodPolicy -/
theorem cf3 (n : Nat) : AllOk Try.prog [(16, Kf16 n), (15, Kf15 n), (17, Kf17 n)] := ⟨okf16 n, ⟨okf15 n, ⟨okf17 n, trivial⟩⟩⟩
@[reducible] def Sf3 : PkS := ⟨[.agg [.int .i64, .int .i64, .int .i64, .int .i64]], []⟩
@[reducible] def Tf3 : PkS := ⟨[.one (.bool), .one (.dead)], []⟩
def Hf3 : List Sh := [.one .any, .skip]
def f3 {R : Type} (n : Nat) (x0 : Int) (x1 : Int) (x2 : Int) (x3 : Int) (k : Bool → Option R) : Option R := (f16 n x0 x1 x2 x3 fun r1 r2 r3 r4 => (f15 n r1 r2 r3 r4 fun r5 => (f16 n x0 x1 x2 x3 fun r6 r7 r8 r9 => (f17 n r6 r7 r8 r9 fun r10 => (bif (!(r10 == r5)) then k false else k true)))))
def Kf3 (n : Nat) : KPs := fun R p k => match (PkS.un Sf3 p : Option (Int × Int × Int × Int × Unit)) with
  | some (x0, x1, x2, x3, _) => f3 n x0 x1 x2 x3 (fun r0 => k (PkS.pack Tf3 (r0, ())))
  | none => none
theorem ef3 {R : Type} (n : Nat) (x0 : Int) (x1 : Int) (x2 : Int) (x3 : Int) (k : Pk → Option R) : evF tt sig (mkK [(16, Kf16 n), (15, Kf15 n), (17, Kf17 n)] R) (mkL (mkK [(16, Kf16 n), (15, Kf15 n), (17, Kf17 n)]) [] R) Try.f3 Hf3 (PkS.pack Sf3 (x0, x1, x2, x3, ())) k = f3 n x0 x1 x2 x3 (fun r0 => k (PkS.pack Tf3 (r0, ()))) := by kernel_rfl
theorem okf3 (n : Nat) : FnOk Try.prog 3 (Kf3 n) := by
  refine fn_ok (sig := sig) mixed ttok (mkK_nat (cf3 n)) (mkK_ok (cf3 n)) (mkL_nat (mkK_nat (cf3 n)) (l := []) trivial) (fn := Try.f3) (c := bodyOf Try.f3) (by kernel_rfl) (by kernel_rfl) (by kernel_rfl) (.eq (l := []) (by kernel_rfl) trivial) (shs := Hf3) (S := Sf3) fun R p k => ?_
  unfold Kf3
  cases h : (PkS.un Sf3 p) with
  | none => rfl
  | some d =>
    obtain ⟨x0, x1, x2, x3, u⟩ := (d : Int × Int × Int × Int × Unit)
    have hp := PkS.un_pack h
    subst hp
    exact (ef3 n x0 x1 x2 x3 k).symm
end Go.Am.G3
