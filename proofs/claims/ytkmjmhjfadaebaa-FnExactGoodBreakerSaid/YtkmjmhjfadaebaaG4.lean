/- What the functions that the law reaches compute, each as a plain function, and that the code does so. -/
import Derived.Test.YtkmjmhjfadaebaaAmB
import Derived.KernelRfl
import Derived.Test.YtkmjmhjfadaebaaProg
set_option linter.unusedVariables false
set_option maxRecDepth 100000
namespace Go.Am.G4
open Go Go.Am
open Go.Proofs
def tt : TT := [(3, ⟨1, false, (.int .i64), 0, [], [.int .i64 0], 8, true, false⟩), (4, ⟨1, false, .bool, 0, [], [.bool false], 1, true, false⟩), (29, ⟨5, true, (.pr (.int .i64) (.pr (.int .i64) (.pr (.int .i64) (.pr (.int .i64) (.int .i64))))), 0, [(0, 1, false), (1, 1, false), (2, 1, false), (3, 1, false), (4, 1, false)], [.int .i64 0, .int .i64 0, .int .i64 0, .int .i64 0, .int .i64 0], 40, true, false⟩), (31, ⟨5, true, (.pr (.int .i64) (.pr (.int .i64) (.pr (.int .i64) (.pr (.int .i64) (.int .i64))))), 0, [(0, 1, false), (1, 1, false), (2, 1, false), (3, 1, false), (4, 1, false)], [.int .i64 0, .int .i64 0, .int .i64 0, .int .i64 0, .int .i64 0], 40, true, false⟩)]
def sig : Sig := sigOf [(4, [.agg [.any, .any, .any, .any, .any]]), (18, [.agg [.any, .any, .any, .any, .any]]), (19, [.agg [.any, .any, .any, .any, .any]]), (20, [.agg [.any, .any, .any, .any, .any]]), (53, [.one .any, .one .any, .one .any]), (54, [.one .any, .one .any, .one .any]), (55, [.one .any])]
theorem ttok : TTok Try.prog tt := .of_chk (by kernel_rfl)
theorem mixed : Try.prog.follows .mixedOrders = true := by kernel_rfl

/-! ### loop.example/g00269/laws.toBreaker -/
theorem cf19 (n : Nat) : AllOk Try.prog [] := trivial
@[reducible] def Sf19 : PkS := ⟨[.agg [.int .i64, .int .i64, .int .i64, .int .i64, .int .i64]], []⟩
@[reducible] def Tf19 : PkS := ⟨[.agg [.int .i64, .int .i64, .int .i64, .int .i64, .int .i64], .one (.dead)], []⟩
def Hf19 : List Sh := [.agg [.any, .any, .any, .any, .any], .skip]
def f19 {R : Type} (n : Nat) (x0 : Int) (x1 : Int) (x2 : Int) (x3 : Int) (x4 : Int) (k : Int → Int → Int → Int → Int → Option R) : Option R := k x0 x1 x2 x3 x4
def Kf19 (n : Nat) : KPs := fun R p k => match (PkS.un Sf19 p : Option (Int × Int × Int × Int × Int × Unit)) with
  | some (x0, x1, x2, x3, x4, _) => f19 n x0 x1 x2 x3 x4 (fun r0 r1 r2 r3 r4 => k (PkS.pack Tf19 (r0, r1, r2, r3, r4, ())))
  | none => none
theorem ef19 {R : Type} (n : Nat) (x0 : Int) (x1 : Int) (x2 : Int) (x3 : Int) (x4 : Int) (k : Pk → Option R) : evF tt sig (mkK [] R) (mkL (mkK []) [] R) Try.f19 Hf19 (PkS.pack Sf19 (x0, x1, x2, x3, x4, ())) k = f19 n x0 x1 x2 x3 x4 (fun r0 r1 r2 r3 r4 => k (PkS.pack Tf19 (r0, r1, r2, r3, r4, ()))) := by kernel_rfl
theorem okf19 (n : Nat) : FnOk Try.prog 19 (Kf19 n) := by
  refine fn_ok (sig := sig) mixed ttok (mkK_nat (cf19 n)) (mkK_ok (cf19 n)) (mkL_nat (mkK_nat (cf19 n)) (l := []) trivial) (fn := Try.f19) (c := bodyOf Try.f19) (by kernel_rfl) (by kernel_rfl) (by kernel_rfl) (.eq (l := []) (by kernel_rfl) trivial) (shs := Hf19) (S := Sf19) fun R p k => ?_
  unfold Kf19
  cases h : (PkS.un Sf19 p) with
  | none => rfl
  | some d =>
    obtain ⟨x0, x1, x2, x3, x4, u⟩ := (d : Int × Int × Int × Int × Int × Unit)
    have hp := PkS.un_pack h
    subst hp
    exact (ef19 n x0 x1 x2 x3 x4 k).symm

/-! ### loop.example/g00269/spec.l1In -/
theorem cf53 (n : Nat) : AllOk Try.prog [] := trivial
@[reducible] def Sf53 : PkS := ⟨[.one (.int .i64), .one (.int .i64), .one (.int .i64)], []⟩
@[reducible] def Tf53 : PkS := ⟨[.one (.bool), .one (.dead), .one (.dead), .one (.dead)], []⟩
def Hf53 : List Sh := [.one .any, .skip, .skip, .skip]
def f53 {R : Type} (n : Nat) (x0 : Int) (x1 : Int) (x2 : Int) (k : Bool → Option R) : Option R := (bif (decide (x0 ≥ x1)) then k (decide (x0 ≤ x2)) else k false)
def Kf53 (n : Nat) : KPs := fun R p k => match (PkS.un Sf53 p : Option (Int × Int × Int × Unit)) with
  | some (x0, x1, x2, _) => f53 n x0 x1 x2 (fun r0 => k (PkS.pack Tf53 (r0, ())))
  | none => none
theorem ef53 {R : Type} (n : Nat) (x0 : Int) (x1 : Int) (x2 : Int) (k : Pk → Option R) : evF tt sig (mkK [] R) (mkL (mkK []) [] R) Try.f53 Hf53 (PkS.pack Sf53 (x0, x1, x2, ())) k = f53 n x0 x1 x2 (fun r0 => k (PkS.pack Tf53 (r0, ()))) := by kernel_rfl
theorem okf53 (n : Nat) : FnOk Try.prog 53 (Kf53 n) := by
  refine fn_ok (sig := sig) mixed ttok (mkK_nat (cf53 n)) (mkK_ok (cf53 n)) (mkL_nat (mkK_nat (cf53 n)) (l := []) trivial) (fn := Try.f53) (c := bodyOf Try.f53) (by kernel_rfl) (by kernel_rfl) (by kernel_rfl) (.eq (l := []) (by kernel_rfl) trivial) (shs := Hf53) (S := Sf53) fun R p k => ?_
  unfold Kf53
  cases h : (PkS.un Sf53 p) with
  | none => rfl
  | some d =>
    obtain ⟨x0, x1, x2, u⟩ := (d : Int × Int × Int × Unit)
    have hp := PkS.un_pack h
    subst hp
    exact (ef53 n x0 x1 x2 k).symm

/-! ### loop.example/g00269/spec.GoodBreaker -/
theorem cf18 (n : Nat) : AllOk Try.prog [(53, Kf53 n)] := ⟨okf53 n, trivial⟩
@[reducible] def Sf18 : PkS := ⟨[.agg [.int .i64, .int .i64, .int .i64, .int .i64, .int .i64]], []⟩
@[reducible] def Tf18 : PkS := ⟨[.one (.bool), .one (.dead)], []⟩
def Hf18 : List Sh := [.one .any, .skip]
def f18 {R : Type} (n : Nat) (x0 : Int) (x1 : Int) (x2 : Int) (x3 : Int) (x4 : Int) (k : Bool → Option R) : Option R := (f53 n x0 1 20 fun r1 => (bif (!r1) then k false else (f53 n x1 1 10000 fun r2 => (bif (!r2) then k false else (f53 n x2 0 2 fun r3 => (bif (!r3) then k false else (f53 n x4 0 1000000 fun r4 => (bif (!r4) then k false else (bif (x2 == 0) then (f53 n x3 0 (IntKind.wrap .i64 (x0 - 1)) fun r5 => (bif r5 then k (x4 == 0) else k false)) else k (x3 == x0))))))))))
def Kf18 (n : Nat) : KPs := fun R p k => match (PkS.un Sf18 p : Option (Int × Int × Int × Int × Int × Unit)) with
  | some (x0, x1, x2, x3, x4, _) => f18 n x0 x1 x2 x3 x4 (fun r0 => k (PkS.pack Tf18 (r0, ())))
  | none => none
theorem ef18 {R : Type} (n : Nat) (x0 : Int) (x1 : Int) (x2 : Int) (x3 : Int) (x4 : Int) (k : Pk → Option R) : evF tt sig (mkK [(53, Kf53 n)] R) (mkL (mkK [(53, Kf53 n)]) [] R) Try.f18 Hf18 (PkS.pack Sf18 (x0, x1, x2, x3, x4, ())) k = f18 n x0 x1 x2 x3 x4 (fun r0 => k (PkS.pack Tf18 (r0, ()))) := by kernel_rfl
theorem okf18 (n : Nat) : FnOk Try.prog 18 (Kf18 n) := by
  refine fn_ok (sig := sig) mixed ttok (mkK_nat (cf18 n)) (mkK_ok (cf18 n)) (mkL_nat (mkK_nat (cf18 n)) (l := []) trivial) (fn := Try.f18) (c := bodyOf Try.f18) (by kernel_rfl) (by kernel_rfl) (by kernel_rfl) (.eq (l := []) (by kernel_rfl) trivial) (shs := Hf18) (S := Sf18) fun R p k => ?_
  unfold Kf18
  cases h : (PkS.un Sf18 p) with
  | none => rfl
  | some d =>
    obtain ⟨x0, x1, x2, x3, x4, u⟩ := (d : Int × Int × Int × Int × Int × Unit)
    have hp := PkS.un_pack h
    subst hp
    exact (ef18 n x0 x1 x2 x3 x4 k).symm

/-! ### loop.example/g00269/impl.in -/
theorem cf54 (n : Nat) : AllOk Try.prog [] := trivial
@[reducible] def Sf54 : PkS := ⟨[.one (.int .i64), .one (.int .i64), .one (.int .i64)], []⟩
@[reducible] def Tf54 : PkS := ⟨[.one (.bool), .one (.dead), .one (.dead), .one (.dead)], []⟩
def Hf54 : List Sh := [.one .any, .skip, .skip, .skip]
def f54 {R : Type} (n : Nat) (x0 : Int) (x1 : Int) (x2 : Int) (k : Bool → Option R) : Option R := (bif (decide (x0 ≥ x1)) then k (decide (x0 ≤ x2)) else k false)
def Kf54 (n : Nat) : KPs := fun R p k => match (PkS.un Sf54 p : Option (Int × Int × Int × Unit)) with
  | some (x0, x1, x2, _) => f54 n x0 x1 x2 (fun r0 => k (PkS.pack Tf54 (r0, ())))
  | none => none
theorem ef54 {R : Type} (n : Nat) (x0 : Int) (x1 : Int) (x2 : Int) (k : Pk → Option R) : evF tt sig (mkK [] R) (mkL (mkK []) [] R) Try.f54 Hf54 (PkS.pack Sf54 (x0, x1, x2, ())) k = f54 n x0 x1 x2 (fun r0 => k (PkS.pack Tf54 (r0, ()))) := by kernel_rfl
theorem okf54 (n : Nat) : FnOk Try.prog 54 (Kf54 n) := by
  refine fn_ok (sig := sig) mixed ttok (mkK_nat (cf54 n)) (mkK_ok (cf54 n)) (mkL_nat (mkK_nat (cf54 n)) (l := []) trivial) (fn := Try.f54) (c := bodyOf Try.f54) (by kernel_rfl) (by kernel_rfl) (by kernel_rfl) (.eq (l := []) (by kernel_rfl) trivial) (shs := Hf54) (S := Sf54) fun R p k => ?_
  unfold Kf54
  cases h : (PkS.un Sf54 p) with
  | none => rfl
  | some d =>
    obtain ⟨x0, x1, x2, u⟩ := (d : Int × Int × Int × Unit)
    have hp := PkS.un_pack h
    subst hp
    exact (ef54 n x0 x1 x2 k).symm

/-! ### loop.example/g00269/impl.isTime -/
theorem cf55 (n : Nat) : AllOk Try.prog [(54, Kf54 n)] := ⟨okf54 n, trivial⟩
@[reducible] def Sf55 : PkS := ⟨[.one (.int .i64)], []⟩
@[reducible] def Tf55 : PkS := ⟨[.one (.bool), .one (.dead)], []⟩
def Hf55 : List Sh := [.one .any, .skip]
def f55 {R : Type} (n : Nat) (x0 : Int) (k : Bool → Option R) : Option R := (f54 n x0 0 1000000 fun r1 => k r1)
def Kf55 (n : Nat) : KPs := fun R p k => match (PkS.un Sf55 p : Option (Int × Unit)) with
  | some (x0, _) => f55 n x0 (fun r0 => k (PkS.pack Tf55 (r0, ())))
  | none => none
theorem ef55 {R : Type} (n : Nat) (x0 : Int) (k : Pk → Option R) : evF tt sig (mkK [(54, Kf54 n)] R) (mkL (mkK [(54, Kf54 n)]) [] R) Try.f55 Hf55 (PkS.pack Sf55 (x0, ())) k = f55 n x0 (fun r0 => k (PkS.pack Tf55 (r0, ()))) := by kernel_rfl
theorem okf55 (n : Nat) : FnOk Try.prog 55 (Kf55 n) := by
  refine fn_ok (sig := sig) mixed ttok (mkK_nat (cf55 n)) (mkK_ok (cf55 n)) (mkL_nat (mkK_nat (cf55 n)) (l := []) trivial) (fn := Try.f55) (c := bodyOf Try.f55) (by kernel_rfl) (by kernel_rfl) (by kernel_rfl) (.eq (l := []) (by kernel_rfl) trivial) (shs := Hf55) (S := Sf55) fun R p k => ?_
  unfold Kf55
  cases h : (PkS.un Sf55 p) with
  | none => rfl
  | some d =>
    obtain ⟨x0, u⟩ := (d : Int × Unit)
    have hp := PkS.un_pack h
    subst hp
    exact (ef55 n x0 k).symm

/-! ### loop.example/g00269/impl.GoodBreaker -/
theorem cf20 (n : Nat) : AllOk Try.prog [(54, Kf54 n), (55, Kf55 n)] := ⟨okf54 n, ⟨okf55 n, trivial⟩⟩
@[reducible] def Sf20 : PkS := ⟨[.agg [.int .i64, .int .i64, .int .i64, .int .i64, .int .i64]], []⟩
@[reducible] def Tf20 : PkS := ⟨[.one (.bool), .one (.dead)], []⟩
def Hf20 : List Sh := [.one .any, .skip]
def f20 {R : Type} (n : Nat) (x0 : Int) (x1 : Int) (x2 : Int) (x3 : Int) (x4 : Int) (k : Bool → Option R) : Option R := (f54 n x0 1 20 fun r1 => (bif (!r1) then k false else (f54 n x1 1 10000 fun r2 => (bif (!r2) then k false else (f54 n x2 0 2 fun r3 => (bif (!r3) then k false else (f54 n x3 0 x0 fun r4 => (bif (!r4) then k false else (f55 n x4 fun r5 => (bif (!r5) then k false else (bif (x2 == 0) then (bif (decide (x3 < x0)) then k (x4 == 0) else k false) else k (x3 == x0))))))))))))
def Kf20 (n : Nat) : KPs := fun R p k => match (PkS.un Sf20 p : Option (Int × Int × Int × Int × Int × Unit)) with
  | some (x0, x1, x2, x3, x4, _) => f20 n x0 x1 x2 x3 x4 (fun r0 => k (PkS.pack Tf20 (r0, ())))
  | none => none
theorem ef20 {R : Type} (n : Nat) (x0 : Int) (x1 : Int) (x2 : Int) (x3 : Int) (x4 : Int) (k : Pk → Option R) : evF tt sig (mkK [(54, Kf54 n), (55, Kf55 n)] R) (mkL (mkK [(54, Kf54 n), (55, Kf55 n)]) [] R) Try.f20 Hf20 (PkS.pack Sf20 (x0, x1, x2, x3, x4, ())) k = f20 n x0 x1 x2 x3 x4 (fun r0 => k (PkS.pack Tf20 (r0, ()))) := by kernel_rfl
theorem okf20 (n : Nat) : FnOk Try.prog 20 (Kf20 n) := by
  refine fn_ok (sig := sig) mixed ttok (mkK_nat (cf20 n)) (mkK_ok (cf20 n)) (mkL_nat (mkK_nat (cf20 n)) (l := []) trivial) (fn := Try.f20) (c := bodyOf Try.f20) (by kernel_rfl) (by kernel_rfl) (by kernel_rfl) (.eq (l := []) (by kernel_rfl) trivial) (shs := Hf20) (S := Sf20) fun R p k => ?_
  unfold Kf20
  cases h : (PkS.un Sf20 p) with
  | none => rfl
  | some d =>
    obtain ⟨x0, x1, x2, x3, x4, u⟩ := (d : Int × Int × Int × Int × Int × Unit)
    have hp := PkS.un_pack h
    subst hp
    exact (ef20 n x0 x1 x2 x3 x4 k).symm

/-! ### loop.example/g00269/laws.FnExactGoodBreaker -/
theorem cf4 (n : Nat) : AllOk Try.prog [(19, Kf19 n), (18, Kf18 n), (20, Kf20 n)] := ⟨okf19 n, ⟨okf18 n, ⟨okf20 n, trivial⟩⟩⟩
@[reducible] def Sf4 : PkS := ⟨[.agg [.int .i64, .int .i64, .int .i64, .int .i64, .int .i64]], []⟩
@[reducible] def Tf4 : PkS := ⟨[.one (.bool), .one (.dead)], []⟩
def Hf4 : List Sh := [.one .any, .skip]
def f4 {R : Type} (n : Nat) (x0 : Int) (x1 : Int) (x2 : Int) (x3 : Int) (x4 : Int) (k : Bool → Option R) : Option R := (f19 n x0 x1 x2 x3 x4 fun r1 r2 r3 r4 r5 => (f18 n r1 r2 r3 r4 r5 fun r6 => (f19 n x0 x1 x2 x3 x4 fun r7 r8 r9 r10 r11 => (f20 n r7 r8 r9 r10 r11 fun r12 => (bif (!(r12 == r6)) then k false else k true)))))
def Kf4 (n : Nat) : KPs := fun R p k => match (PkS.un Sf4 p : Option (Int × Int × Int × Int × Int × Unit)) with
  | some (x0, x1, x2, x3, x4, _) => f4 n x0 x1 x2 x3 x4 (fun r0 => k (PkS.pack Tf4 (r0, ())))
  | none => none
theorem ef4 {R : Type} (n : Nat) (x0 : Int) (x1 : Int) (x2 : Int) (x3 : Int) (x4 : Int) (k : Pk → Option R) : evF tt sig (mkK [(19, Kf19 n), (18, Kf18 n), (20, Kf20 n)] R) (mkL (mkK [(19, Kf19 n), (18, Kf18 n), (20, Kf20 n)]) [] R) Try.f4 Hf4 (PkS.pack Sf4 (x0, x1, x2, x3, x4, ())) k = f4 n x0 x1 x2 x3 x4 (fun r0 => k (PkS.pack Tf4 (r0, ()))) := by kernel_rfl
theorem okf4 (n : Nat) : FnOk Try.prog 4 (Kf4 n) := by
  refine fn_ok (sig := sig) mixed ttok (mkK_nat (cf4 n)) (mkK_ok (cf4 n)) (mkL_nat (mkK_nat (cf4 n)) (l := []) trivial) (fn := Try.f4) (c := bodyOf Try.f4) (by kernel_rfl) (by kernel_rfl) (by kernel_rfl) (.eq (l := []) (by kernel_rfl) trivial) (shs := Hf4) (S := Sf4) fun R p k => ?_
  unfold Kf4
  cases h : (PkS.un Sf4 p) with
  | none => rfl
  | some d =>
    obtain ⟨x0, x1, x2, x3, x4, u⟩ := (d : Int × Int × Int × Int × Int × Unit)
    have hp := PkS.un_pack h
    subst hp
    exact (ef4 n x0 x1 x2 x3 x4 k).symm
end Go.Am.G4
