/- What the functions that the law reaches compute, each as a plain function, and that the code does so. -/
import Derived.Test.YtkmjmhjfadaebaaAmB
import Derived.KernelRfl
import Derived.Test.YtkmjmhjfadaebaaProg
set_option linter.unusedVariables false
set_option maxRecDepth 100000
namespace Go.Am.G6
open Go Go.Am
open Go.Proofs
def tt : TT := [(3, ⟨1, false, (.int .i64), 0, [], [.int .i64 0], 8, true, false⟩), (4, ⟨1, false, .bool, 0, [], [.bool false], 1, true, false⟩), (31, ⟨5, true, (.pr (.int .i64) (.pr (.int .i64) (.pr (.int .i64) (.pr (.int .i64) (.int .i64))))), 0, [(0, 1, false), (1, 1, false), (2, 1, false), (3, 1, false), (4, 1, false)], [.int .i64 0, .int .i64 0, .int .i64 0, .int .i64 0, .int .i64 0], 40, true, false⟩)]
def sig : Sig := sigOf [(6, [.one .any, .one .any]), (20, [.agg [.any, .any, .any, .any, .any]]), (25, [.one .any, .one .any]), (26, [.one .any, .one .any]), (27, [.agg [.any, .any, .any, .any, .any], .agg [.any, .any, .any, .any, .any]]), (53, [.one .any, .one .any, .one .any]), (54, [.one .any, .one .any, .one .any]), (55, [.one .any])]
theorem ttok : TTok Try.prog tt := .of_chk (by kernel_rfl)
theorem mixed : Try.prog.follows .mixedOrders = true := by kernel_rfl

/-! ### loop.example/g00269/spec.l1In -/
theorem cf53 (n : Nat) : AllOk Try.prog [] := trivial
@[reducible] def Sf53 : PkS := ⟨[.one (.int .i64), .one (.int .i64), .one (.int .i64)], []⟩
@[reducible] def Tf53 : PkS := ⟨[.one (.bool), .one (.dead), .one (.dead), .one (.dead)], []⟩
def Hf53 : List Sh := [.one .any, .skip, .skip, .skip]
def f53 {R : Type} (n : Nat) (x0 : Int) (x1 : Int) (x2 : Int) (k : Bool → Option R) : Option R := (bif (decide (x0 ≥ x1)) then k (decide (x0 ≤ x2)) else k false)
def Kf53 (n : Nat) : KPs := fun R p k => match (PkS.un Sf53 p : Option (Int × Int × Int × Unit)) with
  | some (x0, x1, x2, _) => f53 n x0 x1 x2 (fun r0 => k (PkS.pack Tf53 (r0, ())))
  | none => none
theorem ef53 {R : Type} (n : Nat) (x0 : Int) (x1 : Int) (x2 : Int) (k : Pk → Option R) : evF tt sig (mkK [] R) (mkL (mkK []) [] R) Try.f53 Hf53 (PkS.pack Sf53 (x0, x1, x2, ())) k = f53 n x0 x1 x2 (fun r0 => k (PkS.pack Tf53 (r0, ()))) := by kernel_rfl
theorem okf53 (n : Nat) : FnOk Try.prog 53 (Kf53 n) := by
  refine fn_ok (sig := sig) mixed ttok (mkK_nat (cf53 n)) (mkK_ok (cf53 n)) (mkL_nat (mkK_nat (cf53 n)) (l := []) trivial) (fn := Try.f53) (c := bodyOf Try.f53) (by kernel_rfl) (by kernel_rfl) (by kernel_rfl) (.eq (l := []) (by kernel_rfl) trivial) (shs := Hf53) (S := Sf53) fun R p k => ?_
  unfold Kf53
  cases h : (PkS.un Sf53 p) with
  | none => rfl
  | some d =>
    obtain ⟨x0, x1, x2, u⟩ := (d : Int × Int × Int × Unit)
    have hp := PkS.un_pack h
    subst hp
    exact (ef53 n x0 x1 x2 k).symm

/-! ### loop.example/g00269/spec.NewBreaker -/
theorem cf25 (n : Nat) : AllOk Try.prog [(53, Kf53 n)] := ⟨okf53 n, trivial⟩
@[reducible] def Sf25 : PkS := ⟨[.one (.int .i64), .one (.int .i64)], []⟩
@[reducible] def Tf25 : PkS := ⟨[.tup [(true, [.int .i64, .int .i64, .int .i64, .int .i64, .int .i64]), (false, [.bool])], .one (.dead), .one (.dead)], []⟩
def Hf25 : List Sh := [.tup [(true, [.any, .any, .any, .any, .any]), (false, [.any])], .skip, .skip]
def f25 {R : Type} (n : Nat) (x0 : Int) (x1 : Int) (k : Int → Int → Int → Int → Int → Bool → Option R) : Option R := (f53 n x0 1 20 fun r1 => (bif (!r1) then k 0 0 0 0 0 false else (f53 n x1 1 10000 fun r2 => (bif (!r2) then k 0 0 0 0 0 false else k x0 x1 0 0 0 true))))
def Kf25 (n : Nat) : KPs := fun R p k => match (PkS.un Sf25 p : Option (Int × Int × Unit)) with
  | some (x0, x1, _) => f25 n x0 x1 (fun r0 r1 r2 r3 r4 r5 => k (PkS.pack Tf25 (r0, r1, r2, r3, r4, r5, ())))
  | none => none
theorem ef25 {R : Type} (n : Nat) (x0 : Int) (x1 : Int) (k : Pk → Option R) : evF tt sig (mkK [(53, Kf53 n)] R) (mkL (mkK [(53, Kf53 n)]) [] R) Try.f25 Hf25 (PkS.pack Sf25 (x0, x1, ())) k = f25 n x0 x1 (fun r0 r1 r2 r3 r4 r5 => k (PkS.pack Tf25 (r0, r1, r2, r3, r4, r5, ()))) := by kernel_rfl
theorem okf25 (n : Nat) : FnOk Try.prog 25 (Kf25 n) := by
  refine fn_ok (sig := sig) mixed ttok (mkK_nat (cf25 n)) (mkK_ok (cf25 n)) (mkL_nat (mkK_nat (cf25 n)) (l := []) trivial) (fn := Try.f25) (c := bodyOf Try.f25) (by kernel_rfl) (by kernel_rfl) (by kernel_rfl) (.eq (l := []) (by kernel_rfl) trivial) (shs := Hf25) (S := Sf25) fun R p k => ?_
  unfold Kf25
  cases h : (PkS.un Sf25 p) with
  | none => rfl
  | some d =>
    obtain ⟨x0, x1, u⟩ := (d : Int × Int × Unit)
    have hp := PkS.un_pack h
    subst hp
    exact (ef25 n x0 x1 k).symm

/-! ### loop.example/g00269/impl.in -/
theorem cf54 (n : Nat) : AllOk Try.prog [] := trivial
@[reducible] def Sf54 : PkS := ⟨[.one (.int .i64), .one (.int .i64), .one (.int .i64)], []⟩
@[reducible] def Tf54 : PkS := ⟨[.one (.bool), .one (.dead), .one (.dead), .one (.dead)], []⟩
def Hf54 : List Sh := [.one .any, .skip, .skip, .skip]
def f54 {R : Type} (n : Nat) (x0 : Int) (x1 : Int) (x2 : Int) (k : Bool → Option R) : Option R := (bif (decide (x0 ≥ x1)) then k (decide (x0 ≤ x2)) else k false)
def Kf54 (n : Nat) : KPs := fun R p k => match (PkS.un Sf54 p : Option (Int × Int × Int × Unit)) with
  | some (x0, x1, x2, _) => f54 n x0 x1 x2 (fun r0 => k (PkS.pack Tf54 (r0, ())))
  | none => none
theorem ef54 {R : Type} (n : Nat) (x0 : Int) (x1 : Int) (x2 : Int) (k : Pk → Option R) : evF tt sig (mkK [] R) (mkL (mkK []) [] R) Try.f54 Hf54 (PkS.pack Sf54 (x0, x1, x2, ())) k = f54 n x0 x1 x2 (fun r0 => k (PkS.pack Tf54 (r0, ()))) := by kernel_rfl
theorem okf54 (n : Nat) : FnOk Try.prog 54 (Kf54 n) := by
  refine fn_ok (sig := sig) mixed ttok (mkK_nat (cf54 n)) (mkK_ok (cf54 n)) (mkL_nat (mkK_nat (cf54 n)) (l := []) trivial) (fn := Try.f54) (c := bodyOf Try.f54) (by kernel_rfl) (by kernel_rfl) (by kernel_rfl) (.eq (l := []) (by kernel_rfl) trivial) (shs := Hf54) (S := Sf54) fun R p k => ?_
  unfold Kf54
  cases h : (PkS.un Sf54 p) with
  | none => rfl
  | some d =>
    obtain ⟨x0, x1, x2, u⟩ := (d : Int × Int × Int × Unit)
    have hp := PkS.un_pack h
    subst hp
    exact (ef54 n x0 x1 x2 k).symm

/-! ### loop.example/g00269/impl.isTime -/
theorem cf55 (n : Nat) : AllOk Try.prog [(54, Kf54 n)] := ⟨okf54 n, trivial⟩
@[reducible] def Sf55 : PkS := ⟨[.one (.int .i64)], []⟩
@[reducible] def Tf55 : PkS := ⟨[.one (.bool), .one (.dead)], []⟩
def Hf55 : List Sh := [.one .any, .skip]
def f55 {R : Type} (n : Nat) (x0 : Int) (k : Bool → Option R) : Option R := (f54 n x0 0 1000000 fun r1 => k r1)
def Kf55 (n : Nat) : KPs := fun R p k => match (PkS.un Sf55 p : Option (Int × Unit)) with
  | some (x0, _) => f55 n x0 (fun r0 => k (PkS.pack Tf55 (r0, ())))
  | none => none
theorem ef55 {R : Type} (n : Nat) (x0 : Int) (k : Pk → Option R) : evF tt sig (mkK [(54, Kf54 n)] R) (mkL (mkK [(54, Kf54 n)]) [] R) Try.f55 Hf55 (PkS.pack Sf55 (x0, ())) k = f55 n x0 (fun r0 => k (PkS.pack Tf55 (r0, ()))) := by kernel_rfl
theorem okf55 (n : Nat) : FnOk Try.prog 55 (Kf55 n) := by
  refine fn_ok (sig := sig) mixed ttok (mkK_nat (cf55 n)) (mkK_ok (cf55 n)) (mkL_nat (mkK_nat (cf55 n)) (l := []) trivial) (fn := Try.f55) (c := bodyOf Try.f55) (by kernel_rfl) (by kernel_rfl) (by kernel_rfl) (.eq (l := []) (by kernel_rfl) trivial) (shs := Hf55) (S := Sf55) fun R p k => ?_
  unfold Kf55
  cases h : (PkS.un Sf55 p) with
  | none => rfl
  | some d =>
    obtain ⟨x0, u⟩ := (d : Int × Unit)
    have hp := PkS.un_pack h
    subst hp
    exact (ef55 n x0 k).symm

/-! ### loop.example/g00269/impl.GoodBreaker -/
theorem cf20 (n : Nat) : AllOk Try.prog [(54, Kf54 n), (55, Kf55 n)] := ⟨okf54 n, ⟨okf55 n, trivial⟩⟩
@[reducible] def Sf20 : PkS := ⟨[.agg [.int .i64, .int .i64, .int .i64, .int .i64, .int .i64]], []⟩
@[reducible] def Tf20 : PkS := ⟨[.one (.bool), .one (.dead)], []⟩
def Hf20 : List Sh := [.one .any, .skip]
def f20 {R : Type} (n : Nat) (x0 : Int) (x1 : Int) (x2 : Int) (x3 : Int) (x4 : Int) (k : Bool → Option R) : Option R := (f54 n x0 1 20 fun r1 => (bif (!r1) then k false else (f54 n x1 1 10000 fun r2 => (bif (!r2) then k false else (f54 n x2 0 2 fun r3 => (bif (!r3) then k false else (f54 n x3 0 x0 fun r4 => (bif (!r4) then k false else (f55 n x4 fun r5 => (bif (!r5) then k false else (bif (x2 == 0) then (bif (decide (x3 < x0)) then k (x4 == 0) else k false) else k (x3 == x0))))))))))))
def Kf20 (n : Nat) : KPs := fun R p k => match (PkS.un Sf20 p : Option (Int × Int × Int × Int × Int × Unit)) with
  | some (x0, x1, x2, x3, x4, _) => f20 n x0 x1 x2 x3 x4 (fun r0 => k (PkS.pack Tf20 (r0, ())))
  | none => none
theorem ef20 {R : Type} (n : Nat) (x0 : Int) (x1 : Int) (x2 : Int) (x3 : Int) (x4 : Int) (k : Pk → Option R) : evF tt sig (mkK [(54, Kf54 n), (55, Kf55 n)] R) (mkL (mkK [(54, Kf54 n), (55, Kf55 n)]) [] R) Try.f20 Hf20 (PkS.pack Sf20 (x0, x1, x2, x3, x4, ())) k = f20 n x0 x1 x2 x3 x4 (fun r0 => k (PkS.pack Tf20 (r0, ()))) := by kernel_rfl
theorem okf20 (n : Nat) : FnOk Try.prog 20 (Kf20 n) := by
  refine fn_ok (sig := sig) mixed ttok (mkK_nat (cf20 n)) (mkK_ok (cf20 n)) (mkL_nat (mkK_nat (cf20 n)) (l := []) trivial) (fn := Try.f20) (c := bodyOf Try.f20) (by kernel_rfl) (by kernel_rfl) (by kernel_rfl) (.eq (l := []) (by kernel_rfl) trivial) (shs := Hf20) (S := Sf20) fun R p k => ?_
  unfold Kf20
  cases h : (PkS.un Sf20 p) with
  | none => rfl
  | some d =>
    obtain ⟨x0, x1, x2, x3, x4, u⟩ := (d : Int × Int × Int × Int × Int × Unit)
    have hp := PkS.un_pack h
    subst hp
    exact (ef20 n x0 x1 x2 x3 x4 k).symm

/-! ### loop.example/g00269/impl.NewBreaker -/
theorem cf26 (n : Nat) : AllOk Try.prog [(20, Kf20 n)] := ⟨okf20 n, trivial⟩
@[reducible] def Sf26 : PkS := ⟨[.one (.int .i64), .one (.int .i64)], []⟩
@[reducible] def Tf26 : PkS := ⟨[.tup [(true, [.int .i64, .int .i64, .int .i64, .int .i64, .int .i64]), (false, [.bool])], .one (.dead), .one (.dead)], []⟩
def Hf26 : List Sh := [.tup [(true, [.any, .any, .any, .any, .any]), (false, [.any])], .skip, .skip]
def f26 {R : Type} (n : Nat) (x0 : Int) (x1 : Int) (k : Int → Int → Int → Int → Int → Bool → Option R) : Option R := (f20 n x0 x1 0 0 0 fun r1 => (bif (!r1) then k 0 0 0 0 0 false else k x0 x1 0 0 0 true))
def Kf26 (n : Nat) : KPs := fun R p k => match (PkS.un Sf26 p : Option (Int × Int × Unit)) with
  | some (x0, x1, _) => f26 n x0 x1 (fun r0 r1 r2 r3 r4 r5 => k (PkS.pack Tf26 (r0, r1, r2, r3, r4, r5, ())))
  | none => none
theorem ef26 {R : Type} (n : Nat) (x0 : Int) (x1 : Int) (k : Pk → Option R) : evF tt sig (mkK [(20, Kf20 n)] R) (mkL (mkK [(20, Kf20 n)]) [] R) Try.f26 Hf26 (PkS.pack Sf26 (x0, x1, ())) k = f26 n x0 x1 (fun r0 r1 r2 r3 r4 r5 => k (PkS.pack Tf26 (r0, r1, r2, r3, r4, r5, ()))) := by kernel_rfl
theorem okf26 (n : Nat) : FnOk Try.prog 26 (Kf26 n) := by
  refine fn_ok (sig := sig) mixed ttok (mkK_nat (cf26 n)) (mkK_ok (cf26 n)) (mkL_nat (mkK_nat (cf26 n)) (l := []) trivial) (fn := Try.f26) (c := bodyOf Try.f26) (by kernel_rfl) (by kernel_rfl) (by kernel_rfl) (.eq (l := []) (by kernel_rfl) trivial) (shs := Hf26) (S := Sf26) fun R p k => ?_
  unfold Kf26
  cases h : (PkS.un Sf26 p) with
  | none => rfl
  | some d =>
    obtain ⟨x0, x1, u⟩ := (d : Int × Int × Unit)
    have hp := PkS.un_pack h
    subst hp
    exact (ef26 n x0 x1 k).symm

/-! ### loop.example/g00269/laws.eqBreaker -/
theorem cf27 (n : Nat) : AllOk Try.prog [] := trivial
@[reducible] def Sf27 : PkS := ⟨[.agg [.int .i64, .int .i64, .int .i64, .int .i64, .int .i64], .agg [.int .i64, .int .i64, .int .i64, .int .i64, .int .i64]], []⟩
@[reducible] def Tf27 : PkS := ⟨[.one (.bool), .one (.dead), .one (.dead)], []⟩
def Hf27 : List Sh := [.one .any, .skip, .skip]
def f27 {R : Type} (n : Nat) (x0 : Int) (x1 : Int) (x2 : Int) (x3 : Int) (x4 : Int) (x5 : Int) (x6 : Int) (x7 : Int) (x8 : Int) (x9 : Int) (k : Bool → Option R) : Option R := (bif (x0 != x5) then k false else (bif (x1 != x6) then k false else (bif (x2 != x7) then k false else (bif (x3 != x8) then k false else (bif (x4 != x9) then k false else k true)))))
def Kf27 (n : Nat) : KPs := fun R p k => match (PkS.un Sf27 p : Option (Int × Int × Int × Int × Int × Int × Int × Int × Int × Int × Unit)) with
  | some (x0, x1, x2, x3, x4, x5, x6, x7, x8, x9, _) => f27 n x0 x1 x2 x3 x4 x5 x6 x7 x8 x9 (fun r0 => k (PkS.pack Tf27 (r0, ())))
  | none => none
theorem ef27 {R : Type} (n : Nat) (x0 : Int) (x1 : Int) (x2 : Int) (x3 : Int) (x4 : Int) (x5 : Int) (x6 : Int) (x7 : Int) (x8 : Int) (x9 : Int) (k : Pk → Option R) : evF tt sig (mkK [] R) (mkL (mkK []) [] R) Try.f27 Hf27 (PkS.pack Sf27 (x0, x1, x2, x3, x4, x5, x6, x7, x8, x9, ())) k = f27 n x0 x1 x2 x3 x4 x5 x6 x7 x8 x9 (fun r0 => k (PkS.pack Tf27 (r0, ()))) := by kernel_rfl
theorem okf27 (n : Nat) : FnOk Try.prog 27 (Kf27 n) := by
  refine fn_ok (sig := sig) mixed ttok (mkK_nat (cf27 n)) (mkK_ok (cf27 n)) (mkL_nat (mkK_nat (cf27 n)) (l := []) trivial) (fn := Try.f27) (c := bodyOf Try.f27) (by kernel_rfl) (by kernel_rfl) (by kernel_rfl) (.eq (l := []) (by kernel_rfl) trivial) (shs := Hf27) (S := Sf27) fun R p k => ?_
  unfold Kf27
  cases h : (PkS.un Sf27 p) with
  | none => rfl
  | some d =>
    obtain ⟨x0, x1, x2, x3, x4, x5, x6, x7, x8, x9, u⟩ := (d : Int × Int × Int × Int × Int × Int × Int × Int × Int × Int × Unit)
    have hp := PkS.un_pack h
    subst hp
    exact (ef27 n x0 x1 x2 x3 x4 x5 x6 x7 x8 x9 k).symm

/-! ### loop.example/g00269/laws.FnExactNewBreaker -/
theorem cf6 (n : Nat) : AllOk Try.prog [(25, Kf25 n), (26, Kf26 n), (27, Kf27 n)] := ⟨okf25 n, ⟨okf26 n, ⟨okf27 n, trivial⟩⟩⟩
@[reducible] def Sf6 : PkS := ⟨[.one (.int .i64), .one (.int .i64)], []⟩
@[reducible] def Tf6 : PkS := ⟨[.one (.bool), .one (.dead), .one (.dead)], []⟩
def Hf6 : List Sh := [.one .any, .skip, .skip]
def f6 {R : Type} (n : Nat) (x0 : Int) (x1 : Int) (k : Bool → Option R) : Option R := (f25 n x0 x1 fun r1 r2 r3 r4 r5 r6 => (f26 n x0 x1 fun r7 r8 r9 r10 r11 r12 => (f27 n r7 r8 r9 r10 r11 r1 r2 r3 r4 r5 fun r13 => (bif (!r13) then k false else (bif (!(r12 == r6)) then k false else k true)))))
def Kf6 (n : Nat) : KPs := fun R p k => match (PkS.un Sf6 p : Option (Int × Int × Unit)) with
  | some (x0, x1, _) => f6 n x0 x1 (fun r0 => k (PkS.pack Tf6 (r0, ())))
  | none => none
theorem ef6 {R : Type} (n : Nat) (x0 : Int) (x1 : Int) (k : Pk → Option R) : evF tt sig (mkK [(25, Kf25 n), (26, Kf26 n), (27, Kf27 n)] R) (mkL (mkK [(25, Kf25 n), (26, Kf26 n), (27, Kf27 n)]) [] R) Try.f6 Hf6 (PkS.pack Sf6 (x0, x1, ())) k = f6 n x0 x1 (fun r0 => k (PkS.pack Tf6 (r0, ()))) := by kernel_rfl
theorem okf6 (n : Nat) : FnOk Try.prog 6 (Kf6 n) := by
  refine fn_ok (sig := sig) mixed ttok (mkK_nat (cf6 n)) (mkK_ok (cf6 n)) (mkL_nat (mkK_nat (cf6 n)) (l := []) trivial) (fn := Try.f6) (c := bodyOf Try.f6) (by kernel_rfl) (by kernel_rfl) (by kernel_rfl) (.eq (l := []) (by kernel_rfl) trivial) (shs := Hf6) (S := Sf6) fun R p k => ?_
  unfold Kf6
  cases h : (PkS.un Sf6 p) with
  | none => rfl
  | some d =>
    obtain ⟨x0, x1, u⟩ := (d : Int × Int × Unit)
    have hp := PkS.un_pack h
    subst hp
    exact (ef6 n x0 x1 k).symm
end Go.Am.G6
