/- The code of the functions that the law reaches does what the plain functions say. -/
import Derived.Test.YtjijikgjefingaaF12
import Derived.Test.YtjijikgjefingaaAmK
import Derived.Test.YtjijikgjefingaaG12A
import Derived.KernelRfl
import Derived.Test.YtjijikgjefingaaProg
set_option linter.unusedVariables false
set_option maxRecDepth 100000
namespace Go.Am.G
open Go Go.Am
open Go.Proofs
/-! ### loop.example/g00269/spec.l3Fire -/
theorem cspec_l3Fire (n : Nat) : AllOk Try.prog [] := trivial
@[reducible] def Sspec_l3Fire_l3 : PkS := ⟨[.one (.box (100000, 0) 0), .one (.whole (100000, 1)), .one (.ro (.int .i64)), .one (.int .i64), .one (.int .i64), .one (.dead), .one (.dead)], [((100000, 0), .box [.ro (.int .i64), .ro (.int .i64)]), ((100000, 1), .arr (.int .i64))]⟩
@[reducible] def Tspec_l3Fire_l3_0 : PkS := ⟨[.one (.ro (.int .i64)), .one (.bool), .one (.dead), .one (.dead)], []⟩
@[reducible] def Tspec_l3Fire_l3_1 : PkS := ⟨[.one (.box (100000, 0) 0), .one (.whole (100000, 1)), .one (.dead), .one (.dead)], [((100000, 0), .box [.ro (.int .i64), .ro (.int .i64)]), ((100000, 1), .arr (.int .i64))]⟩
def Dspec_l3Fire_l3 : LoopD := ⟨53, [2, 6, 15, 16, 17], [.box [(.ro (.int .i64)), (.ro (.int .i64))], .one (.own (.int .i64)), .one (.ro (.int .i64)), .one .any, .one .any, .skip, .skip], fun x => match x with
  | .ret => some ([4, 5], [.one (.ro (.int .i64)), .one .any, .skip, .skip])
  | .exit 0 => some ([2, 6], [.box [(.ro (.int .i64)), (.ro (.int .i64))], .one (.own (.int .i64)), .skip, .skip])
  | _ => none⟩
def Pspec_l3Fire_l3 (g : ∀ {R : Type}, Nat → (List Int) → Int → Int → (List Int) → (List Int) → (List Int) → ((List Int) → Bool → Option R) → ((List Int) → (List Int) → (List Int) → Option R) → Option R) (n : Nat) : LPs := fun R q kk => match (PkS.un Sspec_l3Fire_l3 q : Option ((List Int) × Int × Int × (List Int) × (List Int) × (List Int) × Unit)) with
  | some (y3_0, y3_1, y3_2, y3_3, y3_4, y3_5, _) => g n y3_0 y3_1 y3_2 y3_3 y3_4 y3_5 (fun r0 r1 => kk .ret (PkS.pack Tspec_l3Fire_l3_0 (r0, r1, ()))) (fun r0 r1 r2 => kk (.exit 0) (PkS.pack Tspec_l3Fire_l3_1 (r0, r1, r2, ())))
  | none => none
theorem espec_l3Fire_l3 (spec_l3Fire_l3 : ∀ {R : Type}, Nat → (List Int) → Int → Int → (List Int) → (List Int) → (List Int) → ((List Int) → Bool → Option R) → ((List Int) → (List Int) → (List Int) → Option R) → Option R) {R : Type} (n : Nat) (y3_0 : List Int) (y3_1 : Int) (y3_2 : Int) (y3_3 : List Int) (y3_4 : List Int) (y3_5 : List Int) (kk : Ex → Pk → Option R) : Dspec_l3Fire_l3.step tt sig (mkK [] R) (mkL (mkK []) [] R) (loopIn 3 (bodyOf Try.f126)) (fun q' => Pspec_l3Fire_l3 @spec_l3Fire_l3 n R q' kk) (PkS.pack Sspec_l3Fire_l3 (y3_0, y3_1, y3_2, y3_3, y3_4, y3_5, ())) kk = (fun (kret : (List Int) → Bool → Option R) (kexit0 : (List Int) → (List Int) → (List Int) → Option R) => (bif (decide (y3_2 < y3_1)) then (bif decide (0 ≤ y3_2) then (bif decide (y3_2 < (y3_0.length : Int)) then (bif decide (0 ≤ (y3_0.getD (Int.toNat y3_2) 0)) then (bif decide ((y3_0.getD (Int.toNat y3_2) 0) < (y3_5.length : Int)) then (bif ((y3_5.getD (Int.toNat (y3_0.getD (Int.toNat y3_2) 0)) 0) == 0) then kret ([] : List Int) false else (bif decide (0 ≤ (y3_0.getD (Int.toNat y3_2) 0)) then (bif decide ((y3_0.getD (Int.toNat y3_2) 0) < (y3_5.length : Int)) then (bif decide (0 ≤ (y3_0.getD (Int.toNat y3_2) 0)) then (bif decide ((y3_0.getD (Int.toNat y3_2) 0) < (y3_5.length : Int)) then spec_l3Fire_l3 n y3_0 y3_1 (IntKind.wrap .i64 (y3_2 + 1)) y3_3 y3_4 (y3_5.set (Int.toNat (y3_0.getD (Int.toNat y3_2) 0)) (IntKind.wrap .i64 ((y3_5.getD (Int.toNat (y3_0.getD (Int.toNat y3_2) 0)) 0) - 1))) kret kexit0 else none) else none) else none) else none)) else none) else none) else none) else none) else kexit0 y3_3 y3_4 y3_5)) (fun r0 r1 => kk .ret (PkS.pack Tspec_l3Fire_l3_0 (r0, r1, ()))) (fun r0 r1 r2 => kk (.exit 0) (PkS.pack Tspec_l3Fire_l3_1 (r0, r1, r2, ()))) := by kernel_rfl
theorem lespec_l3Fire_l3 : LoopEq tt sig (fun n => mkK []) (fun n => mkL (mkK []) []) Dspec_l3Fire_l3 Sspec_l3Fire_l3 (loopIn 3 (bodyOf Try.f126)) (Pspec_l3Fire_l3 @spec_l3Fire_l3) where
  zero R q kk := by unfold Pspec_l3Fire_l3; cases (PkS.un Sspec_l3Fire_l3 q) <;> rfl
  succ n R q kk := by
    unfold Pspec_l3Fire_l3
    cases h : (PkS.un Sspec_l3Fire_l3 q) with
    | none => rfl
    | some d =>
      obtain ⟨y3_0, y3_1, y3_2, y3_3, y3_4, y3_5, u⟩ := (d : (List Int) × Int × Int × (List Int) × (List Int) × (List Int) × Unit)
      have hp := PkS.un_pack h
      subst hp
      exact (espec_l3Fire_l3 @spec_l3Fire_l3 n y3_0 y3_1 y3_2 y3_3 y3_4 y3_5 kk).symm
theorem nlspec_l3Fire_l3 : ∀ n, NatLP (Pspec_l3Fire_l3 @spec_l3Fire_l3 n) := lespec_l3Fire_l3.nat (fun n => mkK_nat (cspec_l3Fire n)) fun n => mkL_nat (mkK_nat (cspec_l3Fire n)) (l := []) trivial
theorem inspec_l3Fire_l3 (n : Nat) (R : Type) : LoopsOk Try.prog (mkL (mkK []) [] R) (loopIn 3 (bodyOf Try.f126)) := .eq (l := []) (by kernel_rfl) trivial
theorem lkspec_l3Fire_l3 (n : Nat) (R : Type) (L0 : LK R) (h0 : ∀ id, firstRegion (loopIn 3 (bodyOf Try.f126)) = some id → L0 id = Dspec_l3Fire_l3.oracle (mkK [] R) (Pspec_l3Fire_l3 @spec_l3Fire_l3 n R)) : LoopOk Try.prog L0 (loopIn 3 (bodyOf Try.f126)) :=
  lespec_l3Fire_l3.ok mixed ttok (fun n => mkK_nat (cspec_l3Fire n)) (fun n => mkK_ok (cspec_l3Fire n)) (fun n => inspec_l3Fire_l3 n R) (mkK_nat (cspec_l3Fire n)) h0
@[reducible] def Sspec_l3Fire_l10 : PkS := ⟨[.one (.whole (100000, 0)), .one (.ro (.int .i64)), .one (.int .i64), .one (.int .i64), .one (.dead), .one (.dead)], [((100000, 0), .arr (.int .i64))]⟩
@[reducible] def Tspec_l3Fire_l10_0 : PkS := ⟨[.one (.ro (.int .i64)), .one (.bool), .one (.dead), .one (.dead)], []⟩
@[reducible] def Tspec_l3Fire_l10_1 : PkS := ⟨[.one (.whole (100000, 0)), .one (.dead), .one (.dead)], [((100000, 0), .arr (.int .i64))]⟩
def Dspec_l3Fire_l10 : LoopD := ⟨53, [6, 34, 35, 36], [.one (.own (.int .i64)), .one (.ro (.int .i64)), .one .any, .one .any, .skip, .skip], fun x => match x with
  | .ret => some ([4, 5], [.one (.ro (.int .i64)), .one .any, .skip, .skip])
  | .exit 2 => some ([6], [.one (.own (.int .i64)), .skip, .skip])
  | _ => none⟩
def Pspec_l3Fire_l10 (g : ∀ {R : Type}, Nat → (List Int) → Int → Int → (List Int) → ((List Int) → Bool → Option R) → ((List Int) → Option R) → Option R) (n : Nat) : LPs := fun R q kk => match (PkS.un Sspec_l3Fire_l10 q : Option ((List Int) × Int × Int × (List Int) × Unit)) with
  | some (y10_0, y10_1, y10_2, y10_3, _) => g n y10_0 y10_1 y10_2 y10_3 (fun r0 r1 => kk .ret (PkS.pack Tspec_l3Fire_l10_0 (r0, r1, ()))) (fun r0 => kk (.exit 2) (PkS.pack Tspec_l3Fire_l10_1 (r0, ())))
  | none => none
theorem espec_l3Fire_l10 (spec_l3Fire_l3 : ∀ {R : Type}, Nat → (List Int) → Int → Int → (List Int) → (List Int) → (List Int) → ((List Int) → Bool → Option R) → ((List Int) → (List Int) → (List Int) → Option R) → Option R) (spec_l3Fire_l10 : ∀ {R : Type}, Nat → (List Int) → Int → Int → (List Int) → ((List Int) → Bool → Option R) → ((List Int) → Option R) → Option R) {R : Type} (n : Nat) (y10_0 : List Int) (y10_1 : Int) (y10_2 : Int) (y10_3 : List Int) (kk : Ex → Pk → Option R) : Dspec_l3Fire_l10.step tt sig (mkK [] R) (mkL (mkK []) [(3, Dspec_l3Fire_l3, Pspec_l3Fire_l3 @spec_l3Fire_l3 n)] R) (loopIn 10 (bodyOf Try.f126)) (fun q' => Pspec_l3Fire_l10 @spec_l3Fire_l10 n R q' kk) (PkS.pack Sspec_l3Fire_l10 (y10_0, y10_1, y10_2, y10_3, ())) kk = (fun (kret : (List Int) → Bool → Option R) (kexit2 : (List Int) → Option R) => (bif (decide (y10_2 < y10_1)) then (bif decide (0 ≤ y10_2) then (bif decide (y10_2 < (y10_0.length : Int)) then (bif decide (0 ≤ (y10_0.getD (Int.toNat y10_2) 0)) then (bif decide ((y10_0.getD (Int.toNat y10_2) 0) < (y10_3.length : Int)) then (bif decide (0 ≤ (y10_0.getD (Int.toNat y10_2) 0)) then (bif decide ((y10_0.getD (Int.toNat y10_2) 0) < (y10_3.length : Int)) then (bif decide (0 ≤ (y10_0.getD (Int.toNat y10_2) 0)) then (bif decide ((y10_0.getD (Int.toNat y10_2) 0) < ((y10_3.set (Int.toNat (y10_0.getD (Int.toNat y10_2) 0)) (IntKind.wrap .i64 ((y10_3.getD (Int.toNat (y10_0.getD (Int.toNat y10_2) 0)) 0) + 1))).length : Int)) then (bif (decide (((y10_3.set (Int.toNat (y10_0.getD (Int.toNat y10_2) 0)) (IntKind.wrap .i64 ((y10_3.getD (Int.toNat (y10_0.getD (Int.toNat y10_2) 0)) 0) + 1))).getD (Int.toNat (y10_0.getD (Int.toNat y10_2) 0)) 0) > 9)) then kret ([] : List Int) false else spec_l3Fire_l10 n y10_0 y10_1 (IntKind.wrap .i64 (y10_2 + 1)) (y10_3.set (Int.toNat (y10_0.getD (Int.toNat y10_2) 0)) (IntKind.wrap .i64 ((y10_3.getD (Int.toNat (y10_0.getD (Int.toNat y10_2) 0)) 0) + 1))) kret kexit2) else none) else none) else none) else none) else none) else none) else none) else none) else kexit2 y10_3)) (fun r0 r1 => kk .ret (PkS.pack Tspec_l3Fire_l10_0 (r0, r1, ()))) (fun r0 => kk (.exit 2) (PkS.pack Tspec_l3Fire_l10_1 (r0, ()))) := by kernel_rfl
theorem lespec_l3Fire_l10 : LoopEq tt sig (fun n => mkK []) (fun n => mkL (mkK []) [(3, Dspec_l3Fire_l3, Pspec_l3Fire_l3 @spec_l3Fire_l3 n)]) Dspec_l3Fire_l10 Sspec_l3Fire_l10 (loopIn 10 (bodyOf Try.f126)) (Pspec_l3Fire_l10 @spec_l3Fire_l10) where
  zero R q kk := by unfold Pspec_l3Fire_l10; cases (PkS.un Sspec_l3Fire_l10 q) <;> rfl
  succ n R q kk := by
    unfold Pspec_l3Fire_l10
    cases h : (PkS.un Sspec_l3Fire_l10 q) with
    | none => rfl
    | some d =>
      obtain ⟨y10_0, y10_1, y10_2, y10_3, u⟩ := (d : (List Int) × Int × Int × (List Int) × Unit)
      have hp := PkS.un_pack h
      subst hp
      exact (espec_l3Fire_l10 @spec_l3Fire_l3 @spec_l3Fire_l10 n y10_0 y10_1 y10_2 y10_3 kk).symm
theorem nlspec_l3Fire_l10 : ∀ n, NatLP (Pspec_l3Fire_l10 @spec_l3Fire_l10 n) := lespec_l3Fire_l10.nat (fun n => mkK_nat (cspec_l3Fire n)) fun n => mkL_nat (mkK_nat (cspec_l3Fire n)) (l := [(3, Dspec_l3Fire_l3, Pspec_l3Fire_l3 @spec_l3Fire_l3 n)]) ⟨nlspec_l3Fire_l3 n, trivial⟩
theorem inspec_l3Fire_l10 (n : Nat) (R : Type) : LoopsOk Try.prog (mkL (mkK []) [(3, Dspec_l3Fire_l3, Pspec_l3Fire_l3 @spec_l3Fire_l3 n)] R) (loopIn 10 (bodyOf Try.f126)) := .eq (l := []) (by kernel_rfl) trivial
theorem lkspec_l3Fire_l10 (n : Nat) (R : Type) (L0 : LK R) (h0 : ∀ id, firstRegion (loopIn 10 (bodyOf Try.f126)) = some id → L0 id = Dspec_l3Fire_l10.oracle (mkK [] R) (Pspec_l3Fire_l10 @spec_l3Fire_l10 n R)) : LoopOk Try.prog L0 (loopIn 10 (bodyOf Try.f126)) :=
  lespec_l3Fire_l10.ok mixed ttok (fun n => mkK_nat (cspec_l3Fire n)) (fun n => mkK_ok (cspec_l3Fire n)) (fun n => inspec_l3Fire_l10 n R) (mkK_nat (cspec_l3Fire n)) h0
@[reducible] def Sspec_l3Fire : PkS := ⟨[.agg [.ro (.int .i64), .ro (.int .i64)], .one (.ro (.int .i64))], []⟩
@[reducible] def Tspec_l3Fire : PkS := ⟨[.tup [(false, [.ro (.int .i64)]), (false, [.bool])], .one (.dead), .one (.dead)], []⟩
def Hspec_l3Fire : List Sh := [.tup [(false, [(.ro (.int .i64))]), (false, [.any])], .skip, .skip]
def Kspec_l3Fire (g : ∀ {R : Type}, Nat → (List Int) → (List Int) → (List Int) → ((List Int) → Bool → Option R) → Option R) (n : Nat) : KPs := fun R p k => match (PkS.un Sspec_l3Fire p : Option ((List Int) × (List Int) × (List Int) × Unit)) with
  | some (x0, x1, x2, _) => g n x0 x1 x2 (fun r0 r1 => k (PkS.pack Tspec_l3Fire (r0, r1, ())))
  | none => none
theorem espec_l3Fire (spec_l3Fire_l3 : ∀ {R : Type}, Nat → (List Int) → Int → Int → (List Int) → (List Int) → (List Int) → ((List Int) → Bool → Option R) → ((List Int) → (List Int) → (List Int) → Option R) → Option R) (spec_l3Fire_l10 : ∀ {R : Type}, Nat → (List Int) → Int → Int → (List Int) → ((List Int) → Bool → Option R) → ((List Int) → Option R) → Option R) {R : Type} (n : Nat) (x0 : List Int) (x1 : List Int) (x2 : List Int) (k : Pk → Option R) : evF tt sig (mkK [] R) (mkL (mkK []) [(3, Dspec_l3Fire_l3, Pspec_l3Fire_l3 @spec_l3Fire_l3 n), (10, Dspec_l3Fire_l10, Pspec_l3Fire_l10 @spec_l3Fire_l10 n)] R) Try.f126 Hspec_l3Fire (PkS.pack Sspec_l3Fire (x0, x1, x2, ())) k = (fun (k : (List Int) → Bool → Option R) => (bif decide (([] : List Int).length + x2.length ≤ LIM) then (spec_l3Fire_l3 n x0 (x0.length : Int) 0 x0 x1 (([] : List Int) ++ x2) (fun r1 r2 => k r1 r2) (fun r3 r4 r5 => (spec_l3Fire_l10 n r4 (r4.length : Int) 0 r5 (fun r6 r7 => k r6 r7) (fun r8 => k r8 true)))) else none)) (fun r0 r1 => k (PkS.pack Tspec_l3Fire (r0, r1, ()))) := by kernel_rfl
theorem okspec_l3Fire (n : Nat) : FnOk Try.prog 126 (Kspec_l3Fire @spec_l3Fire n) := by
  refine fn_ok (sig := sig) mixed ttok (mkK_nat (cspec_l3Fire n)) (mkK_ok (cspec_l3Fire n)) (mkL_nat (mkK_nat (cspec_l3Fire n)) (l := [(3, Dspec_l3Fire_l3, Pspec_l3Fire_l3 @spec_l3Fire_l3 n), (10, Dspec_l3Fire_l10, Pspec_l3Fire_l10 @spec_l3Fire_l10 n)]) ⟨nlspec_l3Fire_l3 n, ⟨nlspec_l3Fire_l10 n, trivial⟩⟩) (fn := Try.f126) (c := bodyOf Try.f126) (by kernel_rfl) (by kernel_rfl) (by kernel_rfl) (.eq (l := [.lo (loopIn 3 (bodyOf Try.f126)), .lo (loopIn 10 (bodyOf Try.f126))]) (by kernel_rfl) ⟨(lkspec_l3Fire_l3 n _ _ (at_id (i := 3) (by kernel_rfl) rfl)), ⟨(lkspec_l3Fire_l10 n _ _ (at_id (i := 10) (by kernel_rfl) rfl)), trivial⟩⟩) (shs := Hspec_l3Fire) (S := Sspec_l3Fire) (h1 := by kernel_rfl) fun R p k => ?_
  unfold Kspec_l3Fire
  cases h : (PkS.un Sspec_l3Fire p) with
  | none => rfl
  | some d =>
    obtain ⟨x0, x1, x2, u⟩ := (d : (List Int) × (List Int) × (List Int) × Unit)
    have hp := PkS.un_pack h
    subst hp
    exact (espec_l3Fire @spec_l3Fire_l3 @spec_l3Fire_l10 n x0 x1 x2 k).symm

/-! ### loop.example/g00269/spec.l3Same -/
theorem cspec_l3Same (n : Nat) : AllOk Try.prog [] := trivial
@[reducible] def Sspec_l3Same_l4 : PkS := ⟨[.one (.ro (.int .i64)), .one (.ro (.int .i64)), .one (.int .i64), .one (.int .i64), .one (.dead), .one (.dead)], []⟩
@[reducible] def Tspec_l3Same_l4_0 : PkS := ⟨[.one (.bool), .one (.dead), .one (.dead)], []⟩
@[reducible] def Tspec_l3Same_l4_1 : PkS := ⟨[.one (.dead), .one (.dead)], []⟩
def Dspec_l3Same_l4 : LoopD := ⟨26, [0, 1, 12, 13], [.one (.ro (.int .i64)), .one (.ro (.int .i64)), .one .any, .one .any, .skip, .skip], fun x => match x with
  | .ret => some ([4], [.one .any, .skip, .skip])
  | .exit 0 => some ([], [.skip, .skip])
  | _ => none⟩
def Pspec_l3Same_l4 (g : ∀ {R : Type}, Nat → (List Int) → (List Int) → Int → Int → (Bool → Option R) → (Option R) → Option R) (n : Nat) : LPs := fun R q kk => match (PkS.un Sspec_l3Same_l4 q : Option ((List Int) × (List Int) × Int × Int × Unit)) with
  | some (y4_0, y4_1, y4_2, y4_3, _) => g n y4_0 y4_1 y4_2 y4_3 (fun r0 => kk .ret (PkS.pack Tspec_l3Same_l4_0 (r0, ()))) (kk (.exit 0) (PkS.pack Tspec_l3Same_l4_1 ()))
  | none => none
theorem espec_l3Same_l4 (spec_l3Same_l4 : ∀ {R : Type}, Nat → (List Int) → (List Int) → Int → Int → (Bool → Option R) → (Option R) → Option R) {R : Type} (n : Nat) (y4_0 : List Int) (y4_1 : List Int) (y4_2 : Int) (y4_3 : Int) (kk : Ex → Pk → Option R) : Dspec_l3Same_l4.step tt sig (mkK [] R) (mkL (mkK []) [] R) (loopIn 4 (bodyOf Try.f134)) (fun q' => Pspec_l3Same_l4 @spec_l3Same_l4 n R q' kk) (PkS.pack Sspec_l3Same_l4 (y4_0, y4_1, y4_2, y4_3, ())) kk = (fun (kret : Bool → Option R) (kexit0 : Option R) => (bif (decide (y4_3 < y4_2)) then (bif decide (0 ≤ y4_3) then (bif decide (y4_3 < (y4_0.length : Int)) then (bif decide (0 ≤ y4_3) then (bif decide (y4_3 < (y4_1.length : Int)) then (bif ((y4_0.getD (Int.toNat y4_3) 0) != (y4_1.getD (Int.toNat y4_3) 0)) then kret false else spec_l3Same_l4 n y4_0 y4_1 y4_2 (IntKind.wrap .i64 (y4_3 + 1)) kret kexit0) else none) else none) else none) else none) else kexit0)) (fun r0 => kk .ret (PkS.pack Tspec_l3Same_l4_0 (r0, ()))) (kk (.exit 0) (PkS.pack Tspec_l3Same_l4_1 ())) := by kernel_rfl
theorem lespec_l3Same_l4 : LoopEq tt sig (fun n => mkK []) (fun n => mkL (mkK []) []) Dspec_l3Same_l4 Sspec_l3Same_l4 (loopIn 4 (bodyOf Try.f134)) (Pspec_l3Same_l4 @spec_l3Same_l4) where
  zero R q kk := by unfold Pspec_l3Same_l4; cases (PkS.un Sspec_l3Same_l4 q) <;> rfl
  succ n R q kk := by
    unfold Pspec_l3Same_l4
    cases h : (PkS.un Sspec_l3Same_l4 q) with
    | none => rfl
    | some d =>
      obtain ⟨y4_0, y4_1, y4_2, y4_3, u⟩ := (d : (List Int) × (List Int) × Int × Int × Unit)
      have hp := PkS.un_pack h
      subst hp
      exact (espec_l3Same_l4 @spec_l3Same_l4 n y4_0 y4_1 y4_2 y4_3 kk).symm
theorem nlspec_l3Same_l4 : ∀ n, NatLP (Pspec_l3Same_l4 @spec_l3Same_l4 n) := lespec_l3Same_l4.nat (fun n => mkK_nat (cspec_l3Same n)) fun n => mkL_nat (mkK_nat (cspec_l3Same n)) (l := []) trivial
theorem inspec_l3Same_l4 (n : Nat) (R : Type) : LoopsOk Try.prog (mkL (mkK []) [] R) (loopIn 4 (bodyOf Try.f134)) := .eq (l := []) (by kernel_rfl) trivial
theorem lkspec_l3Same_l4 (n : Nat) (R : Type) (L0 : LK R) (h0 : ∀ id, firstRegion (loopIn 4 (bodyOf Try.f134)) = some id → L0 id = Dspec_l3Same_l4.oracle (mkK [] R) (Pspec_l3Same_l4 @spec_l3Same_l4 n R)) : LoopOk Try.prog L0 (loopIn 4 (bodyOf Try.f134)) :=
  lespec_l3Same_l4.ok mixed ttok (fun n => mkK_nat (cspec_l3Same n)) (fun n => mkK_ok (cspec_l3Same n)) (fun n => inspec_l3Same_l4 n R) (mkK_nat (cspec_l3Same n)) h0
@[reducible] def Sspec_l3Same : PkS := ⟨[.one (.ro (.int .i64)), .one (.ro (.int .i64))], []⟩
@[reducible] def Tspec_l3Same : PkS := ⟨[.one (.bool), .one (.dead), .one (.dead)], []⟩
def Hspec_l3Same : List Sh := [.one .any, .skip, .skip]
def Kspec_l3Same (g : ∀ {R : Type}, Nat → (List Int) → (List Int) → (Bool → Option R) → Option R) (n : Nat) : KPs := fun R p k => match (PkS.un Sspec_l3Same p : Option ((List Int) × (List Int) × Unit)) with
  | some (x0, x1, _) => g n x0 x1 (fun r0 => k (PkS.pack Tspec_l3Same (r0, ())))
  | none => none
theorem espec_l3Same (spec_l3Same_l4 : ∀ {R : Type}, Nat → (List Int) → (List Int) → Int → Int → (Bool → Option R) → (Option R) → Option R) {R : Type} (n : Nat) (x0 : List Int) (x1 : List Int) (k : Pk → Option R) : evF tt sig (mkK [] R) (mkL (mkK []) [(4, Dspec_l3Same_l4, Pspec_l3Same_l4 @spec_l3Same_l4 n)] R) Try.f134 Hspec_l3Same (PkS.pack Sspec_l3Same (x0, x1, ())) k = (fun (k : Bool → Option R) => (bif ((x0.length : Int) != (x1.length : Int)) then k false else (spec_l3Same_l4 n x0 x1 (x0.length : Int) 0 (fun r1 => k r1) (k true)))) (fun r0 => k (PkS.pack Tspec_l3Same (r0, ()))) := by kernel_rfl
theorem okspec_l3Same (n : Nat) : FnOk Try.prog 134 (Kspec_l3Same @spec_l3Same n) := by
  refine fn_ok (sig := sig) mixed ttok (mkK_nat (cspec_l3Same n)) (mkK_ok (cspec_l3Same n)) (mkL_nat (mkK_nat (cspec_l3Same n)) (l := [(4, Dspec_l3Same_l4, Pspec_l3Same_l4 @spec_l3Same_l4 n)]) ⟨nlspec_l3Same_l4 n, trivial⟩) (fn := Try.f134) (c := bodyOf Try.f134) (by kernel_rfl) (by kernel_rfl) (by kernel_rfl) (.eq (l := [.lo (loopIn 4 (bodyOf Try.f134))]) (by kernel_rfl) ⟨(lkspec_l3Same_l4 n _ _ (at_id (i := 4) (by kernel_rfl) rfl)), trivial⟩) (shs := Hspec_l3Same) (S := Sspec_l3Same) (h1 := by kernel_rfl) fun R p k => ?_
  unfold Kspec_l3Same
  cases h : (PkS.un Sspec_l3Same p) with
  | none => rfl
  | some d =>
    obtain ⟨x0, x1, u⟩ := (d : (List Int) × (List Int) × Unit)
    have hp := PkS.un_pack h
    subst hp
    exact (espec_l3Same @spec_l3Same_l4 n x0 x1 k).symm

/-! ### loop.example/g00269/spec.l3At -/
theorem cspec_l3At (n : Nat) : AllOk Try.prog [(134, Kspec_l3Same @spec_l3Same n)] := ⟨okspec_l3Same n, trivial⟩
@[reducible] def Sspec_l3At_l2 : PkS := ⟨[.one (.ro (.int .i64)), .one (.ro (.sl (.int .i64))), .one (.int .i64), .one (.int .i64), .one (.dead), .one (.dead)], []⟩
@[reducible] def Tspec_l3At_l2_0 : PkS := ⟨[.one (.int .i64), .one (.dead), .one (.dead)], []⟩
@[reducible] def Tspec_l3At_l2_1 : PkS := ⟨[.one (.dead), .one (.dead)], []⟩
def Dspec_l3At_l2 : LoopD := ⟨19, [1, 7, 8, 9], [.one (.ro (.int .i64)), .one (.ro (.sl (.int .i64))), .one .any, .one .any, .skip, .skip], fun x => match x with
  | .ret => some ([4], [.one .any, .skip, .skip])
  | .exit 0 => some ([], [.skip, .skip])
  | _ => none⟩
def Pspec_l3At_l2 (g : ∀ {R : Type}, Nat → (List Int) → (List (List Int)) → Int → Int → (Int → Option R) → (Option R) → Option R) (n : Nat) : LPs := fun R q kk => match (PkS.un Sspec_l3At_l2 q : Option ((List Int) × (List (List Int)) × Int × Int × Unit)) with
  | some (y2_0, y2_1, y2_2, y2_3, _) => g n y2_0 y2_1 y2_2 y2_3 (fun r0 => kk .ret (PkS.pack Tspec_l3At_l2_0 (r0, ()))) (kk (.exit 0) (PkS.pack Tspec_l3At_l2_1 ()))
  | none => none
theorem espec_l3At_l2 (spec_l3Same : ∀ {R : Type}, Nat → (List Int) → (List Int) → (Bool → Option R) → Option R) (spec_l3At_l2 : ∀ {R : Type}, Nat → (List Int) → (List (List Int)) → Int → Int → (Int → Option R) → (Option R) → Option R) {R : Type} (n : Nat) (y2_0 : List Int) (y2_1 : List (List Int)) (y2_2 : Int) (y2_3 : Int) (kk : Ex → Pk → Option R) : Dspec_l3At_l2.step tt sig (mkK [(134, Kspec_l3Same @spec_l3Same n)] R) (mkL (mkK [(134, Kspec_l3Same @spec_l3Same n)]) [] R) (loopIn 2 (bodyOf Try.f135)) (fun q' => Pspec_l3At_l2 @spec_l3At_l2 n R q' kk) (PkS.pack Sspec_l3At_l2 (y2_0, y2_1, y2_2, y2_3, ())) kk = (fun (kret : Int → Option R) (kexit0 : Option R) => (bif (decide (y2_3 < y2_2)) then (bif decide (0 ≤ y2_3) then (bif decide (y2_3 < (y2_1.length : Int)) then (spec_l3Same n (y2_1.getD (Int.toNat y2_3) []) y2_0 fun r1 => (bif r1 then kret y2_3 else spec_l3At_l2 n y2_0 y2_1 y2_2 (IntKind.wrap .i64 (y2_3 + 1)) kret kexit0)) else none) else none) else kexit0)) (fun r0 => kk .ret (PkS.pack Tspec_l3At_l2_0 (r0, ()))) (kk (.exit 0) (PkS.pack Tspec_l3At_l2_1 ())) := by kernel_rfl
theorem lespec_l3At_l2 : LoopEq tt sig (fun n => mkK [(134, Kspec_l3Same @spec_l3Same n)]) (fun n => mkL (mkK [(134, Kspec_l3Same @spec_l3Same n)]) []) Dspec_l3At_l2 Sspec_l3At_l2 (loopIn 2 (bodyOf Try.f135)) (Pspec_l3At_l2 @spec_l3At_l2) where
  zero R q kk := by unfold Pspec_l3At_l2; cases (PkS.un Sspec_l3At_l2 q) <;> rfl
  succ n R q kk := by
    unfold Pspec_l3At_l2
    cases h : (PkS.un Sspec_l3At_l2 q) with
    | none => rfl
    | some d =>
      obtain ⟨y2_0, y2_1, y2_2, y2_3, u⟩ := (d : (List Int) × (List (List Int)) × Int × Int × Unit)
      have hp := PkS.un_pack h
      subst hp
      exact (espec_l3At_l2 @spec_l3Same @spec_l3At_l2 n y2_0 y2_1 y2_2 y2_3 kk).symm
theorem nlspec_l3At_l2 : ∀ n, NatLP (Pspec_l3At_l2 @spec_l3At_l2 n) := lespec_l3At_l2.nat (fun n => mkK_nat (cspec_l3At n)) fun n => mkL_nat (mkK_nat (cspec_l3At n)) (l := []) trivial
theorem inspec_l3At_l2 (n : Nat) (R : Type) : LoopsOk Try.prog (mkL (mkK [(134, Kspec_l3Same @spec_l3Same n)]) [] R) (loopIn 2 (bodyOf Try.f135)) := .eq (l := []) (by kernel_rfl) trivial
theorem lkspec_l3At_l2 (n : Nat) (R : Type) (L0 : LK R) (h0 : ∀ id, firstRegion (loopIn 2 (bodyOf Try.f135)) = some id → L0 id = Dspec_l3At_l2.oracle (mkK [(134, Kspec_l3Same @spec_l3Same n)] R) (Pspec_l3At_l2 @spec_l3At_l2 n R)) : LoopOk Try.prog L0 (loopIn 2 (bodyOf Try.f135)) :=
  lespec_l3At_l2.ok mixed ttok (fun n => mkK_nat (cspec_l3At n)) (fun n => mkK_ok (cspec_l3At n)) (fun n => inspec_l3At_l2 n R) (mkK_nat (cspec_l3At n)) h0
@[reducible] def Sspec_l3At : PkS := ⟨[.one (.ro (.sl (.int .i64))), .one (.ro (.int .i64))], []⟩
@[reducible] def Tspec_l3At : PkS := ⟨[.one (.int .i64), .one (.dead), .one (.dead)], []⟩
def Hspec_l3At : List Sh := [.one .any, .skip, .skip]
def Kspec_l3At (g : ∀ {R : Type}, Nat → (List (List Int)) → (List Int) → (Int → Option R) → Option R) (n : Nat) : KPs := fun R p k => match (PkS.un Sspec_l3At p : Option ((List (List Int)) × (List Int) × Unit)) with
  | some (x0, x1, _) => g n x0 x1 (fun r0 => k (PkS.pack Tspec_l3At (r0, ())))
  | none => none
theorem espec_l3At (spec_l3Same : ∀ {R : Type}, Nat → (List Int) → (List Int) → (Bool → Option R) → Option R) (spec_l3At_l2 : ∀ {R : Type}, Nat → (List Int) → (List (List Int)) → Int → Int → (Int → Option R) → (Option R) → Option R) {R : Type} (n : Nat) (x0 : List (List Int)) (x1 : List Int) (k : Pk → Option R) : evF tt sig (mkK [(134, Kspec_l3Same @spec_l3Same n)] R) (mkL (mkK [(134, Kspec_l3Same @spec_l3Same n)]) [(2, Dspec_l3At_l2, Pspec_l3At_l2 @spec_l3At_l2 n)] R) Try.f135 Hspec_l3At (PkS.pack Sspec_l3At (x0, x1, ())) k = (fun (k : Int → Option R) => (spec_l3At_l2 n x1 x0 (x0.length : Int) 0 (fun r2 => k r2) (k (-1)))) (fun r0 => k (PkS.pack Tspec_l3At (r0, ()))) := by kernel_rfl
theorem okspec_l3At (n : Nat) : FnOk Try.prog 135 (Kspec_l3At @spec_l3At n) := by
  refine fn_ok (sig := sig) mixed ttok (mkK_nat (cspec_l3At n)) (mkK_ok (cspec_l3At n)) (mkL_nat (mkK_nat (cspec_l3At n)) (l := [(2, Dspec_l3At_l2, Pspec_l3At_l2 @spec_l3At_l2 n)]) ⟨nlspec_l3At_l2 n, trivial⟩) (fn := Try.f135) (c := bodyOf Try.f135) (by kernel_rfl) (by kernel_rfl) (by kernel_rfl) (.eq (l := [.lo (loopIn 2 (bodyOf Try.f135))]) (by kernel_rfl) ⟨(lkspec_l3At_l2 n _ _ (at_id (i := 2) (by kernel_rfl) rfl)), trivial⟩) (shs := Hspec_l3At) (S := Sspec_l3At) (h1 := by kernel_rfl) fun R p k => ?_
  unfold Kspec_l3At
  cases h : (PkS.un Sspec_l3At p) with
  | none => rfl
  | some d =>
    obtain ⟨x0, x1, u⟩ := (d : (List (List Int)) × (List Int) × Unit)
    have hp := PkS.un_pack h
    subst hp
    exact (espec_l3At @spec_l3Same @spec_l3At_l2 n x0 x1 k).symm

/-! ### loop.example/g00269/spec.l3From -/
theorem cspec_l3From (n : Nat) : AllOk Try.prog [(126, Kspec_l3Fire @spec_l3Fire n), (135, Kspec_l3At @spec_l3At n)] := ⟨okspec_l3Fire n, ⟨okspec_l3At n, trivial⟩⟩
@[reducible] def Sspec_l3From_l7 : PkS := ⟨[.one (.box (100000, 0) 0), .one (.whole (100000, 1)), .one (.whole (100000, 2)), .one (.int .i64), .one (.ro (.pr (.sl (.int .i64)) (.sl (.int .i64)))), .one (.int .i64), .one (.int .i64), .one (.dead), .one (.dead)], [((100000, 0), .box [.int .i64, .ro (.pr (.sl (.int .i64)) (.sl (.int .i64)))]), ((100000, 1), .arr (.sl (.int .i64))), ((100000, 2), .arr (.sl (.int .i64)))]⟩
@[reducible] def Tspec_l3From_l7_0 : PkS := ⟨[.one (.ro (.sl (.int .i64))), .one (.ro (.sl (.int .i64))), .one (.bool), .one (.dead), .one (.dead)], []⟩
@[reducible] def Tspec_l3From_l7_1 : PkS := ⟨[.one (.box (100000, 0) 0), .one (.whole (100000, 1)), .one (.whole (100000, 2)), .one (.int .i64), .one (.dead), .one (.dead)], [((100000, 0), .box [.int .i64, .ro (.pr (.sl (.int .i64)) (.sl (.int .i64)))]), ((100000, 1), .arr (.sl (.int .i64))), ((100000, 2), .arr (.sl (.int .i64)))]⟩
def Dspec_l3From_l7 : LoopD := ⟨72, [2, 7, 8, 9, 26, 27, 28], [.box [.any, (.ro (.pr (.sl (.int .i64)) (.sl (.int .i64))))], .one (.own (.sl (.int .i64))), .one (.own (.sl (.int .i64))), .one .any, .one (.ro (.pr (.sl (.int .i64)) (.sl (.int .i64)))), .one .any, .one .any, .skip, .skip], fun x => match x with
  | .ret => some ([4, 5, 6], [.one (.ro (.sl (.int .i64))), .one (.ro (.sl (.int .i64))), .one .any, .skip, .skip])
  | .exit 2 => some ([2, 7, 8, 9], [.box [.any, (.ro (.pr (.sl (.int .i64)) (.sl (.int .i64))))], .one (.own (.sl (.int .i64))), .one (.own (.sl (.int .i64))), .one .any, .skip, .skip])
  | _ => none⟩
def Pspec_l3From_l7 (g : ∀ {R : Type}, Nat → Int → (List (List Int × List Int)) → Int → Int → Int → (List (List Int × List Int)) → (List (List Int)) → (List (List Int)) → ((List (List Int)) → (List (List Int)) → Bool → Option R) → (Int → Int → (List (List Int × List Int)) → (List (List Int)) → (List (List Int)) → Option R) → Option R) (n : Nat) : LPs := fun R q kk => match (PkS.un Sspec_l3From_l7 q : Option (Int × (List (List Int × List Int)) × Int × Int × Int × (List (List Int × List Int)) × (List (List Int)) × (List (List Int)) × Unit)) with
  | some (y7_0, y7_1, y7_2, y7_3, y7_4, y7_5, y7_6, y7_7, _) => g n y7_0 y7_1 y7_2 y7_3 y7_4 y7_5 y7_6 y7_7 (fun r0 r1 r2 => kk .ret (PkS.pack Tspec_l3From_l7_0 (r0, r1, r2, ()))) (fun r0 r1 r2 r3 r4 => kk (.exit 2) (PkS.pack Tspec_l3From_l7_1 (r0, r1, r2, r3, r4, ())))
  | none => none
theorem espec_l3From_l7 (spec_l3Fire : ∀ {R : Type}, Nat → (List Int) → (List Int) → (List Int) → ((List Int) → Bool → Option R) → Option R) (spec_l3At : ∀ {R : Type}, Nat → (List (List Int)) → (List Int) → (Int → Option R) → Option R) (spec_l3From_l7 : ∀ {R : Type}, Nat → Int → (List (List Int × List Int)) → Int → Int → Int → (List (List Int × List Int)) → (List (List Int)) → (List (List Int)) → ((List (List Int)) → (List (List Int)) → Bool → Option R) → (Int → Int → (List (List Int × List Int)) → (List (List Int)) → (List (List Int)) → Option R) → Option R) {R : Type} (n : Nat) (y7_0 : Int) (y7_1 : List (List Int × List Int)) (y7_2 : Int) (y7_3 : Int) (y7_4 : Int) (y7_5 : List (List Int × List Int)) (y7_6 : List (List Int)) (y7_7 : List (List Int)) (kk : Ex → Pk → Option R) : Dspec_l3From_l7.step tt sig (mkK [(126, Kspec_l3Fire @spec_l3Fire n), (135, Kspec_l3At @spec_l3At n)] R) (mkL (mkK [(126, Kspec_l3Fire @spec_l3Fire n), (135, Kspec_l3At @spec_l3At n)]) [] R) (loopIn 7 (bodyOf Try.f133)) (fun q' => Pspec_l3From_l7 @spec_l3From_l7 n R q' kk) (PkS.pack Sspec_l3From_l7 (y7_0, y7_1, y7_2, y7_3, y7_4, y7_5, y7_6, y7_7, ())) kk = (fun (kret : (List (List Int)) → (List (List Int)) → Bool → Option R) (kexit2 : Int → Int → (List (List Int × List Int)) → (List (List Int)) → (List (List Int)) → Option R) => (bif (decide (y7_3 < y7_2)) then (bif decide (0 ≤ y7_3) then (bif decide (y7_3 < (y7_1.length : Int)) then (bif decide (0 ≤ y7_0) then (bif decide (y7_0 < (y7_6.length : Int)) then (spec_l3Fire n ((y7_1.getD (Int.toNat y7_3) ([], [])).1) ((y7_1.getD (Int.toNat y7_3) ([], [])).2) (y7_6.getD (Int.toNat y7_0) []) fun r1 r2 => (bif (!r2) then spec_l3From_l7 n y7_0 y7_1 y7_2 (IntKind.wrap .i64 (y7_3 + 1)) y7_4 y7_5 y7_6 y7_7 kret kexit2 else (spec_l3At n y7_6 r1 fun r3 => (bif (decide (r3 ≥ 0)) then spec_l3From_l7 n y7_0 y7_1 y7_2 (IntKind.wrap .i64 (y7_3 + 1)) y7_4 y7_5 y7_6 y7_7 kret kexit2 else (bif ((y7_6.length : Int) == 400) then kret ([] : List (List Int)) ([] : List (List Int)) false else (bif decide (y7_6.length + [r1].length ≤ LIM) then (bif decide (0 ≤ y7_0) then (bif decide (y7_0 < (y7_7.length : Int)) then (bif decide (([] : List Int).length + (y7_7.getD (Int.toNat y7_0) []).length ≤ LIM) then (bif decide ((([] : List Int) ++ (y7_7.getD (Int.toNat y7_0) [])).length + [y7_3].length ≤ LIM) then (bif decide (y7_7.length + ([((([] : List Int) ++ (y7_7.getD (Int.toNat y7_0) [])) ++ [y7_3])]).length ≤ LIM) then spec_l3From_l7 n y7_0 y7_1 y7_2 (IntKind.wrap .i64 (y7_3 + 1)) y7_4 y7_5 (y7_6 ++ [r1]) (y7_7 ++ [((([] : List Int) ++ (y7_7.getD (Int.toNat y7_0) [])) ++ [y7_3])]) kret kexit2 else none) else none) else none) else none) else none) else none)))))) else none) else none) else none) else none) else kexit2 y7_0 y7_4 y7_5 y7_6 y7_7)) (fun r0 r1 r2 => kk .ret (PkS.pack Tspec_l3From_l7_0 (r0, r1, r2, ()))) (fun r0 r1 r2 r3 r4 => kk (.exit 2) (PkS.pack Tspec_l3From_l7_1 (r0, r1, r2, r3, r4, ()))) := by kernel_rfl
theorem lespec_l3From_l7 : LoopEq tt sig (fun n => mkK [(126, Kspec_l3Fire @spec_l3Fire n), (135, Kspec_l3At @spec_l3At n)]) (fun n => mkL (mkK [(126, Kspec_l3Fire @spec_l3Fire n), (135, Kspec_l3At @spec_l3At n)]) []) Dspec_l3From_l7 Sspec_l3From_l7 (loopIn 7 (bodyOf Try.f133)) (Pspec_l3From_l7 @spec_l3From_l7) where
  zero R q kk := by unfold Pspec_l3From_l7; cases (PkS.un Sspec_l3From_l7 q) <;> rfl
  succ n R q kk := by
    unfold Pspec_l3From_l7
    cases h : (PkS.un Sspec_l3From_l7 q) with
    | none => rfl
    | some d =>
      obtain ⟨y7_0, y7_1, y7_2, y7_3, y7_4, y7_5, y7_6, y7_7, u⟩ := (d : Int × (List (List Int × List Int)) × Int × Int × Int × (List (List Int × List Int)) × (List (List Int)) × (List (List Int)) × Unit)
      have hp := PkS.un_pack h
      subst hp
      exact (espec_l3From_l7 @spec_l3Fire @spec_l3At @spec_l3From_l7 n y7_0 y7_1 y7_2 y7_3 y7_4 y7_5 y7_6 y7_7 kk).symm
theorem nlspec_l3From_l7 : ∀ n, NatLP (Pspec_l3From_l7 @spec_l3From_l7 n) := lespec_l3From_l7.nat (fun n => mkK_nat (cspec_l3From n)) fun n => mkL_nat (mkK_nat (cspec_l3From n)) (l := []) trivial
theorem inspec_l3From_l7 (n : Nat) (R : Type) : LoopsOk Try.prog (mkL (mkK [(126, Kspec_l3Fire @spec_l3Fire n), (135, Kspec_l3At @spec_l3At n)]) [] R) (loopIn 7 (bodyOf Try.f133)) := .eq (l := []) (by kernel_rfl) trivial
theorem lkspec_l3From_l7 (n : Nat) (R : Type) (L0 : LK R) (h0 : ∀ id, firstRegion (loopIn 7 (bodyOf Try.f133)) = some id → L0 id = Dspec_l3From_l7.oracle (mkK [(126, Kspec_l3Fire @spec_l3Fire n), (135, Kspec_l3At @spec_l3At n)] R) (Pspec_l3From_l7 @spec_l3From_l7 n R)) : LoopOk Try.prog L0 (loopIn 7 (bodyOf Try.f133)) :=
  lespec_l3From_l7.ok mixed ttok (fun n => mkK_nat (cspec_l3From n)) (fun n => mkK_ok (cspec_l3From n)) (fun n => inspec_l3From_l7 n R) (mkK_nat (cspec_l3From n)) h0
@[reducible] def Sspec_l3From_l4 : PkS := ⟨[.one (.box (100000, 0) 0), .one (.whole (100000, 1)), .one (.whole (100000, 2)), .one (.int .i64), .one (.dead), .one (.dead)], [((100000, 0), .box [.int .i64, .ro (.pr (.sl (.int .i64)) (.sl (.int .i64)))]), ((100000, 1), .arr (.sl (.int .i64))), ((100000, 2), .arr (.sl (.int .i64)))]⟩
@[reducible] def Tspec_l3From_l4_0 : PkS := ⟨[.one (.ro (.sl (.int .i64))), .one (.ro (.sl (.int .i64))), .one (.bool), .one (.dead), .one (.dead)], []⟩
@[reducible] def Tspec_l3From_l4_1 : PkS := ⟨[.one (.whole (100000, 0)), .one (.whole (100000, 1)), .one (.dead), .one (.dead)], [((100000, 0), .arr (.sl (.int .i64))), ((100000, 1), .arr (.sl (.int .i64)))]⟩
def Dspec_l3From_l4 : LoopD := ⟨72, [2, 7, 8, 9], [.box [.any, (.ro (.pr (.sl (.int .i64)) (.sl (.int .i64))))], .one (.own (.sl (.int .i64))), .one (.own (.sl (.int .i64))), .one .any, .skip, .skip], fun x => match x with
  | .ret => some ([4, 5, 6], [.one (.ro (.sl (.int .i64))), .one (.ro (.sl (.int .i64))), .one .any, .skip, .skip])
  | .exit 0 => some ([7, 8], [.one (.own (.sl (.int .i64))), .one (.own (.sl (.int .i64))), .skip, .skip])
  | _ => none⟩
def Pspec_l3From_l4 (g : ∀ {R : Type}, Nat → Int → Int → (List (List Int × List Int)) → (List (List Int)) → (List (List Int)) → ((List (List Int)) → (List (List Int)) → Bool → Option R) → ((List (List Int)) → (List (List Int)) → Option R) → Option R) (n : Nat) : LPs := fun R q kk => match (PkS.un Sspec_l3From_l4 q : Option (Int × Int × (List (List Int × List Int)) × (List (List Int)) × (List (List Int)) × Unit)) with
  | some (y4_0, y4_1, y4_2, y4_3, y4_4, _) => g n y4_0 y4_1 y4_2 y4_3 y4_4 (fun r0 r1 r2 => kk .ret (PkS.pack Tspec_l3From_l4_0 (r0, r1, r2, ()))) (fun r0 r1 => kk (.exit 0) (PkS.pack Tspec_l3From_l4_1 (r0, r1, ())))
  | none => none
theorem espec_l3From_l4 (spec_l3Fire : ∀ {R : Type}, Nat → (List Int) → (List Int) → (List Int) → ((List Int) → Bool → Option R) → Option R) (spec_l3At : ∀ {R : Type}, Nat → (List (List Int)) → (List Int) → (Int → Option R) → Option R) (spec_l3From_l7 : ∀ {R : Type}, Nat → Int → (List (List Int × List Int)) → Int → Int → Int → (List (List Int × List Int)) → (List (List Int)) → (List (List Int)) → ((List (List Int)) → (List (List Int)) → Bool → Option R) → (Int → Int → (List (List Int × List Int)) → (List (List Int)) → (List (List Int)) → Option R) → Option R) (spec_l3From_l4 : ∀ {R : Type}, Nat → Int → Int → (List (List Int × List Int)) → (List (List Int)) → (List (List Int)) → ((List (List Int)) → (List (List Int)) → Bool → Option R) → ((List (List Int)) → (List (List Int)) → Option R) → Option R) {R : Type} (n : Nat) (y4_0 : Int) (y4_1 : Int) (y4_2 : List (List Int × List Int)) (y4_3 : List (List Int)) (y4_4 : List (List Int)) (kk : Ex → Pk → Option R) : Dspec_l3From_l4.step tt sig (mkK [(126, Kspec_l3Fire @spec_l3Fire n), (135, Kspec_l3At @spec_l3At n)] R) (mkL (mkK [(126, Kspec_l3Fire @spec_l3Fire n), (135, Kspec_l3At @spec_l3At n)]) [(7, Dspec_l3From_l7, Pspec_l3From_l7 @spec_l3From_l7 n)] R) (loopIn 4 (bodyOf Try.f133)) (fun q' => Pspec_l3From_l4 @spec_l3From_l4 n R q' kk) (PkS.pack Sspec_l3From_l4 (y4_0, y4_1, y4_2, y4_3, y4_4, ())) kk = (fun (kret : (List (List Int)) → (List (List Int)) → Bool → Option R) (kexit0 : (List (List Int)) → (List (List Int)) → Option R) => (bif (decide (y4_0 < (y4_3.length : Int))) then (spec_l3From_l7 n y4_0 y4_2 (y4_2.length : Int) 0 y4_1 y4_2 y4_3 y4_4 (fun r4 r5 r6 => kret r4 r5 r6) (fun r7 r8 r9 r10 r11 => spec_l3From_l4 n (IntKind.wrap .i64 (r7 + 1)) r8 r9 r10 r11 kret kexit0)) else kexit0 y4_3 y4_4)) (fun r0 r1 r2 => kk .ret (PkS.pack Tspec_l3From_l4_0 (r0, r1, r2, ()))) (fun r0 r1 => kk (.exit 0) (PkS.pack Tspec_l3From_l4_1 (r0, r1, ()))) := by kernel_rfl
theorem lespec_l3From_l4 : LoopEq tt sig (fun n => mkK [(126, Kspec_l3Fire @spec_l3Fire n), (135, Kspec_l3At @spec_l3At n)]) (fun n => mkL (mkK [(126, Kspec_l3Fire @spec_l3Fire n), (135, Kspec_l3At @spec_l3At n)]) [(7, Dspec_l3From_l7, Pspec_l3From_l7 @spec_l3From_l7 n)]) Dspec_l3From_l4 Sspec_l3From_l4 (loopIn 4 (bodyOf Try.f133)) (Pspec_l3From_l4 @spec_l3From_l4) where
  zero R q kk := by unfold Pspec_l3From_l4; cases (PkS.un Sspec_l3From_l4 q) <;> rfl
  succ n R q kk := by
    unfold Pspec_l3From_l4
    cases h : (PkS.un Sspec_l3From_l4 q) with
    | none => rfl
    | some d =>
      obtain ⟨y4_0, y4_1, y4_2, y4_3, y4_4, u⟩ := (d : Int × Int × (List (List Int × List Int)) × (List (List Int)) × (List (List Int)) × Unit)
      have hp := PkS.un_pack h
      subst hp
      exact (espec_l3From_l4 @spec_l3Fire @spec_l3At @spec_l3From_l7 @spec_l3From_l4 n y4_0 y4_1 y4_2 y4_3 y4_4 kk).symm
theorem nlspec_l3From_l4 : ∀ n, NatLP (Pspec_l3From_l4 @spec_l3From_l4 n) := lespec_l3From_l4.nat (fun n => mkK_nat (cspec_l3From n)) fun n => mkL_nat (mkK_nat (cspec_l3From n)) (l := [(7, Dspec_l3From_l7, Pspec_l3From_l7 @spec_l3From_l7 n)]) ⟨nlspec_l3From_l7 n, trivial⟩
theorem inspec_l3From_l4 (n : Nat) (R : Type) : LoopsOk Try.prog (mkL (mkK [(126, Kspec_l3Fire @spec_l3Fire n), (135, Kspec_l3At @spec_l3At n)]) [(7, Dspec_l3From_l7, Pspec_l3From_l7 @spec_l3From_l7 n)] R) (loopIn 4 (bodyOf Try.f133)) := .eq (l := [.lo (loopIn 7 (bodyOf Try.f133))]) (by kernel_rfl) ⟨(lkspec_l3From_l7 n R _ (at_id (i := 7) (by kernel_rfl) rfl)), trivial⟩
theorem lkspec_l3From_l4 (n : Nat) (R : Type) (L0 : LK R) (h0 : ∀ id, firstRegion (loopIn 4 (bodyOf Try.f133)) = some id → L0 id = Dspec_l3From_l4.oracle (mkK [(126, Kspec_l3Fire @spec_l3Fire n), (135, Kspec_l3At @spec_l3At n)] R) (Pspec_l3From_l4 @spec_l3From_l4 n R)) : LoopOk Try.prog L0 (loopIn 4 (bodyOf Try.f133)) :=
  lespec_l3From_l4.ok mixed ttok (fun n => mkK_nat (cspec_l3From n)) (fun n => mkK_ok (cspec_l3From n)) (fun n => inspec_l3From_l4 n R) (mkK_nat (cspec_l3From n)) h0
@[reducible] def Sspec_l3From : PkS := ⟨[.agg [.int .i64, .ro (.pr (.sl (.int .i64)) (.sl (.int .i64)))], .one (.ro (.int .i64))], []⟩
@[reducible] def Tspec_l3From : PkS := ⟨[.tup [(false, [.ro (.sl (.int .i64))]), (false, [.ro (.sl (.int .i64))]), (false, [.bool])], .one (.dead), .one (.dead)], []⟩
def Hspec_l3From : List Sh := [.tup [(false, [(.ro (.sl (.int .i64)))]), (false, [(.ro (.sl (.int .i64)))]), (false, [.any])], .skip, .skip]
def Kspec_l3From (g : ∀ {R : Type}, Nat → Int → (List (List Int × List Int)) → (List Int) → ((List (List Int)) → (List (List Int)) → Bool → Option R) → Option R) (n : Nat) : KPs := fun R p k => match (PkS.un Sspec_l3From p : Option (Int × (List (List Int × List Int)) × (List Int) × Unit)) with
  | some (x0, x1, x2, _) => g n x0 x1 x2 (fun r0 r1 r2 => k (PkS.pack Tspec_l3From (r0, r1, r2, ())))
  | none => none
theorem espec_l3From (spec_l3Fire : ∀ {R : Type}, Nat → (List Int) → (List Int) → (List Int) → ((List Int) → Bool → Option R) → Option R) (spec_l3At : ∀ {R : Type}, Nat → (List (List Int)) → (List Int) → (Int → Option R) → Option R) (spec_l3From_l7 : ∀ {R : Type}, Nat → Int → (List (List Int × List Int)) → Int → Int → Int → (List (List Int × List Int)) → (List (List Int)) → (List (List Int)) → ((List (List Int)) → (List (List Int)) → Bool → Option R) → (Int → Int → (List (List Int × List Int)) → (List (List Int)) → (List (List Int)) → Option R) → Option R) (spec_l3From_l4 : ∀ {R : Type}, Nat → Int → Int → (List (List Int × List Int)) → (List (List Int)) → (List (List Int)) → ((List (List Int)) → (List (List Int)) → Bool → Option R) → ((List (List Int)) → (List (List Int)) → Option R) → Option R) {R : Type} (n : Nat) (x0 : Int) (x1 : List (List Int × List Int)) (x2 : List Int) (k : Pk → Option R) : evF tt sig (mkK [(126, Kspec_l3Fire @spec_l3Fire n), (135, Kspec_l3At @spec_l3At n)] R) (mkL (mkK [(126, Kspec_l3Fire @spec_l3Fire n), (135, Kspec_l3At @spec_l3At n)]) [(7, Dspec_l3From_l7, Pspec_l3From_l7 @spec_l3From_l7 n), (4, Dspec_l3From_l4, Pspec_l3From_l4 @spec_l3From_l4 n)] R) Try.f133 Hspec_l3From (PkS.pack Sspec_l3From (x0, x1, x2, ())) k = (fun (k : (List (List Int)) → (List (List Int)) → Bool → Option R) => (bif decide (([] : List Int).length + x2.length ≤ LIM) then (spec_l3From_l4 n 0 x0 x1 ([(([] : List Int) ++ x2)]) [[]] (fun r12 r13 r14 => k r12 r13 r14) (fun r15 r16 => k r15 r16 true)) else none)) (fun r0 r1 r2 => k (PkS.pack Tspec_l3From (r0, r1, r2, ()))) := by kernel_rfl
theorem okspec_l3From (n : Nat) : FnOk Try.prog 133 (Kspec_l3From @spec_l3From n) := by
  refine fn_ok (sig := sig) mixed ttok (mkK_nat (cspec_l3From n)) (mkK_ok (cspec_l3From n)) (mkL_nat (mkK_nat (cspec_l3From n)) (l := [(7, Dspec_l3From_l7, Pspec_l3From_l7 @spec_l3From_l7 n), (4, Dspec_l3From_l4, Pspec_l3From_l4 @spec_l3From_l4 n)]) ⟨nlspec_l3From_l7 n, ⟨nlspec_l3From_l4 n, trivial⟩⟩) (fn := Try.f133) (c := bodyOf Try.f133) (by kernel_rfl) (by kernel_rfl) (by kernel_rfl) (.eq (l := [.lo (loopIn 4 (bodyOf Try.f133))]) (by kernel_rfl) ⟨(lkspec_l3From_l4 n _ _ (at_id (i := 4) (by kernel_rfl) rfl)), trivial⟩) (shs := Hspec_l3From) (S := Sspec_l3From) (h1 := by kernel_rfl) fun R p k => ?_
  unfold Kspec_l3From
  cases h : (PkS.un Sspec_l3From p) with
  | none => rfl
  | some d =>
    obtain ⟨x0, x1, x2, u⟩ := (d : Int × (List (List Int × List Int)) × (List Int) × Unit)
    have hp := PkS.un_pack h
    subst hp
    exact (espec_l3From @spec_l3Fire @spec_l3At @spec_l3From_l7 @spec_l3From_l4 n x0 x1 x2 k).symm

/-! ### loop.example/g00269/spec.IsSound -/
theorem cspec_IsSound (n : Nat) : AllOk Try.prog [(60, Kspec_GoodNet @spec_GoodNet n), (132, Kspec_l3One @spec_l3One n), (133, Kspec_l3From @spec_l3From n), (134, Kspec_l3Same @spec_l3Same n), (126, Kspec_l3Fire @spec_l3Fire n), (135, Kspec_l3At @spec_l3At n)] := ⟨okspec_GoodNet n, ⟨okspec_l3One n, ⟨okspec_l3From n, ⟨okspec_l3Same n, ⟨okspec_l3Fire n, ⟨okspec_l3At n, trivial⟩⟩⟩⟩⟩⟩
@[reducible] def Sspec_IsSound_l14 : PkS := ⟨[.one (.box (100000, 0) 0), .one (.whole (100000, 1)), .one (.whole (100000, 2)), .one (.ro (.int .i64)), .one (.ro (.sl (.int .i64))), .one (.int .i64), .one (.int .i64), .one (.ro (.pr (.sl (.int .i64)) (.sl (.int .i64)))), .one (.int .i64), .one (.int .i64), .one (.dead)], [((100000, 0), .box [.int .i64, .ro (.pr (.sl (.int .i64)) (.sl (.int .i64)))]), ((100000, 1), .arr (.int .i64)), ((100000, 2), .arr .bool)]⟩
@[reducible] def Tspec_IsSound_l14_0 : PkS := ⟨[.one (.box (100000, 0) 0), .one (.whole (100000, 1)), .one (.whole (100000, 2)), .one (.ro (.int .i64)), .one (.ro (.sl (.int .i64))), .one (.int .i64), .one (.int .i64), .one (.dead)], [((100000, 0), .box [.int .i64, .ro (.pr (.sl (.int .i64)) (.sl (.int .i64)))]), ((100000, 1), .arr (.int .i64)), ((100000, 2), .arr .bool)]⟩
def Dspec_IsSound_l14 : LoopD := ⟨114, [1, 4, 8, 10, 49, 50, 51, 69, 70, 71], [.box [.any, (.ro (.pr (.sl (.int .i64)) (.sl (.int .i64))))], .one (.own (.int .i64)), .one (.own .bool), .one (.ro (.int .i64)), .one (.ro (.sl (.int .i64))), .one .any, .one .any, .one (.ro (.pr (.sl (.int .i64)) (.sl (.int .i64)))), .one .any, .one .any, .skip], fun x => match x with
  | .exit 2 => some ([1, 4, 8, 10, 49, 50, 51], [.box [.any, (.ro (.pr (.sl (.int .i64)) (.sl (.int .i64))))], .one (.own (.int .i64)), .one (.own .bool), .one (.ro (.int .i64)), .one (.ro (.sl (.int .i64))), .one .any, .one .any, .skip])
  | _ => none⟩
def Pspec_IsSound_l14 (g : ∀ {R : Type}, Nat → (List Int) → (List (List Int)) → Int → Int → (List (List Int × List Int)) → Int → Int → Int → (List (List Int × List Int)) → (List Int) → (List Bool) → ((List Int) → (List (List Int)) → Int → Int → Int → (List (List Int × List Int)) → (List Int) → (List Bool) → Option R) → Option R) (n : Nat) : LPs := fun R q kk => match (PkS.un Sspec_IsSound_l14 q : Option ((List Int) × (List (List Int)) × Int × Int × (List (List Int × List Int)) × Int × Int × Int × (List (List Int × List Int)) × (List Int) × (List Bool) × Unit)) with
  | some (y14_0, y14_1, y14_2, y14_3, y14_4, y14_5, y14_6, y14_7, y14_8, y14_9, y14_10, _) => g n y14_0 y14_1 y14_2 y14_3 y14_4 y14_5 y14_6 y14_7 y14_8 y14_9 y14_10 (fun r0 r1 r2 r3 r4 r5 r6 r7 => kk (.exit 2) (PkS.pack Tspec_IsSound_l14_0 (r0, r1, r2, r3, r4, r5, r6, r7, ())))
  | none => none
theorem espec_IsSound_l14 (spec_GoodNet : ∀ {R : Type}, Nat → Int → (List (List Int × List Int)) → (Bool → Option R) → Option R) (spec_l3One : ∀ {R : Type}, Nat → Int → Int → ((List Int) → Option R) → Option R) (spec_l3From : ∀ {R : Type}, Nat → Int → (List (List Int × List Int)) → (List Int) → ((List (List Int)) → (List (List Int)) → Bool → Option R) → Option R) (spec_l3Same : ∀ {R : Type}, Nat → (List Int) → (List Int) → (Bool → Option R) → Option R) (spec_l3Fire : ∀ {R : Type}, Nat → (List Int) → (List Int) → (List Int) → ((List Int) → Bool → Option R) → Option R) (spec_l3At : ∀ {R : Type}, Nat → (List (List Int)) → (List Int) → (Int → Option R) → Option R) (spec_IsSound_l14 : ∀ {R : Type}, Nat → (List Int) → (List (List Int)) → Int → Int → (List (List Int × List Int)) → Int → Int → Int → (List (List Int × List Int)) → (List Int) → (List Bool) → ((List Int) → (List (List Int)) → Int → Int → Int → (List (List Int × List Int)) → (List Int) → (List Bool) → Option R) → Option R) {R : Type} (n : Nat) (y14_0 : List Int) (y14_1 : List (List Int)) (y14_2 : Int) (y14_3 : Int) (y14_4 : List (List Int × List Int)) (y14_5 : Int) (y14_6 : Int) (y14_7 : Int) (y14_8 : List (List Int × List Int)) (y14_9 : List Int) (y14_10 : List Bool) (kk : Ex → Pk → Option R) : Dspec_IsSound_l14.step tt sig (mkK [(60, Kspec_GoodNet @spec_GoodNet n), (132, Kspec_l3One @spec_l3One n), (133, Kspec_l3From @spec_l3From n), (134, Kspec_l3Same @spec_l3Same n), (126, Kspec_l3Fire @spec_l3Fire n), (135, Kspec_l3At @spec_l3At n)] R) (mkL (mkK [(60, Kspec_GoodNet @spec_GoodNet n), (132, Kspec_l3One @spec_l3One n), (133, Kspec_l3From @spec_l3From n), (134, Kspec_l3Same @spec_l3Same n), (126, Kspec_l3Fire @spec_l3Fire n), (135, Kspec_l3At @spec_l3At n)]) [] R) (loopIn 14 (bodyOf Try.f66)) (fun q' => Pspec_IsSound_l14 @spec_IsSound_l14 n R q' kk) (PkS.pack Sspec_IsSound_l14 (y14_0, y14_1, y14_2, y14_3, y14_4, y14_5, y14_6, y14_7, y14_8, y14_9, y14_10, ())) kk = (fun (kexit2 : (List Int) → (List (List Int)) → Int → Int → Int → (List (List Int × List Int)) → (List Int) → (List Bool) → Option R) => (bif (decide (y14_6 < y14_5)) then (bif decide (0 ≤ y14_6) then (bif decide (y14_6 < (y14_4.length : Int)) then (spec_l3Fire n ((y14_4.getD (Int.toNat y14_6) ([], [])).1) ((y14_4.getD (Int.toNat y14_6) ([], [])).2) y14_0 fun r8 r9 => (bif decide (0 ≤ y14_6) then (bif decide (y14_6 < (y14_10.length : Int)) then (bif (y14_10.getD (Int.toNat y14_6) false) then (bif decide (0 ≤ y14_6) then (bif decide (y14_6 < (y14_10.length : Int)) then spec_IsSound_l14 n y14_0 y14_1 y14_2 y14_3 y14_4 y14_5 (IntKind.wrap .i64 (y14_6 + 1)) y14_7 y14_8 y14_9 (y14_10.set (Int.toNat y14_6) true) kexit2 else none) else none) else (bif decide (0 ≤ y14_6) then (bif decide (y14_6 < (y14_10.length : Int)) then spec_IsSound_l14 n y14_0 y14_1 y14_2 y14_3 y14_4 y14_5 (IntKind.wrap .i64 (y14_6 + 1)) y14_7 y14_8 y14_9 (y14_10.set (Int.toNat y14_6) r9) kexit2 else none) else none)) else none) else none)) else none) else none) else kexit2 y14_0 y14_1 y14_2 y14_3 y14_7 y14_8 y14_9 y14_10)) (fun r0 r1 r2 r3 r4 r5 r6 r7 => kk (.exit 2) (PkS.pack Tspec_IsSound_l14_0 (r0, r1, r2, r3, r4, r5, r6, r7, ()))) := by kernel_rfl
theorem lespec_IsSound_l14 : LoopEq tt sig (fun n => mkK [(60, Kspec_GoodNet @spec_GoodNet n), (132, Kspec_l3One @spec_l3One n), (133, Kspec_l3From @spec_l3From n), (134, Kspec_l3Same @spec_l3Same n), (126, Kspec_l3Fire @spec_l3Fire n), (135, Kspec_l3At @spec_l3At n)]) (fun n => mkL (mkK [(60, Kspec_GoodNet @spec_GoodNet n), (132, Kspec_l3One @spec_l3One n), (133, Kspec_l3From @spec_l3From n), (134, Kspec_l3Same @spec_l3Same n), (126, Kspec_l3Fire @spec_l3Fire n), (135, Kspec_l3At @spec_l3At n)]) []) Dspec_IsSound_l14 Sspec_IsSound_l14 (loopIn 14 (bodyOf Try.f66)) (Pspec_IsSound_l14 @spec_IsSound_l14) where
  zero R q kk := by unfold Pspec_IsSound_l14; cases (PkS.un Sspec_IsSound_l14 q) <;> rfl
  succ n R q kk := by
    unfold Pspec_IsSound_l14
    cases h : (PkS.un Sspec_IsSound_l14 q) with
    | none => rfl
    | some d =>
      obtain ⟨y14_0, y14_1, y14_2, y14_3, y14_4, y14_5, y14_6, y14_7, y14_8, y14_9, y14_10, u⟩ := (d : (List Int) × (List (List Int)) × Int × Int × (List (List Int × List Int)) × Int × Int × Int × (List (List Int × List Int)) × (List Int) × (List Bool) × Unit)
      have hp := PkS.un_pack h
      subst hp
      exact (espec_IsSound_l14 @spec_GoodNet @spec_l3One @spec_l3From @spec_l3Same @spec_l3Fire @spec_l3At @spec_IsSound_l14 n y14_0 y14_1 y14_2 y14_3 y14_4 y14_5 y14_6 y14_7 y14_8 y14_9 y14_10 kk).symm
theorem nlspec_IsSound_l14 : ∀ n, NatLP (Pspec_IsSound_l14 @spec_IsSound_l14 n) := lespec_IsSound_l14.nat (fun n => mkK_nat (cspec_IsSound n)) fun n => mkL_nat (mkK_nat (cspec_IsSound n)) (l := []) trivial
theorem inspec_IsSound_l14 (n : Nat) (R : Type) : LoopsOk Try.prog (mkL (mkK [(60, Kspec_GoodNet @spec_GoodNet n), (132, Kspec_l3One @spec_l3One n), (133, Kspec_l3From @spec_l3From n), (134, Kspec_l3Same @spec_l3Same n), (126, Kspec_l3Fire @spec_l3Fire n), (135, Kspec_l3At @spec_l3At n)]) [] R) (loopIn 14 (bodyOf Try.f66)) := .eq (l := []) (by kernel_rfl) trivial
theorem lkspec_IsSound_l14 (n : Nat) (R : Type) (L0 : LK R) (h0 : ∀ id, firstRegion (loopIn 14 (bodyOf Try.f66)) = some id → L0 id = Dspec_IsSound_l14.oracle (mkK [(60, Kspec_GoodNet @spec_GoodNet n), (132, Kspec_l3One @spec_l3One n), (133, Kspec_l3From @spec_l3From n), (134, Kspec_l3Same @spec_l3Same n), (126, Kspec_l3Fire @spec_l3Fire n), (135, Kspec_l3At @spec_l3At n)] R) (Pspec_IsSound_l14 @spec_IsSound_l14 n R)) : LoopOk Try.prog L0 (loopIn 14 (bodyOf Try.f66)) :=
  lespec_IsSound_l14.ok mixed ttok (fun n => mkK_nat (cspec_IsSound n)) (fun n => mkK_ok (cspec_IsSound n)) (fun n => inspec_IsSound_l14 n R) (mkK_nat (cspec_IsSound n)) h0
@[reducible] def Sspec_IsSound_l9 : PkS := ⟨[.one (.box (100000, 0) 0), .one (.whole (100000, 1)), .one (.whole (100000, 2)), .one (.ro (.sl (.int .i64))), .one (.int .i64), .one (.int .i64), .one (.dead)], [((100000, 0), .box [.int .i64, .ro (.pr (.sl (.int .i64)) (.sl (.int .i64)))]), ((100000, 1), .arr (.int .i64)), ((100000, 2), .arr .bool)]⟩
@[reducible] def Tspec_IsSound_l9_0 : PkS := ⟨[.one (.bool), .one (.bool), .one (.dead)], []⟩
@[reducible] def Tspec_IsSound_l9_1 : PkS := ⟨[.one (.whole (100000, 0)), .one (.dead)], [((100000, 0), .arr .bool)]⟩
def Dspec_IsSound_l9 : LoopD := ⟨114, [1, 4, 8, 49, 50, 51], [.box [.any, (.ro (.pr (.sl (.int .i64)) (.sl (.int .i64))))], .one (.own (.int .i64)), .one (.own .bool), .one (.ro (.sl (.int .i64))), .one .any, .one .any, .skip], fun x => match x with
  | .ret => some ([2, 3], [.one .any, .one .any, .skip])
  | .exit 0 => some ([8], [.one (.own .bool), .skip])
  | _ => none⟩
def Pspec_IsSound_l9 (g : ∀ {R : Type}, Nat → (List (List Int)) → Int → Int → Int → (List (List Int × List Int)) → (List Int) → (List Bool) → (Bool → Bool → Option R) → ((List Bool) → Option R) → Option R) (n : Nat) : LPs := fun R q kk => match (PkS.un Sspec_IsSound_l9 q : Option ((List (List Int)) × Int × Int × Int × (List (List Int × List Int)) × (List Int) × (List Bool) × Unit)) with
  | some (y9_0, y9_1, y9_2, y9_3, y9_4, y9_5, y9_6, _) => g n y9_0 y9_1 y9_2 y9_3 y9_4 y9_5 y9_6 (fun r0 r1 => kk .ret (PkS.pack Tspec_IsSound_l9_0 (r0, r1, ()))) (fun r0 => kk (.exit 0) (PkS.pack Tspec_IsSound_l9_1 (r0, ())))
  | none => none
theorem espec_IsSound_l9 (spec_GoodNet : ∀ {R : Type}, Nat → Int → (List (List Int × List Int)) → (Bool → Option R) → Option R) (spec_l3One : ∀ {R : Type}, Nat → Int → Int → ((List Int) → Option R) → Option R) (spec_l3From : ∀ {R : Type}, Nat → Int → (List (List Int × List Int)) → (List Int) → ((List (List Int)) → (List (List Int)) → Bool → Option R) → Option R) (spec_l3Same : ∀ {R : Type}, Nat → (List Int) → (List Int) → (Bool → Option R) → Option R) (spec_l3Fire : ∀ {R : Type}, Nat → (List Int) → (List Int) → (List Int) → ((List Int) → Bool → Option R) → Option R) (spec_l3At : ∀ {R : Type}, Nat → (List (List Int)) → (List Int) → (Int → Option R) → Option R) (spec_IsSound_l14 : ∀ {R : Type}, Nat → (List Int) → (List (List Int)) → Int → Int → (List (List Int × List Int)) → Int → Int → Int → (List (List Int × List Int)) → (List Int) → (List Bool) → ((List Int) → (List (List Int)) → Int → Int → Int → (List (List Int × List Int)) → (List Int) → (List Bool) → Option R) → Option R) (spec_IsSound_l9 : ∀ {R : Type}, Nat → (List (List Int)) → Int → Int → Int → (List (List Int × List Int)) → (List Int) → (List Bool) → (Bool → Bool → Option R) → ((List Bool) → Option R) → Option R) {R : Type} (n : Nat) (y9_0 : List (List Int)) (y9_1 : Int) (y9_2 : Int) (y9_3 : Int) (y9_4 : List (List Int × List Int)) (y9_5 : List Int) (y9_6 : List Bool) (kk : Ex → Pk → Option R) : Dspec_IsSound_l9.step tt sig (mkK [(60, Kspec_GoodNet @spec_GoodNet n), (132, Kspec_l3One @spec_l3One n), (133, Kspec_l3From @spec_l3From n), (134, Kspec_l3Same @spec_l3Same n), (126, Kspec_l3Fire @spec_l3Fire n), (135, Kspec_l3At @spec_l3At n)] R) (mkL (mkK [(60, Kspec_GoodNet @spec_GoodNet n), (132, Kspec_l3One @spec_l3One n), (133, Kspec_l3From @spec_l3From n), (134, Kspec_l3Same @spec_l3Same n), (126, Kspec_l3Fire @spec_l3Fire n), (135, Kspec_l3At @spec_l3At n)]) [(14, Dspec_IsSound_l14, Pspec_IsSound_l14 @spec_IsSound_l14 n)] R) (loopIn 9 (bodyOf Try.f66)) (fun q' => Pspec_IsSound_l9 @spec_IsSound_l9 n R q' kk) (PkS.pack Sspec_IsSound_l9 (y9_0, y9_1, y9_2, y9_3, y9_4, y9_5, y9_6, ())) kk = (fun (kret : Bool → Bool → Option R) (kexit0 : (List Bool) → Option R) => (bif (decide (y9_2 < y9_1)) then (bif decide (0 ≤ y9_2) then (bif decide (y9_2 < (y9_0.length : Int)) then (bif decide (0 ≤ (IntKind.wrap .i64 (y9_3 - 1))) then (bif decide ((IntKind.wrap .i64 (y9_3 - 1)) < ((y9_0.getD (Int.toNat y9_2) []).length : Int)) then (bif (decide (((y9_0.getD (Int.toNat y9_2) []).getD (Int.toNat (IntKind.wrap .i64 (y9_3 - 1))) 0) > 0)) then (spec_l3Same n (y9_0.getD (Int.toNat y9_2) []) y9_5 fun r7 => (bif (!r7) then kret false true else (spec_IsSound_l14 n (y9_0.getD (Int.toNat y9_2) []) y9_0 y9_1 y9_2 y9_4 (y9_4.length : Int) 0 y9_3 y9_4 y9_5 y9_6 (fun r10 r11 r12 r13 r14 r15 r16 r17 => (spec_l3From n r14 r15 r10 fun r18 r19 r20 => (spec_l3At n r18 r16 fun r21 => (bif (decide (r21 < 0)) then kret false true else spec_IsSound_l9 n r11 r12 (IntKind.wrap .i64 (r13 + 1)) r14 r15 r16 r17 kret kexit0))))))) else (spec_IsSound_l14 n (y9_0.getD (Int.toNat y9_2) []) y9_0 y9_1 y9_2 y9_4 (y9_4.length : Int) 0 y9_3 y9_4 y9_5 y9_6 (fun r22 r23 r24 r25 r26 r27 r28 r29 => (spec_l3From n r26 r27 r22 fun r30 r31 r32 => (spec_l3At n r30 r28 fun r33 => (bif (decide (r33 < 0)) then kret false true else spec_IsSound_l9 n r23 r24 (IntKind.wrap .i64 (r25 + 1)) r26 r27 r28 r29 kret kexit0)))))) else none) else none) else none) else none) else kexit0 y9_6)) (fun r0 r1 => kk .ret (PkS.pack Tspec_IsSound_l9_0 (r0, r1, ()))) (fun r0 => kk (.exit 0) (PkS.pack Tspec_IsSound_l9_1 (r0, ()))) := by kernel_rfl
theorem lespec_IsSound_l9 : LoopEq tt sig (fun n => mkK [(60, Kspec_GoodNet @spec_GoodNet n), (132, Kspec_l3One @spec_l3One n), (133, Kspec_l3From @spec_l3From n), (134, Kspec_l3Same @spec_l3Same n), (126, Kspec_l3Fire @spec_l3Fire n), (135, Kspec_l3At @spec_l3At n)]) (fun n => mkL (mkK [(60, Kspec_GoodNet @spec_GoodNet n), (132, Kspec_l3One @spec_l3One n), (133, Kspec_l3From @spec_l3From n), (134, Kspec_l3Same @spec_l3Same n), (126, Kspec_l3Fire @spec_l3Fire n), (135, Kspec_l3At @spec_l3At n)]) [(14, Dspec_IsSound_l14, Pspec_IsSound_l14 @spec_IsSound_l14 n)]) Dspec_IsSound_l9 Sspec_IsSound_l9 (loopIn 9 (bodyOf Try.f66)) (Pspec_IsSound_l9 @spec_IsSound_l9) where
  zero R q kk := by unfold Pspec_IsSound_l9; cases (PkS.un Sspec_IsSound_l9 q) <;> rfl
  succ n R q kk := by
    unfold Pspec_IsSound_l9
    cases h : (PkS.un Sspec_IsSound_l9 q) with
    | none => rfl
    | some d =>
      obtain ⟨y9_0, y9_1, y9_2, y9_3, y9_4, y9_5, y9_6, u⟩ := (d : (List (List Int)) × Int × Int × Int × (List (List Int × List Int)) × (List Int) × (List Bool) × Unit)
      have hp := PkS.un_pack h
      subst hp
      exact (espec_IsSound_l9 @spec_GoodNet @spec_l3One @spec_l3From @spec_l3Same @spec_l3Fire @spec_l3At @spec_IsSound_l14 @spec_IsSound_l9 n y9_0 y9_1 y9_2 y9_3 y9_4 y9_5 y9_6 kk).symm
theorem nlspec_IsSound_l9 : ∀ n, NatLP (Pspec_IsSound_l9 @spec_IsSound_l9 n) := lespec_IsSound_l9.nat (fun n => mkK_nat (cspec_IsSound n)) fun n => mkL_nat (mkK_nat (cspec_IsSound n)) (l := [(14, Dspec_IsSound_l14, Pspec_IsSound_l14 @spec_IsSound_l14 n)]) ⟨nlspec_IsSound_l14 n, trivial⟩
theorem inspec_IsSound_l9 (n : Nat) (R : Type) : LoopsOk Try.prog (mkL (mkK [(60, Kspec_GoodNet @spec_GoodNet n), (132, Kspec_l3One @spec_l3One n), (133, Kspec_l3From @spec_l3From n), (134, Kspec_l3Same @spec_l3Same n), (126, Kspec_l3Fire @spec_l3Fire n), (135, Kspec_l3At @spec_l3At n)]) [(14, Dspec_IsSound_l14, Pspec_IsSound_l14 @spec_IsSound_l14 n)] R) (loopIn 9 (bodyOf Try.f66)) := .eq (l := [.lo (loopIn 14 (bodyOf Try.f66))]) (by kernel_rfl) ⟨(lkspec_IsSound_l14 n R _ (at_id (i := 14) (by kernel_rfl) rfl)), trivial⟩
theorem lkspec_IsSound_l9 (n : Nat) (R : Type) (L0 : LK R) (h0 : ∀ id, firstRegion (loopIn 9 (bodyOf Try.f66)) = some id → L0 id = Dspec_IsSound_l9.oracle (mkK [(60, Kspec_GoodNet @spec_GoodNet n), (132, Kspec_l3One @spec_l3One n), (133, Kspec_l3From @spec_l3From n), (134, Kspec_l3Same @spec_l3Same n), (126, Kspec_l3Fire @spec_l3Fire n), (135, Kspec_l3At @spec_l3At n)] R) (Pspec_IsSound_l9 @spec_IsSound_l9 n R)) : LoopOk Try.prog L0 (loopIn 9 (bodyOf Try.f66)) :=
  lespec_IsSound_l9.ok mixed ttok (fun n => mkK_nat (cspec_IsSound n)) (fun n => mkK_ok (cspec_IsSound n)) (fun n => inspec_IsSound_l9 n R) (mkK_nat (cspec_IsSound n)) h0
@[reducible] def Sspec_IsSound_l24 : PkS := ⟨[.one (.whole (100000, 0)), .one (.int .i64), .one (.int .i64), .one (.dead)], [((100000, 0), .arr .bool)]⟩
@[reducible] def Tspec_IsSound_l24_0 : PkS := ⟨[.one (.bool), .one (.bool), .one (.dead)], []⟩
@[reducible] def Tspec_IsSound_l24_1 : PkS := ⟨[.one (.dead)], []⟩
def Dspec_IsSound_l24 : LoopD := ⟨114, [105, 106, 107], [.one (.own .bool), .one .any, .one .any, .skip], fun x => match x with
  | .ret => some ([2, 3], [.one .any, .one .any, .skip])
  | .exit 4 => some ([], [.skip])
  | _ => none⟩
def Pspec_IsSound_l24 (g : ∀ {R : Type}, Nat → Int → Int → (List Bool) → (Bool → Bool → Option R) → (Option R) → Option R) (n : Nat) : LPs := fun R q kk => match (PkS.un Sspec_IsSound_l24 q : Option (Int × Int × (List Bool) × Unit)) with
  | some (y24_0, y24_1, y24_2, _) => g n y24_0 y24_1 y24_2 (fun r0 r1 => kk .ret (PkS.pack Tspec_IsSound_l24_0 (r0, r1, ()))) (kk (.exit 4) (PkS.pack Tspec_IsSound_l24_1 ()))
  | none => none
theorem espec_IsSound_l24 (spec_GoodNet : ∀ {R : Type}, Nat → Int → (List (List Int × List Int)) → (Bool → Option R) → Option R) (spec_l3One : ∀ {R : Type}, Nat → Int → Int → ((List Int) → Option R) → Option R) (spec_l3From : ∀ {R : Type}, Nat → Int → (List (List Int × List Int)) → (List Int) → ((List (List Int)) → (List (List Int)) → Bool → Option R) → Option R) (spec_l3Same : ∀ {R : Type}, Nat → (List Int) → (List Int) → (Bool → Option R) → Option R) (spec_l3Fire : ∀ {R : Type}, Nat → (List Int) → (List Int) → (List Int) → ((List Int) → Bool → Option R) → Option R) (spec_l3At : ∀ {R : Type}, Nat → (List (List Int)) → (List Int) → (Int → Option R) → Option R) (spec_IsSound_l14 : ∀ {R : Type}, Nat → (List Int) → (List (List Int)) → Int → Int → (List (List Int × List Int)) → Int → Int → Int → (List (List Int × List Int)) → (List Int) → (List Bool) → ((List Int) → (List (List Int)) → Int → Int → Int → (List (List Int × List Int)) → (List Int) → (List Bool) → Option R) → Option R) (spec_IsSound_l9 : ∀ {R : Type}, Nat → (List (List Int)) → Int → Int → Int → (List (List Int × List Int)) → (List Int) → (List Bool) → (Bool → Bool → Option R) → ((List Bool) → Option R) → Option R) (spec_IsSound_l24 : ∀ {R : Type}, Nat → Int → Int → (List Bool) → (Bool → Bool → Option R) → (Option R) → Option R) {R : Type} (n : Nat) (y24_0 : Int) (y24_1 : Int) (y24_2 : List Bool) (kk : Ex → Pk → Option R) : Dspec_IsSound_l24.step tt sig (mkK [(60, Kspec_GoodNet @spec_GoodNet n), (132, Kspec_l3One @spec_l3One n), (133, Kspec_l3From @spec_l3From n), (134, Kspec_l3Same @spec_l3Same n), (126, Kspec_l3Fire @spec_l3Fire n), (135, Kspec_l3At @spec_l3At n)] R) (mkL (mkK [(60, Kspec_GoodNet @spec_GoodNet n), (132, Kspec_l3One @spec_l3One n), (133, Kspec_l3From @spec_l3From n), (134, Kspec_l3Same @spec_l3Same n), (126, Kspec_l3Fire @spec_l3Fire n), (135, Kspec_l3At @spec_l3At n)]) [(14, Dspec_IsSound_l14, Pspec_IsSound_l14 @spec_IsSound_l14 n), (9, Dspec_IsSound_l9, Pspec_IsSound_l9 @spec_IsSound_l9 n)] R) (loopIn 24 (bodyOf Try.f66)) (fun q' => Pspec_IsSound_l24 @spec_IsSound_l24 n R q' kk) (PkS.pack Sspec_IsSound_l24 (y24_0, y24_1, y24_2, ())) kk = (fun (kret : Bool → Bool → Option R) (kexit4 : Option R) => (bif (decide (y24_1 < y24_0)) then (bif decide (0 ≤ y24_1) then (bif decide (y24_1 < (y24_2.length : Int)) then (bif (!(y24_2.getD (Int.toNat y24_1) false)) then kret false true else spec_IsSound_l24 n y24_0 (IntKind.wrap .i64 (y24_1 + 1)) y24_2 kret kexit4) else none) else none) else kexit4)) (fun r0 r1 => kk .ret (PkS.pack Tspec_IsSound_l24_0 (r0, r1, ()))) (kk (.exit 4) (PkS.pack Tspec_IsSound_l24_1 ())) := by kernel_rfl
theorem lespec_IsSound_l24 : LoopEq tt sig (fun n => mkK [(60, Kspec_GoodNet @spec_GoodNet n), (132, Kspec_l3One @spec_l3One n), (133, Kspec_l3From @spec_l3From n), (134, Kspec_l3Same @spec_l3Same n), (126, Kspec_l3Fire @spec_l3Fire n), (135, Kspec_l3At @spec_l3At n)]) (fun n => mkL (mkK [(60, Kspec_GoodNet @spec_GoodNet n), (132, Kspec_l3One @spec_l3One n), (133, Kspec_l3From @spec_l3From n), (134, Kspec_l3Same @spec_l3Same n), (126, Kspec_l3Fire @spec_l3Fire n), (135, Kspec_l3At @spec_l3At n)]) [(14, Dspec_IsSound_l14, Pspec_IsSound_l14 @spec_IsSound_l14 n), (9, Dspec_IsSound_l9, Pspec_IsSound_l9 @spec_IsSound_l9 n)]) Dspec_IsSound_l24 Sspec_IsSound_l24 (loopIn 24 (bodyOf Try.f66)) (Pspec_IsSound_l24 @spec_IsSound_l24) where
  zero R q kk := by unfold Pspec_IsSound_l24; cases (PkS.un Sspec_IsSound_l24 q) <;> rfl
  succ n R q kk := by
    unfold Pspec_IsSound_l24
    cases h : (PkS.un Sspec_IsSound_l24 q) with
    | none => rfl
    | some d =>
      obtain ⟨y24_0, y24_1, y24_2, u⟩ := (d : Int × Int × (List Bool) × Unit)
      have hp := PkS.un_pack h
      subst hp
      exact (espec_IsSound_l24 @spec_GoodNet @spec_l3One @spec_l3From @spec_l3Same @spec_l3Fire @spec_l3At @spec_IsSound_l14 @spec_IsSound_l9 @spec_IsSound_l24 n y24_0 y24_1 y24_2 kk).symm
theorem nlspec_IsSound_l24 : ∀ n, NatLP (Pspec_IsSound_l24 @spec_IsSound_l24 n) := lespec_IsSound_l24.nat (fun n => mkK_nat (cspec_IsSound n)) fun n => mkL_nat (mkK_nat (cspec_IsSound n)) (l := [(14, Dspec_IsSound_l14, Pspec_IsSound_l14 @spec_IsSound_l14 n), (9, Dspec_IsSound_l9, Pspec_IsSound_l9 @spec_IsSound_l9 n)]) ⟨nlspec_IsSound_l14 n, ⟨nlspec_IsSound_l9 n, trivial⟩⟩
theorem inspec_IsSound_l24 (n : Nat) (R : Type) : LoopsOk Try.prog (mkL (mkK [(60, Kspec_GoodNet @spec_GoodNet n), (132, Kspec_l3One @spec_l3One n), (133, Kspec_l3From @spec_l3From n), (134, Kspec_l3Same @spec_l3Same n), (126, Kspec_l3Fire @spec_l3Fire n), (135, Kspec_l3At @spec_l3At n)]) [(14, Dspec_IsSound_l14, Pspec_IsSound_l14 @spec_IsSound_l14 n), (9, Dspec_IsSound_l9, Pspec_IsSound_l9 @spec_IsSound_l9 n)] R) (loopIn 24 (bodyOf Try.f66)) := .eq (l := []) (by kernel_rfl) trivial
theorem lkspec_IsSound_l24 (n : Nat) (R : Type) (L0 : LK R) (h0 : ∀ id, firstRegion (loopIn 24 (bodyOf Try.f66)) = some id → L0 id = Dspec_IsSound_l24.oracle (mkK [(60, Kspec_GoodNet @spec_GoodNet n), (132, Kspec_l3One @spec_l3One n), (133, Kspec_l3From @spec_l3From n), (134, Kspec_l3Same @spec_l3Same n), (126, Kspec_l3Fire @spec_l3Fire n), (135, Kspec_l3At @spec_l3At n)] R) (Pspec_IsSound_l24 @spec_IsSound_l24 n R)) : LoopOk Try.prog L0 (loopIn 24 (bodyOf Try.f66)) :=
  lespec_IsSound_l24.ok mixed ttok (fun n => mkK_nat (cspec_IsSound n)) (fun n => mkK_ok (cspec_IsSound n)) (fun n => inspec_IsSound_l24 n R) (mkK_nat (cspec_IsSound n)) h0
@[reducible] def Sspec_IsSound : PkS := ⟨[.agg [.int .i64, .ro (.pr (.sl (.int .i64)) (.sl (.int .i64)))]], []⟩
@[reducible] def Tspec_IsSound : PkS := ⟨[.tup [(false, [.bool]), (false, [.bool])], .one (.dead)], []⟩
def Hspec_IsSound : List Sh := [.tup [(false, [.any]), (false, [.any])], .skip]
def Kspec_IsSound (g : ∀ {R : Type}, Nat → Int → (List (List Int × List Int)) → (Bool → Bool → Option R) → Option R) (n : Nat) : KPs := fun R p k => match (PkS.un Sspec_IsSound p : Option (Int × (List (List Int × List Int)) × Unit)) with
  | some (x0, x1, _) => g n x0 x1 (fun r0 r1 => k (PkS.pack Tspec_IsSound (r0, r1, ())))
  | none => none
theorem espec_IsSound (spec_GoodNet : ∀ {R : Type}, Nat → Int → (List (List Int × List Int)) → (Bool → Option R) → Option R) (spec_l3One : ∀ {R : Type}, Nat → Int → Int → ((List Int) → Option R) → Option R) (spec_l3From : ∀ {R : Type}, Nat → Int → (List (List Int × List Int)) → (List Int) → ((List (List Int)) → (List (List Int)) → Bool → Option R) → Option R) (spec_l3Same : ∀ {R : Type}, Nat → (List Int) → (List Int) → (Bool → Option R) → Option R) (spec_l3Fire : ∀ {R : Type}, Nat → (List Int) → (List Int) → (List Int) → ((List Int) → Bool → Option R) → Option R) (spec_l3At : ∀ {R : Type}, Nat → (List (List Int)) → (List Int) → (Int → Option R) → Option R) (spec_IsSound_l14 : ∀ {R : Type}, Nat → (List Int) → (List (List Int)) → Int → Int → (List (List Int × List Int)) → Int → Int → Int → (List (List Int × List Int)) → (List Int) → (List Bool) → ((List Int) → (List (List Int)) → Int → Int → Int → (List (List Int × List Int)) → (List Int) → (List Bool) → Option R) → Option R) (spec_IsSound_l9 : ∀ {R : Type}, Nat → (List (List Int)) → Int → Int → Int → (List (List Int × List Int)) → (List Int) → (List Bool) → (Bool → Bool → Option R) → ((List Bool) → Option R) → Option R) (spec_IsSound_l24 : ∀ {R : Type}, Nat → Int → Int → (List Bool) → (Bool → Bool → Option R) → (Option R) → Option R) {R : Type} (n : Nat) (x0 : Int) (x1 : List (List Int × List Int)) (k : Pk → Option R) : evF tt sig (mkK [(60, Kspec_GoodNet @spec_GoodNet n), (132, Kspec_l3One @spec_l3One n), (133, Kspec_l3From @spec_l3From n), (134, Kspec_l3Same @spec_l3Same n), (126, Kspec_l3Fire @spec_l3Fire n), (135, Kspec_l3At @spec_l3At n)] R) (mkL (mkK [(60, Kspec_GoodNet @spec_GoodNet n), (132, Kspec_l3One @spec_l3One n), (133, Kspec_l3From @spec_l3From n), (134, Kspec_l3Same @spec_l3Same n), (126, Kspec_l3Fire @spec_l3Fire n), (135, Kspec_l3At @spec_l3At n)]) [(14, Dspec_IsSound_l14, Pspec_IsSound_l14 @spec_IsSound_l14 n), (9, Dspec_IsSound_l9, Pspec_IsSound_l9 @spec_IsSound_l9 n), (24, Dspec_IsSound_l24, Pspec_IsSound_l24 @spec_IsSound_l24 n)] R) Try.f66 Hspec_IsSound (PkS.pack Sspec_IsSound (x0, x1, ())) k = (fun (k : Bool → Bool → Option R) => (spec_GoodNet n x0 x1 fun r1 => (bif (!r1) then k false false else (bif (decide (x0 < 2)) then k false false else (spec_l3One n x0 (IntKind.wrap .i64 (x0 - 1)) fun r2 => (spec_l3One n x0 0 fun r3 => (spec_l3From n x0 x1 r3 fun r4 r5 r6 => (bif (!r6) then k false false else (bif decide (0 ≤ (x1.length : Int)) then (bif decide ((x1.length : Int) ≤ (x1.length : Int)) then (bif decide ((x1.length : Int) ≤ 1099511627776) then (spec_IsSound_l9 n r4 (r4.length : Int) 0 x0 x1 r2 (List.replicate (Int.toNat (x1.length : Int)) false) (fun r34 r35 => k r34 r35) (fun r36 => (spec_IsSound_l24 n (r36.length : Int) 0 r36 (fun r37 r38 => k r37 r38) (k true true)))) else none) else none) else none))))))))) (fun r0 r1 => k (PkS.pack Tspec_IsSound (r0, r1, ()))) := by kernel_rfl
theorem okspec_IsSound (n : Nat) : FnOk Try.prog 66 (Kspec_IsSound @spec_IsSound n) := by
  refine fn_ok (sig := sig) mixed ttok (mkK_nat (cspec_IsSound n)) (mkK_ok (cspec_IsSound n)) (mkL_nat (mkK_nat (cspec_IsSound n)) (l := [(14, Dspec_IsSound_l14, Pspec_IsSound_l14 @spec_IsSound_l14 n), (9, Dspec_IsSound_l9, Pspec_IsSound_l9 @spec_IsSound_l9 n), (24, Dspec_IsSound_l24, Pspec_IsSound_l24 @spec_IsSound_l24 n)]) ⟨nlspec_IsSound_l14 n, ⟨nlspec_IsSound_l9 n, ⟨nlspec_IsSound_l24 n, trivial⟩⟩⟩) (fn := Try.f66) (c := bodyOf Try.f66) (by kernel_rfl) (by kernel_rfl) (by kernel_rfl) (.eq (l := [.lo (loopIn 9 (bodyOf Try.f66)), .lo (loopIn 24 (bodyOf Try.f66))]) (by kernel_rfl) ⟨(lkspec_IsSound_l9 n _ _ (at_id (i := 9) (by kernel_rfl) rfl)), ⟨(lkspec_IsSound_l24 n _ _ (at_id (i := 24) (by kernel_rfl) rfl)), trivial⟩⟩) (shs := Hspec_IsSound) (S := Sspec_IsSound) (h1 := by kernel_rfl) fun R p k => ?_
  unfold Kspec_IsSound
  cases h : (PkS.un Sspec_IsSound p) with
  | none => rfl
  | some d =>
    obtain ⟨x0, x1, u⟩ := (d : Int × (List (List Int × List Int)) × Unit)
    have hp := PkS.un_pack h
    subst hp
    exact (espec_IsSound @spec_GoodNet @spec_l3One @spec_l3From @spec_l3Same @spec_l3Fire @spec_l3At @spec_IsSound_l14 @spec_IsSound_l9 @spec_IsSound_l24 n x0 x1 k).symm

/-! ### loop.example/g00269/impl.PlayNet$1 -/
theorem cimpl_PlayNet_c1 (n : Nat) : AllOk Try.prog [(80, Kimpl_in @impl_in n)] := ⟨okimpl_in n, trivial⟩
@[reducible] def Simpl_PlayNet_c1 : PkS := ⟨[.one (.int .i64), .one (.box (200000, 0) 0)], [((200000, 0), .box [.int .i64, .ro (.pr (.sl (.int .i64)) (.sl (.int .i64)))])]⟩
@[reducible] def Timpl_PlayNet_c1 : PkS := ⟨[.one (.bool), .one (.dead), .one (.box (300000, 0) 0)], [((300000, 0), .box [.int .i64, .ro (.pr (.sl (.int .i64)) (.sl (.int .i64)))])]⟩
def Himpl_PlayNet_c1 : List Sh := [.one .any, .skip, .box [.any, (.ro (.pr (.sl (.int .i64)) (.sl (.int .i64))))]]
def Kimpl_PlayNet_c1 (g : ∀ {R : Type}, Nat → Int → Int → (List (List Int × List Int)) → (Bool → Int → (List (List Int × List Int)) → Option R) → Option R) (n : Nat) : KPs := fun R p k => match (PkS.un Simpl_PlayNet_c1 p : Option (Int × Int × (List (List Int × List Int)) × Unit)) with
  | some (x0, x1, x2, _) => g n x0 x1 x2 (fun r0 r1 r2 => k (PkS.pack Timpl_PlayNet_c1 (r0, r1, r2, ())))
  | none => none
theorem eimpl_PlayNet_c1 (impl_in : ∀ {R : Type}, Nat → Int → Int → Int → (Bool → Option R) → Option R) {R : Type} (n : Nat) (x0 : Int) (x1 : Int) (x2 : List (List Int × List Int)) (k : Pk → Option R) : evF tt sig (mkK [(80, Kimpl_in @impl_in n)] R) (mkL (mkK [(80, Kimpl_in @impl_in n)]) [] R) Try.f121 Himpl_PlayNet_c1 (PkS.pack Simpl_PlayNet_c1 (x0, x1, x2, ())) k = (fun (k : Bool → Int → (List (List Int × List Int)) → Option R) => (impl_in n x0 0 (IntKind.wrap .i64 ((x2.length : Int) - 1)) fun r1 => k (!r1) x1 x2)) (fun r0 r1 r2 => k (PkS.pack Timpl_PlayNet_c1 (r0, r1, r2, ()))) := by kernel_rfl
theorem okimpl_PlayNet_c1 (n : Nat) : FnOk Try.prog 121 (Kimpl_PlayNet_c1 @impl_PlayNet_c1 n) := by
  refine fn_ok (sig := sig) mixed ttok (mkK_nat (cimpl_PlayNet_c1 n)) (mkK_ok (cimpl_PlayNet_c1 n)) (mkL_nat (mkK_nat (cimpl_PlayNet_c1 n)) (l := []) trivial) (fn := Try.f121) (c := bodyOf Try.f121) (by kernel_rfl) (by kernel_rfl) (by kernel_rfl) (.eq (l := []) (by kernel_rfl) trivial) (shs := Himpl_PlayNet_c1) (S := Simpl_PlayNet_c1) (h1 := by kernel_rfl) fun R p k => ?_
  unfold Kimpl_PlayNet_c1
  cases h : (PkS.un Simpl_PlayNet_c1 p) with
  | none => rfl
  | some d =>
    obtain ⟨x0, x1, x2, u⟩ := (d : Int × Int × (List (List Int × List Int)) × Unit)
    have hp := PkS.un_pack h
    subst hp
    exact (eimpl_PlayNet_c1 @impl_in n x0 x1 x2 k).symm

/-! ### slices.IndexFunc[[]int,int] -/
theorem cslices_IndexFunc_int_impl_PlayNet_c1 (n : Nat) : AllOk Try.prog [(121, Kimpl_PlayNet_c1 @impl_PlayNet_c1 n)] := ⟨okimpl_PlayNet_c1 n, trivial⟩
@[reducible] def Sslices_IndexFunc_int_impl_PlayNet_c1_l2 : PkS := ⟨[.one (.ro (.int .i64)), .one (.fn 121 [((100000, 0), 0)]), .one (.int .i64), .one (.int .i64), .one (.dead), .one (.fn 121 [((100000, 0), 0)])], [((100000, 0), .box [.int .i64, .ro (.pr (.sl (.int .i64)) (.sl (.int .i64)))])]⟩
@[reducible] def Tslices_IndexFunc_int_impl_PlayNet_c1_l2_0 : PkS := ⟨[.one (.int .i64), .one (.dead), .one (.fn 121 [((100000, 0), 0)])], [((100000, 0), .box [.int .i64, .ro (.pr (.sl (.int .i64)) (.sl (.int .i64)))])]⟩
@[reducible] def Tslices_IndexFunc_int_impl_PlayNet_c1_l2_1 : PkS := ⟨[.one (.dead), .one (.fn 121 [((100000, 0), 0)])], [((100000, 0), .box [.int .i64, .ro (.pr (.sl (.int .i64)) (.sl (.int .i64)))])]⟩
def Dslices_IndexFunc_int_impl_PlayNet_c1_l2 : LoopD := ⟨19, [0, 1, 7, 8], [.one (.ro (.int .i64)), .fn 121 [[.any, (.ro (.pr (.sl (.int .i64)) (.sl (.int .i64))))]], .one .any, .one .any, .skip, .fn 121 [[.any, (.ro (.pr (.sl (.int .i64)) (.sl (.int .i64))))]]], fun x => match x with
  | .ret => some ([4], [.one .any, .skip, .fn 121 [[.any, (.ro (.pr (.sl (.int .i64)) (.sl (.int .i64))))]]])
  | .exit 0 => some ([], [.skip, .fn 121 [[.any, (.ro (.pr (.sl (.int .i64)) (.sl (.int .i64))))]]])
  | _ => none⟩
def Pslices_IndexFunc_int_impl_PlayNet_c1_l2 (g : ∀ {R : Type}, Nat → (List Int) → Int → Int → Int → (List (List Int × List Int)) → (Int → Int → (List (List Int × List Int)) → Option R) → (Int → (List (List Int × List Int)) → Option R) → Option R) (n : Nat) : LPs := fun R q kk => match (PkS.un Sslices_IndexFunc_int_impl_PlayNet_c1_l2 q : Option ((List Int) × Int × Int × Int × (List (List Int × List Int)) × Unit)) with
  | some (y2_0, y2_1, y2_2, y2_3, y2_4, _) => g n y2_0 y2_1 y2_2 y2_3 y2_4 (fun r0 r1 r2 => kk .ret (PkS.pack Tslices_IndexFunc_int_impl_PlayNet_c1_l2_0 (r0, r1, r2, ()))) (fun r0 r1 => kk (.exit 0) (PkS.pack Tslices_IndexFunc_int_impl_PlayNet_c1_l2_1 (r0, r1, ())))
  | none => none
theorem eslices_IndexFunc_int_impl_PlayNet_c1_l2 (impl_PlayNet_c1 : ∀ {R : Type}, Nat → Int → Int → (List (List Int × List Int)) → (Bool → Int → (List (List Int × List Int)) → Option R) → Option R) (slices_IndexFunc_int_impl_PlayNet_c1_l2 : ∀ {R : Type}, Nat → (List Int) → Int → Int → Int → (List (List Int × List Int)) → (Int → Int → (List (List Int × List Int)) → Option R) → (Int → (List (List Int × List Int)) → Option R) → Option R) {R : Type} (n : Nat) (y2_0 : List Int) (y2_1 : Int) (y2_2 : Int) (y2_3 : Int) (y2_4 : List (List Int × List Int)) (kk : Ex → Pk → Option R) : Dslices_IndexFunc_int_impl_PlayNet_c1_l2.step tt sig (mkK [(121, Kimpl_PlayNet_c1 @impl_PlayNet_c1 n)] R) (mkL (mkK [(121, Kimpl_PlayNet_c1 @impl_PlayNet_c1 n)]) [] R) (loopIn 2 (bodyOf Try.f157)) (fun q' => Pslices_IndexFunc_int_impl_PlayNet_c1_l2 @slices_IndexFunc_int_impl_PlayNet_c1_l2 n R q' kk) (PkS.pack Sslices_IndexFunc_int_impl_PlayNet_c1_l2 (y2_0, y2_1, y2_2, y2_3, y2_4, ())) kk = (fun (kret : Int → Int → (List (List Int × List Int)) → Option R) (kexit0 : Int → (List (List Int × List Int)) → Option R) => (bif (decide (y2_2 < y2_1)) then (bif decide (0 ≤ y2_2) then (bif decide (y2_2 < (y2_0.length : Int)) then (impl_PlayNet_c1 n (y2_0.getD (Int.toNat y2_2) 0) y2_3 y2_4 fun r1 r2 r3 => (bif r1 then kret y2_2 r2 r3 else slices_IndexFunc_int_impl_PlayNet_c1_l2 n y2_0 y2_1 (IntKind.wrap .i64 (y2_2 + 1)) r2 r3 kret kexit0)) else none) else none) else kexit0 y2_3 y2_4)) (fun r0 r1 r2 => kk .ret (PkS.pack Tslices_IndexFunc_int_impl_PlayNet_c1_l2_0 (r0, r1, r2, ()))) (fun r0 r1 => kk (.exit 0) (PkS.pack Tslices_IndexFunc_int_impl_PlayNet_c1_l2_1 (r0, r1, ()))) := by kernel_rfl
theorem leslices_IndexFunc_int_impl_PlayNet_c1_l2 : LoopEq tt sig (fun n => mkK [(121, Kimpl_PlayNet_c1 @impl_PlayNet_c1 n)]) (fun n => mkL (mkK [(121, Kimpl_PlayNet_c1 @impl_PlayNet_c1 n)]) []) Dslices_IndexFunc_int_impl_PlayNet_c1_l2 Sslices_IndexFunc_int_impl_PlayNet_c1_l2 (loopIn 2 (bodyOf Try.f157)) (Pslices_IndexFunc_int_impl_PlayNet_c1_l2 @slices_IndexFunc_int_impl_PlayNet_c1_l2) where
  zero R q kk := by unfold Pslices_IndexFunc_int_impl_PlayNet_c1_l2; cases (PkS.un Sslices_IndexFunc_int_impl_PlayNet_c1_l2 q) <;> rfl
  succ n R q kk := by
    unfold Pslices_IndexFunc_int_impl_PlayNet_c1_l2
    cases h : (PkS.un Sslices_IndexFunc_int_impl_PlayNet_c1_l2 q) with
    | none => rfl
    | some d =>
      obtain ⟨y2_0, y2_1, y2_2, y2_3, y2_4, u⟩ := (d : (List Int) × Int × Int × Int × (List (List Int × List Int)) × Unit)
      have hp := PkS.un_pack h
      subst hp
      exact (eslices_IndexFunc_int_impl_PlayNet_c1_l2 @impl_PlayNet_c1 @slices_IndexFunc_int_impl_PlayNet_c1_l2 n y2_0 y2_1 y2_2 y2_3 y2_4 kk).symm
theorem nlslices_IndexFunc_int_impl_PlayNet_c1_l2 : ∀ n, NatLP (Pslices_IndexFunc_int_impl_PlayNet_c1_l2 @slices_IndexFunc_int_impl_PlayNet_c1_l2 n) := leslices_IndexFunc_int_impl_PlayNet_c1_l2.nat (fun n => mkK_nat (cslices_IndexFunc_int_impl_PlayNet_c1 n)) fun n => mkL_nat (mkK_nat (cslices_IndexFunc_int_impl_PlayNet_c1 n)) (l := []) trivial
theorem inslices_IndexFunc_int_impl_PlayNet_c1_l2 (n : Nat) (R : Type) : LoopsOk Try.prog (mkL (mkK [(121, Kimpl_PlayNet_c1 @impl_PlayNet_c1 n)]) [] R) (loopIn 2 (bodyOf Try.f157)) := .eq (l := []) (by kernel_rfl) trivial
theorem lkslices_IndexFunc_int_impl_PlayNet_c1_l2 (n : Nat) (R : Type) (L0 : LK R) (h0 : ∀ id, firstRegion (loopIn 2 (bodyOf Try.f157)) = some id → L0 id = Dslices_IndexFunc_int_impl_PlayNet_c1_l2.oracle (mkK [(121, Kimpl_PlayNet_c1 @impl_PlayNet_c1 n)] R) (Pslices_IndexFunc_int_impl_PlayNet_c1_l2 @slices_IndexFunc_int_impl_PlayNet_c1_l2 n R)) : LoopOk Try.prog L0 (loopIn 2 (bodyOf Try.f157)) :=
  leslices_IndexFunc_int_impl_PlayNet_c1_l2.ok mixed ttok (fun n => mkK_nat (cslices_IndexFunc_int_impl_PlayNet_c1 n)) (fun n => mkK_ok (cslices_IndexFunc_int_impl_PlayNet_c1 n)) (fun n => inslices_IndexFunc_int_impl_PlayNet_c1_l2 n R) (mkK_nat (cslices_IndexFunc_int_impl_PlayNet_c1 n)) h0
@[reducible] def Sslices_IndexFunc_int_impl_PlayNet_c1 : PkS := ⟨[.one (.ro (.int .i64)), .one (.fn 121 [((200000, 0), 0)])], [((200000, 0), .box [.int .i64, .ro (.pr (.sl (.int .i64)) (.sl (.int .i64)))])]⟩
@[reducible] def Tslices_IndexFunc_int_impl_PlayNet_c1 : PkS := ⟨[.one (.int .i64), .one (.dead), .one (.fn 121 [((300000, 0), 0)])], [((300000, 0), .box [.int .i64, .ro (.pr (.sl (.int .i64)) (.sl (.int .i64)))])]⟩
def Hslices_IndexFunc_int_impl_PlayNet_c1 : List Sh := [.one .any, .skip, .fn 121 [[.any, (.ro (.pr (.sl (.int .i64)) (.sl (.int .i64))))]]]
def Kslices_IndexFunc_int_impl_PlayNet_c1 (g : ∀ {R : Type}, Nat → (List Int) → Int → (List (List Int × List Int)) → (Int → Int → (List (List Int × List Int)) → Option R) → Option R) (n : Nat) : KPs := fun R p k => match (PkS.un Sslices_IndexFunc_int_impl_PlayNet_c1 p : Option ((List Int) × Int × (List (List Int × List Int)) × Unit)) with
  | some (x0, x1, x2, _) => g n x0 x1 x2 (fun r0 r1 r2 => k (PkS.pack Tslices_IndexFunc_int_impl_PlayNet_c1 (r0, r1, r2, ())))
  | none => none
theorem eslices_IndexFunc_int_impl_PlayNet_c1 (impl_PlayNet_c1 : ∀ {R : Type}, Nat → Int → Int → (List (List Int × List Int)) → (Bool → Int → (List (List Int × List Int)) → Option R) → Option R) (slices_IndexFunc_int_impl_PlayNet_c1_l2 : ∀ {R : Type}, Nat → (List Int) → Int → Int → Int → (List (List Int × List Int)) → (Int → Int → (List (List Int × List Int)) → Option R) → (Int → (List (List Int × List Int)) → Option R) → Option R) {R : Type} (n : Nat) (x0 : List Int) (x1 : Int) (x2 : List (List Int × List Int)) (k : Pk → Option R) : evF tt sig (mkK [(121, Kimpl_PlayNet_c1 @impl_PlayNet_c1 n)] R) (mkL (mkK [(121, Kimpl_PlayNet_c1 @impl_PlayNet_c1 n)]) [(2, Dslices_IndexFunc_int_impl_PlayNet_c1_l2, Pslices_IndexFunc_int_impl_PlayNet_c1_l2 @slices_IndexFunc_int_impl_PlayNet_c1_l2 n)] R) Try.f157 Hslices_IndexFunc_int_impl_PlayNet_c1 (PkS.pack Sslices_IndexFunc_int_impl_PlayNet_c1 (x0, x1, x2, ())) k = (fun (k : Int → Int → (List (List Int × List Int)) → Option R) => (slices_IndexFunc_int_impl_PlayNet_c1_l2 n x0 (x0.length : Int) 0 x1 x2 (fun r4 r5 r6 => k r4 r5 r6) (fun r7 r8 => k (-1) r7 r8))) (fun r0 r1 r2 => k (PkS.pack Tslices_IndexFunc_int_impl_PlayNet_c1 (r0, r1, r2, ()))) := by kernel_rfl
theorem okslices_IndexFunc_int_impl_PlayNet_c1 (n : Nat) : FnOk Try.prog 157 (Kslices_IndexFunc_int_impl_PlayNet_c1 @slices_IndexFunc_int_impl_PlayNet_c1 n) := by
  refine fn_ok (sig := sig) mixed ttok (mkK_nat (cslices_IndexFunc_int_impl_PlayNet_c1 n)) (mkK_ok (cslices_IndexFunc_int_impl_PlayNet_c1 n)) (mkL_nat (mkK_nat (cslices_IndexFunc_int_impl_PlayNet_c1 n)) (l := [(2, Dslices_IndexFunc_int_impl_PlayNet_c1_l2, Pslices_IndexFunc_int_impl_PlayNet_c1_l2 @slices_IndexFunc_int_impl_PlayNet_c1_l2 n)]) ⟨nlslices_IndexFunc_int_impl_PlayNet_c1_l2 n, trivial⟩) (fn := Try.f157) (c := bodyOf Try.f157) (by kernel_rfl) (by kernel_rfl) (by kernel_rfl) (.eq (l := [.lo (loopIn 2 (bodyOf Try.f157))]) (by kernel_rfl) ⟨(lkslices_IndexFunc_int_impl_PlayNet_c1_l2 n _ _ (at_id (i := 2) (by kernel_rfl) rfl)), trivial⟩) (shs := Hslices_IndexFunc_int_impl_PlayNet_c1) (S := Sslices_IndexFunc_int_impl_PlayNet_c1) (h1 := by kernel_rfl) fun R p k => ?_
  unfold Kslices_IndexFunc_int_impl_PlayNet_c1
  cases h : (PkS.un Sslices_IndexFunc_int_impl_PlayNet_c1 p) with
  | none => rfl
  | some d =>
    obtain ⟨x0, x1, x2, u⟩ := (d : (List Int) × Int × (List (List Int × List Int)) × Unit)
    have hp := PkS.un_pack h
    subst hp
    exact (eslices_IndexFunc_int_impl_PlayNet_c1 @impl_PlayNet_c1 @slices_IndexFunc_int_impl_PlayNet_c1_l2 n x0 x1 x2 k).symm

/-! ### slices.ContainsFunc[[]int,int] -/
theorem cslices_ContainsFunc_int_impl_PlayNet_c1 (n : Nat) : AllOk Try.prog [(157, Kslices_IndexFunc_int_impl_PlayNet_c1 @slices_IndexFunc_int_impl_PlayNet_c1 n)] := ⟨okslices_IndexFunc_int_impl_PlayNet_c1 n, trivial⟩
@[reducible] def Sslices_ContainsFunc_int_impl_PlayNet_c1 : PkS := ⟨[.one (.ro (.int .i64)), .one (.fn 121 [((200000, 0), 0)])], [((200000, 0), .box [.int .i64, .ro (.pr (.sl (.int .i64)) (.sl (.int .i64)))])]⟩
@[reducible] def Tslices_ContainsFunc_int_impl_PlayNet_c1 : PkS := ⟨[.one (.bool), .one (.dead), .one (.fn 121 [((300000, 0), 0)])], [((300000, 0), .box [.int .i64, .ro (.pr (.sl (.int .i64)) (.sl (.int .i64)))])]⟩
def Hslices_ContainsFunc_int_impl_PlayNet_c1 : List Sh := [.one .any, .skip, .fn 121 [[.any, (.ro (.pr (.sl (.int .i64)) (.sl (.int .i64))))]]]
def Kslices_ContainsFunc_int_impl_PlayNet_c1 (g : ∀ {R : Type}, Nat → (List Int) → Int → (List (List Int × List Int)) → (Bool → Int → (List (List Int × List Int)) → Option R) → Option R) (n : Nat) : KPs := fun R p k => match (PkS.un Sslices_ContainsFunc_int_impl_PlayNet_c1 p : Option ((List Int) × Int × (List (List Int × List Int)) × Unit)) with
  | some (x0, x1, x2, _) => g n x0 x1 x2 (fun r0 r1 r2 => k (PkS.pack Tslices_ContainsFunc_int_impl_PlayNet_c1 (r0, r1, r2, ())))
  | none => none
theorem eslices_ContainsFunc_int_impl_PlayNet_c1 (slices_IndexFunc_int_impl_PlayNet_c1 : ∀ {R : Type}, Nat → (List Int) → Int → (List (List Int × List Int)) → (Int → Int → (List (List Int × List Int)) → Option R) → Option R) {R : Type} (n : Nat) (x0 : List Int) (x1 : Int) (x2 : List (List Int × List Int)) (k : Pk → Option R) : evF tt sig (mkK [(157, Kslices_IndexFunc_int_impl_PlayNet_c1 @slices_IndexFunc_int_impl_PlayNet_c1 n)] R) (mkL (mkK [(157, Kslices_IndexFunc_int_impl_PlayNet_c1 @slices_IndexFunc_int_impl_PlayNet_c1 n)]) [] R) Try.f120 Hslices_ContainsFunc_int_impl_PlayNet_c1 (PkS.pack Sslices_ContainsFunc_int_impl_PlayNet_c1 (x0, x1, x2, ())) k = (fun (k : Bool → Int → (List (List Int × List Int)) → Option R) => (slices_IndexFunc_int_impl_PlayNet_c1 n x0 x1 x2 fun r1 r2 r3 => k (decide (r1 ≥ 0)) r2 r3)) (fun r0 r1 r2 => k (PkS.pack Tslices_ContainsFunc_int_impl_PlayNet_c1 (r0, r1, r2, ()))) := by kernel_rfl
theorem okslices_ContainsFunc_int_impl_PlayNet_c1 (n : Nat) : FnOk Try.prog 120 (Kslices_ContainsFunc_int_impl_PlayNet_c1 @slices_ContainsFunc_int_impl_PlayNet_c1 n) := by
  refine fn_ok (sig := sig) mixed ttok (mkK_nat (cslices_ContainsFunc_int_impl_PlayNet_c1 n)) (mkK_ok (cslices_ContainsFunc_int_impl_PlayNet_c1 n)) (mkL_nat (mkK_nat (cslices_ContainsFunc_int_impl_PlayNet_c1 n)) (l := []) trivial) (fn := Try.f120) (c := bodyOf Try.f120) (by kernel_rfl) (by kernel_rfl) (by kernel_rfl) (.eq (l := []) (by kernel_rfl) trivial) (shs := Hslices_ContainsFunc_int_impl_PlayNet_c1) (S := Sslices_ContainsFunc_int_impl_PlayNet_c1) (h1 := by kernel_rfl) fun R p k => ?_
  unfold Kslices_ContainsFunc_int_impl_PlayNet_c1
  cases h : (PkS.un Sslices_ContainsFunc_int_impl_PlayNet_c1 p) with
  | none => rfl
  | some d =>
    obtain ⟨x0, x1, x2, u⟩ := (d : (List Int) × Int × (List (List Int × List Int)) × Unit)
    have hp := PkS.un_pack h
    subst hp
    exact (eslices_ContainsFunc_int_impl_PlayNet_c1 @slices_IndexFunc_int_impl_PlayNet_c1 n x0 x1 x2 k).symm

/-! ### loop.example/g00269/impl.markOk -/
theorem cimpl_markOk (n : Nat) : AllOk Try.prog [(59, Kimpl_GoodNet @impl_GoodNet n), (127, Kimpl_isMarking @impl_isMarking n)] := ⟨okimpl_GoodNet n, ⟨okimpl_isMarking n, trivial⟩⟩
@[reducible] def Simpl_markOk : PkS := ⟨[.agg [.int .i64, .ro (.pr (.sl (.int .i64)) (.sl (.int .i64)))], .one (.ro (.int .i64))], []⟩
@[reducible] def Timpl_markOk : PkS := ⟨[.one (.bool), .one (.dead), .one (.dead)], []⟩
def Himpl_markOk : List Sh := [.one .any, .skip, .skip]
def Kimpl_markOk (g : ∀ {R : Type}, Nat → Int → (List (List Int × List Int)) → (List Int) → (Bool → Option R) → Option R) (n : Nat) : KPs := fun R p k => match (PkS.un Simpl_markOk p : Option (Int × (List (List Int × List Int)) × (List Int) × Unit)) with
  | some (x0, x1, x2, _) => g n x0 x1 x2 (fun r0 => k (PkS.pack Timpl_markOk (r0, ())))
  | none => none
theorem eimpl_markOk (impl_GoodNet : ∀ {R : Type}, Nat → Int → (List (List Int × List Int)) → (Bool → Option R) → Option R) (impl_isMarking : ∀ {R : Type}, Nat → (List Int) → Int → (Bool → Option R) → Option R) {R : Type} (n : Nat) (x0 : Int) (x1 : List (List Int × List Int)) (x2 : List Int) (k : Pk → Option R) : evF tt sig (mkK [(59, Kimpl_GoodNet @impl_GoodNet n), (127, Kimpl_isMarking @impl_isMarking n)] R) (mkL (mkK [(59, Kimpl_GoodNet @impl_GoodNet n), (127, Kimpl_isMarking @impl_isMarking n)]) [] R) Try.f122 Himpl_markOk (PkS.pack Simpl_markOk (x0, x1, x2, ())) k = (fun (k : Bool → Option R) => (impl_GoodNet n x0 x1 fun r1 => (bif r1 then (impl_isMarking n x2 x0 fun r2 => k r2) else k false))) (fun r0 => k (PkS.pack Timpl_markOk (r0, ()))) := by kernel_rfl
theorem okimpl_markOk (n : Nat) : FnOk Try.prog 122 (Kimpl_markOk @impl_markOk n) := by
  refine fn_ok (sig := sig) mixed ttok (mkK_nat (cimpl_markOk n)) (mkK_ok (cimpl_markOk n)) (mkL_nat (mkK_nat (cimpl_markOk n)) (l := []) trivial) (fn := Try.f122) (c := bodyOf Try.f122) (by kernel_rfl) (by kernel_rfl) (by kernel_rfl) (.eq (l := []) (by kernel_rfl) trivial) (shs := Himpl_markOk) (S := Simpl_markOk) (h1 := by kernel_rfl) fun R p k => ?_
  unfold Kimpl_markOk
  cases h : (PkS.un Simpl_markOk p) with
  | none => rfl
  | some d =>
    obtain ⟨x0, x1, x2, u⟩ := (d : Int × (List (List Int × List Int)) × (List Int) × Unit)
    have hp := PkS.un_pack h
    subst hp
    exact (eimpl_markOk @impl_GoodNet @impl_isMarking n x0 x1 x2 k).symm

/-! ### loop.example/g00269/impl.PlayNet -/
theorem cimpl_PlayNet (n : Nat) : AllOk Try.prog [(120, Kslices_ContainsFunc_int_impl_PlayNet_c1 @slices_ContainsFunc_int_impl_PlayNet_c1 n), (122, Kimpl_markOk @impl_markOk n), (123, Kslices_Clone_int @slices_Clone_int n), (124, Kimpl_Net_fired @impl_Net_fired n)] := ⟨okslices_ContainsFunc_int_impl_PlayNet_c1 n, ⟨okimpl_markOk n, ⟨okslices_Clone_int n, ⟨okimpl_Net_fired n, trivial⟩⟩⟩⟩
@[reducible] def Simpl_PlayNet_l6 : PkS := ⟨[.one (.box (100000, 0) 0), .one (.ro (.int .i64)), .one (.int .i64), .one (.ro (.int .i64)), .one (.int .i64), .one (.int .i64), .one (.dead), .one (.dead), .one (.dead)], [((100000, 0), .box [.int .i64, .ro (.pr (.sl (.int .i64)) (.sl (.int .i64)))])]⟩
@[reducible] def Timpl_PlayNet_l6_0 : PkS := ⟨[.one (.ro (.int .i64)), .one (.int .i64), .one (.dead), .one (.dead), .one (.dead)], []⟩
def Dimpl_PlayNet_l6 : LoopD := ⟨52, [3, 10, 11, 33, 34, 35], [.box [.any, (.ro (.pr (.sl (.int .i64)) (.sl (.int .i64))))], .one (.ro (.int .i64)), .one .any, .one (.ro (.int .i64)), .one .any, .one .any, .skip, .skip, .skip], fun x => match x with
  | .exit 0 => some ([10, 11], [.one (.ro (.int .i64)), .one .any, .skip, .skip, .skip])
  | _ => none⟩
def Pimpl_PlayNet_l6 (g : ∀ {R : Type}, Nat → (List Int) → Int → (List Int) → Int → Int → Int → (List (List Int × List Int)) → ((List Int) → Int → Option R) → Option R) (n : Nat) : LPs := fun R q kk => match (PkS.un Simpl_PlayNet_l6 q : Option ((List Int) × Int × (List Int) × Int × Int × Int × (List (List Int × List Int)) × Unit)) with
  | some (y6_0, y6_1, y6_2, y6_3, y6_4, y6_5, y6_6, _) => g n y6_0 y6_1 y6_2 y6_3 y6_4 y6_5 y6_6 (fun r0 r1 => kk (.exit 0) (PkS.pack Timpl_PlayNet_l6_0 (r0, r1, ())))
  | none => none
theorem eimpl_PlayNet_l6 (slices_ContainsFunc_int_impl_PlayNet_c1 : ∀ {R : Type}, Nat → (List Int) → Int → (List (List Int × List Int)) → (Bool → Int → (List (List Int × List Int)) → Option R) → Option R) (impl_markOk : ∀ {R : Type}, Nat → Int → (List (List Int × List Int)) → (List Int) → (Bool → Option R) → Option R) (slices_Clone_int : ∀ {R : Type}, Nat → (List Int) → ((List Int) → Option R) → Option R) (impl_Net_fired : ∀ {R : Type}, Nat → (List Int) → Int → Int → (List (List Int × List Int)) → (Bool → (List Int) → Int → (List (List Int × List Int)) → Option R) → Option R) (impl_PlayNet_l6 : ∀ {R : Type}, Nat → (List Int) → Int → (List Int) → Int → Int → Int → (List (List Int × List Int)) → ((List Int) → Int → Option R) → Option R) {R : Type} (n : Nat) (y6_0 : List Int) (y6_1 : Int) (y6_2 : List Int) (y6_3 : Int) (y6_4 : Int) (y6_5 : Int) (y6_6 : List (List Int × List Int)) (kk : Ex → Pk → Option R) : Dimpl_PlayNet_l6.step tt sig (mkK [(120, Kslices_ContainsFunc_int_impl_PlayNet_c1 @slices_ContainsFunc_int_impl_PlayNet_c1 n), (122, Kimpl_markOk @impl_markOk n), (123, Kslices_Clone_int @slices_Clone_int n), (124, Kimpl_Net_fired @impl_Net_fired n)] R) (mkL (mkK [(120, Kslices_ContainsFunc_int_impl_PlayNet_c1 @slices_ContainsFunc_int_impl_PlayNet_c1 n), (122, Kimpl_markOk @impl_markOk n), (123, Kslices_Clone_int @slices_Clone_int n), (124, Kimpl_Net_fired @impl_Net_fired n)]) [] R) (loopIn 6 (bodyOf Try.f61)) (fun q' => Pimpl_PlayNet_l6 @impl_PlayNet_l6 n R q' kk) (PkS.pack Simpl_PlayNet_l6 (y6_0, y6_1, y6_2, y6_3, y6_4, y6_5, y6_6, ())) kk = (fun (kexit0 : (List Int) → Int → Option R) => (bif (decide (y6_4 < y6_3)) then (bif decide (0 ≤ y6_4) then (bif decide (y6_4 < (y6_2.length : Int)) then (impl_Net_fired n y6_0 (y6_2.getD (Int.toNat y6_4) 0) y6_5 y6_6 fun r6 r7 r8 r9 => (bif r6 then impl_PlayNet_l6 n r7 (IntKind.wrap .i64 (y6_1 + 1)) y6_2 y6_3 (IntKind.wrap .i64 (y6_4 + 1)) r8 r9 kexit0 else impl_PlayNet_l6 n y6_0 y6_1 y6_2 y6_3 (IntKind.wrap .i64 (y6_4 + 1)) r8 r9 kexit0)) else none) else none) else kexit0 y6_0 y6_1)) (fun r0 r1 => kk (.exit 0) (PkS.pack Timpl_PlayNet_l6_0 (r0, r1, ()))) := by kernel_rfl
theorem leimpl_PlayNet_l6 : LoopEq tt sig (fun n => mkK [(120, Kslices_ContainsFunc_int_impl_PlayNet_c1 @slices_ContainsFunc_int_impl_PlayNet_c1 n), (122, Kimpl_markOk @impl_markOk n), (123, Kslices_Clone_int @slices_Clone_int n), (124, Kimpl_Net_fired @impl_Net_fired n)]) (fun n => mkL (mkK [(120, Kslices_ContainsFunc_int_impl_PlayNet_c1 @slices_ContainsFunc_int_impl_PlayNet_c1 n), (122, Kimpl_markOk @impl_markOk n), (123, Kslices_Clone_int @slices_Clone_int n), (124, Kimpl_Net_fired @impl_Net_fired n)]) []) Dimpl_PlayNet_l6 Simpl_PlayNet_l6 (loopIn 6 (bodyOf Try.f61)) (Pimpl_PlayNet_l6 @impl_PlayNet_l6) where
  zero R q kk := by unfold Pimpl_PlayNet_l6; cases (PkS.un Simpl_PlayNet_l6 q) <;> rfl
  succ n R q kk := by
    unfold Pimpl_PlayNet_l6
    cases h : (PkS.un Simpl_PlayNet_l6 q) with
    | none => rfl
    | some d =>
      obtain ⟨y6_0, y6_1, y6_2, y6_3, y6_4, y6_5, y6_6, u⟩ := (d : (List Int) × Int × (List Int) × Int × Int × Int × (List (List Int × List Int)) × Unit)
      have hp := PkS.un_pack h
      subst hp
      exact (eimpl_PlayNet_l6 @slices_ContainsFunc_int_impl_PlayNet_c1 @impl_markOk @slices_Clone_int @impl_Net_fired @impl_PlayNet_l6 n y6_0 y6_1 y6_2 y6_3 y6_4 y6_5 y6_6 kk).symm
theorem nlimpl_PlayNet_l6 : ∀ n, NatLP (Pimpl_PlayNet_l6 @impl_PlayNet_l6 n) := leimpl_PlayNet_l6.nat (fun n => mkK_nat (cimpl_PlayNet n)) fun n => mkL_nat (mkK_nat (cimpl_PlayNet n)) (l := []) trivial
theorem inimpl_PlayNet_l6 (n : Nat) (R : Type) : LoopsOk Try.prog (mkL (mkK [(120, Kslices_ContainsFunc_int_impl_PlayNet_c1 @slices_ContainsFunc_int_impl_PlayNet_c1 n), (122, Kimpl_markOk @impl_markOk n), (123, Kslices_Clone_int @slices_Clone_int n), (124, Kimpl_Net_fired @impl_Net_fired n)]) [] R) (loopIn 6 (bodyOf Try.f61)) := .eq (l := []) (by kernel_rfl) trivial
theorem lkimpl_PlayNet_l6 (n : Nat) (R : Type) (L0 : LK R) (h0 : ∀ id, firstRegion (loopIn 6 (bodyOf Try.f61)) = some id → L0 id = Dimpl_PlayNet_l6.oracle (mkK [(120, Kslices_ContainsFunc_int_impl_PlayNet_c1 @slices_ContainsFunc_int_impl_PlayNet_c1 n), (122, Kimpl_markOk @impl_markOk n), (123, Kslices_Clone_int @slices_Clone_int n), (124, Kimpl_Net_fired @impl_Net_fired n)] R) (Pimpl_PlayNet_l6 @impl_PlayNet_l6 n R)) : LoopOk Try.prog L0 (loopIn 6 (bodyOf Try.f61)) :=
  leimpl_PlayNet_l6.ok mixed ttok (fun n => mkK_nat (cimpl_PlayNet n)) (fun n => mkK_ok (cimpl_PlayNet n)) (fun n => inimpl_PlayNet_l6 n R) (mkK_nat (cimpl_PlayNet n)) h0
@[reducible] def Simpl_PlayNet : PkS := ⟨[.agg [.int .i64, .ro (.pr (.sl (.int .i64)) (.sl (.int .i64)))], .one (.ro (.int .i64)), .one (.ro (.int .i64))], []⟩
@[reducible] def Timpl_PlayNet : PkS := ⟨[.tup [(false, [.ro (.int .i64)]), (false, [.int .i64]), (false, [.bool])], .one (.dead), .one (.dead), .one (.dead)], []⟩
def Himpl_PlayNet : List Sh := [.tup [(false, [(.ro (.int .i64))]), (false, [.any]), (false, [.any])], .skip, .skip, .skip]
def Kimpl_PlayNet (g : ∀ {R : Type}, Nat → Int → (List (List Int × List Int)) → (List Int) → (List Int) → ((List Int) → Int → Bool → Option R) → Option R) (n : Nat) : KPs := fun R p k => match (PkS.un Simpl_PlayNet p : Option (Int × (List (List Int × List Int)) × (List Int) × (List Int) × Unit)) with
  | some (x0, x1, x2, x3, _) => g n x0 x1 x2 x3 (fun r0 r1 r2 => k (PkS.pack Timpl_PlayNet (r0, r1, r2, ())))
  | none => none
theorem eimpl_PlayNet (slices_ContainsFunc_int_impl_PlayNet_c1 : ∀ {R : Type}, Nat → (List Int) → Int → (List (List Int × List Int)) → (Bool → Int → (List (List Int × List Int)) → Option R) → Option R) (impl_markOk : ∀ {R : Type}, Nat → Int → (List (List Int × List Int)) → (List Int) → (Bool → Option R) → Option R) (slices_Clone_int : ∀ {R : Type}, Nat → (List Int) → ((List Int) → Option R) → Option R) (impl_Net_fired : ∀ {R : Type}, Nat → (List Int) → Int → Int → (List (List Int × List Int)) → (Bool → (List Int) → Int → (List (List Int × List Int)) → Option R) → Option R) (impl_PlayNet_l6 : ∀ {R : Type}, Nat → (List Int) → Int → (List Int) → Int → Int → Int → (List (List Int × List Int)) → ((List Int) → Int → Option R) → Option R) {R : Type} (n : Nat) (x0 : Int) (x1 : List (List Int × List Int)) (x2 : List Int) (x3 : List Int) (k : Pk → Option R) : evF tt sig (mkK [(120, Kslices_ContainsFunc_int_impl_PlayNet_c1 @slices_ContainsFunc_int_impl_PlayNet_c1 n), (122, Kimpl_markOk @impl_markOk n), (123, Kslices_Clone_int @slices_Clone_int n), (124, Kimpl_Net_fired @impl_Net_fired n)] R) (mkL (mkK [(120, Kslices_ContainsFunc_int_impl_PlayNet_c1 @slices_ContainsFunc_int_impl_PlayNet_c1 n), (122, Kimpl_markOk @impl_markOk n), (123, Kslices_Clone_int @slices_Clone_int n), (124, Kimpl_Net_fired @impl_Net_fired n)]) [(6, Dimpl_PlayNet_l6, Pimpl_PlayNet_l6 @impl_PlayNet_l6 n)] R) Try.f61 Himpl_PlayNet (PkS.pack Simpl_PlayNet (x0, x1, x2, x3, ())) k = (fun (k : (List Int) → Int → Bool → Option R) => (slices_ContainsFunc_int_impl_PlayNet_c1 n x3 x0 x1 fun r1 r2 r3 => (impl_markOk n r2 r3 x2 fun r4 => (bif (!r4) then k ([] : List Int) 0 false else (bif (decide ((x3.length : Int) > 200)) then k ([] : List Int) 0 false else (bif r1 then k ([] : List Int) 0 false else (slices_Clone_int n x2 fun r5 => (impl_PlayNet_l6 n r5 0 x3 (x3.length : Int) 0 r2 r3 (fun r10 r11 => k r10 r11 true))))))))) (fun r0 r1 r2 => k (PkS.pack Timpl_PlayNet (r0, r1, r2, ()))) := by kernel_rfl
theorem okimpl_PlayNet (n : Nat) : FnOk Try.prog 61 (Kimpl_PlayNet @impl_PlayNet n) := by
  refine fn_ok (sig := sig) mixed ttok (mkK_nat (cimpl_PlayNet n)) (mkK_ok (cimpl_PlayNet n)) (mkL_nat (mkK_nat (cimpl_PlayNet n)) (l := [(6, Dimpl_PlayNet_l6, Pimpl_PlayNet_l6 @impl_PlayNet_l6 n)]) ⟨nlimpl_PlayNet_l6 n, trivial⟩) (fn := Try.f61) (c := bodyOf Try.f61) (by kernel_rfl) (by kernel_rfl) (by kernel_rfl) (.eq (l := [.lo (loopIn 6 (bodyOf Try.f61))]) (by kernel_rfl) ⟨(lkimpl_PlayNet_l6 n _ _ (at_id (i := 6) (by kernel_rfl) rfl)), trivial⟩) (shs := Himpl_PlayNet) (S := Simpl_PlayNet) (h1 := by kernel_rfl) fun R p k => ?_
  unfold Kimpl_PlayNet
  cases h : (PkS.un Simpl_PlayNet p) with
  | none => rfl
  | some d =>
    obtain ⟨x0, x1, x2, x3, u⟩ := (d : Int × (List (List Int × List Int)) × (List Int) × (List Int) × Unit)
    have hp := PkS.un_pack h
    subst hp
    exact (eimpl_PlayNet @slices_ContainsFunc_int_impl_PlayNet_c1 @impl_markOk @slices_Clone_int @impl_Net_fired @impl_PlayNet_l6 n x0 x1 x2 x3 k).symm

/-! ### loop.example/g00269/impl.FinishFrom$1 -/
theorem cimpl_FinishFrom_c1 (n : Nat) : AllOk Try.prog [(138, Kslices_Equal_int @slices_Equal_int n)] := ⟨okslices_Equal_int n, trivial⟩
@[reducible] def Simpl_FinishFrom_c1 : PkS := ⟨[.one (.ro (.int .i64)), .one (.box (200000, 1) 0)], [((200000, 0), .arr (.int .i64)), ((200000, 1), .box [.whole (200000, 0)])]⟩
@[reducible] def Timpl_FinishFrom_c1 : PkS := ⟨[.one (.bool), .one (.dead), .one (.box (300000, 1) 0)], [((300000, 0), .arr (.int .i64)), ((300000, 1), .box [.whole (300000, 0)])]⟩
def Himpl_FinishFrom_c1 : List Sh := [.one .any, .skip, .box [(.own (.int .i64))]]
def Kimpl_FinishFrom_c1 (g : ∀ {R : Type}, Nat → (List Int) → (List Int) → (Bool → (List Int) → Option R) → Option R) (n : Nat) : KPs := fun R p k => match (PkS.un Simpl_FinishFrom_c1 p : Option ((List Int) × (List Int) × Unit)) with
  | some (x0, x1, _) => g n x0 x1 (fun r0 r1 => k (PkS.pack Timpl_FinishFrom_c1 (r0, r1, ())))
  | none => none
theorem eimpl_FinishFrom_c1 (slices_Equal_int : ∀ {R : Type}, Nat → (List Int) → (List Int) → (Bool → Option R) → Option R) {R : Type} (n : Nat) (x0 : List Int) (x1 : List Int) (k : Pk → Option R) : evF tt sig (mkK [(138, Kslices_Equal_int @slices_Equal_int n)] R) (mkL (mkK [(138, Kslices_Equal_int @slices_Equal_int n)]) [] R) Try.f137 Himpl_FinishFrom_c1 (PkS.pack Simpl_FinishFrom_c1 (x0, x1, ())) k = (fun (k : Bool → (List Int) → Option R) => (slices_Equal_int n x0 x1 fun r1 => k r1 x1)) (fun r0 r1 => k (PkS.pack Timpl_FinishFrom_c1 (r0, r1, ()))) := by kernel_rfl
theorem okimpl_FinishFrom_c1 (n : Nat) : FnOk Try.prog 137 (Kimpl_FinishFrom_c1 @impl_FinishFrom_c1 n) := by
  refine fn_ok (sig := sig) mixed ttok (mkK_nat (cimpl_FinishFrom_c1 n)) (mkK_ok (cimpl_FinishFrom_c1 n)) (mkL_nat (mkK_nat (cimpl_FinishFrom_c1 n)) (l := []) trivial) (fn := Try.f137) (c := bodyOf Try.f137) (by kernel_rfl) (by kernel_rfl) (by kernel_rfl) (.eq (l := []) (by kernel_rfl) trivial) (shs := Himpl_FinishFrom_c1) (S := Simpl_FinishFrom_c1) (h1 := by kernel_rfl) fun R p k => ?_
  unfold Kimpl_FinishFrom_c1
  cases h : (PkS.un Simpl_FinishFrom_c1 p) with
  | none => rfl
  | some d =>
    obtain ⟨x0, x1, u⟩ := (d : (List Int) × (List Int) × Unit)
    have hp := PkS.un_pack h
    subst hp
    exact (eimpl_FinishFrom_c1 @slices_Equal_int n x0 x1 k).symm

/-! ### slices.IndexFunc[[][]int,[]int] -/
theorem cslices_IndexFunc_int_impl_FinishFrom_c1 (n : Nat) : AllOk Try.prog [(137, Kimpl_FinishFrom_c1 @impl_FinishFrom_c1 n)] := ⟨okimpl_FinishFrom_c1 n, trivial⟩
@[reducible] def Sslices_IndexFunc_int_impl_FinishFrom_c1_l2 : PkS := ⟨[.one (.ro (.sl (.int .i64))), .one (.fn 137 [((100000, 1), 0)]), .one (.int .i64), .one (.int .i64), .one (.dead), .one (.fn 137 [((100000, 1), 0)])], [((100000, 0), .arr (.int .i64)), ((100000, 1), .box [.whole (100000, 0)])]⟩
@[reducible] def Tslices_IndexFunc_int_impl_FinishFrom_c1_l2_0 : PkS := ⟨[.one (.int .i64), .one (.dead), .one (.fn 137 [((100000, 1), 0)])], [((100000, 0), .arr (.int .i64)), ((100000, 1), .box [.whole (100000, 0)])]⟩
@[reducible] def Tslices_IndexFunc_int_impl_FinishFrom_c1_l2_1 : PkS := ⟨[.one (.dead), .one (.fn 137 [((100000, 1), 0)])], [((100000, 0), .arr (.int .i64)), ((100000, 1), .box [.whole (100000, 0)])]⟩
def Dslices_IndexFunc_int_impl_FinishFrom_c1_l2 : LoopD := ⟨19, [0, 1, 7, 8], [.one (.ro (.sl (.int .i64))), .fn 137 [[(.own (.int .i64))]], .one .any, .one .any, .skip, .fn 137 [[(.own (.int .i64))]]], fun x => match x with
  | .ret => some ([4], [.one .any, .skip, .fn 137 [[(.own (.int .i64))]]])
  | .exit 0 => some ([], [.skip, .fn 137 [[(.own (.int .i64))]]])
  | _ => none⟩
def Pslices_IndexFunc_int_impl_FinishFrom_c1_l2 (g : ∀ {R : Type}, Nat → (List (List Int)) → Int → Int → (List Int) → (Int → (List Int) → Option R) → ((List Int) → Option R) → Option R) (n : Nat) : LPs := fun R q kk => match (PkS.un Sslices_IndexFunc_int_impl_FinishFrom_c1_l2 q : Option ((List (List Int)) × Int × Int × (List Int) × Unit)) with
  | some (y2_0, y2_1, y2_2, y2_3, _) => g n y2_0 y2_1 y2_2 y2_3 (fun r0 r1 => kk .ret (PkS.pack Tslices_IndexFunc_int_impl_FinishFrom_c1_l2_0 (r0, r1, ()))) (fun r0 => kk (.exit 0) (PkS.pack Tslices_IndexFunc_int_impl_FinishFrom_c1_l2_1 (r0, ())))
  | none => none
theorem eslices_IndexFunc_int_impl_FinishFrom_c1_l2 (impl_FinishFrom_c1 : ∀ {R : Type}, Nat → (List Int) → (List Int) → (Bool → (List Int) → Option R) → Option R) (slices_IndexFunc_int_impl_FinishFrom_c1_l2 : ∀ {R : Type}, Nat → (List (List Int)) → Int → Int → (List Int) → (Int → (List Int) → Option R) → ((List Int) → Option R) → Option R) {R : Type} (n : Nat) (y2_0 : List (List Int)) (y2_1 : Int) (y2_2 : Int) (y2_3 : List Int) (kk : Ex → Pk → Option R) : Dslices_IndexFunc_int_impl_FinishFrom_c1_l2.step tt sig (mkK [(137, Kimpl_FinishFrom_c1 @impl_FinishFrom_c1 n)] R) (mkL (mkK [(137, Kimpl_FinishFrom_c1 @impl_FinishFrom_c1 n)]) [] R) (loopIn 2 (bodyOf Try.f136)) (fun q' => Pslices_IndexFunc_int_impl_FinishFrom_c1_l2 @slices_IndexFunc_int_impl_FinishFrom_c1_l2 n R q' kk) (PkS.pack Sslices_IndexFunc_int_impl_FinishFrom_c1_l2 (y2_0, y2_1, y2_2, y2_3, ())) kk = (fun (kret : Int → (List Int) → Option R) (kexit0 : (List Int) → Option R) => (bif (decide (y2_2 < y2_1)) then (bif decide (0 ≤ y2_2) then (bif decide (y2_2 < (y2_0.length : Int)) then (impl_FinishFrom_c1 n (y2_0.getD (Int.toNat y2_2) []) y2_3 fun r1 r2 => (bif r1 then kret y2_2 r2 else slices_IndexFunc_int_impl_FinishFrom_c1_l2 n y2_0 y2_1 (IntKind.wrap .i64 (y2_2 + 1)) r2 kret kexit0)) else none) else none) else kexit0 y2_3)) (fun r0 r1 => kk .ret (PkS.pack Tslices_IndexFunc_int_impl_FinishFrom_c1_l2_0 (r0, r1, ()))) (fun r0 => kk (.exit 0) (PkS.pack Tslices_IndexFunc_int_impl_FinishFrom_c1_l2_1 (r0, ()))) := by kernel_rfl
theorem leslices_IndexFunc_int_impl_FinishFrom_c1_l2 : LoopEq tt sig (fun n => mkK [(137, Kimpl_FinishFrom_c1 @impl_FinishFrom_c1 n)]) (fun n => mkL (mkK [(137, Kimpl_FinishFrom_c1 @impl_FinishFrom_c1 n)]) []) Dslices_IndexFunc_int_impl_FinishFrom_c1_l2 Sslices_IndexFunc_int_impl_FinishFrom_c1_l2 (loopIn 2 (bodyOf Try.f136)) (Pslices_IndexFunc_int_impl_FinishFrom_c1_l2 @slices_IndexFunc_int_impl_FinishFrom_c1_l2) where
  zero R q kk := by unfold Pslices_IndexFunc_int_impl_FinishFrom_c1_l2; cases (PkS.un Sslices_IndexFunc_int_impl_FinishFrom_c1_l2 q) <;> rfl
  succ n R q kk := by
    unfold Pslices_IndexFunc_int_impl_FinishFrom_c1_l2
    cases h : (PkS.un Sslices_IndexFunc_int_impl_FinishFrom_c1_l2 q) with
    | none => rfl
    | some d =>
      obtain ⟨y2_0, y2_1, y2_2, y2_3, u⟩ := (d : (List (List Int)) × Int × Int × (List Int) × Unit)
      have hp := PkS.un_pack h
      subst hp
      exact (eslices_IndexFunc_int_impl_FinishFrom_c1_l2 @impl_FinishFrom_c1 @slices_IndexFunc_int_impl_FinishFrom_c1_l2 n y2_0 y2_1 y2_2 y2_3 kk).symm
theorem nlslices_IndexFunc_int_impl_FinishFrom_c1_l2 : ∀ n, NatLP (Pslices_IndexFunc_int_impl_FinishFrom_c1_l2 @slices_IndexFunc_int_impl_FinishFrom_c1_l2 n) := leslices_IndexFunc_int_impl_FinishFrom_c1_l2.nat (fun n => mkK_nat (cslices_IndexFunc_int_impl_FinishFrom_c1 n)) fun n => mkL_nat (mkK_nat (cslices_IndexFunc_int_impl_FinishFrom_c1 n)) (l := []) trivial
theorem inslices_IndexFunc_int_impl_FinishFrom_c1_l2 (n : Nat) (R : Type) : LoopsOk Try.prog (mkL (mkK [(137, Kimpl_FinishFrom_c1 @impl_FinishFrom_c1 n)]) [] R) (loopIn 2 (bodyOf Try.f136)) := .eq (l := []) (by kernel_rfl) trivial
theorem lkslices_IndexFunc_int_impl_FinishFrom_c1_l2 (n : Nat) (R : Type) (L0 : LK R) (h0 : ∀ id, firstRegion (loopIn 2 (bodyOf Try.f136)) = some id → L0 id = Dslices_IndexFunc_int_impl_FinishFrom_c1_l2.oracle (mkK [(137, Kimpl_FinishFrom_c1 @impl_FinishFrom_c1 n)] R) (Pslices_IndexFunc_int_impl_FinishFrom_c1_l2 @slices_IndexFunc_int_impl_FinishFrom_c1_l2 n R)) : LoopOk Try.prog L0 (loopIn 2 (bodyOf Try.f136)) :=
  leslices_IndexFunc_int_impl_FinishFrom_c1_l2.ok mixed ttok (fun n => mkK_nat (cslices_IndexFunc_int_impl_FinishFrom_c1 n)) (fun n => mkK_ok (cslices_IndexFunc_int_impl_FinishFrom_c1 n)) (fun n => inslices_IndexFunc_int_impl_FinishFrom_c1_l2 n R) (mkK_nat (cslices_IndexFunc_int_impl_FinishFrom_c1 n)) h0
@[reducible] def Sslices_IndexFunc_int_impl_FinishFrom_c1 : PkS := ⟨[.one (.ro (.sl (.int .i64))), .one (.fn 137 [((200000, 1), 0)])], [((200000, 0), .arr (.int .i64)), ((200000, 1), .box [.whole (200000, 0)])]⟩
@[reducible] def Tslices_IndexFunc_int_impl_FinishFrom_c1 : PkS := ⟨[.one (.int .i64), .one (.dead), .one (.fn 137 [((300000, 1), 0)])], [((300000, 0), .arr (.int .i64)), ((300000, 1), .box [.whole (300000, 0)])]⟩
def Hslices_IndexFunc_int_impl_FinishFrom_c1 : List Sh := [.one .any, .skip, .fn 137 [[(.own (.int .i64))]]]
def Kslices_IndexFunc_int_impl_FinishFrom_c1 (g : ∀ {R : Type}, Nat → (List (List Int)) → (List Int) → (Int → (List Int) → Option R) → Option R) (n : Nat) : KPs := fun R p k => match (PkS.un Sslices_IndexFunc_int_impl_FinishFrom_c1 p : Option ((List (List Int)) × (List Int) × Unit)) with
  | some (x0, x1, _) => g n x0 x1 (fun r0 r1 => k (PkS.pack Tslices_IndexFunc_int_impl_FinishFrom_c1 (r0, r1, ())))
  | none => none
theorem eslices_IndexFunc_int_impl_FinishFrom_c1 (impl_FinishFrom_c1 : ∀ {R : Type}, Nat → (List Int) → (List Int) → (Bool → (List Int) → Option R) → Option R) (slices_IndexFunc_int_impl_FinishFrom_c1_l2 : ∀ {R : Type}, Nat → (List (List Int)) → Int → Int → (List Int) → (Int → (List Int) → Option R) → ((List Int) → Option R) → Option R) {R : Type} (n : Nat) (x0 : List (List Int)) (x1 : List Int) (k : Pk → Option R) : evF tt sig (mkK [(137, Kimpl_FinishFrom_c1 @impl_FinishFrom_c1 n)] R) (mkL (mkK [(137, Kimpl_FinishFrom_c1 @impl_FinishFrom_c1 n)]) [(2, Dslices_IndexFunc_int_impl_FinishFrom_c1_l2, Pslices_IndexFunc_int_impl_FinishFrom_c1_l2 @slices_IndexFunc_int_impl_FinishFrom_c1_l2 n)] R) Try.f136 Hslices_IndexFunc_int_impl_FinishFrom_c1 (PkS.pack Sslices_IndexFunc_int_impl_FinishFrom_c1 (x0, x1, ())) k = (fun (k : Int → (List Int) → Option R) => (slices_IndexFunc_int_impl_FinishFrom_c1_l2 n x0 (x0.length : Int) 0 x1 (fun r3 r4 => k r3 r4) (fun r5 => k (-1) r5))) (fun r0 r1 => k (PkS.pack Tslices_IndexFunc_int_impl_FinishFrom_c1 (r0, r1, ()))) := by kernel_rfl
theorem okslices_IndexFunc_int_impl_FinishFrom_c1 (n : Nat) : FnOk Try.prog 136 (Kslices_IndexFunc_int_impl_FinishFrom_c1 @slices_IndexFunc_int_impl_FinishFrom_c1 n) := by
  refine fn_ok (sig := sig) mixed ttok (mkK_nat (cslices_IndexFunc_int_impl_FinishFrom_c1 n)) (mkK_ok (cslices_IndexFunc_int_impl_FinishFrom_c1 n)) (mkL_nat (mkK_nat (cslices_IndexFunc_int_impl_FinishFrom_c1 n)) (l := [(2, Dslices_IndexFunc_int_impl_FinishFrom_c1_l2, Pslices_IndexFunc_int_impl_FinishFrom_c1_l2 @slices_IndexFunc_int_impl_FinishFrom_c1_l2 n)]) ⟨nlslices_IndexFunc_int_impl_FinishFrom_c1_l2 n, trivial⟩) (fn := Try.f136) (c := bodyOf Try.f136) (by kernel_rfl) (by kernel_rfl) (by kernel_rfl) (.eq (l := [.lo (loopIn 2 (bodyOf Try.f136))]) (by kernel_rfl) ⟨(lkslices_IndexFunc_int_impl_FinishFrom_c1_l2 n _ _ (at_id (i := 2) (by kernel_rfl) rfl)), trivial⟩) (shs := Hslices_IndexFunc_int_impl_FinishFrom_c1) (S := Sslices_IndexFunc_int_impl_FinishFrom_c1) (h1 := by kernel_rfl) fun R p k => ?_
  unfold Kslices_IndexFunc_int_impl_FinishFrom_c1
  cases h : (PkS.un Sslices_IndexFunc_int_impl_FinishFrom_c1 p) with
  | none => rfl
  | some d =>
    obtain ⟨x0, x1, u⟩ := (d : (List (List Int)) × (List Int) × Unit)
    have hp := PkS.un_pack h
    subst hp
    exact (eslices_IndexFunc_int_impl_FinishFrom_c1 @impl_FinishFrom_c1 @slices_IndexFunc_int_impl_FinishFrom_c1_l2 n x0 x1 k).symm

/-! ### slices.Reverse[[]int,int] -/
theorem cslices_Reverse_int (n : Nat) : AllOk Try.prog [] := trivial
@[reducible] def Sslices_Reverse_int_l1 : PkS := ⟨[.one (.whole (100000, 0)), .one (.int .i64), .one (.int .i64), .one (.whole (100000, 0))], [((100000, 0), .arr (.int .i64))]⟩
@[reducible] def Tslices_Reverse_int_l1_0 : PkS := ⟨[.one (.whole (100000, 0))], [((100000, 0), .arr (.int .i64))]⟩
def Dslices_Reverse_int_l1 : LoopD := ⟨28, [0, 2, 3], [.one (.own (.int .i64)), .one .any, .one .any, .one (.own (.int .i64))], fun x => match x with
  | .exit 0 => some ([], [.one (.own (.int .i64))])
  | _ => none⟩
def Pslices_Reverse_int_l1 (g : ∀ {R : Type}, Nat → Int → Int → (List Int) → ((List Int) → Option R) → Option R) (n : Nat) : LPs := fun R q kk => match (PkS.un Sslices_Reverse_int_l1 q : Option (Int × Int × (List Int) × Unit)) with
  | some (y1_0, y1_1, y1_2, _) => g n y1_0 y1_1 y1_2 (fun r0 => kk (.exit 0) (PkS.pack Tslices_Reverse_int_l1_0 (r0, ())))
  | none => none
theorem eslices_Reverse_int_l1 (slices_Reverse_int_l1 : ∀ {R : Type}, Nat → Int → Int → (List Int) → ((List Int) → Option R) → Option R) {R : Type} (n : Nat) (y1_0 : Int) (y1_1 : Int) (y1_2 : List Int) (kk : Ex → Pk → Option R) : Dslices_Reverse_int_l1.step tt sig (mkK [] R) (mkL (mkK []) [] R) (loopIn 1 (bodyOf Try.f139)) (fun q' => Pslices_Reverse_int_l1 @slices_Reverse_int_l1 n R q' kk) (PkS.pack Sslices_Reverse_int_l1 (y1_0, y1_1, y1_2, ())) kk = (fun (kexit0 : (List Int) → Option R) => (bif (decide (y1_0 < y1_1)) then (bif decide (0 ≤ y1_1) then (bif decide (y1_1 < (y1_2.length : Int)) then (bif decide (0 ≤ y1_0) then (bif decide (y1_0 < (y1_2.length : Int)) then (bif decide (0 ≤ y1_0) then (bif decide (y1_0 < (y1_2.length : Int)) then (bif decide (0 ≤ y1_1) then (bif decide (y1_1 < ((y1_2.set (Int.toNat y1_0) (y1_2.getD (Int.toNat y1_1) 0)).length : Int)) then slices_Reverse_int_l1 n (IntKind.wrap .i64 (y1_0 + 1)) (IntKind.wrap .i64 (y1_1 - 1)) ((y1_2.set (Int.toNat y1_0) (y1_2.getD (Int.toNat y1_1) 0)).set (Int.toNat y1_1) (y1_2.getD (Int.toNat y1_0) 0)) kexit0 else none) else none) else none) else none) else none) else none) else none) else none) else kexit0 y1_2)) (fun r0 => kk (.exit 0) (PkS.pack Tslices_Reverse_int_l1_0 (r0, ()))) := by kernel_rfl
theorem leslices_Reverse_int_l1 : LoopEq tt sig (fun n => mkK []) (fun n => mkL (mkK []) []) Dslices_Reverse_int_l1 Sslices_Reverse_int_l1 (loopIn 1 (bodyOf Try.f139)) (Pslices_Reverse_int_l1 @slices_Reverse_int_l1) where
  zero R q kk := by unfold Pslices_Reverse_int_l1; cases (PkS.un Sslices_Reverse_int_l1 q) <;> rfl
  succ n R q kk := by
    unfold Pslices_Reverse_int_l1
    cases h : (PkS.un Sslices_Reverse_int_l1 q) with
    | none => rfl
    | some d =>
      obtain ⟨y1_0, y1_1, y1_2, u⟩ := (d : Int × Int × (List Int) × Unit)
      have hp := PkS.un_pack h
      subst hp
      exact (eslices_Reverse_int_l1 @slices_Reverse_int_l1 n y1_0 y1_1 y1_2 kk).symm
theorem nlslices_Reverse_int_l1 : ∀ n, NatLP (Pslices_Reverse_int_l1 @slices_Reverse_int_l1 n) := leslices_Reverse_int_l1.nat (fun n => mkK_nat (cslices_Reverse_int n)) fun n => mkL_nat (mkK_nat (cslices_Reverse_int n)) (l := []) trivial
theorem inslices_Reverse_int_l1 (n : Nat) (R : Type) : LoopsOk Try.prog (mkL (mkK []) [] R) (loopIn 1 (bodyOf Try.f139)) := .eq (l := []) (by kernel_rfl) trivial
theorem lkslices_Reverse_int_l1 (n : Nat) (R : Type) (L0 : LK R) (h0 : ∀ id, firstRegion (loopIn 1 (bodyOf Try.f139)) = some id → L0 id = Dslices_Reverse_int_l1.oracle (mkK [] R) (Pslices_Reverse_int_l1 @slices_Reverse_int_l1 n R)) : LoopOk Try.prog L0 (loopIn 1 (bodyOf Try.f139)) :=
  leslices_Reverse_int_l1.ok mixed ttok (fun n => mkK_nat (cslices_Reverse_int n)) (fun n => mkK_ok (cslices_Reverse_int n)) (fun n => inslices_Reverse_int_l1 n R) (mkK_nat (cslices_Reverse_int n)) h0
@[reducible] def Sslices_Reverse_int : PkS := ⟨[.one (.whole (200000, 0))], [((200000, 0), .arr (.int .i64))]⟩
@[reducible] def Tslices_Reverse_int : PkS := ⟨[.tup [], .one (.whole (300000, 0))], [((300000, 0), .arr (.int .i64))]⟩
def Hslices_Reverse_int : List Sh := [.tup [], .one (.own (.int .i64))]
def Kslices_Reverse_int (g : ∀ {R : Type}, Nat → (List Int) → ((List Int) → Option R) → Option R) (n : Nat) : KPs := fun R p k => match (PkS.un Sslices_Reverse_int p : Option ((List Int) × Unit)) with
  | some (x0, _) => g n x0 (fun r0 => k (PkS.pack Tslices_Reverse_int (r0, ())))
  | none => none
theorem eslices_Reverse_int (slices_Reverse_int_l1 : ∀ {R : Type}, Nat → Int → Int → (List Int) → ((List Int) → Option R) → Option R) {R : Type} (n : Nat) (x0 : List Int) (k : Pk → Option R) : evF tt sig (mkK [] R) (mkL (mkK []) [(1, Dslices_Reverse_int_l1, Pslices_Reverse_int_l1 @slices_Reverse_int_l1 n)] R) Try.f139 Hslices_Reverse_int (PkS.pack Sslices_Reverse_int (x0, ())) k = (fun (k : (List Int) → Option R) => (slices_Reverse_int_l1 n 0 (IntKind.wrap .i64 ((x0.length : Int) - 1)) x0 (fun r1 => k r1))) (fun r0 => k (PkS.pack Tslices_Reverse_int (r0, ()))) := by kernel_rfl
theorem okslices_Reverse_int (n : Nat) : FnOk Try.prog 139 (Kslices_Reverse_int @slices_Reverse_int n) := by
  refine fn_ok (sig := sig) mixed ttok (mkK_nat (cslices_Reverse_int n)) (mkK_ok (cslices_Reverse_int n)) (mkL_nat (mkK_nat (cslices_Reverse_int n)) (l := [(1, Dslices_Reverse_int_l1, Pslices_Reverse_int_l1 @slices_Reverse_int_l1 n)]) ⟨nlslices_Reverse_int_l1 n, trivial⟩) (fn := Try.f139) (c := bodyOf Try.f139) (by kernel_rfl) (by kernel_rfl) (by kernel_rfl) (.eq (l := [.lo (loopIn 1 (bodyOf Try.f139))]) (by kernel_rfl) ⟨(lkslices_Reverse_int_l1 n _ _ (at_id (i := 1) (by kernel_rfl) rfl)), trivial⟩) (shs := Hslices_Reverse_int) (S := Sslices_Reverse_int) (h1 := by kernel_rfl) fun R p k => ?_
  unfold Kslices_Reverse_int
  cases h : (PkS.un Sslices_Reverse_int p) with
  | none => rfl
  | some d =>
    obtain ⟨x0, u⟩ := (d : (List Int) × Unit)
    have hp := PkS.un_pack h
    subst hp
    exact (eslices_Reverse_int @slices_Reverse_int_l1 n x0 k).symm

/-! ### loop.example/g00269/impl.FinishFrom -/
theorem cimpl_FinishFrom (n : Nat) : AllOk Try.prog [(122, Kimpl_markOk @impl_markOk n), (129, Kimpl_marksFrom @impl_marksFrom n), (130, Kimpl_single @impl_single n), (136, Kslices_IndexFunc_int_impl_FinishFrom_c1 @slices_IndexFunc_int_impl_FinishFrom_c1 n), (139, Kslices_Reverse_int @slices_Reverse_int n)] := ⟨okimpl_markOk n, ⟨okimpl_marksFrom n, ⟨okimpl_single n, ⟨okslices_IndexFunc_int_impl_FinishFrom_c1 n, ⟨okslices_Reverse_int n, trivial⟩⟩⟩⟩⟩
@[reducible] def Simpl_FinishFrom_l11 : PkS := ⟨[.one (.relt (.pr (.sl (.sl (.int .i64))) (.pr (.sl (.int .i64)) (.sl (.int .i64))))), .one (.int .i64), .one (.whole (100000, 0)), .one (.dead), .one (.dead)], [((100000, 0), .arr (.int .i64))]⟩
@[reducible] def Timpl_FinishFrom_l11_0 : PkS := ⟨[.one (.whole (100000, 0)), .one (.dead), .one (.dead)], [((100000, 0), .arr (.int .i64))]⟩
def Dimpl_FinishFrom_l11 : LoopD := ⟨59, [6, 9, 10], [.one (.lend (.pr (.sl (.sl (.int .i64))) (.pr (.sl (.int .i64)) (.sl (.int .i64))))), .one .any, .one (.own (.int .i64)), .skip, .skip], fun x => match x with
  | .exit 0 => some ([10], [.one (.own (.int .i64)), .skip, .skip])
  | _ => none⟩
def Pimpl_FinishFrom_l11 (g : ∀ {R : Type}, Nat → (List (List Int) × List Int × List Int) → Int → (List Int) → ((List Int) → Option R) → Option R) (n : Nat) : LPs := fun R q kk => match (PkS.un Simpl_FinishFrom_l11 q : Option ((List (List Int) × List Int × List Int) × Int × (List Int) × Unit)) with
  | some (y11_0, y11_1, y11_2, _) => g n y11_0 y11_1 y11_2 (fun r0 => kk (.exit 0) (PkS.pack Timpl_FinishFrom_l11_0 (r0, ())))
  | none => none
theorem eimpl_FinishFrom_l11 (impl_markOk : ∀ {R : Type}, Nat → Int → (List (List Int × List Int)) → (List Int) → (Bool → Option R) → Option R) (impl_marksFrom : ∀ {R : Type}, Nat → (List Int) → Int → (List (List Int × List Int)) → (Bool → Int → (List (List Int × List Int)) → Option R) → ((List (List Int) × List Int × List Int) → Bool → Int → (List (List Int × List Int)) → Option R) → Option R) (impl_single : ∀ {R : Type}, Nat → Int → Int → ((List Int) → Option R) → Option R) (slices_IndexFunc_int_impl_FinishFrom_c1 : ∀ {R : Type}, Nat → (List (List Int)) → (List Int) → (Int → (List Int) → Option R) → Option R) (slices_Reverse_int : ∀ {R : Type}, Nat → (List Int) → ((List Int) → Option R) → Option R) (impl_FinishFrom_l11 : ∀ {R : Type}, Nat → (List (List Int) × List Int × List Int) → Int → (List Int) → ((List Int) → Option R) → Option R) {R : Type} (n : Nat) (y11_0 : List (List Int) × List Int × List Int) (y11_1 : Int) (y11_2 : List Int) (kk : Ex → Pk → Option R) : Dimpl_FinishFrom_l11.step tt sig (mkK [(122, Kimpl_markOk @impl_markOk n), (129, Kimpl_marksFrom @impl_marksFrom n), (130, Kimpl_single @impl_single n), (136, Kslices_IndexFunc_int_impl_FinishFrom_c1 @slices_IndexFunc_int_impl_FinishFrom_c1 n), (139, Kslices_Reverse_int @slices_Reverse_int n)] R) (mkL (mkK [(122, Kimpl_markOk @impl_markOk n), (129, Kimpl_marksFrom @impl_marksFrom n), (130, Kimpl_single @impl_single n), (136, Kslices_IndexFunc_int_impl_FinishFrom_c1 @slices_IndexFunc_int_impl_FinishFrom_c1 n), (139, Kslices_Reverse_int @slices_Reverse_int n)]) [] R) (loopIn 11 (bodyOf Try.f67)) (fun q' => Pimpl_FinishFrom_l11 @impl_FinishFrom_l11 n R q' kk) (PkS.pack Simpl_FinishFrom_l11 (y11_0, y11_1, y11_2, ())) kk = (fun (kexit0 : (List Int) → Option R) => (bif (decide (y11_1 > 0)) then (bif decide (0 ≤ y11_1) then (bif decide (y11_1 < (y11_0.2.2.length : Int)) then (bif decide (y11_2.length + ([(y11_0.2.2.getD (Int.toNat y11_1) 0)]).length ≤ LIM) then (bif decide (0 ≤ y11_1) then (bif decide (y11_1 < (y11_0.2.1.length : Int)) then impl_FinishFrom_l11 n y11_0 (y11_0.2.1.getD (Int.toNat y11_1) 0) (y11_2 ++ [(y11_0.2.2.getD (Int.toNat y11_1) 0)]) kexit0 else none) else none) else none) else none) else none) else kexit0 y11_2)) (fun r0 => kk (.exit 0) (PkS.pack Timpl_FinishFrom_l11_0 (r0, ()))) := by kernel_rfl
theorem leimpl_FinishFrom_l11 : LoopEq tt sig (fun n => mkK [(122, Kimpl_markOk @impl_markOk n), (129, Kimpl_marksFrom @impl_marksFrom n), (130, Kimpl_single @impl_single n), (136, Kslices_IndexFunc_int_impl_FinishFrom_c1 @slices_IndexFunc_int_impl_FinishFrom_c1 n), (139, Kslices_Reverse_int @slices_Reverse_int n)]) (fun n => mkL (mkK [(122, Kimpl_markOk @impl_markOk n), (129, Kimpl_marksFrom @impl_marksFrom n), (130, Kimpl_single @impl_single n), (136, Kslices_IndexFunc_int_impl_FinishFrom_c1 @slices_IndexFunc_int_impl_FinishFrom_c1 n), (139, Kslices_Reverse_int @slices_Reverse_int n)]) []) Dimpl_FinishFrom_l11 Simpl_FinishFrom_l11 (loopIn 11 (bodyOf Try.f67)) (Pimpl_FinishFrom_l11 @impl_FinishFrom_l11) where
  zero R q kk := by unfold Pimpl_FinishFrom_l11; cases (PkS.un Simpl_FinishFrom_l11 q) <;> rfl
  succ n R q kk := by
    unfold Pimpl_FinishFrom_l11
    cases h : (PkS.un Simpl_FinishFrom_l11 q) with
    | none => rfl
    | some d =>
      obtain ⟨y11_0, y11_1, y11_2, u⟩ := (d : (List (List Int) × List Int × List Int) × Int × (List Int) × Unit)
      have hp := PkS.un_pack h
      subst hp
      exact (eimpl_FinishFrom_l11 @impl_markOk @impl_marksFrom @impl_single @slices_IndexFunc_int_impl_FinishFrom_c1 @slices_Reverse_int @impl_FinishFrom_l11 n y11_0 y11_1 y11_2 kk).symm
theorem nlimpl_FinishFrom_l11 : ∀ n, NatLP (Pimpl_FinishFrom_l11 @impl_FinishFrom_l11 n) := leimpl_FinishFrom_l11.nat (fun n => mkK_nat (cimpl_FinishFrom n)) fun n => mkL_nat (mkK_nat (cimpl_FinishFrom n)) (l := []) trivial
theorem inimpl_FinishFrom_l11 (n : Nat) (R : Type) : LoopsOk Try.prog (mkL (mkK [(122, Kimpl_markOk @impl_markOk n), (129, Kimpl_marksFrom @impl_marksFrom n), (130, Kimpl_single @impl_single n), (136, Kslices_IndexFunc_int_impl_FinishFrom_c1 @slices_IndexFunc_int_impl_FinishFrom_c1 n), (139, Kslices_Reverse_int @slices_Reverse_int n)]) [] R) (loopIn 11 (bodyOf Try.f67)) := .eq (l := []) (by kernel_rfl) trivial
theorem lkimpl_FinishFrom_l11 (n : Nat) (R : Type) (L0 : LK R) (h0 : ∀ id, firstRegion (loopIn 11 (bodyOf Try.f67)) = some id → L0 id = Dimpl_FinishFrom_l11.oracle (mkK [(122, Kimpl_markOk @impl_markOk n), (129, Kimpl_marksFrom @impl_marksFrom n), (130, Kimpl_single @impl_single n), (136, Kslices_IndexFunc_int_impl_FinishFrom_c1 @slices_IndexFunc_int_impl_FinishFrom_c1 n), (139, Kslices_Reverse_int @slices_Reverse_int n)] R) (Pimpl_FinishFrom_l11 @impl_FinishFrom_l11 n R)) : LoopOk Try.prog L0 (loopIn 11 (bodyOf Try.f67)) :=
  leimpl_FinishFrom_l11.ok mixed ttok (fun n => mkK_nat (cimpl_FinishFrom n)) (fun n => mkK_ok (cimpl_FinishFrom n)) (fun n => inimpl_FinishFrom_l11 n R) (mkK_nat (cimpl_FinishFrom n)) h0
@[reducible] def Simpl_FinishFrom : PkS := ⟨[.agg [.int .i64, .ro (.pr (.sl (.int .i64)) (.sl (.int .i64)))], .one (.ro (.int .i64))], []⟩
@[reducible] def Timpl_FinishFrom : PkS := ⟨[.tup [(false, [.whole (300000, 0)]), (false, [.bool])], .one (.dead), .one (.dead)], [((300000, 0), .arr (.int .i64))]⟩
def Himpl_FinishFrom : List Sh := [.tup [(false, [(.own (.int .i64))]), (false, [.any])], .skip, .skip]
def Kimpl_FinishFrom (g : ∀ {R : Type}, Nat → Int → (List (List Int × List Int)) → (List Int) → (Bool → (List Int) → Option R) → Option R) (n : Nat) : KPs := fun R p k => match (PkS.un Simpl_FinishFrom p : Option (Int × (List (List Int × List Int)) × (List Int) × Unit)) with
  | some (x0, x1, x2, _) => g n x0 x1 x2 (fun r0 r1 => k (PkS.pack Timpl_FinishFrom (r0, r1, ())))
  | none => none
theorem eimpl_FinishFrom (impl_markOk : ∀ {R : Type}, Nat → Int → (List (List Int × List Int)) → (List Int) → (Bool → Option R) → Option R) (impl_marksFrom : ∀ {R : Type}, Nat → (List Int) → Int → (List (List Int × List Int)) → (Bool → Int → (List (List Int × List Int)) → Option R) → ((List (List Int) × List Int × List Int) → Bool → Int → (List (List Int × List Int)) → Option R) → Option R) (impl_single : ∀ {R : Type}, Nat → Int → Int → ((List Int) → Option R) → Option R) (slices_IndexFunc_int_impl_FinishFrom_c1 : ∀ {R : Type}, Nat → (List (List Int)) → (List Int) → (Int → (List Int) → Option R) → Option R) (slices_Reverse_int : ∀ {R : Type}, Nat → (List Int) → ((List Int) → Option R) → Option R) (impl_FinishFrom_l11 : ∀ {R : Type}, Nat → (List (List Int) × List Int × List Int) → Int → (List Int) → ((List Int) → Option R) → Option R) {R : Type} (n : Nat) (x0 : Int) (x1 : List (List Int × List Int)) (x2 : List Int) (k : Pk → Option R) : evF tt sig (mkK [(122, Kimpl_markOk @impl_markOk n), (129, Kimpl_marksFrom @impl_marksFrom n), (130, Kimpl_single @impl_single n), (136, Kslices_IndexFunc_int_impl_FinishFrom_c1 @slices_IndexFunc_int_impl_FinishFrom_c1 n), (139, Kslices_Reverse_int @slices_Reverse_int n)] R) (mkL (mkK [(122, Kimpl_markOk @impl_markOk n), (129, Kimpl_marksFrom @impl_marksFrom n), (130, Kimpl_single @impl_single n), (136, Kslices_IndexFunc_int_impl_FinishFrom_c1 @slices_IndexFunc_int_impl_FinishFrom_c1 n), (139, Kslices_Reverse_int @slices_Reverse_int n)]) [(11, Dimpl_FinishFrom_l11, Pimpl_FinishFrom_l11 @impl_FinishFrom_l11 n)] R) Try.f67 Himpl_FinishFrom (PkS.pack Simpl_FinishFrom (x0, x1, x2, ())) k = (fun (k : Bool → (List Int) → Option R) => (impl_markOk n x0 x1 x2 fun r1 => (bif (!r1) then k false ([] : List Int) else (impl_marksFrom n x2 x0 x1 (fun r2 r3 r4 => (bif (!r2) then k false ([] : List Int) else (impl_single n r3 (IntKind.wrap .i64 (r3 - 1)) fun r5 => none))) (fun r6 r7 r8 r9 => (bif (!r7) then k false ([] : List Int) else (impl_single n r8 (IntKind.wrap .i64 (r8 - 1)) fun r10 => (slices_IndexFunc_int_impl_FinishFrom_c1 n r6.1 r10 fun r11 r12 => (bif (decide (r11 < 0)) then k false ([] : List Int) else (impl_FinishFrom_l11 n r6 r11 ([] : List Int) (fun r13 => (slices_Reverse_int n r13 fun r14 => k true r14)))))))))))) (fun r0 r1 => k (PkS.pack Timpl_FinishFrom (r0, r1, ()))) := by kernel_rfl
theorem okimpl_FinishFrom (n : Nat) : FnOk Try.prog 67 (Kimpl_FinishFrom @impl_FinishFrom n) := by
  refine fn_ok (sig := sig) mixed ttok (mkK_nat (cimpl_FinishFrom n)) (mkK_ok (cimpl_FinishFrom n)) (mkL_nat (mkK_nat (cimpl_FinishFrom n)) (l := [(11, Dimpl_FinishFrom_l11, Pimpl_FinishFrom_l11 @impl_FinishFrom_l11 n)]) ⟨nlimpl_FinishFrom_l11 n, trivial⟩) (fn := Try.f67) (c := bodyOf Try.f67) (by kernel_rfl) (by kernel_rfl) (by kernel_rfl) (.eq (l := [.lo (loopIn 11 (bodyOf Try.f67))]) (by kernel_rfl) ⟨(lkimpl_FinishFrom_l11 n _ _ (at_id (i := 11) (by kernel_rfl) rfl)), trivial⟩) (shs := Himpl_FinishFrom) (S := Simpl_FinishFrom) (h1 := by kernel_rfl) fun R p k => ?_
  unfold Kimpl_FinishFrom
  cases h : (PkS.un Simpl_FinishFrom p) with
  | none => rfl
  | some d =>
    obtain ⟨x0, x1, x2, u⟩ := (d : Int × (List (List Int × List Int)) × (List Int) × Unit)
    have hp := PkS.un_pack h
    subst hp
    exact (eimpl_FinishFrom @impl_markOk @impl_marksFrom @impl_single @slices_IndexFunc_int_impl_FinishFrom_c1 @slices_Reverse_int @impl_FinishFrom_l11 n x0 x1 x2 k).symm

/-! ### (*loop.example/g00269/spec.l1Cur).among -/
theorem cspec_l1Cur_among (n : Nat) : AllOk Try.prog [(99, Kspec_l1Cur_pick @spec_l1Cur_pick n)] := ⟨okspec_l1Cur_pick n, trivial⟩
@[reducible] def Sspec_l1Cur_among : PkS := ⟨[.one (.box (200000, 0) 0), .one (.ro (.int .i64))], [((200000, 0), .box [.ro (.int .u8), .int .i64, .int .u64])]⟩
@[reducible] def Tspec_l1Cur_among : PkS := ⟨[.one (.int .i64), .one (.box (300000, 0) 0), .one (.dead)], [((300000, 0), .box [.ro (.int .u8), .int .i64, .int .u64])]⟩
def Hspec_l1Cur_among : List Sh := [.one .any, .box [(.ro (.int .u8)), .any, .any], .skip]
def Kspec_l1Cur_among (g : ∀ {R : Type}, Nat → (List Int) → (List Int) → Int → Int → (Int → (List Int) → Int → Int → Option R) → Option R) (n : Nat) : KPs := fun R p k => match (PkS.un Sspec_l1Cur_among p : Option ((List Int) × (List Int) × Int × Int × Unit)) with
  | some (x0, x1, x2, x3, _) => g n x0 x1 x2 x3 (fun r0 r1 r2 r3 => k (PkS.pack Tspec_l1Cur_among (r0, r1, r2, r3, ())))
  | none => none
theorem espec_l1Cur_among (spec_l1Cur_pick : ∀ {R : Type}, Nat → Int → (List Int) → Int → Int → (Int → (List Int) → Int → Int → Option R) → Option R) {R : Type} (n : Nat) (x0 : List Int) (x1 : List Int) (x2 : Int) (x3 : Int) (k : Pk → Option R) : evF tt sig (mkK [(99, Kspec_l1Cur_pick @spec_l1Cur_pick n)] R) (mkL (mkK [(99, Kspec_l1Cur_pick @spec_l1Cur_pick n)]) [] R) Try.f107 Hspec_l1Cur_among (PkS.pack Sspec_l1Cur_among (x0, x1, x2, x3, ())) k = (fun (k : Int → (List Int) → Int → Int → Option R) => (spec_l1Cur_pick n (x0.length : Int) x1 x2 x3 fun r1 r2 r3 r4 => (bif decide (0 ≤ r1) then (bif decide (r1 < (x0.length : Int)) then k (x0.getD (Int.toNat r1) 0) r2 r3 r4 else none) else none))) (fun r0 r1 r2 r3 => k (PkS.pack Tspec_l1Cur_among (r0, r1, r2, r3, ()))) := by kernel_rfl
theorem okspec_l1Cur_among (n : Nat) : FnOk Try.prog 107 (Kspec_l1Cur_among @spec_l1Cur_among n) := by
  refine fn_ok (sig := sig) mixed ttok (mkK_nat (cspec_l1Cur_among n)) (mkK_ok (cspec_l1Cur_among n)) (mkL_nat (mkK_nat (cspec_l1Cur_among n)) (l := []) trivial) (fn := Try.f107) (c := bodyOf Try.f107) (by kernel_rfl) (by kernel_rfl) (by kernel_rfl) (.eq (l := []) (by kernel_rfl) trivial) (shs := Hspec_l1Cur_among) (S := Sspec_l1Cur_among) (h1 := by kernel_rfl) fun R p k => ?_
  unfold Kspec_l1Cur_among
  cases h : (PkS.un Sspec_l1Cur_among p) with
  | none => rfl
  | some d =>
    obtain ⟨x0, x1, x2, x3, u⟩ := (d : (List Int) × (List Int) × Int × Int × Unit)
    have hp := PkS.un_pack h
    subst hp
    exact (espec_l1Cur_among @spec_l1Cur_pick n x0 x1 x2 x3 k).symm

/-! ### (*loop.example/g00269/spec.l1Cur).marking -/
theorem cspec_l1Cur_marking (n : Nat) : AllOk Try.prog [(112, Kspec_l1Cur_one @spec_l1Cur_one n), (99, Kspec_l1Cur_pick @spec_l1Cur_pick n), (107, Kspec_l1Cur_among @spec_l1Cur_among n)] := ⟨okspec_l1Cur_one n, ⟨okspec_l1Cur_pick n, ⟨okspec_l1Cur_among n, trivial⟩⟩⟩
@[reducible] def Sspec_l1Cur_marking_l6 : PkS := ⟨[.one (.box (100000, 0) 0), .one (.whole (100000, 1)), .one (.int .i64), .one (.int .i64), .one (.box (100000, 0) 0), .one (.dead)], [((100000, 0), .box [.ro (.int .u8), .int .i64, .int .u64]), ((100000, 1), .arr (.int .i64))]⟩
@[reducible] def Tspec_l1Cur_marking_l6_0 : PkS := ⟨[.one (.box (100000, 0) 0), .one (.whole (100000, 1)), .one (.box (100000, 0) 0), .one (.dead)], [((100000, 0), .box [.ro (.int .u8), .int .i64, .int .u64]), ((100000, 1), .arr (.int .i64))]⟩
def Dspec_l1Cur_marking_l6 : LoopD := ⟨34, [0, 5, 16, 17], [.box [(.ro (.int .u8)), .any, .any], .one (.own (.int .i64)), .one .any, .one .any, .box [(.ro (.int .u8)), .any, .any], .skip], fun x => match x with
  | .exit 0 => some ([0, 5], [.box [(.ro (.int .u8)), .any, .any], .one (.own (.int .i64)), .box [(.ro (.int .u8)), .any, .any], .skip])
  | _ => none⟩
def Pspec_l1Cur_marking_l6 (g : ∀ {R : Type}, Nat → Int → Int → (List Int) → Int → Int → (List Int) → ((List Int) → Int → Int → (List Int) → Option R) → Option R) (n : Nat) : LPs := fun R q kk => match (PkS.un Sspec_l1Cur_marking_l6 q : Option (Int × Int × (List Int) × Int × Int × (List Int) × Unit)) with
  | some (y6_0, y6_1, y6_2, y6_3, y6_4, y6_5, _) => g n y6_0 y6_1 y6_2 y6_3 y6_4 y6_5 (fun r0 r1 r2 r3 => kk (.exit 0) (PkS.pack Tspec_l1Cur_marking_l6_0 (r0, r1, r2, r3, ())))
  | none => none
theorem espec_l1Cur_marking_l6 (spec_l1Cur_one : ∀ {R : Type}, Nat → Int → (List Int) → Int → Int → (Bool → (List Int) → Int → Int → Option R) → Option R) (spec_l1Cur_pick : ∀ {R : Type}, Nat → Int → (List Int) → Int → Int → (Int → (List Int) → Int → Int → Option R) → Option R) (spec_l1Cur_among : ∀ {R : Type}, Nat → (List Int) → (List Int) → Int → Int → (Int → (List Int) → Int → Int → Option R) → Option R) (spec_l1Cur_marking_l6 : ∀ {R : Type}, Nat → Int → Int → (List Int) → Int → Int → (List Int) → ((List Int) → Int → Int → (List Int) → Option R) → Option R) {R : Type} (n : Nat) (y6_0 : Int) (y6_1 : Int) (y6_2 : List Int) (y6_3 : Int) (y6_4 : Int) (y6_5 : List Int) (kk : Ex → Pk → Option R) : Dspec_l1Cur_marking_l6.step tt sig (mkK [(112, Kspec_l1Cur_one @spec_l1Cur_one n), (99, Kspec_l1Cur_pick @spec_l1Cur_pick n), (107, Kspec_l1Cur_among @spec_l1Cur_among n)] R) (mkL (mkK [(112, Kspec_l1Cur_one @spec_l1Cur_one n), (99, Kspec_l1Cur_pick @spec_l1Cur_pick n), (107, Kspec_l1Cur_among @spec_l1Cur_among n)]) [] R) (loopIn 6 (bodyOf Try.f164)) (fun q' => Pspec_l1Cur_marking_l6 @spec_l1Cur_marking_l6 n R q' kk) (PkS.pack Sspec_l1Cur_marking_l6 (y6_0, y6_1, y6_2, y6_3, y6_4, y6_5, ())) kk = (fun (kexit0 : (List Int) → Int → Int → (List Int) → Option R) => (bif (decide (y6_1 < y6_0)) then (spec_l1Cur_pick n 3 y6_2 y6_3 y6_4 fun r5 r6 r7 r8 => (bif decide (0 ≤ y6_1) then (bif decide (y6_1 < (y6_5.length : Int)) then spec_l1Cur_marking_l6 n y6_0 (IntKind.wrap .i64 (y6_1 + 1)) r6 r7 r8 (y6_5.set (Int.toNat y6_1) r5) kexit0 else none) else none)) else kexit0 y6_2 y6_3 y6_4 y6_5)) (fun r0 r1 r2 r3 => kk (.exit 0) (PkS.pack Tspec_l1Cur_marking_l6_0 (r0, r1, r2, r3, ()))) := by kernel_rfl
theorem lespec_l1Cur_marking_l6 : LoopEq tt sig (fun n => mkK [(112, Kspec_l1Cur_one @spec_l1Cur_one n), (99, Kspec_l1Cur_pick @spec_l1Cur_pick n), (107, Kspec_l1Cur_among @spec_l1Cur_among n)]) (fun n => mkL (mkK [(112, Kspec_l1Cur_one @spec_l1Cur_one n), (99, Kspec_l1Cur_pick @spec_l1Cur_pick n), (107, Kspec_l1Cur_among @spec_l1Cur_among n)]) []) Dspec_l1Cur_marking_l6 Sspec_l1Cur_marking_l6 (loopIn 6 (bodyOf Try.f164)) (Pspec_l1Cur_marking_l6 @spec_l1Cur_marking_l6) where
  zero R q kk := by unfold Pspec_l1Cur_marking_l6; cases (PkS.un Sspec_l1Cur_marking_l6 q) <;> rfl
  succ n R q kk := by
    unfold Pspec_l1Cur_marking_l6
    cases h : (PkS.un Sspec_l1Cur_marking_l6 q) with
    | none => rfl
    | some d =>
      obtain ⟨y6_0, y6_1, y6_2, y6_3, y6_4, y6_5, u⟩ := (d : Int × Int × (List Int) × Int × Int × (List Int) × Unit)
      have hp := PkS.un_pack h
      subst hp
      exact (espec_l1Cur_marking_l6 @spec_l1Cur_one @spec_l1Cur_pick @spec_l1Cur_among @spec_l1Cur_marking_l6 n y6_0 y6_1 y6_2 y6_3 y6_4 y6_5 kk).symm
theorem nlspec_l1Cur_marking_l6 : ∀ n, NatLP (Pspec_l1Cur_marking_l6 @spec_l1Cur_marking_l6 n) := lespec_l1Cur_marking_l6.nat (fun n => mkK_nat (cspec_l1Cur_marking n)) fun n => mkL_nat (mkK_nat (cspec_l1Cur_marking n)) (l := []) trivial
theorem inspec_l1Cur_marking_l6 (n : Nat) (R : Type) : LoopsOk Try.prog (mkL (mkK [(112, Kspec_l1Cur_one @spec_l1Cur_one n), (99, Kspec_l1Cur_pick @spec_l1Cur_pick n), (107, Kspec_l1Cur_among @spec_l1Cur_among n)]) [] R) (loopIn 6 (bodyOf Try.f164)) := .eq (l := []) (by kernel_rfl) trivial
theorem lkspec_l1Cur_marking_l6 (n : Nat) (R : Type) (L0 : LK R) (h0 : ∀ id, firstRegion (loopIn 6 (bodyOf Try.f164)) = some id → L0 id = Dspec_l1Cur_marking_l6.oracle (mkK [(112, Kspec_l1Cur_one @spec_l1Cur_one n), (99, Kspec_l1Cur_pick @spec_l1Cur_pick n), (107, Kspec_l1Cur_among @spec_l1Cur_among n)] R) (Pspec_l1Cur_marking_l6 @spec_l1Cur_marking_l6 n R)) : LoopOk Try.prog L0 (loopIn 6 (bodyOf Try.f164)) :=
  lespec_l1Cur_marking_l6.ok mixed ttok (fun n => mkK_nat (cspec_l1Cur_marking n)) (fun n => mkK_ok (cspec_l1Cur_marking n)) (fun n => inspec_l1Cur_marking_l6 n R) (mkK_nat (cspec_l1Cur_marking n)) h0
@[reducible] def Sspec_l1Cur_marking : PkS := ⟨[.one (.box (200000, 0) 0), .agg [.int .i64, .ro (.pr (.sl (.int .i64)) (.sl (.int .i64)))]], [((200000, 0), .box [.ro (.int .u8), .int .i64, .int .u64])]⟩
@[reducible] def Tspec_l1Cur_marking : PkS := ⟨[.one (.whole (300000, 0)), .one (.box (300000, 1) 0), .one (.dead)], [((300000, 0), .arr (.int .i64)), ((300000, 1), .box [.ro (.int .u8), .int .i64, .int .u64])]⟩
def Hspec_l1Cur_marking : List Sh := [.one (.own (.int .i64)), .box [(.ro (.int .u8)), .any, .any], .skip]
def Kspec_l1Cur_marking (g : ∀ {R : Type}, Nat → Int → (List (List Int × List Int)) → (List Int) → Int → Int → ((List Int) → (List Int) → Int → Int → Option R) → Option R) (n : Nat) : KPs := fun R p k => match (PkS.un Sspec_l1Cur_marking p : Option (Int × (List (List Int × List Int)) × (List Int) × Int × Int × Unit)) with
  | some (x0, x1, x2, x3, x4, _) => g n x0 x1 x2 x3 x4 (fun r0 r1 r2 r3 => k (PkS.pack Tspec_l1Cur_marking (r0, r1, r2, r3, ())))
  | none => none
theorem espec_l1Cur_marking (spec_l1Cur_one : ∀ {R : Type}, Nat → Int → (List Int) → Int → Int → (Bool → (List Int) → Int → Int → Option R) → Option R) (spec_l1Cur_pick : ∀ {R : Type}, Nat → Int → (List Int) → Int → Int → (Int → (List Int) → Int → Int → Option R) → Option R) (spec_l1Cur_among : ∀ {R : Type}, Nat → (List Int) → (List Int) → Int → Int → (Int → (List Int) → Int → Int → Option R) → Option R) (spec_l1Cur_marking_l6 : ∀ {R : Type}, Nat → Int → Int → (List Int) → Int → Int → (List Int) → ((List Int) → Int → Int → (List Int) → Option R) → Option R) {R : Type} (n : Nat) (x0 : Int) (x1 : List (List Int × List Int)) (x2 : List Int) (x3 : Int) (x4 : Int) (k : Pk → Option R) : evF tt sig (mkK [(112, Kspec_l1Cur_one @spec_l1Cur_one n), (99, Kspec_l1Cur_pick @spec_l1Cur_pick n), (107, Kspec_l1Cur_among @spec_l1Cur_among n)] R) (mkL (mkK [(112, Kspec_l1Cur_one @spec_l1Cur_one n), (99, Kspec_l1Cur_pick @spec_l1Cur_pick n), (107, Kspec_l1Cur_among @spec_l1Cur_among n)]) [(6, Dspec_l1Cur_marking_l6, Pspec_l1Cur_marking_l6 @spec_l1Cur_marking_l6 n)] R) Try.f164 Hspec_l1Cur_marking (PkS.pack Sspec_l1Cur_marking (x0, x1, x2, x3, x4, ())) k = (fun (k : (List Int) → (List Int) → Int → Int → Option R) => (bif decide (0 ≤ x0) then (bif decide (x0 ≤ x0) then (bif decide (x0 ≤ 1099511627776) then (spec_l1Cur_one n 2 x2 x3 x4 fun r1 r2 r3 r4 => (bif r1 then (bif decide (0 < ((List.replicate (Int.toNat x0) (0 : Int)).length : Int)) then k ((List.replicate (Int.toNat x0) (0 : Int)).set 0 1) r2 r3 r4 else none) else (spec_l1Cur_marking_l6 n ((List.replicate (Int.toNat x0) (0 : Int)).length : Int) 0 r2 r3 r4 (List.replicate (Int.toNat x0) (0 : Int)) (fun r9 r10 r11 r12 => (spec_l1Cur_one n 30 r9 r10 r11 fun r13 r14 r15 r16 => (bif r13 then (spec_l1Cur_among n ([(-1), 9, 10]) r14 r15 r16 fun r17 r18 r19 r20 => (bif decide (0 < (r12.length : Int)) then k (r12.set 0 r17) r18 r19 r20 else none)) else k r12 r14 r15 r16)))))) else none) else none) else none)) (fun r0 r1 r2 r3 => k (PkS.pack Tspec_l1Cur_marking (r0, r1, r2, r3, ()))) := by kernel_rfl
theorem okspec_l1Cur_marking (n : Nat) : FnOk Try.prog 164 (Kspec_l1Cur_marking @spec_l1Cur_marking n) := by
  refine fn_ok (sig := sig) mixed ttok (mkK_nat (cspec_l1Cur_marking n)) (mkK_ok (cspec_l1Cur_marking n)) (mkL_nat (mkK_nat (cspec_l1Cur_marking n)) (l := [(6, Dspec_l1Cur_marking_l6, Pspec_l1Cur_marking_l6 @spec_l1Cur_marking_l6 n)]) ⟨nlspec_l1Cur_marking_l6 n, trivial⟩) (fn := Try.f164) (c := bodyOf Try.f164) (by kernel_rfl) (by kernel_rfl) (by kernel_rfl) (.eq (l := [.lo (loopIn 6 (bodyOf Try.f164))]) (by kernel_rfl) ⟨(lkspec_l1Cur_marking_l6 n _ _ (at_id (i := 6) (by kernel_rfl) rfl)), trivial⟩) (shs := Hspec_l1Cur_marking) (S := Sspec_l1Cur_marking) (h1 := by kernel_rfl) fun R p k => ?_
  unfold Kspec_l1Cur_marking
  cases h : (PkS.un Sspec_l1Cur_marking p) with
  | none => rfl
  | some d =>
    obtain ⟨x0, x1, x2, x3, x4, u⟩ := (d : Int × (List (List Int × List Int)) × (List Int) × Int × Int × Unit)
    have hp := PkS.un_pack h
    subst hp
    exact (espec_l1Cur_marking @spec_l1Cur_one @spec_l1Cur_pick @spec_l1Cur_among @spec_l1Cur_marking_l6 n x0 x1 x2 x3 x4 k).symm

/-! ### loop.example/g00269/spec.DrawMarksFrom -/
theorem cspec_DrawMarksFrom (n : Nat) : AllOk Try.prog [(113, Kspec_l1Cur_net @spec_l1Cur_net n), (164, Kspec_l1Cur_marking @spec_l1Cur_marking n)] := ⟨okspec_l1Cur_net n, ⟨okspec_l1Cur_marking n, trivial⟩⟩
@[reducible] def Sspec_DrawMarksFrom : PkS := ⟨[.one (.ro (.int .u8))], []⟩
@[reducible] def Tspec_DrawMarksFrom : PkS := ⟨[.tup [(true, [.int .i64, .ro (.pr (.sl (.int .i64)) (.sl (.int .i64)))]), (false, [.whole (300000, 0)])], .one (.dead)], [((300000, 0), .arr (.int .i64))]⟩
def Hspec_DrawMarksFrom : List Sh := [.tup [(true, [.any, (.ro (.pr (.sl (.int .i64)) (.sl (.int .i64))))]), (false, [(.own (.int .i64))])], .skip]
def Kspec_DrawMarksFrom (g : ∀ {R : Type}, Nat → (List Int) → (Int → (List (List Int × List Int)) → (List Int) → Option R) → Option R) (n : Nat) : KPs := fun R p k => match (PkS.un Sspec_DrawMarksFrom p : Option ((List Int) × Unit)) with
  | some (x0, _) => g n x0 (fun r0 r1 r2 => k (PkS.pack Tspec_DrawMarksFrom (r0, r1, r2, ())))
  | none => none
theorem espec_DrawMarksFrom (spec_l1Cur_net : ∀ {R : Type}, Nat → (List Int) → Int → Int → (Int → (List (List Int × List Int)) → (List Int) → Int → Int → Option R) → Option R) (spec_l1Cur_marking : ∀ {R : Type}, Nat → Int → (List (List Int × List Int)) → (List Int) → Int → Int → ((List Int) → (List Int) → Int → Int → Option R) → Option R) {R : Type} (n : Nat) (x0 : List Int) (k : Pk → Option R) : evF tt sig (mkK [(113, Kspec_l1Cur_net @spec_l1Cur_net n), (164, Kspec_l1Cur_marking @spec_l1Cur_marking n)] R) (mkL (mkK [(113, Kspec_l1Cur_net @spec_l1Cur_net n), (164, Kspec_l1Cur_marking @spec_l1Cur_marking n)]) [] R) Try.f140 Hspec_DrawMarksFrom (PkS.pack Sspec_DrawMarksFrom (x0, ())) k = (fun (k : Int → (List (List Int × List Int)) → (List Int) → Option R) => (spec_l1Cur_net n x0 0 0 fun r1 r2 r3 r4 r5 => (spec_l1Cur_marking n r1 r2 r3 r4 r5 fun r6 r7 r8 r9 => k r1 r2 r6))) (fun r0 r1 r2 => k (PkS.pack Tspec_DrawMarksFrom (r0, r1, r2, ()))) := by kernel_rfl
theorem okspec_DrawMarksFrom (n : Nat) : FnOk Try.prog 140 (Kspec_DrawMarksFrom @spec_DrawMarksFrom n) := by
  refine fn_ok (sig := sig) mixed ttok (mkK_nat (cspec_DrawMarksFrom n)) (mkK_ok (cspec_DrawMarksFrom n)) (mkL_nat (mkK_nat (cspec_DrawMarksFrom n)) (l := []) trivial) (fn := Try.f140) (c := bodyOf Try.f140) (by kernel_rfl) (by kernel_rfl) (by kernel_rfl) (.eq (l := []) (by kernel_rfl) trivial) (shs := Hspec_DrawMarksFrom) (S := Sspec_DrawMarksFrom) (h1 := by kernel_rfl) fun R p k => ?_
  unfold Kspec_DrawMarksFrom
  cases h : (PkS.un Sspec_DrawMarksFrom p) with
  | none => rfl
  | some d =>
    obtain ⟨x0, u⟩ := (d : (List Int) × Unit)
    have hp := PkS.un_pack h
    subst hp
    exact (espec_DrawMarksFrom @spec_l1Cur_net @spec_l1Cur_marking n x0 k).symm

/-! ### loop.example/g00269/spec.DrawFinishFrom -/
theorem cspec_DrawFinishFrom (n : Nat) : AllOk Try.prog [(140, Kspec_DrawMarksFrom @spec_DrawMarksFrom n)] := ⟨okspec_DrawMarksFrom n, trivial⟩
@[reducible] def Sspec_DrawFinishFrom : PkS := ⟨[.one (.ro (.int .u8))], []⟩
@[reducible] def Tspec_DrawFinishFrom : PkS := ⟨[.tup [(true, [.int .i64, .ro (.pr (.sl (.int .i64)) (.sl (.int .i64)))]), (false, [.whole (300000, 0)])], .one (.dead)], [((300000, 0), .arr (.int .i64))]⟩
def Hspec_DrawFinishFrom : List Sh := [.tup [(true, [.any, (.ro (.pr (.sl (.int .i64)) (.sl (.int .i64))))]), (false, [(.own (.int .i64))])], .skip]
def Kspec_DrawFinishFrom (g : ∀ {R : Type}, Nat → (List Int) → (Int → (List (List Int × List Int)) → (List Int) → Option R) → Option R) (n : Nat) : KPs := fun R p k => match (PkS.un Sspec_DrawFinishFrom p : Option ((List Int) × Unit)) with
  | some (x0, _) => g n x0 (fun r0 r1 r2 => k (PkS.pack Tspec_DrawFinishFrom (r0, r1, r2, ())))
  | none => none
theorem espec_DrawFinishFrom (spec_DrawMarksFrom : ∀ {R : Type}, Nat → (List Int) → (Int → (List (List Int × List Int)) → (List Int) → Option R) → Option R) {R : Type} (n : Nat) (x0 : List Int) (k : Pk → Option R) : evF tt sig (mkK [(140, Kspec_DrawMarksFrom @spec_DrawMarksFrom n)] R) (mkL (mkK [(140, Kspec_DrawMarksFrom @spec_DrawMarksFrom n)]) [] R) Try.f68 Hspec_DrawFinishFrom (PkS.pack Sspec_DrawFinishFrom (x0, ())) k = (fun (k : Int → (List (List Int × List Int)) → (List Int) → Option R) => (spec_DrawMarksFrom n x0 fun r1 r2 r3 => k r1 r2 r3)) (fun r0 r1 r2 => k (PkS.pack Tspec_DrawFinishFrom (r0, r1, r2, ()))) := by kernel_rfl
theorem okspec_DrawFinishFrom (n : Nat) : FnOk Try.prog 68 (Kspec_DrawFinishFrom @spec_DrawFinishFrom n) := by
  refine fn_ok (sig := sig) mixed ttok (mkK_nat (cspec_DrawFinishFrom n)) (mkK_ok (cspec_DrawFinishFrom n)) (mkL_nat (mkK_nat (cspec_DrawFinishFrom n)) (l := []) trivial) (fn := Try.f68) (c := bodyOf Try.f68) (by kernel_rfl) (by kernel_rfl) (by kernel_rfl) (.eq (l := []) (by kernel_rfl) trivial) (shs := Hspec_DrawFinishFrom) (S := Sspec_DrawFinishFrom) (h1 := by kernel_rfl) fun R p k => ?_
  unfold Kspec_DrawFinishFrom
  cases h : (PkS.un Sspec_DrawFinishFrom p) with
  | none => rfl
  | some d =>
    obtain ⟨x0, u⟩ := (d : (List Int) × Unit)
    have hp := PkS.un_pack h
    subst hp
    exact (espec_DrawFinishFrom @spec_DrawMarksFrom n x0 k).symm

/-! ### loop.example/g00269/spec.l3Mark -/
theorem cspec_l3Mark (n : Nat) : AllOk Try.prog [(72, Kspec_l1In @spec_l1In n)] := ⟨okspec_l1In n, trivial⟩
@[reducible] def Sspec_l3Mark_l2 : PkS := ⟨[.one (.ro (.int .i64)), .one (.box (100000, 0) 0), .one (.ro (.int .i64)), .one (.int .i64), .one (.int .i64), .one (.dead), .one (.dead)], [((100000, 0), .box [.int .i64, .ro (.pr (.sl (.int .i64)) (.sl (.int .i64)))])]⟩
@[reducible] def Tspec_l3Mark_l2_0 : PkS := ⟨[.one (.bool), .one (.dead), .one (.dead)], []⟩
@[reducible] def Tspec_l3Mark_l2_1 : PkS := ⟨[.one (.ro (.int .i64)), .one (.box (100000, 0) 0), .one (.dead), .one (.dead)], [((100000, 0), .box [.int .i64, .ro (.pr (.sl (.int .i64)) (.sl (.int .i64)))])]⟩
def Dspec_l3Mark_l2 : LoopD := ⟨22, [1, 2, 7, 8, 9], [.one (.ro (.int .i64)), .box [.any, (.ro (.pr (.sl (.int .i64)) (.sl (.int .i64))))], .one (.ro (.int .i64)), .one .any, .one .any, .skip, .skip], fun x => match x with
  | .ret => some ([4], [.one .any, .skip, .skip])
  | .exit 0 => some ([1, 2], [.one (.ro (.int .i64)), .box [.any, (.ro (.pr (.sl (.int .i64)) (.sl (.int .i64))))], .skip, .skip])
  | _ => none⟩
def Pspec_l3Mark_l2 (g : ∀ {R : Type}, Nat → (List Int) → (List Int) → Int → Int → Int → (List (List Int × List Int)) → (Bool → Option R) → ((List Int) → Int → (List (List Int × List Int)) → Option R) → Option R) (n : Nat) : LPs := fun R q kk => match (PkS.un Sspec_l3Mark_l2 q : Option ((List Int) × (List Int) × Int × Int × Int × (List (List Int × List Int)) × Unit)) with
  | some (y2_0, y2_1, y2_2, y2_3, y2_4, y2_5, _) => g n y2_0 y2_1 y2_2 y2_3 y2_4 y2_5 (fun r0 => kk .ret (PkS.pack Tspec_l3Mark_l2_0 (r0, ()))) (fun r0 r1 r2 => kk (.exit 0) (PkS.pack Tspec_l3Mark_l2_1 (r0, r1, r2, ())))
  | none => none
theorem espec_l3Mark_l2 (spec_l1In : ∀ {R : Type}, Nat → Int → Int → Int → (Bool → Option R) → Option R) (spec_l3Mark_l2 : ∀ {R : Type}, Nat → (List Int) → (List Int) → Int → Int → Int → (List (List Int × List Int)) → (Bool → Option R) → ((List Int) → Int → (List (List Int × List Int)) → Option R) → Option R) {R : Type} (n : Nat) (y2_0 : List Int) (y2_1 : List Int) (y2_2 : Int) (y2_3 : Int) (y2_4 : Int) (y2_5 : List (List Int × List Int)) (kk : Ex → Pk → Option R) : Dspec_l3Mark_l2.step tt sig (mkK [(72, Kspec_l1In @spec_l1In n)] R) (mkL (mkK [(72, Kspec_l1In @spec_l1In n)]) [] R) (loopIn 2 (bodyOf Try.f125)) (fun q' => Pspec_l3Mark_l2 @spec_l3Mark_l2 n R q' kk) (PkS.pack Sspec_l3Mark_l2 (y2_0, y2_1, y2_2, y2_3, y2_4, y2_5, ())) kk = (fun (kret : Bool → Option R) (kexit0 : (List Int) → Int → (List (List Int × List Int)) → Option R) => (bif (decide (y2_3 < y2_2)) then (bif decide (0 ≤ y2_3) then (bif decide (y2_3 < (y2_1.length : Int)) then (spec_l1In n (y2_1.getD (Int.toNat y2_3) 0) 0 9 fun r1 => (bif (!r1) then kret false else spec_l3Mark_l2 n y2_0 y2_1 y2_2 (IntKind.wrap .i64 (y2_3 + 1)) y2_4 y2_5 kret kexit0)) else none) else none) else kexit0 y2_0 y2_4 y2_5)) (fun r0 => kk .ret (PkS.pack Tspec_l3Mark_l2_0 (r0, ()))) (fun r0 r1 r2 => kk (.exit 0) (PkS.pack Tspec_l3Mark_l2_1 (r0, r1, r2, ()))) := by kernel_rfl
theorem lespec_l3Mark_l2 : LoopEq tt sig (fun n => mkK [(72, Kspec_l1In @spec_l1In n)]) (fun n => mkL (mkK [(72, Kspec_l1In @spec_l1In n)]) []) Dspec_l3Mark_l2 Sspec_l3Mark_l2 (loopIn 2 (bodyOf Try.f125)) (Pspec_l3Mark_l2 @spec_l3Mark_l2) where
  zero R q kk := by unfold Pspec_l3Mark_l2; cases (PkS.un Sspec_l3Mark_l2 q) <;> rfl
  succ n R q kk := by
    unfold Pspec_l3Mark_l2
    cases h : (PkS.un Sspec_l3Mark_l2 q) with
    | none => rfl
    | some d =>
      obtain ⟨y2_0, y2_1, y2_2, y2_3, y2_4, y2_5, u⟩ := (d : (List Int) × (List Int) × Int × Int × Int × (List (List Int × List Int)) × Unit)
      have hp := PkS.un_pack h
      subst hp
      exact (espec_l3Mark_l2 @spec_l1In @spec_l3Mark_l2 n y2_0 y2_1 y2_2 y2_3 y2_4 y2_5 kk).symm
theorem nlspec_l3Mark_l2 : ∀ n, NatLP (Pspec_l3Mark_l2 @spec_l3Mark_l2 n) := lespec_l3Mark_l2.nat (fun n => mkK_nat (cspec_l3Mark n)) fun n => mkL_nat (mkK_nat (cspec_l3Mark n)) (l := []) trivial
theorem inspec_l3Mark_l2 (n : Nat) (R : Type) : LoopsOk Try.prog (mkL (mkK [(72, Kspec_l1In @spec_l1In n)]) [] R) (loopIn 2 (bodyOf Try.f125)) := .eq (l := []) (by kernel_rfl) trivial
theorem lkspec_l3Mark_l2 (n : Nat) (R : Type) (L0 : LK R) (h0 : ∀ id, firstRegion (loopIn 2 (bodyOf Try.f125)) = some id → L0 id = Dspec_l3Mark_l2.oracle (mkK [(72, Kspec_l1In @spec_l1In n)] R) (Pspec_l3Mark_l2 @spec_l3Mark_l2 n R)) : LoopOk Try.prog L0 (loopIn 2 (bodyOf Try.f125)) :=
  lespec_l3Mark_l2.ok mixed ttok (fun n => mkK_nat (cspec_l3Mark n)) (fun n => mkK_ok (cspec_l3Mark n)) (fun n => inspec_l3Mark_l2 n R) (mkK_nat (cspec_l3Mark n)) h0
@[reducible] def Sspec_l3Mark : PkS := ⟨[.agg [.int .i64, .ro (.pr (.sl (.int .i64)) (.sl (.int .i64)))], .one (.ro (.int .i64))], []⟩
@[reducible] def Tspec_l3Mark : PkS := ⟨[.one (.bool), .one (.dead), .one (.dead)], []⟩
def Hspec_l3Mark : List Sh := [.one .any, .skip, .skip]
def Kspec_l3Mark (g : ∀ {R : Type}, Nat → Int → (List (List Int × List Int)) → (List Int) → (Bool → Option R) → Option R) (n : Nat) : KPs := fun R p k => match (PkS.un Sspec_l3Mark p : Option (Int × (List (List Int × List Int)) × (List Int) × Unit)) with
  | some (x0, x1, x2, _) => g n x0 x1 x2 (fun r0 => k (PkS.pack Tspec_l3Mark (r0, ())))
  | none => none
theorem espec_l3Mark (spec_l1In : ∀ {R : Type}, Nat → Int → Int → Int → (Bool → Option R) → Option R) (spec_l3Mark_l2 : ∀ {R : Type}, Nat → (List Int) → (List Int) → Int → Int → Int → (List (List Int × List Int)) → (Bool → Option R) → ((List Int) → Int → (List (List Int × List Int)) → Option R) → Option R) {R : Type} (n : Nat) (x0 : Int) (x1 : List (List Int × List Int)) (x2 : List Int) (k : Pk → Option R) : evF tt sig (mkK [(72, Kspec_l1In @spec_l1In n)] R) (mkL (mkK [(72, Kspec_l1In @spec_l1In n)]) [(2, Dspec_l3Mark_l2, Pspec_l3Mark_l2 @spec_l3Mark_l2 n)] R) Try.f125 Hspec_l3Mark (PkS.pack Sspec_l3Mark (x0, x1, x2, ())) k = (fun (k : Bool → Option R) => (spec_l3Mark_l2 n x2 x2 (x2.length : Int) 0 x0 x1 (fun r2 => k r2) (fun r3 r4 r5 => k ((r3.length : Int) == r4)))) (fun r0 => k (PkS.pack Tspec_l3Mark (r0, ()))) := by kernel_rfl
theorem okspec_l3Mark (n : Nat) : FnOk Try.prog 125 (Kspec_l3Mark @spec_l3Mark n) := by
  refine fn_ok (sig := sig) mixed ttok (mkK_nat (cspec_l3Mark n)) (mkK_ok (cspec_l3Mark n)) (mkL_nat (mkK_nat (cspec_l3Mark n)) (l := [(2, Dspec_l3Mark_l2, Pspec_l3Mark_l2 @spec_l3Mark_l2 n)]) ⟨nlspec_l3Mark_l2 n, trivial⟩) (fn := Try.f125) (c := bodyOf Try.f125) (by kernel_rfl) (by kernel_rfl) (by kernel_rfl) (.eq (l := [.lo (loopIn 2 (bodyOf Try.f125))]) (by kernel_rfl) ⟨(lkspec_l3Mark_l2 n _ _ (at_id (i := 2) (by kernel_rfl) rfl)), trivial⟩) (shs := Hspec_l3Mark) (S := Sspec_l3Mark) (h1 := by kernel_rfl) fun R p k => ?_
  unfold Kspec_l3Mark
  cases h : (PkS.un Sspec_l3Mark p) with
  | none => rfl
  | some d =>
    obtain ⟨x0, x1, x2, u⟩ := (d : Int × (List (List Int × List Int)) × (List Int) × Unit)
    have hp := PkS.un_pack h
    subst hp
    exact (espec_l3Mark @spec_l1In @spec_l3Mark_l2 n x0 x1 x2 k).symm

/-! ### loop.example/g00269/spec.FinishFrom -/
theorem cspec_FinishFrom (n : Nat) : AllOk Try.prog [(60, Kspec_GoodNet @spec_GoodNet n), (125, Kspec_l3Mark @spec_l3Mark n), (133, Kspec_l3From @spec_l3From n), (132, Kspec_l3One @spec_l3One n), (135, Kspec_l3At @spec_l3At n)] := ⟨okspec_GoodNet n, ⟨okspec_l3Mark n, ⟨okspec_l3From n, ⟨okspec_l3One n, ⟨okspec_l3At n, trivial⟩⟩⟩⟩⟩
@[reducible] def Sspec_FinishFrom : PkS := ⟨[.agg [.int .i64, .ro (.pr (.sl (.int .i64)) (.sl (.int .i64)))], .one (.ro (.int .i64))], []⟩
@[reducible] def Tspec_FinishFrom : PkS := ⟨[.tup [(false, [.whole (300000, 0)]), (false, [.bool])], .one (.dead), .one (.dead)], [((300000, 0), .arr (.int .i64))]⟩
def Hspec_FinishFrom : List Sh := [.tup [(false, [(.own (.int .i64))]), (false, [.any])], .skip, .skip]
def Kspec_FinishFrom (g : ∀ {R : Type}, Nat → Int → (List (List Int × List Int)) → (List Int) → (Bool → (List Int) → Option R) → Option R) (n : Nat) : KPs := fun R p k => match (PkS.un Sspec_FinishFrom p : Option (Int × (List (List Int × List Int)) × (List Int) × Unit)) with
  | some (x0, x1, x2, _) => g n x0 x1 x2 (fun r0 r1 => k (PkS.pack Tspec_FinishFrom (r0, r1, ())))
  | none => none
theorem espec_FinishFrom (spec_GoodNet : ∀ {R : Type}, Nat → Int → (List (List Int × List Int)) → (Bool → Option R) → Option R) (spec_l3Mark : ∀ {R : Type}, Nat → Int → (List (List Int × List Int)) → (List Int) → (Bool → Option R) → Option R) (spec_l3From : ∀ {R : Type}, Nat → Int → (List (List Int × List Int)) → (List Int) → ((List (List Int)) → (List (List Int)) → Bool → Option R) → Option R) (spec_l3One : ∀ {R : Type}, Nat → Int → Int → ((List Int) → Option R) → Option R) (spec_l3At : ∀ {R : Type}, Nat → (List (List Int)) → (List Int) → (Int → Option R) → Option R) {R : Type} (n : Nat) (x0 : Int) (x1 : List (List Int × List Int)) (x2 : List Int) (k : Pk → Option R) : evF tt sig (mkK [(60, Kspec_GoodNet @spec_GoodNet n), (125, Kspec_l3Mark @spec_l3Mark n), (133, Kspec_l3From @spec_l3From n), (132, Kspec_l3One @spec_l3One n), (135, Kspec_l3At @spec_l3At n)] R) (mkL (mkK [(60, Kspec_GoodNet @spec_GoodNet n), (125, Kspec_l3Mark @spec_l3Mark n), (133, Kspec_l3From @spec_l3From n), (132, Kspec_l3One @spec_l3One n), (135, Kspec_l3At @spec_l3At n)]) [] R) Try.f69 Hspec_FinishFrom (PkS.pack Sspec_FinishFrom (x0, x1, x2, ())) k = (fun (k : Bool → (List Int) → Option R) => (spec_GoodNet n x0 x1 fun r1 => (bif (!r1) then k false ([] : List Int) else (spec_l3Mark n x0 x1 x2 fun r2 => (bif (!r2) then k false ([] : List Int) else (spec_l3From n x0 x1 x2 fun r3 r4 r5 => (spec_l3One n x0 (IntKind.wrap .i64 (x0 - 1)) fun r6 => (spec_l3At n r3 r6 fun r7 => (bif (!r5) then k false ([] : List Int) else (bif (decide (r7 < 0)) then k false ([] : List Int) else (bif decide (0 ≤ r7) then (bif decide (r7 < (r4.length : Int)) then (bif decide (([] : List Int).length + (r4.getD (Int.toNat r7) []).length ≤ LIM) then k true (([] : List Int) ++ (r4.getD (Int.toNat r7) [])) else none) else none) else none))))))))))) (fun r0 r1 => k (PkS.pack Tspec_FinishFrom (r0, r1, ()))) := by kernel_rfl
theorem okspec_FinishFrom (n : Nat) : FnOk Try.prog 69 (Kspec_FinishFrom @spec_FinishFrom n) := by
  refine fn_ok (sig := sig) mixed ttok (mkK_nat (cspec_FinishFrom n)) (mkK_ok (cspec_FinishFrom n)) (mkL_nat (mkK_nat (cspec_FinishFrom n)) (l := []) trivial) (fn := Try.f69) (c := bodyOf Try.f69) (by kernel_rfl) (by kernel_rfl) (by kernel_rfl) (.eq (l := []) (by kernel_rfl) trivial) (shs := Hspec_FinishFrom) (S := Sspec_FinishFrom) (h1 := by kernel_rfl) fun R p k => ?_
  unfold Kspec_FinishFrom
  cases h : (PkS.un Sspec_FinishFrom p) with
  | none => rfl
  | some d =>
    obtain ⟨x0, x1, x2, u⟩ := (d : Int × (List (List Int × List Int)) × (List Int) × Unit)
    have hp := PkS.un_pack h
    subst hp
    exact (espec_FinishFrom @spec_GoodNet @spec_l3Mark @spec_l3From @spec_l3One @spec_l3At n x0 x1 x2 k).symm

/-! ### loop.example/g00269/laws.sameInts -/
theorem claws_sameInts (n : Nat) : AllOk Try.prog [] := trivial
@[reducible] def Slaws_sameInts_l4 : PkS := ⟨[.one (.ro (.int .i64)), .one (.ro (.int .i64)), .one (.int .i64), .one (.int .i64), .one (.dead), .one (.dead)], []⟩
@[reducible] def Tlaws_sameInts_l4_0 : PkS := ⟨[.one (.bool), .one (.dead), .one (.dead)], []⟩
@[reducible] def Tlaws_sameInts_l4_1 : PkS := ⟨[.one (.dead), .one (.dead)], []⟩
def Dlaws_sameInts_l4 : LoopD := ⟨26, [0, 1, 12, 13], [.one (.ro (.int .i64)), .one (.ro (.int .i64)), .one .any, .one .any, .skip, .skip], fun x => match x with
  | .ret => some ([4], [.one .any, .skip, .skip])
  | .exit 0 => some ([], [.skip, .skip])
  | _ => none⟩
def Plaws_sameInts_l4 (g : ∀ {R : Type}, Nat → (List Int) → (List Int) → Int → Int → (Bool → Option R) → (Option R) → Option R) (n : Nat) : LPs := fun R q kk => match (PkS.un Slaws_sameInts_l4 q : Option ((List Int) × (List Int) × Int × Int × Unit)) with
  | some (y4_0, y4_1, y4_2, y4_3, _) => g n y4_0 y4_1 y4_2 y4_3 (fun r0 => kk .ret (PkS.pack Tlaws_sameInts_l4_0 (r0, ()))) (kk (.exit 0) (PkS.pack Tlaws_sameInts_l4_1 ()))
  | none => none
theorem elaws_sameInts_l4 (laws_sameInts_l4 : ∀ {R : Type}, Nat → (List Int) → (List Int) → Int → Int → (Bool → Option R) → (Option R) → Option R) {R : Type} (n : Nat) (y4_0 : List Int) (y4_1 : List Int) (y4_2 : Int) (y4_3 : Int) (kk : Ex → Pk → Option R) : Dlaws_sameInts_l4.step tt sig (mkK [] R) (mkL (mkK []) [] R) (loopIn 4 (bodyOf Try.f38)) (fun q' => Plaws_sameInts_l4 @laws_sameInts_l4 n R q' kk) (PkS.pack Slaws_sameInts_l4 (y4_0, y4_1, y4_2, y4_3, ())) kk = (fun (kret : Bool → Option R) (kexit0 : Option R) => (bif (decide (y4_3 < y4_2)) then (bif decide (0 ≤ y4_3) then (bif decide (y4_3 < (y4_0.length : Int)) then (bif decide (0 ≤ y4_3) then (bif decide (y4_3 < (y4_1.length : Int)) then (bif ((y4_0.getD (Int.toNat y4_3) 0) != (y4_1.getD (Int.toNat y4_3) 0)) then kret false else laws_sameInts_l4 n y4_0 y4_1 y4_2 (IntKind.wrap .i64 (y4_3 + 1)) kret kexit0) else none) else none) else none) else none) else kexit0)) (fun r0 => kk .ret (PkS.pack Tlaws_sameInts_l4_0 (r0, ()))) (kk (.exit 0) (PkS.pack Tlaws_sameInts_l4_1 ())) := by kernel_rfl
theorem lelaws_sameInts_l4 : LoopEq tt sig (fun n => mkK []) (fun n => mkL (mkK []) []) Dlaws_sameInts_l4 Slaws_sameInts_l4 (loopIn 4 (bodyOf Try.f38)) (Plaws_sameInts_l4 @laws_sameInts_l4) where
  zero R q kk := by unfold Plaws_sameInts_l4; cases (PkS.un Slaws_sameInts_l4 q) <;> rfl
  succ n R q kk := by
    unfold Plaws_sameInts_l4
    cases h : (PkS.un Slaws_sameInts_l4 q) with
    | none => rfl
    | some d =>
      obtain ⟨y4_0, y4_1, y4_2, y4_3, u⟩ := (d : (List Int) × (List Int) × Int × Int × Unit)
      have hp := PkS.un_pack h
      subst hp
      exact (elaws_sameInts_l4 @laws_sameInts_l4 n y4_0 y4_1 y4_2 y4_3 kk).symm
theorem nllaws_sameInts_l4 : ∀ n, NatLP (Plaws_sameInts_l4 @laws_sameInts_l4 n) := lelaws_sameInts_l4.nat (fun n => mkK_nat (claws_sameInts n)) fun n => mkL_nat (mkK_nat (claws_sameInts n)) (l := []) trivial
theorem inlaws_sameInts_l4 (n : Nat) (R : Type) : LoopsOk Try.prog (mkL (mkK []) [] R) (loopIn 4 (bodyOf Try.f38)) := .eq (l := []) (by kernel_rfl) trivial
theorem lklaws_sameInts_l4 (n : Nat) (R : Type) (L0 : LK R) (h0 : ∀ id, firstRegion (loopIn 4 (bodyOf Try.f38)) = some id → L0 id = Dlaws_sameInts_l4.oracle (mkK [] R) (Plaws_sameInts_l4 @laws_sameInts_l4 n R)) : LoopOk Try.prog L0 (loopIn 4 (bodyOf Try.f38)) :=
  lelaws_sameInts_l4.ok mixed ttok (fun n => mkK_nat (claws_sameInts n)) (fun n => mkK_ok (claws_sameInts n)) (fun n => inlaws_sameInts_l4 n R) (mkK_nat (claws_sameInts n)) h0
@[reducible] def Slaws_sameInts : PkS := ⟨[.one (.ro (.int .i64)), .one (.ro (.int .i64))], []⟩
@[reducible] def Tlaws_sameInts : PkS := ⟨[.one (.bool), .one (.dead), .one (.dead)], []⟩
def Hlaws_sameInts : List Sh := [.one .any, .skip, .skip]
def Klaws_sameInts (g : ∀ {R : Type}, Nat → (List Int) → (List Int) → (Bool → Option R) → Option R) (n : Nat) : KPs := fun R p k => match (PkS.un Slaws_sameInts p : Option ((List Int) × (List Int) × Unit)) with
  | some (x0, x1, _) => g n x0 x1 (fun r0 => k (PkS.pack Tlaws_sameInts (r0, ())))
  | none => none
theorem elaws_sameInts (laws_sameInts_l4 : ∀ {R : Type}, Nat → (List Int) → (List Int) → Int → Int → (Bool → Option R) → (Option R) → Option R) {R : Type} (n : Nat) (x0 : List Int) (x1 : List Int) (k : Pk → Option R) : evF tt sig (mkK [] R) (mkL (mkK []) [(4, Dlaws_sameInts_l4, Plaws_sameInts_l4 @laws_sameInts_l4 n)] R) Try.f38 Hlaws_sameInts (PkS.pack Slaws_sameInts (x0, x1, ())) k = (fun (k : Bool → Option R) => (bif ((x0.length : Int) != (x1.length : Int)) then k false else (laws_sameInts_l4 n x0 x1 (x0.length : Int) 0 (fun r1 => k r1) (k true)))) (fun r0 => k (PkS.pack Tlaws_sameInts (r0, ()))) := by kernel_rfl
theorem oklaws_sameInts (n : Nat) : FnOk Try.prog 38 (Klaws_sameInts @laws_sameInts n) := by
  refine fn_ok (sig := sig) mixed ttok (mkK_nat (claws_sameInts n)) (mkK_ok (claws_sameInts n)) (mkL_nat (mkK_nat (claws_sameInts n)) (l := [(4, Dlaws_sameInts_l4, Plaws_sameInts_l4 @laws_sameInts_l4 n)]) ⟨nllaws_sameInts_l4 n, trivial⟩) (fn := Try.f38) (c := bodyOf Try.f38) (by kernel_rfl) (by kernel_rfl) (by kernel_rfl) (.eq (l := [.lo (loopIn 4 (bodyOf Try.f38))]) (by kernel_rfl) ⟨(lklaws_sameInts_l4 n _ _ (at_id (i := 4) (by kernel_rfl) rfl)), trivial⟩) (shs := Hlaws_sameInts) (S := Slaws_sameInts) (h1 := by kernel_rfl) fun R p k => ?_
  unfold Klaws_sameInts
  cases h : (PkS.un Slaws_sameInts p) with
  | none => rfl
  | some d =>
    obtain ⟨x0, x1, u⟩ := (d : (List Int) × (List Int) × Unit)
    have hp := PkS.un_pack h
    subst hp
    exact (elaws_sameInts @laws_sameInts_l4 n x0 x1 k).symm

/-! ### loop.example/g00269/laws.FnSound -/
theorem claws_FnSound (n : Nat) : AllOk Try.prog [(64, Kspec_DrawIsSound @spec_DrawIsSound n), (65, Kimpl_IsSound @impl_IsSound n), (66, Kspec_IsSound @spec_IsSound n), (61, Kimpl_PlayNet @impl_PlayNet n), (67, Kimpl_FinishFrom @impl_FinishFrom n), (68, Kspec_DrawFinishFrom @spec_DrawFinishFrom n), (69, Kspec_FinishFrom @spec_FinishFrom n), (38, Klaws_sameInts @laws_sameInts n)] := ⟨okspec_DrawIsSound n, ⟨okimpl_IsSound n, ⟨okspec_IsSound n, ⟨okimpl_PlayNet n, ⟨okimpl_FinishFrom n, ⟨okspec_DrawFinishFrom n, ⟨okspec_FinishFrom n, ⟨oklaws_sameInts n, trivial⟩⟩⟩⟩⟩⟩⟩⟩
@[reducible] def Slaws_FnSound_l13 : PkS := ⟨[.one (.ro (.int .u8)), .one (.box (100000, 1) 0), .one (.whole (100000, 2)), .one (.whole (100000, 3)), .one (.int .i64), .one (.dead), .one (.dead)], [((100000, 0), .arr (.pr (.sl (.int .i64)) (.sl (.int .i64)))), ((100000, 1), .box [.int .i64, .whole (100000, 0)]), ((100000, 2), .arr (.int .i64)), ((100000, 3), .arr (.int .i64))]⟩
@[reducible] def Tlaws_FnSound_l13_0 : PkS := ⟨[.one (.ro (.int .u8)), .one (.box (100000, 1) 0), .one (.whole (100000, 2)), .one (.whole (100000, 3)), .one (.dead), .one (.dead)], [((100000, 0), .arr (.pr (.sl (.int .i64)) (.sl (.int .i64)))), ((100000, 1), .box [.int .i64, .whole (100000, 0)]), ((100000, 2), .arr (.int .i64)), ((100000, 3), .arr (.int .i64))]⟩
def Dlaws_FnSound_l13 : LoopD := ⟨168, [1, 5, 10, 11, 12], [.one (.ro (.int .u8)), .box [.any, (.own (.pr (.sl (.int .i64)) (.sl (.int .i64))))], .one (.own (.int .i64)), .one (.own (.int .i64)), .one .any, .skip, .skip], fun x => match x with
  | .exit 0 => some ([1, 5, 10, 11], [.one (.ro (.int .u8)), .box [.any, (.own (.pr (.sl (.int .i64)) (.sl (.int .i64))))], .one (.own (.int .i64)), .one (.own (.int .i64)), .skip, .skip])
  | _ => none⟩
def Plaws_FnSound_l13 (g : ∀ {R : Type}, Nat → (List Int) → Int → (List (List Int × List Int)) → Int → (List Int) → (List Int) → ((List Int) → (List (List Int × List Int)) → Int → (List Int) → (List Int) → Option R) → Option R) (n : Nat) : LPs := fun R q kk => match (PkS.un Slaws_FnSound_l13 q : Option ((List Int) × Int × (List (List Int × List Int)) × Int × (List Int) × (List Int) × Unit)) with
  | some (y13_0, y13_1, y13_2, y13_3, y13_4, y13_5, _) => g n y13_0 y13_1 y13_2 y13_3 y13_4 y13_5 (fun r0 r1 r2 r3 r4 => kk (.exit 0) (PkS.pack Tlaws_FnSound_l13_0 (r0, r1, r2, r3, r4, ())))
  | none => none
theorem elaws_FnSound_l13 (spec_DrawIsSound : ∀ {R : Type}, Nat → (List Int) → (Int → (List (List Int × List Int)) → Option R) → Option R) (impl_IsSound : ∀ {R : Type}, Nat → Int → (List (List Int × List Int)) → (Bool → Bool → Option R) → Option R) (spec_IsSound : ∀ {R : Type}, Nat → Int → (List (List Int × List Int)) → (Bool → Bool → Option R) → Option R) (impl_PlayNet : ∀ {R : Type}, Nat → Int → (List (List Int × List Int)) → (List Int) → (List Int) → ((List Int) → Int → Bool → Option R) → Option R) (impl_FinishFrom : ∀ {R : Type}, Nat → Int → (List (List Int × List Int)) → (List Int) → (Bool → (List Int) → Option R) → Option R) (spec_DrawFinishFrom : ∀ {R : Type}, Nat → (List Int) → (Int → (List (List Int × List Int)) → (List Int) → Option R) → Option R) (spec_FinishFrom : ∀ {R : Type}, Nat → Int → (List (List Int × List Int)) → (List Int) → (Bool → (List Int) → Option R) → Option R) (laws_sameInts : ∀ {R : Type}, Nat → (List Int) → (List Int) → (Bool → Option R) → Option R) (laws_FnSound_l13 : ∀ {R : Type}, Nat → (List Int) → Int → (List (List Int × List Int)) → Int → (List Int) → (List Int) → ((List Int) → (List (List Int × List Int)) → Int → (List Int) → (List Int) → Option R) → Option R) {R : Type} (n : Nat) (y13_0 : List Int) (y13_1 : Int) (y13_2 : List (List Int × List Int)) (y13_3 : Int) (y13_4 : List Int) (y13_5 : List Int) (kk : Ex → Pk → Option R) : Dlaws_FnSound_l13.step tt sig (mkK [(64, Kspec_DrawIsSound @spec_DrawIsSound n), (65, Kimpl_IsSound @impl_IsSound n), (66, Kspec_IsSound @spec_IsSound n), (61, Kimpl_PlayNet @impl_PlayNet n), (67, Kimpl_FinishFrom @impl_FinishFrom n), (68, Kspec_DrawFinishFrom @spec_DrawFinishFrom n), (69, Kspec_FinishFrom @spec_FinishFrom n), (38, Klaws_sameInts @laws_sameInts n)] R) (mkL (mkK [(64, Kspec_DrawIsSound @spec_DrawIsSound n), (65, Kimpl_IsSound @impl_IsSound n), (66, Kspec_IsSound @spec_IsSound n), (61, Kimpl_PlayNet @impl_PlayNet n), (67, Kimpl_FinishFrom @impl_FinishFrom n), (68, Kspec_DrawFinishFrom @spec_DrawFinishFrom n), (69, Kspec_FinishFrom @spec_FinishFrom n), (38, Klaws_sameInts @laws_sameInts n)]) [] R) (loopIn 13 (bodyOf Try.f12)) (fun q' => Plaws_FnSound_l13 @laws_FnSound_l13 n R q' kk) (PkS.pack Slaws_FnSound_l13 (y13_0, y13_1, y13_2, y13_3, y13_4, y13_5, ())) kk = (fun (kexit0 : (List Int) → (List (List Int × List Int)) → Int → (List Int) → (List Int) → Option R) => (bif (decide (y13_1 < (y13_0.length : Int))) then (bif (decide (y13_1 < 40)) then (bif decide (0 ≤ y13_1) then (bif decide (y13_1 < (y13_0.length : Int)) then (bif decide ((y13_2.length : Int) ≠ 0) then (bif decide (y13_5.length + ([(Int.tmod (IntKind.wrap .i64 ((y13_0.getD (Int.toNat y13_1) 0))) (y13_2.length : Int))]).length ≤ LIM) then laws_FnSound_l13 n y13_0 (IntKind.wrap .i64 (y13_1 + 1)) y13_2 y13_3 y13_4 (y13_5 ++ [(Int.tmod (IntKind.wrap .i64 ((y13_0.getD (Int.toNat y13_1) 0))) (y13_2.length : Int))]) kexit0 else none) else none) else none) else none) else kexit0 y13_0 y13_2 y13_3 y13_4 y13_5) else kexit0 y13_0 y13_2 y13_3 y13_4 y13_5)) (fun r0 r1 r2 r3 r4 => kk (.exit 0) (PkS.pack Tlaws_FnSound_l13_0 (r0, r1, r2, r3, r4, ()))) := by kernel_rfl
theorem lelaws_FnSound_l13 : LoopEq tt sig (fun n => mkK [(64, Kspec_DrawIsSound @spec_DrawIsSound n), (65, Kimpl_IsSound @impl_IsSound n), (66, Kspec_IsSound @spec_IsSound n), (61, Kimpl_PlayNet @impl_PlayNet n), (67, Kimpl_FinishFrom @impl_FinishFrom n), (68, Kspec_DrawFinishFrom @spec_DrawFinishFrom n), (69, Kspec_FinishFrom @spec_FinishFrom n), (38, Klaws_sameInts @laws_sameInts n)]) (fun n => mkL (mkK [(64, Kspec_DrawIsSound @spec_DrawIsSound n), (65, Kimpl_IsSound @impl_IsSound n), (66, Kspec_IsSound @spec_IsSound n), (61, Kimpl_PlayNet @impl_PlayNet n), (67, Kimpl_FinishFrom @impl_FinishFrom n), (68, Kspec_DrawFinishFrom @spec_DrawFinishFrom n), (69, Kspec_FinishFrom @spec_FinishFrom n), (38, Klaws_sameInts @laws_sameInts n)]) []) Dlaws_FnSound_l13 Slaws_FnSound_l13 (loopIn 13 (bodyOf Try.f12)) (Plaws_FnSound_l13 @laws_FnSound_l13) where
  zero R q kk := by unfold Plaws_FnSound_l13; cases (PkS.un Slaws_FnSound_l13 q) <;> rfl
  succ n R q kk := by
    unfold Plaws_FnSound_l13
    cases h : (PkS.un Slaws_FnSound_l13 q) with
    | none => rfl
    | some d =>
      obtain ⟨y13_0, y13_1, y13_2, y13_3, y13_4, y13_5, u⟩ := (d : (List Int) × Int × (List (List Int × List Int)) × Int × (List Int) × (List Int) × Unit)
      have hp := PkS.un_pack h
      subst hp
      exact (elaws_FnSound_l13 @spec_DrawIsSound @impl_IsSound @spec_IsSound @impl_PlayNet @impl_FinishFrom @spec_DrawFinishFrom @spec_FinishFrom @laws_sameInts @laws_FnSound_l13 n y13_0 y13_1 y13_2 y13_3 y13_4 y13_5 kk).symm
theorem nllaws_FnSound_l13 : ∀ n, NatLP (Plaws_FnSound_l13 @laws_FnSound_l13 n) := lelaws_FnSound_l13.nat (fun n => mkK_nat (claws_FnSound n)) fun n => mkL_nat (mkK_nat (claws_FnSound n)) (l := []) trivial
theorem inlaws_FnSound_l13 (n : Nat) (R : Type) : LoopsOk Try.prog (mkL (mkK [(64, Kspec_DrawIsSound @spec_DrawIsSound n), (65, Kimpl_IsSound @impl_IsSound n), (66, Kspec_IsSound @spec_IsSound n), (61, Kimpl_PlayNet @impl_PlayNet n), (67, Kimpl_FinishFrom @impl_FinishFrom n), (68, Kspec_DrawFinishFrom @spec_DrawFinishFrom n), (69, Kspec_FinishFrom @spec_FinishFrom n), (38, Klaws_sameInts @laws_sameInts n)]) [] R) (loopIn 13 (bodyOf Try.f12)) := .eq (l := []) (by kernel_rfl) trivial
theorem lklaws_FnSound_l13 (n : Nat) (R : Type) (L0 : LK R) (h0 : ∀ id, firstRegion (loopIn 13 (bodyOf Try.f12)) = some id → L0 id = Dlaws_FnSound_l13.oracle (mkK [(64, Kspec_DrawIsSound @spec_DrawIsSound n), (65, Kimpl_IsSound @impl_IsSound n), (66, Kspec_IsSound @spec_IsSound n), (61, Kimpl_PlayNet @impl_PlayNet n), (67, Kimpl_FinishFrom @impl_FinishFrom n), (68, Kspec_DrawFinishFrom @spec_DrawFinishFrom n), (69, Kspec_FinishFrom @spec_FinishFrom n), (38, Klaws_sameInts @laws_sameInts n)] R) (Plaws_FnSound_l13 @laws_FnSound_l13 n R)) : LoopOk Try.prog L0 (loopIn 13 (bodyOf Try.f12)) :=
  lelaws_FnSound_l13.ok mixed ttok (fun n => mkK_nat (claws_FnSound n)) (fun n => mkK_ok (claws_FnSound n)) (fun n => inlaws_FnSound_l13 n R) (mkK_nat (claws_FnSound n)) h0
@[reducible] def Slaws_FnSound_l22 : PkS := ⟨[.one (.ro (.int .u8)), .one (.ro (.int .i64)), .one (.int .i64), .one (.int .i64), .one (.dead), .one (.dead)], []⟩
@[reducible] def Tlaws_FnSound_l22_0 : PkS := ⟨[.one (.bool), .one (.dead), .one (.dead)], []⟩
@[reducible] def Tlaws_FnSound_l22_1 : PkS := ⟨[.one (.ro (.int .u8)), .one (.dead), .one (.dead)], []⟩
def Dlaws_FnSound_l22 : LoopD := ⟨168, [1, 134, 135, 136], [.one (.ro (.int .u8)), .one (.ro (.int .i64)), .one .any, .one .any, .skip, .skip], fun x => match x with
  | .ret => some ([4], [.one .any, .skip, .skip])
  | .exit 2 => some ([1], [.one (.ro (.int .u8)), .skip, .skip])
  | _ => none⟩
def Plaws_FnSound_l22 (g : ∀ {R : Type}, Nat → (List Int) → (List Int) → Int → Int → (Bool → Option R) → ((List Int) → Option R) → Option R) (n : Nat) : LPs := fun R q kk => match (PkS.un Slaws_FnSound_l22 q : Option ((List Int) × (List Int) × Int × Int × Unit)) with
  | some (y22_0, y22_1, y22_2, y22_3, _) => g n y22_0 y22_1 y22_2 y22_3 (fun r0 => kk .ret (PkS.pack Tlaws_FnSound_l22_0 (r0, ()))) (fun r0 => kk (.exit 2) (PkS.pack Tlaws_FnSound_l22_1 (r0, ())))
  | none => none
theorem elaws_FnSound_l22 (spec_DrawIsSound : ∀ {R : Type}, Nat → (List Int) → (Int → (List (List Int × List Int)) → Option R) → Option R) (impl_IsSound : ∀ {R : Type}, Nat → Int → (List (List Int × List Int)) → (Bool → Bool → Option R) → Option R) (spec_IsSound : ∀ {R : Type}, Nat → Int → (List (List Int × List Int)) → (Bool → Bool → Option R) → Option R) (impl_PlayNet : ∀ {R : Type}, Nat → Int → (List (List Int × List Int)) → (List Int) → (List Int) → ((List Int) → Int → Bool → Option R) → Option R) (impl_FinishFrom : ∀ {R : Type}, Nat → Int → (List (List Int × List Int)) → (List Int) → (Bool → (List Int) → Option R) → Option R) (spec_DrawFinishFrom : ∀ {R : Type}, Nat → (List Int) → (Int → (List (List Int × List Int)) → (List Int) → Option R) → Option R) (spec_FinishFrom : ∀ {R : Type}, Nat → Int → (List (List Int × List Int)) → (List Int) → (Bool → (List Int) → Option R) → Option R) (laws_sameInts : ∀ {R : Type}, Nat → (List Int) → (List Int) → (Bool → Option R) → Option R) (laws_FnSound_l13 : ∀ {R : Type}, Nat → (List Int) → Int → (List (List Int × List Int)) → Int → (List Int) → (List Int) → ((List Int) → (List (List Int × List Int)) → Int → (List Int) → (List Int) → Option R) → Option R) (laws_FnSound_l22 : ∀ {R : Type}, Nat → (List Int) → (List Int) → Int → Int → (Bool → Option R) → ((List Int) → Option R) → Option R) {R : Type} (n : Nat) (y22_0 : List Int) (y22_1 : List Int) (y22_2 : Int) (y22_3 : Int) (kk : Ex → Pk → Option R) : Dlaws_FnSound_l22.step tt sig (mkK [(64, Kspec_DrawIsSound @spec_DrawIsSound n), (65, Kimpl_IsSound @impl_IsSound n), (66, Kspec_IsSound @spec_IsSound n), (61, Kimpl_PlayNet @impl_PlayNet n), (67, Kimpl_FinishFrom @impl_FinishFrom n), (68, Kspec_DrawFinishFrom @spec_DrawFinishFrom n), (69, Kspec_FinishFrom @spec_FinishFrom n), (38, Klaws_sameInts @laws_sameInts n)] R) (mkL (mkK [(64, Kspec_DrawIsSound @spec_DrawIsSound n), (65, Kimpl_IsSound @impl_IsSound n), (66, Kspec_IsSound @spec_IsSound n), (61, Kimpl_PlayNet @impl_PlayNet n), (67, Kimpl_FinishFrom @impl_FinishFrom n), (68, Kspec_DrawFinishFrom @spec_DrawFinishFrom n), (69, Kspec_FinishFrom @spec_FinishFrom n), (38, Klaws_sameInts @laws_sameInts n)]) [(13, Dlaws_FnSound_l13, Plaws_FnSound_l13 @laws_FnSound_l13 n)] R) (loopIn 22 (bodyOf Try.f12)) (fun q' => Plaws_FnSound_l22 @laws_FnSound_l22 n R q' kk) (PkS.pack Slaws_FnSound_l22 (y22_0, y22_1, y22_2, y22_3, ())) kk = (fun (kret : Bool → Option R) (kexit2 : (List Int) → Option R) => (bif (decide (y22_3 < y22_2)) then (bif decide (0 ≤ y22_3) then (bif decide (y22_3 < (y22_1.length : Int)) then (bif ((y22_1.getD (Int.toNat y22_3) 0) != 0) then kret false else laws_FnSound_l22 n y22_0 y22_1 y22_2 (IntKind.wrap .i64 (y22_3 + 1)) kret kexit2) else none) else none) else kexit2 y22_0)) (fun r0 => kk .ret (PkS.pack Tlaws_FnSound_l22_0 (r0, ()))) (fun r0 => kk (.exit 2) (PkS.pack Tlaws_FnSound_l22_1 (r0, ()))) := by kernel_rfl
theorem lelaws_FnSound_l22 : LoopEq tt sig (fun n => mkK [(64, Kspec_DrawIsSound @spec_DrawIsSound n), (65, Kimpl_IsSound @impl_IsSound n), (66, Kspec_IsSound @spec_IsSound n), (61, Kimpl_PlayNet @impl_PlayNet n), (67, Kimpl_FinishFrom @impl_FinishFrom n), (68, Kspec_DrawFinishFrom @spec_DrawFinishFrom n), (69, Kspec_FinishFrom @spec_FinishFrom n), (38, Klaws_sameInts @laws_sameInts n)]) (fun n => mkL (mkK [(64, Kspec_DrawIsSound @spec_DrawIsSound n), (65, Kimpl_IsSound @impl_IsSound n), (66, Kspec_IsSound @spec_IsSound n), (61, Kimpl_PlayNet @impl_PlayNet n), (67, Kimpl_FinishFrom @impl_FinishFrom n), (68, Kspec_DrawFinishFrom @spec_DrawFinishFrom n), (69, Kspec_FinishFrom @spec_FinishFrom n), (38, Klaws_sameInts @laws_sameInts n)]) [(13, Dlaws_FnSound_l13, Plaws_FnSound_l13 @laws_FnSound_l13 n)]) Dlaws_FnSound_l22 Slaws_FnSound_l22 (loopIn 22 (bodyOf Try.f12)) (Plaws_FnSound_l22 @laws_FnSound_l22) where
  zero R q kk := by unfold Plaws_FnSound_l22; cases (PkS.un Slaws_FnSound_l22 q) <;> rfl
  succ n R q kk := by
    unfold Plaws_FnSound_l22
    cases h : (PkS.un Slaws_FnSound_l22 q) with
    | none => rfl
    | some d =>
      obtain ⟨y22_0, y22_1, y22_2, y22_3, u⟩ := (d : (List Int) × (List Int) × Int × Int × Unit)
      have hp := PkS.un_pack h
      subst hp
      exact (elaws_FnSound_l22 @spec_DrawIsSound @impl_IsSound @spec_IsSound @impl_PlayNet @impl_FinishFrom @spec_DrawFinishFrom @spec_FinishFrom @laws_sameInts @laws_FnSound_l13 @laws_FnSound_l22 n y22_0 y22_1 y22_2 y22_3 kk).symm
theorem nllaws_FnSound_l22 : ∀ n, NatLP (Plaws_FnSound_l22 @laws_FnSound_l22 n) := lelaws_FnSound_l22.nat (fun n => mkK_nat (claws_FnSound n)) fun n => mkL_nat (mkK_nat (claws_FnSound n)) (l := [(13, Dlaws_FnSound_l13, Plaws_FnSound_l13 @laws_FnSound_l13 n)]) ⟨nllaws_FnSound_l13 n, trivial⟩
theorem inlaws_FnSound_l22 (n : Nat) (R : Type) : LoopsOk Try.prog (mkL (mkK [(64, Kspec_DrawIsSound @spec_DrawIsSound n), (65, Kimpl_IsSound @impl_IsSound n), (66, Kspec_IsSound @spec_IsSound n), (61, Kimpl_PlayNet @impl_PlayNet n), (67, Kimpl_FinishFrom @impl_FinishFrom n), (68, Kspec_DrawFinishFrom @spec_DrawFinishFrom n), (69, Kspec_FinishFrom @spec_FinishFrom n), (38, Klaws_sameInts @laws_sameInts n)]) [(13, Dlaws_FnSound_l13, Plaws_FnSound_l13 @laws_FnSound_l13 n)] R) (loopIn 22 (bodyOf Try.f12)) := .eq (l := []) (by kernel_rfl) trivial
theorem lklaws_FnSound_l22 (n : Nat) (R : Type) (L0 : LK R) (h0 : ∀ id, firstRegion (loopIn 22 (bodyOf Try.f12)) = some id → L0 id = Dlaws_FnSound_l22.oracle (mkK [(64, Kspec_DrawIsSound @spec_DrawIsSound n), (65, Kimpl_IsSound @impl_IsSound n), (66, Kspec_IsSound @spec_IsSound n), (61, Kimpl_PlayNet @impl_PlayNet n), (67, Kimpl_FinishFrom @impl_FinishFrom n), (68, Kspec_DrawFinishFrom @spec_DrawFinishFrom n), (69, Kspec_FinishFrom @spec_FinishFrom n), (38, Klaws_sameInts @laws_sameInts n)] R) (Plaws_FnSound_l22 @laws_FnSound_l22 n R)) : LoopOk Try.prog L0 (loopIn 22 (bodyOf Try.f12)) :=
  lelaws_FnSound_l22.ok mixed ttok (fun n => mkK_nat (claws_FnSound n)) (fun n => mkK_ok (claws_FnSound n)) (fun n => inlaws_FnSound_l22 n R) (mkK_nat (claws_FnSound n)) h0
@[reducible] def Slaws_FnSound : PkS := ⟨[.one (.ro (.int .u8)), .one (.ro (.int .u8))], []⟩
@[reducible] def Tlaws_FnSound : PkS := ⟨[.one (.bool), .one (.dead), .one (.dead)], []⟩
def Hlaws_FnSound : List Sh := [.one .any, .skip, .skip]
def Klaws_FnSound (g : ∀ {R : Type}, Nat → (List Int) → (List Int) → (Bool → Option R) → Option R) (n : Nat) : KPs := fun R p k => match (PkS.un Slaws_FnSound p : Option ((List Int) × (List Int) × Unit)) with
  | some (x0, x1, _) => g n x0 x1 (fun r0 => k (PkS.pack Tlaws_FnSound (r0, ())))
  | none => none
theorem elaws_FnSound (spec_DrawIsSound : ∀ {R : Type}, Nat → (List Int) → (Int → (List (List Int × List Int)) → Option R) → Option R) (impl_IsSound : ∀ {R : Type}, Nat → Int → (List (List Int × List Int)) → (Bool → Bool → Option R) → Option R) (spec_IsSound : ∀ {R : Type}, Nat → Int → (List (List Int × List Int)) → (Bool → Bool → Option R) → Option R) (impl_PlayNet : ∀ {R : Type}, Nat → Int → (List (List Int × List Int)) → (List Int) → (List Int) → ((List Int) → Int → Bool → Option R) → Option R) (impl_FinishFrom : ∀ {R : Type}, Nat → Int → (List (List Int × List Int)) → (List Int) → (Bool → (List Int) → Option R) → Option R) (spec_DrawFinishFrom : ∀ {R : Type}, Nat → (List Int) → (Int → (List (List Int × List Int)) → (List Int) → Option R) → Option R) (spec_FinishFrom : ∀ {R : Type}, Nat → Int → (List (List Int × List Int)) → (List Int) → (Bool → (List Int) → Option R) → Option R) (laws_sameInts : ∀ {R : Type}, Nat → (List Int) → (List Int) → (Bool → Option R) → Option R) (laws_FnSound_l13 : ∀ {R : Type}, Nat → (List Int) → Int → (List (List Int × List Int)) → Int → (List Int) → (List Int) → ((List Int) → (List (List Int × List Int)) → Int → (List Int) → (List Int) → Option R) → Option R) (laws_FnSound_l22 : ∀ {R : Type}, Nat → (List Int) → (List Int) → Int → Int → (Bool → Option R) → ((List Int) → Option R) → Option R) {R : Type} (n : Nat) (x0 : List Int) (x1 : List Int) (k : Pk → Option R) : evF tt sig (mkK [(64, Kspec_DrawIsSound @spec_DrawIsSound n), (65, Kimpl_IsSound @impl_IsSound n), (66, Kspec_IsSound @spec_IsSound n), (61, Kimpl_PlayNet @impl_PlayNet n), (67, Kimpl_FinishFrom @impl_FinishFrom n), (68, Kspec_DrawFinishFrom @spec_DrawFinishFrom n), (69, Kspec_FinishFrom @spec_FinishFrom n), (38, Klaws_sameInts @laws_sameInts n)] R) (mkL (mkK [(64, Kspec_DrawIsSound @spec_DrawIsSound n), (65, Kimpl_IsSound @impl_IsSound n), (66, Kspec_IsSound @spec_IsSound n), (61, Kimpl_PlayNet @impl_PlayNet n), (67, Kimpl_FinishFrom @impl_FinishFrom n), (68, Kspec_DrawFinishFrom @spec_DrawFinishFrom n), (69, Kspec_FinishFrom @spec_FinishFrom n), (38, Klaws_sameInts @laws_sameInts n)]) [(13, Dlaws_FnSound_l13, Plaws_FnSound_l13 @laws_FnSound_l13 n), (22, Dlaws_FnSound_l22, Plaws_FnSound_l22 @laws_FnSound_l22 n)] R) Try.f12 Hlaws_FnSound (PkS.pack Slaws_FnSound (x0, x1, ())) k = (fun (k : Bool → Option R) => (bif (decide ((IntKind.wrap .i64 ((x0.length : Int) + (x1.length : Int))) > 1048576)) then k true else (spec_DrawIsSound n x0 fun r1 r2 => (impl_IsSound n r1 r2 fun r3 r4 => (spec_IsSound n r1 r2 fun r5 r6 => (bif (!(r4 == r6)) then k false else (bif (!(r3 == r5)) then k false else (bif r3 then (bif decide (0 ≤ r1) then (bif decide (r1 ≤ r1) then (bif decide (r1 ≤ 1099511627776) then (bif decide (0 < ((List.replicate (Int.toNat r1) (0 : Int)).length : Int)) then (laws_FnSound_l13 n x1 0 r2 r1 ((List.replicate (Int.toNat r1) (0 : Int)).set 0 1) ([] : List Int) (fun r7 r8 r9 r10 r11 => (impl_PlayNet n r9 r8 r10 r11 fun r12 r13 r14 => (impl_FinishFrom n r9 r8 r12 fun r15 r16 => (impl_PlayNet n r9 r8 r12 r16 fun r17 r18 r19 => (bif (!r14) then k false else (bif (!r15) then k false else (bif (!r19) then k false else (bif (r18 != (r16.length : Int)) then k false else (bif decide (0 ≤ (IntKind.wrap .i64 (r9 - 1))) then (bif decide ((IntKind.wrap .i64 (r9 - 1)) < (r17.length : Int)) then (bif ((r17.getD (Int.toNat (IntKind.wrap .i64 (r9 - 1))) 0) != 1) then k false else (bif decide (0 ≤ (IntKind.wrap .i64 (r9 - 1))) then (bif decide ((IntKind.wrap .i64 (r9 - 1)) ≤ (r17.length : Int)) then (laws_FnSound_l22 n r7 ((r17.drop 0).take ((Int.toNat (IntKind.wrap .i64 (r9 - 1))) - 0)) (((r17.drop 0).take ((Int.toNat (IntKind.wrap .i64 (r9 - 1))) - 0)).length : Int) 0 (fun r20 => k r20) (fun r21 => (spec_DrawFinishFrom n r21 fun r22 r23 r24 => (impl_FinishFrom n r22 r23 r24 fun r25 r26 => (spec_FinishFrom n r22 r23 r24 fun r27 r28 => (bif (r25 == r27) then (laws_sameInts n r26 r28 fun r29 => k r29) else k false)))))) else none) else none)) else none) else none)))))))))) else none) else none) else none) else none) else (spec_DrawFinishFrom n x1 fun r30 r31 r32 => (impl_FinishFrom n r30 r31 r32 fun r33 r34 => (spec_FinishFrom n r30 r31 r32 fun r35 r36 => (bif (r33 == r35) then (laws_sameInts n r34 r36 fun r37 => k r37) else k false)))))))))))) (fun r0 => k (PkS.pack Tlaws_FnSound (r0, ()))) := by kernel_rfl
theorem oklaws_FnSound (n : Nat) : FnOk Try.prog 12 (Klaws_FnSound @laws_FnSound n) := by
  refine fn_ok (sig := sig) mixed ttok (mkK_nat (claws_FnSound n)) (mkK_ok (claws_FnSound n)) (mkL_nat (mkK_nat (claws_FnSound n)) (l := [(13, Dlaws_FnSound_l13, Plaws_FnSound_l13 @laws_FnSound_l13 n), (22, Dlaws_FnSound_l22, Plaws_FnSound_l22 @laws_FnSound_l22 n)]) ⟨nllaws_FnSound_l13 n, ⟨nllaws_FnSound_l22 n, trivial⟩⟩) (fn := Try.f12) (c := bodyOf Try.f12) (by kernel_rfl) (by kernel_rfl) (by kernel_rfl) (.eq (l := [.lo (loopIn 13 (bodyOf Try.f12)), .lo (loopIn 22 (bodyOf Try.f12))]) (by kernel_rfl) ⟨(lklaws_FnSound_l13 n _ _ (at_id (i := 13) (by kernel_rfl) rfl)), ⟨(lklaws_FnSound_l22 n _ _ (at_id (i := 22) (by kernel_rfl) rfl)), trivial⟩⟩) (shs := Hlaws_FnSound) (S := Slaws_FnSound) (h1 := by kernel_rfl) fun R p k => ?_
  unfold Klaws_FnSound
  cases h : (PkS.un Slaws_FnSound p) with
  | none => rfl
  | some d =>
    obtain ⟨x0, x1, u⟩ := (d : (List Int) × (List Int) × Unit)
    have hp := PkS.un_pack h
    subst hp
    exact (elaws_FnSound @spec_DrawIsSound @impl_IsSound @spec_IsSound @impl_PlayNet @impl_FinishFrom @spec_DrawFinishFrom @spec_FinishFrom @laws_sameInts @laws_FnSound_l13 @laws_FnSound_l22 n x0 x1 k).symm
end Go.Am.G
