/- The code of the functions that the law reaches does what the plain functions say. -/
import Derived.Test.YtfodnlonkningaaF4
import Derived.Test.YtfodnlonkningaaAmB
import Derived.Test.YtfodnlonkningaaAmW
import Derived.Test.YtfodnlonkningaaG4A
import Derived.KernelRfl
import Derived.Test.YtfodnlonkningaaProg
set_option linter.unusedVariables false
set_option maxRecDepth 100000
namespace Go.Am.G
open Go Go.Am
open Go.Proofs
/-! ### loop.example/g00269/impl.TimersIn -/
theorem cimpl_TimersIn (n : Nat) : AllOk Try.prog [(13, Kimpl_GoodWheel @impl_GoodWheel n), (27, Kimpl_Wheel_timers @impl_Wheel_timers n), (37, Kslices_SortFunc_impl_Timer_impl_TimersIn_c1 @slices_SortFunc_impl_Timer_impl_TimersIn_c1 n)] := ⟨okimpl_GoodWheel n, ⟨okimpl_Wheel_timers n, ⟨okslices_SortFunc_impl_Timer_impl_TimersIn_c1 n, trivial⟩⟩⟩
@[reducible] def Simpl_TimersIn : PkS := ⟨[.agg [.int .i64, .ro (.sl (.pr (.int .i64) (.int .i64)))]], []⟩
@[reducible] def Timpl_TimersIn : PkS := ⟨[.tup [(false, [.whole (300000, 0)]), (false, [.bool])], .one (.dead)], [((300000, 0), .arr (.pr (.int .i64) (.int .i64)))]⟩
def Himpl_TimersIn : List Sh := [.tup [(false, [(.own (.pr (.int .i64) (.int .i64)))]), (false, [.any])], .skip]
def Kimpl_TimersIn (g : ∀ {R : Type}, Nat → Int → (List (List (Int × Int))) → (Bool → (List (Int × Int)) → Option R) → Option R) (n : Nat) : KPs := fun R p k => match (PkS.un Simpl_TimersIn p : Option (Int × (List (List (Int × Int))) × Unit)) with
  | some (x0, x1, _) => g n x0 x1 (fun r0 r1 => k (PkS.pack Timpl_TimersIn (r0, r1, ())))
  | none => none
theorem eimpl_TimersIn (impl_GoodWheel : ∀ {R : Type}, Nat → Int → (List (List (Int × Int))) → (Bool → Option R) → Option R) (impl_Wheel_timers : ∀ {R : Type}, Nat → Int → (List (List (Int × Int))) → ((List (Int × Int)) → Int → (List (List (Int × Int))) → Option R) → Option R) (slices_SortFunc_impl_Timer_impl_TimersIn_c1 : ∀ {R : Type}, Nat → (List (Int × Int)) → ((List (Int × Int)) → Option R) → Option R) {R : Type} (n : Nat) (x0 : Int) (x1 : List (List (Int × Int))) (k : Pk → Option R) : evF tt sig (mkK [(13, Kimpl_GoodWheel @impl_GoodWheel n), (27, Kimpl_Wheel_timers @impl_Wheel_timers n), (37, Kslices_SortFunc_impl_Timer_impl_TimersIn_c1 @slices_SortFunc_impl_Timer_impl_TimersIn_c1 n)] R) (mkL (mkK [(13, Kimpl_GoodWheel @impl_GoodWheel n), (27, Kimpl_Wheel_timers @impl_Wheel_timers n), (37, Kslices_SortFunc_impl_Timer_impl_TimersIn_c1 @slices_SortFunc_impl_Timer_impl_TimersIn_c1 n)]) [] R) Try.f10 Himpl_TimersIn (PkS.pack Simpl_TimersIn (x0, x1, ())) k = (fun (k : Bool → (List (Int × Int)) → Option R) => (impl_GoodWheel n x0 x1 fun r1 => (bif (!r1) then k false ([] : List (Int × Int)) else (impl_Wheel_timers n x0 x1 fun r2 r3 r4 => (slices_SortFunc_impl_Timer_impl_TimersIn_c1 n r2 fun r5 => k true r5))))) (fun r0 r1 => k (PkS.pack Timpl_TimersIn (r0, r1, ()))) := by kernel_rfl
theorem okimpl_TimersIn (n : Nat) : FnOk Try.prog 10 (Kimpl_TimersIn @impl_TimersIn n) := by
  refine fn_ok (sig := sig) mixed ttok (mkK_nat (cimpl_TimersIn n)) (mkK_ok (cimpl_TimersIn n)) (mkL_nat (mkK_nat (cimpl_TimersIn n)) (l := []) trivial) (fn := Try.f10) (c := bodyOf Try.f10) (by kernel_rfl) (by kernel_rfl) (by kernel_rfl) (.eq (l := []) (by kernel_rfl) trivial) (shs := Himpl_TimersIn) (S := Simpl_TimersIn) (h1 := by kernel_rfl) fun R p k => ?_
  unfold Kimpl_TimersIn
  cases h : (PkS.un Simpl_TimersIn p) with
  | none => rfl
  | some d =>
    obtain ⟨x0, x1, u⟩ := (d : Int × (List (List (Int × Int))) × Unit)
    have hp := PkS.un_pack h
    subst hp
    exact (eimpl_TimersIn @impl_GoodWheel @impl_Wheel_timers @slices_SortFunc_impl_Timer_impl_TimersIn_c1 n x0 x1 k).symm

/-! ### loop.example/g00269/spec.TimersIn -/
theorem cspec_TimersIn (n : Nat) : AllOk Try.prog [(30, Kspec_GoodWheel @spec_GoodWheel n)] := ⟨okspec_GoodWheel n, trivial⟩
@[reducible] def Sspec_TimersIn_l11 : PkS := ⟨[.one (.whole (100000, 0)), .one (.box (100000, 1) 0), .one (.int .i64), .one (.ro (.sl (.pr (.int .i64) (.int .i64)))), .one (.int .i64), .one (.int .i64), .one (.ro (.pr (.int .i64) (.int .i64))), .one (.int .i64), .one (.int .i64), .one (.dead)], [((100000, 0), .arr (.pr (.int .i64) (.int .i64))), ((100000, 1), .box [.int .i64, .int .i64])]⟩
@[reducible] def Tspec_TimersIn_l11_0 : PkS := ⟨[.one (.whole (100000, 0)), .one (.box (100000, 1) 0), .one (.int .i64), .one (.ro (.sl (.pr (.int .i64) (.int .i64)))), .one (.int .i64), .one (.int .i64), .one (.ro (.pr (.int .i64) (.int .i64))), .one (.int .i64), .one (.int .i64), .one (.dead)], [((100000, 0), .arr (.pr (.int .i64) (.int .i64))), ((100000, 1), .box [.int .i64, .int .i64])]⟩
def Dspec_TimersIn_l11 : LoopD := ⟨80, [4, 8, 9, 15, 16, 17, 21, 22, 23], [.one (.own (.pr (.int .i64) (.int .i64))), .box [.any, .any], .one .any, .one (.ro (.sl (.pr (.int .i64) (.int .i64)))), .one .any, .one .any, .one (.ro (.pr (.int .i64) (.int .i64))), .one .any, .one .any, .skip], fun x => match x with
  | .exit 4 => some ([4, 8, 9, 15, 16, 17, 21, 22, 23], [.one (.own (.pr (.int .i64) (.int .i64))), .box [.any, .any], .one .any, .one (.ro (.sl (.pr (.int .i64) (.int .i64)))), .one .any, .one .any, .one (.ro (.pr (.int .i64) (.int .i64))), .one .any, .one .any, .skip])
  | _ => none⟩
def Pspec_TimersIn_l11 (g : ∀ {R : Type}, Nat → Int → (List (List (Int × Int))) → Int → Int → (List (Int × Int)) → Int → Int → (List (Int × Int)) → Int → Int → (Int → (List (List (Int × Int))) → Int → Int → (List (Int × Int)) → Int → Int → (List (Int × Int)) → Int → Int → Option R) → Option R) (n : Nat) : LPs := fun R q kk => match (PkS.un Sspec_TimersIn_l11 q : Option (Int × (List (List (Int × Int))) × Int × Int × (List (Int × Int)) × Int × Int × (List (Int × Int)) × Int × Int × Unit)) with
  | some (y11_0, y11_1, y11_2, y11_3, y11_4, y11_5, y11_6, y11_7, y11_8, y11_9, _) => g n y11_0 y11_1 y11_2 y11_3 y11_4 y11_5 y11_6 y11_7 y11_8 y11_9 (fun r0 r1 r2 r3 r4 r5 r6 r7 r8 r9 => kk (.exit 4) (PkS.pack Tspec_TimersIn_l11_0 (r0, r1, r2, r3, r4, r5, r6, r7, r8, r9, ())))
  | none => none
theorem espec_TimersIn_l11 (spec_GoodWheel : ∀ {R : Type}, Nat → Int → (List (List (Int × Int))) → (Bool → Option R) → Option R) (spec_TimersIn_l11 : ∀ {R : Type}, Nat → Int → (List (List (Int × Int))) → Int → Int → (List (Int × Int)) → Int → Int → (List (Int × Int)) → Int → Int → (Int → (List (List (Int × Int))) → Int → Int → (List (Int × Int)) → Int → Int → (List (Int × Int)) → Int → Int → Option R) → Option R) {R : Type} (n : Nat) (y11_0 : Int) (y11_1 : List (List (Int × Int))) (y11_2 : Int) (y11_3 : Int) (y11_4 : List (Int × Int)) (y11_5 : Int) (y11_6 : Int) (y11_7 : List (Int × Int)) (y11_8 : Int) (y11_9 : Int) (kk : Ex → Pk → Option R) : Dspec_TimersIn_l11.step tt sig (mkK [(30, Kspec_GoodWheel @spec_GoodWheel n)] R) (mkL (mkK [(30, Kspec_GoodWheel @spec_GoodWheel n)]) [] R) (loopIn 11 (bodyOf Try.f21)) (fun q' => Pspec_TimersIn_l11 @spec_TimersIn_l11 n R q' kk) (PkS.pack Sspec_TimersIn_l11 (y11_0, y11_1, y11_2, y11_3, y11_4, y11_5, y11_6, y11_7, y11_8, y11_9, ())) kk = (fun (kexit4 : Int → (List (List (Int × Int))) → Int → Int → (List (Int × Int)) → Int → Int → (List (Int × Int)) → Int → Int → Option R) => (bif (decide (y11_0 < (y11_7.length : Int))) then (bif decide (0 ≤ y11_0) then (bif decide (y11_0 < (y11_7.length : Int)) then (bif (decide ((y11_7.getD (Int.toNat y11_0) (0, 0)).1 < y11_8)) then spec_TimersIn_l11 n (IntKind.wrap .i64 (y11_0 + 1)) y11_1 y11_2 y11_3 y11_4 y11_5 y11_6 y11_7 y11_8 y11_9 kexit4 else (bif decide (0 ≤ y11_0) then (bif decide (y11_0 < (y11_7.length : Int)) then (bif ((y11_7.getD (Int.toNat y11_0) (0, 0)).1 == y11_8) then (bif decide (0 ≤ y11_0) then (bif decide (y11_0 < (y11_7.length : Int)) then (bif (decide ((y11_7.getD (Int.toNat y11_0) (0, 0)).2 < y11_9)) then spec_TimersIn_l11 n (IntKind.wrap .i64 (y11_0 + 1)) y11_1 y11_2 y11_3 y11_4 y11_5 y11_6 y11_7 y11_8 y11_9 kexit4 else kexit4 y11_0 y11_1 y11_2 y11_3 y11_4 y11_5 y11_6 y11_7 y11_8 y11_9) else none) else none) else kexit4 y11_0 y11_1 y11_2 y11_3 y11_4 y11_5 y11_6 y11_7 y11_8 y11_9) else none) else none)) else none) else none) else kexit4 y11_0 y11_1 y11_2 y11_3 y11_4 y11_5 y11_6 y11_7 y11_8 y11_9)) (fun r0 r1 r2 r3 r4 r5 r6 r7 r8 r9 => kk (.exit 4) (PkS.pack Tspec_TimersIn_l11_0 (r0, r1, r2, r3, r4, r5, r6, r7, r8, r9, ()))) := by kernel_rfl
theorem lespec_TimersIn_l11 : LoopEq tt sig (fun n => mkK [(30, Kspec_GoodWheel @spec_GoodWheel n)]) (fun n => mkL (mkK [(30, Kspec_GoodWheel @spec_GoodWheel n)]) []) Dspec_TimersIn_l11 Sspec_TimersIn_l11 (loopIn 11 (bodyOf Try.f21)) (Pspec_TimersIn_l11 @spec_TimersIn_l11) where
  zero R q kk := by unfold Pspec_TimersIn_l11; cases (PkS.un Sspec_TimersIn_l11 q) <;> rfl
  succ n R q kk := by
    unfold Pspec_TimersIn_l11
    cases h : (PkS.un Sspec_TimersIn_l11 q) with
    | none => rfl
    | some d =>
      obtain ⟨y11_0, y11_1, y11_2, y11_3, y11_4, y11_5, y11_6, y11_7, y11_8, y11_9, u⟩ := (d : Int × (List (List (Int × Int))) × Int × Int × (List (Int × Int)) × Int × Int × (List (Int × Int)) × Int × Int × Unit)
      have hp := PkS.un_pack h
      subst hp
      exact (espec_TimersIn_l11 @spec_GoodWheel @spec_TimersIn_l11 n y11_0 y11_1 y11_2 y11_3 y11_4 y11_5 y11_6 y11_7 y11_8 y11_9 kk).symm
theorem nlspec_TimersIn_l11 : ∀ n, NatLP (Pspec_TimersIn_l11 @spec_TimersIn_l11 n) := lespec_TimersIn_l11.nat (fun n => mkK_nat (cspec_TimersIn n)) fun n => mkL_nat (mkK_nat (cspec_TimersIn n)) (l := []) trivial
theorem inspec_TimersIn_l11 (n : Nat) (R : Type) : LoopsOk Try.prog (mkL (mkK [(30, Kspec_GoodWheel @spec_GoodWheel n)]) [] R) (loopIn 11 (bodyOf Try.f21)) := .eq (l := []) (by kernel_rfl) trivial
theorem lkspec_TimersIn_l11 (n : Nat) (R : Type) (L0 : LK R) (h0 : ∀ id, firstRegion (loopIn 11 (bodyOf Try.f21)) = some id → L0 id = Dspec_TimersIn_l11.oracle (mkK [(30, Kspec_GoodWheel @spec_GoodWheel n)] R) (Pspec_TimersIn_l11 @spec_TimersIn_l11 n R)) : LoopOk Try.prog L0 (loopIn 11 (bodyOf Try.f21)) :=
  lespec_TimersIn_l11.ok mixed ttok (fun n => mkK_nat (cspec_TimersIn n)) (fun n => mkK_ok (cspec_TimersIn n)) (fun n => inspec_TimersIn_l11 n R) (mkK_nat (cspec_TimersIn n)) h0
@[reducible] def Sspec_TimersIn_l8 : PkS := ⟨[.one (.whole (100000, 0)), .one (.ro (.sl (.pr (.int .i64) (.int .i64)))), .one (.int .i64), .one (.int .i64), .one (.ro (.pr (.int .i64) (.int .i64))), .one (.int .i64), .one (.int .i64), .one (.dead)], [((100000, 0), .arr (.pr (.int .i64) (.int .i64)))]⟩
@[reducible] def Tspec_TimersIn_l8_0 : PkS := ⟨[.one (.whole (100000, 0)), .one (.ro (.sl (.pr (.int .i64) (.int .i64)))), .one (.int .i64), .one (.int .i64), .one (.dead)], [((100000, 0), .arr (.pr (.int .i64) (.int .i64)))]⟩
def Dspec_TimersIn_l8 : LoopD := ⟨80, [4, 15, 16, 17, 21, 22, 23], [.one (.own (.pr (.int .i64) (.int .i64))), .one (.ro (.sl (.pr (.int .i64) (.int .i64)))), .one .any, .one .any, .one (.ro (.pr (.int .i64) (.int .i64))), .one .any, .one .any, .skip], fun x => match x with
  | .exit 2 => some ([4, 15, 16, 17], [.one (.own (.pr (.int .i64) (.int .i64))), .one (.ro (.sl (.pr (.int .i64) (.int .i64)))), .one .any, .one .any, .skip])
  | _ => none⟩
def Pspec_TimersIn_l8 (g : ∀ {R : Type}, Nat → (List (List (Int × Int))) → Int → Int → (List (Int × Int)) → Int → Int → (List (Int × Int)) → ((List (List (Int × Int))) → Int → Int → (List (Int × Int)) → Option R) → Option R) (n : Nat) : LPs := fun R q kk => match (PkS.un Sspec_TimersIn_l8 q : Option ((List (List (Int × Int))) × Int × Int × (List (Int × Int)) × Int × Int × (List (Int × Int)) × Unit)) with
  | some (y8_0, y8_1, y8_2, y8_3, y8_4, y8_5, y8_6, _) => g n y8_0 y8_1 y8_2 y8_3 y8_4 y8_5 y8_6 (fun r0 r1 r2 r3 => kk (.exit 2) (PkS.pack Tspec_TimersIn_l8_0 (r0, r1, r2, r3, ())))
  | none => none
theorem espec_TimersIn_l8 (spec_GoodWheel : ∀ {R : Type}, Nat → Int → (List (List (Int × Int))) → (Bool → Option R) → Option R) (spec_TimersIn_l11 : ∀ {R : Type}, Nat → Int → (List (List (Int × Int))) → Int → Int → (List (Int × Int)) → Int → Int → (List (Int × Int)) → Int → Int → (Int → (List (List (Int × Int))) → Int → Int → (List (Int × Int)) → Int → Int → (List (Int × Int)) → Int → Int → Option R) → Option R) (spec_TimersIn_l8 : ∀ {R : Type}, Nat → (List (List (Int × Int))) → Int → Int → (List (Int × Int)) → Int → Int → (List (Int × Int)) → ((List (List (Int × Int))) → Int → Int → (List (Int × Int)) → Option R) → Option R) {R : Type} (n : Nat) (y8_0 : List (List (Int × Int))) (y8_1 : Int) (y8_2 : Int) (y8_3 : List (Int × Int)) (y8_4 : Int) (y8_5 : Int) (y8_6 : List (Int × Int)) (kk : Ex → Pk → Option R) : Dspec_TimersIn_l8.step tt sig (mkK [(30, Kspec_GoodWheel @spec_GoodWheel n)] R) (mkL (mkK [(30, Kspec_GoodWheel @spec_GoodWheel n)]) [(11, Dspec_TimersIn_l11, Pspec_TimersIn_l11 @spec_TimersIn_l11 n)] R) (loopIn 8 (bodyOf Try.f21)) (fun q' => Pspec_TimersIn_l8 @spec_TimersIn_l8 n R q' kk) (PkS.pack Sspec_TimersIn_l8 (y8_0, y8_1, y8_2, y8_3, y8_4, y8_5, y8_6, ())) kk = (fun (kexit2 : (List (List (Int × Int))) → Int → Int → (List (Int × Int)) → Option R) => (bif (decide (y8_5 < y8_4)) then (bif decide (0 ≤ y8_5) then (bif decide (y8_5 < (y8_3.length : Int)) then (spec_TimersIn_l11 n 0 y8_0 y8_1 y8_2 y8_3 y8_4 y8_5 y8_6 ((y8_3.getD (Int.toNat y8_5) (0, 0)).1) ((y8_3.getD (Int.toNat y8_5) (0, 0)).2) (fun r2 r3 r4 r5 r6 r7 r8 r9 r10 r11 => (bif decide (0 ≤ r2) then (bif decide (r2 ≤ (r9.length : Int)) then (bif decide (((r9.drop 0).take ((Int.toNat r2) - 0)).length ≤ LIM) then (bif decide (((r9.drop 0).take ((Int.toNat r2) - 0)).length + ([(r10, r11)]).length ≤ LIM) then (bif decide (0 ≤ r2) then (bif decide (r2 ≤ (r9.length : Int)) then (bif decide ((r9.length : Int) ≤ (r9.length : Int)) then (bif decide ((((r9.drop 0).take ((Int.toNat r2) - 0)) ++ [(r10, r11)]).length + ((r9.drop (Int.toNat r2)).take ((Int.toNat (r9.length : Int)) - (Int.toNat r2))).length ≤ LIM) then spec_TimersIn_l8 n r3 r4 r5 r6 r7 (IntKind.wrap .i64 (r8 + 1)) ((((r9.drop 0).take ((Int.toNat r2) - 0)) ++ [(r10, r11)]) ++ ((r9.drop (Int.toNat r2)).take ((Int.toNat (r9.length : Int)) - (Int.toNat r2)))) kexit2 else none) else none) else none) else none) else none) else none) else none) else none))) else none) else none) else kexit2 y8_0 y8_1 y8_2 y8_6)) (fun r0 r1 r2 r3 => kk (.exit 2) (PkS.pack Tspec_TimersIn_l8_0 (r0, r1, r2, r3, ()))) := by kernel_rfl
theorem lespec_TimersIn_l8 : LoopEq tt sig (fun n => mkK [(30, Kspec_GoodWheel @spec_GoodWheel n)]) (fun n => mkL (mkK [(30, Kspec_GoodWheel @spec_GoodWheel n)]) [(11, Dspec_TimersIn_l11, Pspec_TimersIn_l11 @spec_TimersIn_l11 n)]) Dspec_TimersIn_l8 Sspec_TimersIn_l8 (loopIn 8 (bodyOf Try.f21)) (Pspec_TimersIn_l8 @spec_TimersIn_l8) where
  zero R q kk := by unfold Pspec_TimersIn_l8; cases (PkS.un Sspec_TimersIn_l8 q) <;> rfl
  succ n R q kk := by
    unfold Pspec_TimersIn_l8
    cases h : (PkS.un Sspec_TimersIn_l8 q) with
    | none => rfl
    | some d =>
      obtain ⟨y8_0, y8_1, y8_2, y8_3, y8_4, y8_5, y8_6, u⟩ := (d : (List (List (Int × Int))) × Int × Int × (List (Int × Int)) × Int × Int × (List (Int × Int)) × Unit)
      have hp := PkS.un_pack h
      subst hp
      exact (espec_TimersIn_l8 @spec_GoodWheel @spec_TimersIn_l11 @spec_TimersIn_l8 n y8_0 y8_1 y8_2 y8_3 y8_4 y8_5 y8_6 kk).symm
theorem nlspec_TimersIn_l8 : ∀ n, NatLP (Pspec_TimersIn_l8 @spec_TimersIn_l8 n) := lespec_TimersIn_l8.nat (fun n => mkK_nat (cspec_TimersIn n)) fun n => mkL_nat (mkK_nat (cspec_TimersIn n)) (l := [(11, Dspec_TimersIn_l11, Pspec_TimersIn_l11 @spec_TimersIn_l11 n)]) ⟨nlspec_TimersIn_l11 n, trivial⟩
theorem inspec_TimersIn_l8 (n : Nat) (R : Type) : LoopsOk Try.prog (mkL (mkK [(30, Kspec_GoodWheel @spec_GoodWheel n)]) [(11, Dspec_TimersIn_l11, Pspec_TimersIn_l11 @spec_TimersIn_l11 n)] R) (loopIn 8 (bodyOf Try.f21)) := .eq (l := [.lo (loopIn 11 (bodyOf Try.f21))]) (by kernel_rfl) ⟨(lkspec_TimersIn_l11 n R _ (at_id (i := 11) (by kernel_rfl) rfl)), trivial⟩
theorem lkspec_TimersIn_l8 (n : Nat) (R : Type) (L0 : LK R) (h0 : ∀ id, firstRegion (loopIn 8 (bodyOf Try.f21)) = some id → L0 id = Dspec_TimersIn_l8.oracle (mkK [(30, Kspec_GoodWheel @spec_GoodWheel n)] R) (Pspec_TimersIn_l8 @spec_TimersIn_l8 n R)) : LoopOk Try.prog L0 (loopIn 8 (bodyOf Try.f21)) :=
  lespec_TimersIn_l8.ok mixed ttok (fun n => mkK_nat (cspec_TimersIn n)) (fun n => mkK_ok (cspec_TimersIn n)) (fun n => inspec_TimersIn_l8 n R) (mkK_nat (cspec_TimersIn n)) h0
@[reducible] def Sspec_TimersIn_l5 : PkS := ⟨[.one (.whole (100000, 0)), .one (.ro (.sl (.pr (.int .i64) (.int .i64)))), .one (.int .i64), .one (.int .i64), .one (.dead)], [((100000, 0), .arr (.pr (.int .i64) (.int .i64)))]⟩
@[reducible] def Tspec_TimersIn_l5_0 : PkS := ⟨[.one (.whole (100000, 0)), .one (.dead)], [((100000, 0), .arr (.pr (.int .i64) (.int .i64)))]⟩
def Dspec_TimersIn_l5 : LoopD := ⟨80, [4, 15, 16, 17], [.one (.own (.pr (.int .i64) (.int .i64))), .one (.ro (.sl (.pr (.int .i64) (.int .i64)))), .one .any, .one .any, .skip], fun x => match x with
  | .exit 0 => some ([4], [.one (.own (.pr (.int .i64) (.int .i64))), .skip])
  | _ => none⟩
def Pspec_TimersIn_l5 (g : ∀ {R : Type}, Nat → (List (List (Int × Int))) → Int → Int → (List (Int × Int)) → ((List (Int × Int)) → Option R) → Option R) (n : Nat) : LPs := fun R q kk => match (PkS.un Sspec_TimersIn_l5 q : Option ((List (List (Int × Int))) × Int × Int × (List (Int × Int)) × Unit)) with
  | some (y5_0, y5_1, y5_2, y5_3, _) => g n y5_0 y5_1 y5_2 y5_3 (fun r0 => kk (.exit 0) (PkS.pack Tspec_TimersIn_l5_0 (r0, ())))
  | none => none
theorem espec_TimersIn_l5 (spec_GoodWheel : ∀ {R : Type}, Nat → Int → (List (List (Int × Int))) → (Bool → Option R) → Option R) (spec_TimersIn_l11 : ∀ {R : Type}, Nat → Int → (List (List (Int × Int))) → Int → Int → (List (Int × Int)) → Int → Int → (List (Int × Int)) → Int → Int → (Int → (List (List (Int × Int))) → Int → Int → (List (Int × Int)) → Int → Int → (List (Int × Int)) → Int → Int → Option R) → Option R) (spec_TimersIn_l8 : ∀ {R : Type}, Nat → (List (List (Int × Int))) → Int → Int → (List (Int × Int)) → Int → Int → (List (Int × Int)) → ((List (List (Int × Int))) → Int → Int → (List (Int × Int)) → Option R) → Option R) (spec_TimersIn_l5 : ∀ {R : Type}, Nat → (List (List (Int × Int))) → Int → Int → (List (Int × Int)) → ((List (Int × Int)) → Option R) → Option R) {R : Type} (n : Nat) (y5_0 : List (List (Int × Int))) (y5_1 : Int) (y5_2 : Int) (y5_3 : List (Int × Int)) (kk : Ex → Pk → Option R) : Dspec_TimersIn_l5.step tt sig (mkK [(30, Kspec_GoodWheel @spec_GoodWheel n)] R) (mkL (mkK [(30, Kspec_GoodWheel @spec_GoodWheel n)]) [(11, Dspec_TimersIn_l11, Pspec_TimersIn_l11 @spec_TimersIn_l11 n), (8, Dspec_TimersIn_l8, Pspec_TimersIn_l8 @spec_TimersIn_l8 n)] R) (loopIn 5 (bodyOf Try.f21)) (fun q' => Pspec_TimersIn_l5 @spec_TimersIn_l5 n R q' kk) (PkS.pack Sspec_TimersIn_l5 (y5_0, y5_1, y5_2, y5_3, ())) kk = (fun (kexit0 : (List (Int × Int)) → Option R) => (bif (decide (y5_2 < y5_1)) then (bif decide (0 ≤ y5_2) then (bif decide (y5_2 < (y5_0.length : Int)) then (spec_TimersIn_l8 n y5_0 y5_1 y5_2 (y5_0.getD (Int.toNat y5_2) []) ((y5_0.getD (Int.toNat y5_2) []).length : Int) 0 y5_3 (fun r12 r13 r14 r15 => spec_TimersIn_l5 n r12 r13 (IntKind.wrap .i64 (r14 + 1)) r15 kexit0)) else none) else none) else kexit0 y5_3)) (fun r0 => kk (.exit 0) (PkS.pack Tspec_TimersIn_l5_0 (r0, ()))) := by kernel_rfl
theorem lespec_TimersIn_l5 : LoopEq tt sig (fun n => mkK [(30, Kspec_GoodWheel @spec_GoodWheel n)]) (fun n => mkL (mkK [(30, Kspec_GoodWheel @spec_GoodWheel n)]) [(11, Dspec_TimersIn_l11, Pspec_TimersIn_l11 @spec_TimersIn_l11 n), (8, Dspec_TimersIn_l8, Pspec_TimersIn_l8 @spec_TimersIn_l8 n)]) Dspec_TimersIn_l5 Sspec_TimersIn_l5 (loopIn 5 (bodyOf Try.f21)) (Pspec_TimersIn_l5 @spec_TimersIn_l5) where
  zero R q kk := by unfold Pspec_TimersIn_l5; cases (PkS.un Sspec_TimersIn_l5 q) <;> rfl
  succ n R q kk := by
    unfold Pspec_TimersIn_l5
    cases h : (PkS.un Sspec_TimersIn_l5 q) with
    | none => rfl
    | some d =>
      obtain ⟨y5_0, y5_1, y5_2, y5_3, u⟩ := (d : (List (List (Int × Int))) × Int × Int × (List (Int × Int)) × Unit)
      have hp := PkS.un_pack h
      subst hp
      exact (espec_TimersIn_l5 @spec_GoodWheel @spec_TimersIn_l11 @spec_TimersIn_l8 @spec_TimersIn_l5 n y5_0 y5_1 y5_2 y5_3 kk).symm
theorem nlspec_TimersIn_l5 : ∀ n, NatLP (Pspec_TimersIn_l5 @spec_TimersIn_l5 n) := lespec_TimersIn_l5.nat (fun n => mkK_nat (cspec_TimersIn n)) fun n => mkL_nat (mkK_nat (cspec_TimersIn n)) (l := [(11, Dspec_TimersIn_l11, Pspec_TimersIn_l11 @spec_TimersIn_l11 n), (8, Dspec_TimersIn_l8, Pspec_TimersIn_l8 @spec_TimersIn_l8 n)]) ⟨nlspec_TimersIn_l11 n, ⟨nlspec_TimersIn_l8 n, trivial⟩⟩
theorem inspec_TimersIn_l5 (n : Nat) (R : Type) : LoopsOk Try.prog (mkL (mkK [(30, Kspec_GoodWheel @spec_GoodWheel n)]) [(11, Dspec_TimersIn_l11, Pspec_TimersIn_l11 @spec_TimersIn_l11 n), (8, Dspec_TimersIn_l8, Pspec_TimersIn_l8 @spec_TimersIn_l8 n)] R) (loopIn 5 (bodyOf Try.f21)) := .eq (l := [.lo (loopIn 8 (bodyOf Try.f21))]) (by kernel_rfl) ⟨(lkspec_TimersIn_l8 n R _ (at_id (i := 8) (by kernel_rfl) rfl)), trivial⟩
theorem lkspec_TimersIn_l5 (n : Nat) (R : Type) (L0 : LK R) (h0 : ∀ id, firstRegion (loopIn 5 (bodyOf Try.f21)) = some id → L0 id = Dspec_TimersIn_l5.oracle (mkK [(30, Kspec_GoodWheel @spec_GoodWheel n)] R) (Pspec_TimersIn_l5 @spec_TimersIn_l5 n R)) : LoopOk Try.prog L0 (loopIn 5 (bodyOf Try.f21)) :=
  lespec_TimersIn_l5.ok mixed ttok (fun n => mkK_nat (cspec_TimersIn n)) (fun n => mkK_ok (cspec_TimersIn n)) (fun n => inspec_TimersIn_l5 n R) (mkK_nat (cspec_TimersIn n)) h0
@[reducible] def Sspec_TimersIn : PkS := ⟨[.agg [.int .i64, .ro (.sl (.pr (.int .i64) (.int .i64)))]], []⟩
@[reducible] def Tspec_TimersIn : PkS := ⟨[.tup [(false, [.whole (300000, 0)]), (false, [.bool])], .one (.dead)], [((300000, 0), .arr (.pr (.int .i64) (.int .i64)))]⟩
def Hspec_TimersIn : List Sh := [.tup [(false, [(.own (.pr (.int .i64) (.int .i64)))]), (false, [.any])], .skip]
def Kspec_TimersIn (g : ∀ {R : Type}, Nat → Int → (List (List (Int × Int))) → (Bool → (List (Int × Int)) → Option R) → Option R) (n : Nat) : KPs := fun R p k => match (PkS.un Sspec_TimersIn p : Option (Int × (List (List (Int × Int))) × Unit)) with
  | some (x0, x1, _) => g n x0 x1 (fun r0 r1 => k (PkS.pack Tspec_TimersIn (r0, r1, ())))
  | none => none
theorem espec_TimersIn (spec_GoodWheel : ∀ {R : Type}, Nat → Int → (List (List (Int × Int))) → (Bool → Option R) → Option R) (spec_TimersIn_l11 : ∀ {R : Type}, Nat → Int → (List (List (Int × Int))) → Int → Int → (List (Int × Int)) → Int → Int → (List (Int × Int)) → Int → Int → (Int → (List (List (Int × Int))) → Int → Int → (List (Int × Int)) → Int → Int → (List (Int × Int)) → Int → Int → Option R) → Option R) (spec_TimersIn_l8 : ∀ {R : Type}, Nat → (List (List (Int × Int))) → Int → Int → (List (Int × Int)) → Int → Int → (List (Int × Int)) → ((List (List (Int × Int))) → Int → Int → (List (Int × Int)) → Option R) → Option R) (spec_TimersIn_l5 : ∀ {R : Type}, Nat → (List (List (Int × Int))) → Int → Int → (List (Int × Int)) → ((List (Int × Int)) → Option R) → Option R) {R : Type} (n : Nat) (x0 : Int) (x1 : List (List (Int × Int))) (k : Pk → Option R) : evF tt sig (mkK [(30, Kspec_GoodWheel @spec_GoodWheel n)] R) (mkL (mkK [(30, Kspec_GoodWheel @spec_GoodWheel n)]) [(11, Dspec_TimersIn_l11, Pspec_TimersIn_l11 @spec_TimersIn_l11 n), (8, Dspec_TimersIn_l8, Pspec_TimersIn_l8 @spec_TimersIn_l8 n), (5, Dspec_TimersIn_l5, Pspec_TimersIn_l5 @spec_TimersIn_l5 n)] R) Try.f21 Hspec_TimersIn (PkS.pack Sspec_TimersIn (x0, x1, ())) k = (fun (k : Bool → (List (Int × Int)) → Option R) => (spec_GoodWheel n x0 x1 fun r1 => (bif (!r1) then k false ([] : List (Int × Int)) else (spec_TimersIn_l5 n x1 (x1.length : Int) 0 ([] : List (Int × Int)) (fun r16 => k true r16))))) (fun r0 r1 => k (PkS.pack Tspec_TimersIn (r0, r1, ()))) := by kernel_rfl
theorem okspec_TimersIn (n : Nat) : FnOk Try.prog 21 (Kspec_TimersIn @spec_TimersIn n) := by
  refine fn_ok (sig := sig) mixed ttok (mkK_nat (cspec_TimersIn n)) (mkK_ok (cspec_TimersIn n)) (mkL_nat (mkK_nat (cspec_TimersIn n)) (l := [(11, Dspec_TimersIn_l11, Pspec_TimersIn_l11 @spec_TimersIn_l11 n), (8, Dspec_TimersIn_l8, Pspec_TimersIn_l8 @spec_TimersIn_l8 n), (5, Dspec_TimersIn_l5, Pspec_TimersIn_l5 @spec_TimersIn_l5 n)]) ⟨nlspec_TimersIn_l11 n, ⟨nlspec_TimersIn_l8 n, ⟨nlspec_TimersIn_l5 n, trivial⟩⟩⟩) (fn := Try.f21) (c := bodyOf Try.f21) (by kernel_rfl) (by kernel_rfl) (by kernel_rfl) (.eq (l := [.lo (loopIn 5 (bodyOf Try.f21))]) (by kernel_rfl) ⟨(lkspec_TimersIn_l5 n _ _ (at_id (i := 5) (by kernel_rfl) rfl)), trivial⟩) (shs := Hspec_TimersIn) (S := Sspec_TimersIn) (h1 := by kernel_rfl) fun R p k => ?_
  unfold Kspec_TimersIn
  cases h : (PkS.un Sspec_TimersIn p) with
  | none => rfl
  | some d =>
    obtain ⟨x0, x1, u⟩ := (d : Int × (List (List (Int × Int))) × Unit)
    have hp := PkS.un_pack h
    subst hp
    exact (espec_TimersIn @spec_GoodWheel @spec_TimersIn_l11 @spec_TimersIn_l8 @spec_TimersIn_l5 n x0 x1 k).symm

/-! ### loop.example/g00269/laws.sameInts -/
theorem claws_sameInts (n : Nat) : AllOk Try.prog [] := trivial
@[reducible] def Slaws_sameInts_l4 : PkS := ⟨[.one (.ro (.int .i64)), .one (.ro (.int .i64)), .one (.int .i64), .one (.int .i64), .one (.dead), .one (.dead)], []⟩
@[reducible] def Tlaws_sameInts_l4_0 : PkS := ⟨[.one (.bool), .one (.dead), .one (.dead)], []⟩
@[reducible] def Tlaws_sameInts_l4_1 : PkS := ⟨[.one (.dead), .one (.dead)], []⟩
def Dlaws_sameInts_l4 : LoopD := ⟨26, [0, 1, 12, 13], [.one (.ro (.int .i64)), .one (.ro (.int .i64)), .one .any, .one .any, .skip, .skip], fun x => match x with
  | .ret => some ([4], [.one .any, .skip, .skip])
  | .exit 0 => some ([], [.skip, .skip])
  | _ => none⟩
def Plaws_sameInts_l4 (g : ∀ {R : Type}, Nat → (List Int) → (List Int) → Int → Int → (Bool → Option R) → (Option R) → Option R) (n : Nat) : LPs := fun R q kk => match (PkS.un Slaws_sameInts_l4 q : Option ((List Int) × (List Int) × Int × Int × Unit)) with
  | some (y4_0, y4_1, y4_2, y4_3, _) => g n y4_0 y4_1 y4_2 y4_3 (fun r0 => kk .ret (PkS.pack Tlaws_sameInts_l4_0 (r0, ()))) (kk (.exit 0) (PkS.pack Tlaws_sameInts_l4_1 ()))
  | none => none
theorem elaws_sameInts_l4 (laws_sameInts_l4 : ∀ {R : Type}, Nat → (List Int) → (List Int) → Int → Int → (Bool → Option R) → (Option R) → Option R) {R : Type} (n : Nat) (y4_0 : List Int) (y4_1 : List Int) (y4_2 : Int) (y4_3 : Int) (kk : Ex → Pk → Option R) : Dlaws_sameInts_l4.step tt sig (mkK [] R) (mkL (mkK []) [] R) (loopIn 4 (bodyOf Try.f17)) (fun q' => Plaws_sameInts_l4 @laws_sameInts_l4 n R q' kk) (PkS.pack Slaws_sameInts_l4 (y4_0, y4_1, y4_2, y4_3, ())) kk = (fun (kret : Bool → Option R) (kexit0 : Option R) => (bif (decide (y4_3 < y4_2)) then (bif decide (0 ≤ y4_3) then (bif decide (y4_3 < (y4_0.length : Int)) then (bif decide (0 ≤ y4_3) then (bif decide (y4_3 < (y4_1.length : Int)) then (bif ((y4_0.getD (Int.toNat y4_3) 0) != (y4_1.getD (Int.toNat y4_3) 0)) then kret false else laws_sameInts_l4 n y4_0 y4_1 y4_2 (IntKind.wrap .i64 (y4_3 + 1)) kret kexit0) else none) else none) else none) else none) else kexit0)) (fun r0 => kk .ret (PkS.pack Tlaws_sameInts_l4_0 (r0, ()))) (kk (.exit 0) (PkS.pack Tlaws_sameInts_l4_1 ())) := by kernel_rfl
theorem lelaws_sameInts_l4 : LoopEq tt sig (fun n => mkK []) (fun n => mkL (mkK []) []) Dlaws_sameInts_l4 Slaws_sameInts_l4 (loopIn 4 (bodyOf Try.f17)) (Plaws_sameInts_l4 @laws_sameInts_l4) where
  zero R q kk := by unfold Plaws_sameInts_l4; cases (PkS.un Slaws_sameInts_l4 q) <;> rfl
  succ n R q kk := by
    unfold Plaws_sameInts_l4
    cases h : (PkS.un Slaws_sameInts_l4 q) with
    | none => rfl
    | some d =>
      obtain ⟨y4_0, y4_1, y4_2, y4_3, u⟩ := (d : (List Int) × (List Int) × Int × Int × Unit)
      have hp := PkS.un_pack h
      subst hp
      exact (elaws_sameInts_l4 @laws_sameInts_l4 n y4_0 y4_1 y4_2 y4_3 kk).symm
theorem nllaws_sameInts_l4 : ∀ n, NatLP (Plaws_sameInts_l4 @laws_sameInts_l4 n) := lelaws_sameInts_l4.nat (fun n => mkK_nat (claws_sameInts n)) fun n => mkL_nat (mkK_nat (claws_sameInts n)) (l := []) trivial
theorem inlaws_sameInts_l4 (n : Nat) (R : Type) : LoopsOk Try.prog (mkL (mkK []) [] R) (loopIn 4 (bodyOf Try.f17)) := .eq (l := []) (by kernel_rfl) trivial
theorem lklaws_sameInts_l4 (n : Nat) (R : Type) (L0 : LK R) (h0 : ∀ id, firstRegion (loopIn 4 (bodyOf Try.f17)) = some id → L0 id = Dlaws_sameInts_l4.oracle (mkK [] R) (Plaws_sameInts_l4 @laws_sameInts_l4 n R)) : LoopOk Try.prog L0 (loopIn 4 (bodyOf Try.f17)) :=
  lelaws_sameInts_l4.ok mixed ttok (fun n => mkK_nat (claws_sameInts n)) (fun n => mkK_ok (claws_sameInts n)) (fun n => inlaws_sameInts_l4 n R) (mkK_nat (claws_sameInts n)) h0
@[reducible] def Slaws_sameInts : PkS := ⟨[.one (.ro (.int .i64)), .one (.ro (.int .i64))], []⟩
@[reducible] def Tlaws_sameInts : PkS := ⟨[.one (.bool), .one (.dead), .one (.dead)], []⟩
def Hlaws_sameInts : List Sh := [.one .any, .skip, .skip]
def Klaws_sameInts (g : ∀ {R : Type}, Nat → (List Int) → (List Int) → (Bool → Option R) → Option R) (n : Nat) : KPs := fun R p k => match (PkS.un Slaws_sameInts p : Option ((List Int) × (List Int) × Unit)) with
  | some (x0, x1, _) => g n x0 x1 (fun r0 => k (PkS.pack Tlaws_sameInts (r0, ())))
  | none => none
theorem elaws_sameInts (laws_sameInts_l4 : ∀ {R : Type}, Nat → (List Int) → (List Int) → Int → Int → (Bool → Option R) → (Option R) → Option R) {R : Type} (n : Nat) (x0 : List Int) (x1 : List Int) (k : Pk → Option R) : evF tt sig (mkK [] R) (mkL (mkK []) [(4, Dlaws_sameInts_l4, Plaws_sameInts_l4 @laws_sameInts_l4 n)] R) Try.f17 Hlaws_sameInts (PkS.pack Slaws_sameInts (x0, x1, ())) k = (fun (k : Bool → Option R) => (bif ((x0.length : Int) != (x1.length : Int)) then k false else (laws_sameInts_l4 n x0 x1 (x0.length : Int) 0 (fun r1 => k r1) (k true)))) (fun r0 => k (PkS.pack Tlaws_sameInts (r0, ()))) := by kernel_rfl
theorem oklaws_sameInts (n : Nat) : FnOk Try.prog 17 (Klaws_sameInts @laws_sameInts n) := by
  refine fn_ok (sig := sig) mixed ttok (mkK_nat (claws_sameInts n)) (mkK_ok (claws_sameInts n)) (mkL_nat (mkK_nat (claws_sameInts n)) (l := [(4, Dlaws_sameInts_l4, Plaws_sameInts_l4 @laws_sameInts_l4 n)]) ⟨nllaws_sameInts_l4 n, trivial⟩) (fn := Try.f17) (c := bodyOf Try.f17) (by kernel_rfl) (by kernel_rfl) (by kernel_rfl) (.eq (l := [.lo (loopIn 4 (bodyOf Try.f17))]) (by kernel_rfl) ⟨(lklaws_sameInts_l4 n _ _ (at_id (i := 4) (by kernel_rfl) rfl)), trivial⟩) (shs := Hlaws_sameInts) (S := Slaws_sameInts) (h1 := by kernel_rfl) fun R p k => ?_
  unfold Klaws_sameInts
  cases h : (PkS.un Slaws_sameInts p) with
  | none => rfl
  | some d =>
    obtain ⟨x0, x1, u⟩ := (d : (List Int) × (List Int) × Unit)
    have hp := PkS.un_pack h
    subst hp
    exact (elaws_sameInts @laws_sameInts_l4 n x0 x1 k).symm

/-! ### loop.example/g00269/laws.sameTimers -/
theorem claws_sameTimers (n : Nat) : AllOk Try.prog [] := trivial
@[reducible] def Slaws_sameTimers_l4 : PkS := ⟨[.one (.ro (.pr (.int .i64) (.int .i64))), .one (.ro (.pr (.int .i64) (.int .i64))), .one (.int .i64), .one (.int .i64), .one (.dead), .one (.dead)], []⟩
@[reducible] def Tlaws_sameTimers_l4_0 : PkS := ⟨[.one (.bool), .one (.dead), .one (.dead)], []⟩
@[reducible] def Tlaws_sameTimers_l4_1 : PkS := ⟨[.one (.dead), .one (.dead)], []⟩
def Dlaws_sameTimers_l4 : LoopD := ⟨26, [0, 1, 12, 13], [.one (.ro (.pr (.int .i64) (.int .i64))), .one (.ro (.pr (.int .i64) (.int .i64))), .one .any, .one .any, .skip, .skip], fun x => match x with
  | .ret => some ([4], [.one .any, .skip, .skip])
  | .exit 0 => some ([], [.skip, .skip])
  | _ => none⟩
def Plaws_sameTimers_l4 (g : ∀ {R : Type}, Nat → (List (Int × Int)) → (List (Int × Int)) → Int → Int → (Bool → Option R) → (Option R) → Option R) (n : Nat) : LPs := fun R q kk => match (PkS.un Slaws_sameTimers_l4 q : Option ((List (Int × Int)) × (List (Int × Int)) × Int × Int × Unit)) with
  | some (y4_0, y4_1, y4_2, y4_3, _) => g n y4_0 y4_1 y4_2 y4_3 (fun r0 => kk .ret (PkS.pack Tlaws_sameTimers_l4_0 (r0, ()))) (kk (.exit 0) (PkS.pack Tlaws_sameTimers_l4_1 ()))
  | none => none
theorem elaws_sameTimers_l4 (laws_sameTimers_l4 : ∀ {R : Type}, Nat → (List (Int × Int)) → (List (Int × Int)) → Int → Int → (Bool → Option R) → (Option R) → Option R) {R : Type} (n : Nat) (y4_0 : List (Int × Int)) (y4_1 : List (Int × Int)) (y4_2 : Int) (y4_3 : Int) (kk : Ex → Pk → Option R) : Dlaws_sameTimers_l4.step tt sig (mkK [] R) (mkL (mkK []) [] R) (loopIn 4 (bodyOf Try.f12)) (fun q' => Plaws_sameTimers_l4 @laws_sameTimers_l4 n R q' kk) (PkS.pack Slaws_sameTimers_l4 (y4_0, y4_1, y4_2, y4_3, ())) kk = (fun (kret : Bool → Option R) (kexit0 : Option R) => (bif (decide (y4_3 < y4_2)) then (bif decide (0 ≤ y4_3) then (bif decide (y4_3 < (y4_0.length : Int)) then (bif decide (0 ≤ y4_3) then (bif decide (y4_3 < (y4_1.length : Int)) then (bif (!(((y4_0.getD (Int.toNat y4_3) (0, 0)).1 == (y4_1.getD (Int.toNat y4_3) (0, 0)).1) && (((y4_0.getD (Int.toNat y4_3) (0, 0)).2 == (y4_1.getD (Int.toNat y4_3) (0, 0)).2) && true))) then kret false else laws_sameTimers_l4 n y4_0 y4_1 y4_2 (IntKind.wrap .i64 (y4_3 + 1)) kret kexit0) else none) else none) else none) else none) else kexit0)) (fun r0 => kk .ret (PkS.pack Tlaws_sameTimers_l4_0 (r0, ()))) (kk (.exit 0) (PkS.pack Tlaws_sameTimers_l4_1 ())) := by kernel_rfl
theorem lelaws_sameTimers_l4 : LoopEq tt sig (fun n => mkK []) (fun n => mkL (mkK []) []) Dlaws_sameTimers_l4 Slaws_sameTimers_l4 (loopIn 4 (bodyOf Try.f12)) (Plaws_sameTimers_l4 @laws_sameTimers_l4) where
  zero R q kk := by unfold Plaws_sameTimers_l4; cases (PkS.un Slaws_sameTimers_l4 q) <;> rfl
  succ n R q kk := by
    unfold Plaws_sameTimers_l4
    cases h : (PkS.un Slaws_sameTimers_l4 q) with
    | none => rfl
    | some d =>
      obtain ⟨y4_0, y4_1, y4_2, y4_3, u⟩ := (d : (List (Int × Int)) × (List (Int × Int)) × Int × Int × Unit)
      have hp := PkS.un_pack h
      subst hp
      exact (elaws_sameTimers_l4 @laws_sameTimers_l4 n y4_0 y4_1 y4_2 y4_3 kk).symm
theorem nllaws_sameTimers_l4 : ∀ n, NatLP (Plaws_sameTimers_l4 @laws_sameTimers_l4 n) := lelaws_sameTimers_l4.nat (fun n => mkK_nat (claws_sameTimers n)) fun n => mkL_nat (mkK_nat (claws_sameTimers n)) (l := []) trivial
theorem inlaws_sameTimers_l4 (n : Nat) (R : Type) : LoopsOk Try.prog (mkL (mkK []) [] R) (loopIn 4 (bodyOf Try.f12)) := .eq (l := []) (by kernel_rfl) trivial
theorem lklaws_sameTimers_l4 (n : Nat) (R : Type) (L0 : LK R) (h0 : ∀ id, firstRegion (loopIn 4 (bodyOf Try.f12)) = some id → L0 id = Dlaws_sameTimers_l4.oracle (mkK [] R) (Plaws_sameTimers_l4 @laws_sameTimers_l4 n R)) : LoopOk Try.prog L0 (loopIn 4 (bodyOf Try.f12)) :=
  lelaws_sameTimers_l4.ok mixed ttok (fun n => mkK_nat (claws_sameTimers n)) (fun n => mkK_ok (claws_sameTimers n)) (fun n => inlaws_sameTimers_l4 n R) (mkK_nat (claws_sameTimers n)) h0
@[reducible] def Slaws_sameTimers : PkS := ⟨[.one (.ro (.pr (.int .i64) (.int .i64))), .one (.ro (.pr (.int .i64) (.int .i64)))], []⟩
@[reducible] def Tlaws_sameTimers : PkS := ⟨[.one (.bool), .one (.dead), .one (.dead)], []⟩
def Hlaws_sameTimers : List Sh := [.one .any, .skip, .skip]
def Klaws_sameTimers (g : ∀ {R : Type}, Nat → (List (Int × Int)) → (List (Int × Int)) → (Bool → Option R) → Option R) (n : Nat) : KPs := fun R p k => match (PkS.un Slaws_sameTimers p : Option ((List (Int × Int)) × (List (Int × Int)) × Unit)) with
  | some (x0, x1, _) => g n x0 x1 (fun r0 => k (PkS.pack Tlaws_sameTimers (r0, ())))
  | none => none
theorem elaws_sameTimers (laws_sameTimers_l4 : ∀ {R : Type}, Nat → (List (Int × Int)) → (List (Int × Int)) → Int → Int → (Bool → Option R) → (Option R) → Option R) {R : Type} (n : Nat) (x0 : List (Int × Int)) (x1 : List (Int × Int)) (k : Pk → Option R) : evF tt sig (mkK [] R) (mkL (mkK []) [(4, Dlaws_sameTimers_l4, Plaws_sameTimers_l4 @laws_sameTimers_l4 n)] R) Try.f12 Hlaws_sameTimers (PkS.pack Slaws_sameTimers (x0, x1, ())) k = (fun (k : Bool → Option R) => (bif ((x0.length : Int) != (x1.length : Int)) then k false else (laws_sameTimers_l4 n x0 x1 (x0.length : Int) 0 (fun r1 => k r1) (k true)))) (fun r0 => k (PkS.pack Tlaws_sameTimers (r0, ()))) := by kernel_rfl
theorem oklaws_sameTimers (n : Nat) : FnOk Try.prog 12 (Klaws_sameTimers @laws_sameTimers n) := by
  refine fn_ok (sig := sig) mixed ttok (mkK_nat (claws_sameTimers n)) (mkK_ok (claws_sameTimers n)) (mkL_nat (mkK_nat (claws_sameTimers n)) (l := [(4, Dlaws_sameTimers_l4, Plaws_sameTimers_l4 @laws_sameTimers_l4 n)]) ⟨nllaws_sameTimers_l4 n, trivial⟩) (fn := Try.f12) (c := bodyOf Try.f12) (by kernel_rfl) (by kernel_rfl) (by kernel_rfl) (.eq (l := [.lo (loopIn 4 (bodyOf Try.f12))]) (by kernel_rfl) ⟨(lklaws_sameTimers_l4 n _ _ (at_id (i := 4) (by kernel_rfl) rfl)), trivial⟩) (shs := Hlaws_sameTimers) (S := Slaws_sameTimers) (h1 := by kernel_rfl) fun R p k => ?_
  unfold Klaws_sameTimers
  cases h : (PkS.un Slaws_sameTimers p) with
  | none => rfl
  | some d =>
    obtain ⟨x0, x1, u⟩ := (d : (List (Int × Int)) × (List (Int × Int)) × Unit)
    have hp := PkS.un_pack h
    subst hp
    exact (elaws_sameTimers @laws_sameTimers_l4 n x0 x1 k).symm

/-! ### loop.example/g00269/laws.FnWheel -/
theorem claws_FnWheel (n : Nat) : AllOk Try.prog [(19, Kspec_DrawAdvanceWheel @spec_DrawAdvanceWheel n), (18, Kimpl_AdvanceWheel @impl_AdvanceWheel n), (20, Kspec_AdvanceWheel @spec_AdvanceWheel n), (10, Kimpl_TimersIn @impl_TimersIn n), (21, Kspec_TimersIn @spec_TimersIn n), (17, Klaws_sameInts @laws_sameInts n), (12, Klaws_sameTimers @laws_sameTimers n), (13, Kimpl_GoodWheel @impl_GoodWheel n)] := ⟨okspec_DrawAdvanceWheel n, ⟨okimpl_AdvanceWheel n, ⟨okspec_AdvanceWheel n, ⟨okimpl_TimersIn n, ⟨okspec_TimersIn n, ⟨oklaws_sameInts n, ⟨oklaws_sameTimers n, ⟨okimpl_GoodWheel n, trivial⟩⟩⟩⟩⟩⟩⟩⟩
@[reducible] def Slaws_FnWheel_l15 : PkS := ⟨[.one (.int .i64), .one (.box (100000, 1) 0), .one (.whole (100000, 2)), .one (.int .i64), .one (.whole (100000, 3)), .one (.whole (100000, 4)), .one (.whole (100000, 5)), .one (.whole (100000, 3)), .one (.int .i64), .one (.int .i64), .one (.dead)], [((100000, 0), .rr (.pr (.int .i64) (.int .i64))), ((100000, 1), .box [.int .i64, .mp (100000, 0)]), ((100000, 2), .arr (.int .i64)), ((100000, 3), .arr (.pr (.int .i64) (.int .i64))), ((100000, 4), .arr (.int .i64)), ((100000, 5), .arr (.pr (.int .i64) (.int .i64)))]⟩
@[reducible] def Tlaws_FnWheel_l15_0 : PkS := ⟨[.one (.int .i64), .one (.box (100000, 1) 0), .one (.whole (100000, 2)), .one (.int .i64), .one (.whole (100000, 3)), .one (.whole (100000, 4)), .one (.whole (100000, 5)), .one (.dead)], [((100000, 0), .rr (.pr (.int .i64) (.int .i64))), ((100000, 1), .box [.int .i64, .mp (100000, 0)]), ((100000, 2), .arr (.int .i64)), ((100000, 3), .arr (.pr (.int .i64) (.int .i64))), ((100000, 4), .arr (.int .i64)), ((100000, 5), .arr (.pr (.int .i64) (.int .i64)))]⟩
def Dlaws_FnWheel_l15 : LoopD := ⟨146, [4, 5, 6, 7, 13, 17, 18, 93, 94, 95], [.one .any, .box [.any, (.rr (.pr (.int .i64) (.int .i64)))], .one (.own (.int .i64)), .one .any, .one (.own (.pr (.int .i64) (.int .i64))), .one (.own (.int .i64)), .one (.own (.pr (.int .i64) (.int .i64))), .one (.own (.pr (.int .i64) (.int .i64))), .one .any, .one .any, .skip], fun x => match x with
  | .exit 0 => some ([4, 5, 6, 7, 13, 17, 18], [.one .any, .box [.any, (.rr (.pr (.int .i64) (.int .i64)))], .one (.own (.int .i64)), .one .any, .one (.own (.pr (.int .i64) (.int .i64))), .one (.own (.int .i64)), .one (.own (.pr (.int .i64) (.int .i64))), .skip])
  | _ => none⟩
def Plaws_FnWheel_l15 (g : ∀ {R : Type}, Nat → Int → Int → Int → Int → (List (List (Int × Int))) → Int → (List Int) → (List (Int × Int)) → (List Int) → (List (Int × Int)) → (Int → Int → (List (List (Int × Int))) → Int → (List Int) → (List (Int × Int)) → (List Int) → (List (Int × Int)) → Option R) → Option R) (n : Nat) : LPs := fun R q kk => match (PkS.un Slaws_FnWheel_l15 q : Option (Int × Int × Int × Int × (List (List (Int × Int))) × Int × (List Int) × (List (Int × Int)) × (List Int) × (List (Int × Int)) × Unit)) with
  | some (y15_0, y15_1, y15_2, y15_3, y15_4, y15_5, y15_6, y15_7, y15_8, y15_9, _) => g n y15_0 y15_1 y15_2 y15_3 y15_4 y15_5 y15_6 y15_7 y15_8 y15_9 (fun r0 r1 r2 r3 r4 r5 r6 r7 => kk (.exit 0) (PkS.pack Tlaws_FnWheel_l15_0 (r0, r1, r2, r3, r4, r5, r6, r7, ())))
  | none => none
theorem elaws_FnWheel_l15 (spec_DrawAdvanceWheel : ∀ {R : Type}, Nat → (List Int) → (Int → Int → (List (List (Int × Int))) → Option R) → Option R) (impl_AdvanceWheel : ∀ {R : Type}, Nat → Int → (List (List (Int × Int))) → Int → (Int → Int → Bool → (List (List (Int × Int))) → (List Int) → Option R) → Option R) (spec_AdvanceWheel : ∀ {R : Type}, Nat → Int → (List (List (Int × Int))) → Int → (Int → Int → Bool → (List (List (Int × Int))) → (List Int) → Option R) → Option R) (impl_TimersIn : ∀ {R : Type}, Nat → Int → (List (List (Int × Int))) → (Bool → (List (Int × Int)) → Option R) → Option R) (spec_TimersIn : ∀ {R : Type}, Nat → Int → (List (List (Int × Int))) → (Bool → (List (Int × Int)) → Option R) → Option R) (laws_sameInts : ∀ {R : Type}, Nat → (List Int) → (List Int) → (Bool → Option R) → Option R) (laws_sameTimers : ∀ {R : Type}, Nat → (List (Int × Int)) → (List (Int × Int)) → (Bool → Option R) → Option R) (impl_GoodWheel : ∀ {R : Type}, Nat → Int → (List (List (Int × Int))) → (Bool → Option R) → Option R) (laws_FnWheel_l15 : ∀ {R : Type}, Nat → Int → Int → Int → Int → (List (List (Int × Int))) → Int → (List Int) → (List (Int × Int)) → (List Int) → (List (Int × Int)) → (Int → Int → (List (List (Int × Int))) → Int → (List Int) → (List (Int × Int)) → (List Int) → (List (Int × Int)) → Option R) → Option R) {R : Type} (n : Nat) (y15_0 : Int) (y15_1 : Int) (y15_2 : Int) (y15_3 : Int) (y15_4 : List (List (Int × Int))) (y15_5 : Int) (y15_6 : List Int) (y15_7 : List (Int × Int)) (y15_8 : List Int) (y15_9 : List (Int × Int)) (kk : Ex → Pk → Option R) : Dlaws_FnWheel_l15.step tt sig (mkK [(19, Kspec_DrawAdvanceWheel @spec_DrawAdvanceWheel n), (18, Kimpl_AdvanceWheel @impl_AdvanceWheel n), (20, Kspec_AdvanceWheel @spec_AdvanceWheel n), (10, Kimpl_TimersIn @impl_TimersIn n), (21, Kspec_TimersIn @spec_TimersIn n), (17, Klaws_sameInts @laws_sameInts n), (12, Klaws_sameTimers @laws_sameTimers n), (13, Kimpl_GoodWheel @impl_GoodWheel n)] R) (mkL (mkK [(19, Kspec_DrawAdvanceWheel @spec_DrawAdvanceWheel n), (18, Kimpl_AdvanceWheel @impl_AdvanceWheel n), (20, Kspec_AdvanceWheel @spec_AdvanceWheel n), (10, Kimpl_TimersIn @impl_TimersIn n), (21, Kspec_TimersIn @spec_TimersIn n), (17, Klaws_sameInts @laws_sameInts n), (12, Klaws_sameTimers @laws_sameTimers n), (13, Kimpl_GoodWheel @impl_GoodWheel n)]) [] R) (loopIn 15 (bodyOf Try.f4)) (fun q' => Plaws_FnWheel_l15 @laws_FnWheel_l15 n R q' kk) (PkS.pack Slaws_FnWheel_l15 (y15_0, y15_1, y15_2, y15_3, y15_4, y15_5, y15_6, y15_7, y15_8, y15_9, ())) kk = (fun (kexit0 : Int → Int → (List (List (Int × Int))) → Int → (List Int) → (List (Int × Int)) → (List Int) → (List (Int × Int)) → Option R) => (bif (decide (y15_3 < y15_2)) then (bif decide (0 ≤ y15_3) then (bif decide (y15_3 < (y15_7.length : Int)) then (bif (decide ((y15_7.getD (Int.toNat y15_3) (0, 0)).1 ≤ y15_0)) then (bif decide (y15_8.length + ([(y15_7.getD (Int.toNat y15_3) (0, 0)).2]).length ≤ LIM) then laws_FnWheel_l15 n y15_0 y15_1 y15_2 (IntKind.wrap .i64 (y15_3 + 1)) y15_4 y15_5 y15_6 y15_7 (y15_8 ++ [(y15_7.getD (Int.toNat y15_3) (0, 0)).2]) y15_9 kexit0 else none) else (bif decide (y15_9.length + ([((y15_7.getD (Int.toNat y15_3) (0, 0)).1, (y15_7.getD (Int.toNat y15_3) (0, 0)).2)]).length ≤ LIM) then laws_FnWheel_l15 n y15_0 y15_1 y15_2 (IntKind.wrap .i64 (y15_3 + 1)) y15_4 y15_5 y15_6 y15_7 y15_8 (y15_9 ++ [((y15_7.getD (Int.toNat y15_3) (0, 0)).1, (y15_7.getD (Int.toNat y15_3) (0, 0)).2)]) kexit0 else none)) else none) else none) else kexit0 y15_0 y15_1 y15_4 y15_5 y15_6 y15_7 y15_8 y15_9)) (fun r0 r1 r2 r3 r4 r5 r6 r7 => kk (.exit 0) (PkS.pack Tlaws_FnWheel_l15_0 (r0, r1, r2, r3, r4, r5, r6, r7, ()))) := by kernel_rfl
theorem lelaws_FnWheel_l15 : LoopEq tt sig (fun n => mkK [(19, Kspec_DrawAdvanceWheel @spec_DrawAdvanceWheel n), (18, Kimpl_AdvanceWheel @impl_AdvanceWheel n), (20, Kspec_AdvanceWheel @spec_AdvanceWheel n), (10, Kimpl_TimersIn @impl_TimersIn n), (21, Kspec_TimersIn @spec_TimersIn n), (17, Klaws_sameInts @laws_sameInts n), (12, Klaws_sameTimers @laws_sameTimers n), (13, Kimpl_GoodWheel @impl_GoodWheel n)]) (fun n => mkL (mkK [(19, Kspec_DrawAdvanceWheel @spec_DrawAdvanceWheel n), (18, Kimpl_AdvanceWheel @impl_AdvanceWheel n), (20, Kspec_AdvanceWheel @spec_AdvanceWheel n), (10, Kimpl_TimersIn @impl_TimersIn n), (21, Kspec_TimersIn @spec_TimersIn n), (17, Klaws_sameInts @laws_sameInts n), (12, Klaws_sameTimers @laws_sameTimers n), (13, Kimpl_GoodWheel @impl_GoodWheel n)]) []) Dlaws_FnWheel_l15 Slaws_FnWheel_l15 (loopIn 15 (bodyOf Try.f4)) (Plaws_FnWheel_l15 @laws_FnWheel_l15) where
  zero R q kk := by unfold Plaws_FnWheel_l15; cases (PkS.un Slaws_FnWheel_l15 q) <;> rfl
  succ n R q kk := by
    unfold Plaws_FnWheel_l15
    cases h : (PkS.un Slaws_FnWheel_l15 q) with
    | none => rfl
    | some d =>
      obtain ⟨y15_0, y15_1, y15_2, y15_3, y15_4, y15_5, y15_6, y15_7, y15_8, y15_9, u⟩ := (d : Int × Int × Int × Int × (List (List (Int × Int))) × Int × (List Int) × (List (Int × Int)) × (List Int) × (List (Int × Int)) × Unit)
      have hp := PkS.un_pack h
      subst hp
      exact (elaws_FnWheel_l15 @spec_DrawAdvanceWheel @impl_AdvanceWheel @spec_AdvanceWheel @impl_TimersIn @spec_TimersIn @laws_sameInts @laws_sameTimers @impl_GoodWheel @laws_FnWheel_l15 n y15_0 y15_1 y15_2 y15_3 y15_4 y15_5 y15_6 y15_7 y15_8 y15_9 kk).symm
theorem nllaws_FnWheel_l15 : ∀ n, NatLP (Plaws_FnWheel_l15 @laws_FnWheel_l15 n) := lelaws_FnWheel_l15.nat (fun n => mkK_nat (claws_FnWheel n)) fun n => mkL_nat (mkK_nat (claws_FnWheel n)) (l := []) trivial
theorem inlaws_FnWheel_l15 (n : Nat) (R : Type) : LoopsOk Try.prog (mkL (mkK [(19, Kspec_DrawAdvanceWheel @spec_DrawAdvanceWheel n), (18, Kimpl_AdvanceWheel @impl_AdvanceWheel n), (20, Kspec_AdvanceWheel @spec_AdvanceWheel n), (10, Kimpl_TimersIn @impl_TimersIn n), (21, Kspec_TimersIn @spec_TimersIn n), (17, Klaws_sameInts @laws_sameInts n), (12, Klaws_sameTimers @laws_sameTimers n), (13, Kimpl_GoodWheel @impl_GoodWheel n)]) [] R) (loopIn 15 (bodyOf Try.f4)) := .eq (l := []) (by kernel_rfl) trivial
theorem lklaws_FnWheel_l15 (n : Nat) (R : Type) (L0 : LK R) (h0 : ∀ id, firstRegion (loopIn 15 (bodyOf Try.f4)) = some id → L0 id = Dlaws_FnWheel_l15.oracle (mkK [(19, Kspec_DrawAdvanceWheel @spec_DrawAdvanceWheel n), (18, Kimpl_AdvanceWheel @impl_AdvanceWheel n), (20, Kspec_AdvanceWheel @spec_AdvanceWheel n), (10, Kimpl_TimersIn @impl_TimersIn n), (21, Kspec_TimersIn @spec_TimersIn n), (17, Klaws_sameInts @laws_sameInts n), (12, Klaws_sameTimers @laws_sameTimers n), (13, Kimpl_GoodWheel @impl_GoodWheel n)] R) (Plaws_FnWheel_l15 @laws_FnWheel_l15 n R)) : LoopOk Try.prog L0 (loopIn 15 (bodyOf Try.f4)) :=
  lelaws_FnWheel_l15.ok mixed ttok (fun n => mkK_nat (claws_FnWheel n)) (fun n => mkK_ok (claws_FnWheel n)) (fun n => inlaws_FnWheel_l15 n R) (mkK_nat (claws_FnWheel n)) h0
@[reducible] def Slaws_FnWheel : PkS := ⟨[.one (.ro (.int .u8))], []⟩
@[reducible] def Tlaws_FnWheel : PkS := ⟨[.one (.bool), .one (.dead)], []⟩
def Hlaws_FnWheel : List Sh := [.one .any, .skip]
def Klaws_FnWheel (g : ∀ {R : Type}, Nat → (List Int) → (Bool → Option R) → Option R) (n : Nat) : KPs := fun R p k => match (PkS.un Slaws_FnWheel p : Option ((List Int) × Unit)) with
  | some (x0, _) => g n x0 (fun r0 => k (PkS.pack Tlaws_FnWheel (r0, ())))
  | none => none
theorem elaws_FnWheel (spec_DrawAdvanceWheel : ∀ {R : Type}, Nat → (List Int) → (Int → Int → (List (List (Int × Int))) → Option R) → Option R) (impl_AdvanceWheel : ∀ {R : Type}, Nat → Int → (List (List (Int × Int))) → Int → (Int → Int → Bool → (List (List (Int × Int))) → (List Int) → Option R) → Option R) (spec_AdvanceWheel : ∀ {R : Type}, Nat → Int → (List (List (Int × Int))) → Int → (Int → Int → Bool → (List (List (Int × Int))) → (List Int) → Option R) → Option R) (impl_TimersIn : ∀ {R : Type}, Nat → Int → (List (List (Int × Int))) → (Bool → (List (Int × Int)) → Option R) → Option R) (spec_TimersIn : ∀ {R : Type}, Nat → Int → (List (List (Int × Int))) → (Bool → (List (Int × Int)) → Option R) → Option R) (laws_sameInts : ∀ {R : Type}, Nat → (List Int) → (List Int) → (Bool → Option R) → Option R) (laws_sameTimers : ∀ {R : Type}, Nat → (List (Int × Int)) → (List (Int × Int)) → (Bool → Option R) → Option R) (impl_GoodWheel : ∀ {R : Type}, Nat → Int → (List (List (Int × Int))) → (Bool → Option R) → Option R) (laws_FnWheel_l15 : ∀ {R : Type}, Nat → Int → Int → Int → Int → (List (List (Int × Int))) → Int → (List Int) → (List (Int × Int)) → (List Int) → (List (Int × Int)) → (Int → Int → (List (List (Int × Int))) → Int → (List Int) → (List (Int × Int)) → (List Int) → (List (Int × Int)) → Option R) → Option R) {R : Type} (n : Nat) (x0 : List Int) (k : Pk → Option R) : evF tt sig (mkK [(19, Kspec_DrawAdvanceWheel @spec_DrawAdvanceWheel n), (18, Kimpl_AdvanceWheel @impl_AdvanceWheel n), (20, Kspec_AdvanceWheel @spec_AdvanceWheel n), (10, Kimpl_TimersIn @impl_TimersIn n), (21, Kspec_TimersIn @spec_TimersIn n), (17, Klaws_sameInts @laws_sameInts n), (12, Klaws_sameTimers @laws_sameTimers n), (13, Kimpl_GoodWheel @impl_GoodWheel n)] R) (mkL (mkK [(19, Kspec_DrawAdvanceWheel @spec_DrawAdvanceWheel n), (18, Kimpl_AdvanceWheel @impl_AdvanceWheel n), (20, Kspec_AdvanceWheel @spec_AdvanceWheel n), (10, Kimpl_TimersIn @impl_TimersIn n), (21, Kspec_TimersIn @spec_TimersIn n), (17, Klaws_sameInts @laws_sameInts n), (12, Klaws_sameTimers @laws_sameTimers n), (13, Kimpl_GoodWheel @impl_GoodWheel n)]) [(15, Dlaws_FnWheel_l15, Plaws_FnWheel_l15 @laws_FnWheel_l15 n)] R) Try.f4 Hlaws_FnWheel (PkS.pack Slaws_FnWheel (x0, ())) k = (fun (k : Bool → Option R) => (bif (decide ((x0.length : Int) > 1048576)) then k true else (spec_DrawAdvanceWheel n x0 fun r1 r2 r3 => (impl_AdvanceWheel n r1 r3 r2 fun r4 r5 r6 r7 r8 => (spec_AdvanceWheel n r1 r3 r2 fun r9 r10 r11 r12 r13 => (impl_TimersIn n r1 r3 fun r14 r15 => (spec_TimersIn n r1 r3 fun r16 r17 => (bif (!(r6 == r11)) then k false else (laws_sameInts n r8 r13 fun r18 => (bif (!r18) then k false else (bif (r5 != r10) then k false else (bif (!(r14 == r16)) then k false else (laws_sameTimers n r15 r17 fun r19 => (bif (!r19) then k false else (impl_GoodWheel n r1 r3 fun r20 => (bif (!(r20 == r16)) then k false else (bif (!r6) then k ((r8.length : Int) == 0) else (laws_FnWheel_l15 n r2 r5 (r15.length : Int) 0 r7 r4 r8 r15 ([] : List Int) ([] : List (Int × Int)) (fun r21 r22 r23 r24 r25 r26 r27 r28 => (impl_TimersIn n r24 r23 fun r29 r30 => (bif r29 then (laws_sameInts n r25 r27 fun r31 => (bif r31 then (laws_sameTimers n r30 r28 fun r32 => (bif r32 then (bif (r24 == r21) then (impl_GoodWheel n r24 r23 fun r33 => (bif r33 then k (decide (r22 ≤ (IntKind.wrap .i64 (3 * (r26.length : Int))))) else k false)) else k false) else k false)) else k false)) else k false))))))))))))))))))))) (fun r0 => k (PkS.pack Tlaws_FnWheel (r0, ()))) := by kernel_rfl
theorem oklaws_FnWheel (n : Nat) : FnOk Try.prog 4 (Klaws_FnWheel @laws_FnWheel n) := by
  refine fn_ok (sig := sig) mixed ttok (mkK_nat (claws_FnWheel n)) (mkK_ok (claws_FnWheel n)) (mkL_nat (mkK_nat (claws_FnWheel n)) (l := [(15, Dlaws_FnWheel_l15, Plaws_FnWheel_l15 @laws_FnWheel_l15 n)]) ⟨nllaws_FnWheel_l15 n, trivial⟩) (fn := Try.f4) (c := bodyOf Try.f4) (by kernel_rfl) (by kernel_rfl) (by kernel_rfl) (.eq (l := [.lo (loopIn 15 (bodyOf Try.f4))]) (by kernel_rfl) ⟨(lklaws_FnWheel_l15 n _ _ (at_id (i := 15) (by kernel_rfl) rfl)), trivial⟩) (shs := Hlaws_FnWheel) (S := Slaws_FnWheel) (h1 := by kernel_rfl) fun R p k => ?_
  unfold Klaws_FnWheel
  cases h : (PkS.un Slaws_FnWheel p) with
  | none => rfl
  | some d =>
    obtain ⟨x0, u⟩ := (d : (List Int) × Unit)
    have hp := PkS.un_pack h
    subst hp
    exact (elaws_FnWheel @spec_DrawAdvanceWheel @impl_AdvanceWheel @spec_AdvanceWheel @impl_TimersIn @spec_TimersIn @laws_sameInts @laws_sameTimers @impl_GoodWheel @laws_FnWheel_l15 n x0 k).symm
end Go.Am.G
