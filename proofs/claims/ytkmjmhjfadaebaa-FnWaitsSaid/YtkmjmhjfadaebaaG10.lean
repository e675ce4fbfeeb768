/- The code of the functions that the law reaches does what the plain functions say. -/
import Derived.Test.YtkmjmhjfadaebaaF10
import Derived.Test.YtkmjmhjfadaebaaAmB
import Derived.KernelRfl
import Derived.Test.YtkmjmhjfadaebaaProg
set_option linter.unusedVariables false
set_option maxRecDepth 100000
namespace Go.Am.G
open Go Go.Am
open Go.Proofs
def tt : TT := [(3, ⟨1, false, (.int .i64), 0, [], [.int .i64 0], 8, true, false, []⟩), (4, ⟨1, false, .bool, 0, [], [.bool false], 1, true, false, []⟩), (5, ⟨1, false, (.int .u8), 0, [], [.int .u8 0], 1, true, false, []⟩), (25, ⟨4, true, (.pr (.int .i64) (.pr (.int .i64) (.pr (.int .i64) (.int .i64)))), 0, [(0, 1, false), (1, 1, false), (2, 1, false), (3, 1, false)], [.int .i64 0, .int .i64 0, .int .i64 0, .int .i64 0], 32, true, false, [(.int .i64), (.int .i64), (.int .i64), (.int .i64)]⟩), (52, ⟨1, false, (.sl (.int .i64)), 3, [], [.nil], 24, true, true, []⟩), (57, ⟨1, false, (.sl (.int .u8)), 5, [], [.nil], 24, true, true, []⟩), (98, ⟨1, false, (.int .u64), 0, [], [.int .u64 0], 8, true, false, []⟩), (100, ⟨3, true, (.pr (.sl (.int .u8)) (.pr (.int .i64) (.int .u64))), 0, [(0, 1, false), (1, 1, false), (2, 1, false)], [.nil, .int .i64 0, .int .u64 0], 40, true, false, []⟩)]
def sig : Sig := sigOf [(10, [.one (.ro (.int .u8))]), (15, [.agg [.any, .any, .any, .any]]), (17, [.agg [.any, .any, .any, .any]]), (31, [.agg [.any, .any, .any, .any], .one .any]), (32, [.agg [.any, .any, .any, .any]]), (33, [.agg [.any, .any, .any, .any]]), (37, [.one (.ro (.int .u8))]), (38, [.one (.ro (.int .i64)), .one (.ro (.int .i64))]), (53, [.one .any, .one .any, .one .any]), (54, [.one .any, .one .any, .one .any]), (61, [.agg [.any, .any, .any, .any], .one .any]), (62, [.box [.any, .any, .any, .any], .one .any]), (63, [.one (.ro (.int .u8))]), (76, [.box [(.ro (.int .u8)), .any, .any]]), (81, [.box [(.ro (.int .u8)), .any, .any], .one .any]), (82, [.box [(.ro (.int .u8)), .any, .any], .one (.ro (.int .i64))]), (83, [.box [(.ro (.int .u8)), .any, .any]])]
theorem ttok : TTok Try.prog tt := .of_chk (by kernel_rfl)
theorem mixed : Try.prog.follows .mixedOrders = true := by kernel_rfl

/-! ### (*loop.example/g00269/spec.l1Cur).next -/
theorem cspec_l1Cur_next (n : Nat) : AllOk Try.prog [] := trivial
@[reducible] def Sspec_l1Cur_next : PkS := ⟨[.one (.box (200000, 0) 0)], [((200000, 0), .box [.ro (.int .u8), .int .i64, .int .u64])]⟩
@[reducible] def Tspec_l1Cur_next : PkS := ⟨[.one (.int .i64), .one (.box (300000, 0) 0)], [((300000, 0), .box [.ro (.int .u8), .int .i64, .int .u64])]⟩
def Hspec_l1Cur_next : List Sh := [.one .any, .box [(.ro (.int .u8)), .any, .any]]
def Kspec_l1Cur_next (g : ∀ {R : Type}, Nat → (List Int) → Int → Int → (Int → (List Int) → Int → Int → Option R) → Option R) (n : Nat) : KPs := fun R p k => match (PkS.un Sspec_l1Cur_next p : Option ((List Int) × Int × Int × Unit)) with
  | some (x0, x1, x2, _) => g n x0 x1 x2 (fun r0 r1 r2 r3 => k (PkS.pack Tspec_l1Cur_next (r0, r1, r2, r3, ())))
  | none => none
theorem espec_l1Cur_next  {R : Type} (n : Nat) (x0 : List Int) (x1 : Int) (x2 : Int) (k : Pk → Option R) : evF tt sig (mkK [] R) (mkL (mkK []) [] R) Try.f83 Hspec_l1Cur_next (PkS.pack Sspec_l1Cur_next (x0, x1, x2, ())) k = (fun (k : Int → (List Int) → Int → Int → Option R) => (bif (decide (x1 < (x0.length : Int))) then (bif decide (0 ≤ x1) then (bif decide (x1 < (x0.length : Int)) then (bif (decide ((IntKind.wrap .i64 (x1 + 1)) ≤ (x0.length : Int))) then k (IntKind.wrap .i64 ((x0.getD (Int.toNat x1) 0))) x0 (IntKind.wrap .i64 (x1 + 1)) (IntKind.wrap .u64 ((IntKind.wrap .u64 ((IntKind.wrap .u64 (x2 * 6364136223846793005)) + (IntKind.wrap .u64 ((IntKind.wrap .i64 ((x0.getD (Int.toNat x1) 0))))))) + 1442695040888963407)) else k (IntKind.wrap .i64 ((IntKind.wrap .u64 (Int.ofNat (BitVec.toNat (BitVec.ofInt (IntKind.bits .u64) (Int.fdiv (IntKind.wrap .u64 ((IntKind.wrap .u64 ((IntKind.wrap .u64 (x2 * 6364136223846793005)) + (IntKind.wrap .u64 ((IntKind.wrap .i64 ((x0.getD (Int.toNat x1) 0))))))) + 1442695040888963407)) (2 ^ (min (Int.toNat 40) (IntKind.bits .u64)))) &&& BitVec.ofInt (IntKind.bits .u64) 255)))))) x0 (IntKind.wrap .i64 (x1 + 1)) (IntKind.wrap .u64 ((IntKind.wrap .u64 ((IntKind.wrap .u64 (x2 * 6364136223846793005)) + (IntKind.wrap .u64 ((IntKind.wrap .i64 ((x0.getD (Int.toNat x1) 0))))))) + 1442695040888963407))) else none) else none) else (bif (decide ((IntKind.wrap .i64 (x1 + 1)) ≤ (x0.length : Int))) then k 0 x0 (IntKind.wrap .i64 (x1 + 1)) (IntKind.wrap .u64 ((IntKind.wrap .u64 ((IntKind.wrap .u64 (x2 * 6364136223846793005)) + 0)) + 1442695040888963407)) else k (IntKind.wrap .i64 ((IntKind.wrap .u64 (Int.ofNat (BitVec.toNat (BitVec.ofInt (IntKind.bits .u64) (Int.fdiv (IntKind.wrap .u64 ((IntKind.wrap .u64 ((IntKind.wrap .u64 (x2 * 6364136223846793005)) + 0)) + 1442695040888963407)) (2 ^ (min (Int.toNat 40) (IntKind.bits .u64)))) &&& BitVec.ofInt (IntKind.bits .u64) 255)))))) x0 (IntKind.wrap .i64 (x1 + 1)) (IntKind.wrap .u64 ((IntKind.wrap .u64 ((IntKind.wrap .u64 (x2 * 6364136223846793005)) + 0)) + 1442695040888963407))))) (fun r0 r1 r2 r3 => k (PkS.pack Tspec_l1Cur_next (r0, r1, r2, r3, ()))) := by kernel_rfl
theorem okspec_l1Cur_next (n : Nat) : FnOk Try.prog 83 (Kspec_l1Cur_next @spec_l1Cur_next n) := by
  refine fn_ok (sig := sig) mixed ttok (mkK_nat (cspec_l1Cur_next n)) (mkK_ok (cspec_l1Cur_next n)) (mkL_nat (mkK_nat (cspec_l1Cur_next n)) (l := []) trivial) (fn := Try.f83) (c := bodyOf Try.f83) (by kernel_rfl) (by kernel_rfl) (by kernel_rfl) (.eq (l := []) (by kernel_rfl) trivial) (shs := Hspec_l1Cur_next) (S := Sspec_l1Cur_next) fun R p k => ?_
  unfold Kspec_l1Cur_next
  cases h : (PkS.un Sspec_l1Cur_next p) with
  | none => rfl
  | some d =>
    obtain ⟨x0, x1, x2, u⟩ := (d : (List Int) × Int × Int × Unit)
    have hp := PkS.un_pack h
    subst hp
    exact (espec_l1Cur_next  n x0 x1 x2 k).symm

/-! ### (*loop.example/g00269/spec.l1Cur).pick -/
theorem cspec_l1Cur_pick (n : Nat) : AllOk Try.prog [(83, Kspec_l1Cur_next @spec_l1Cur_next n)] := ⟨okspec_l1Cur_next n, trivial⟩
@[reducible] def Sspec_l1Cur_pick : PkS := ⟨[.one (.box (200000, 0) 0), .one (.int .i64)], [((200000, 0), .box [.ro (.int .u8), .int .i64, .int .u64])]⟩
@[reducible] def Tspec_l1Cur_pick : PkS := ⟨[.one (.int .i64), .one (.box (300000, 0) 0), .one (.dead)], [((300000, 0), .box [.ro (.int .u8), .int .i64, .int .u64])]⟩
def Hspec_l1Cur_pick : List Sh := [.one .any, .box [(.ro (.int .u8)), .any, .any], .skip]
def Kspec_l1Cur_pick (g : ∀ {R : Type}, Nat → Int → (List Int) → Int → Int → (Int → (List Int) → Int → Int → Option R) → Option R) (n : Nat) : KPs := fun R p k => match (PkS.un Sspec_l1Cur_pick p : Option (Int × (List Int) × Int × Int × Unit)) with
  | some (x0, x1, x2, x3, _) => g n x0 x1 x2 x3 (fun r0 r1 r2 r3 => k (PkS.pack Tspec_l1Cur_pick (r0, r1, r2, r3, ())))
  | none => none
theorem espec_l1Cur_pick (spec_l1Cur_next : ∀ {R : Type}, Nat → (List Int) → Int → Int → (Int → (List Int) → Int → Int → Option R) → Option R) {R : Type} (n : Nat) (x0 : Int) (x1 : List Int) (x2 : Int) (x3 : Int) (k : Pk → Option R) : evF tt sig (mkK [(83, Kspec_l1Cur_next @spec_l1Cur_next n)] R) (mkL (mkK [(83, Kspec_l1Cur_next @spec_l1Cur_next n)]) [] R) Try.f81 Hspec_l1Cur_pick (PkS.pack Sspec_l1Cur_pick (x0, x1, x2, x3, ())) k = (fun (k : Int → (List Int) → Int → Int → Option R) => (bif (decide (x0 ≤ 1)) then k 0 x1 x2 x3 else (spec_l1Cur_next n x1 x2 x3 fun r1 r2 r3 r4 => (bif (decide (x0 > 200)) then (spec_l1Cur_next n r2 r3 r4 fun r5 r6 r7 r8 => (bif decide (x0 ≠ 0) then k (Int.tmod (IntKind.wrap .i64 ((IntKind.wrap .i64 (r1 * 256)) + r5)) x0) r6 r7 r8 else none)) else (bif decide (x0 ≠ 0) then k (Int.tmod r1 x0) r2 r3 r4 else none))))) (fun r0 r1 r2 r3 => k (PkS.pack Tspec_l1Cur_pick (r0, r1, r2, r3, ()))) := by kernel_rfl
theorem okspec_l1Cur_pick (n : Nat) : FnOk Try.prog 81 (Kspec_l1Cur_pick @spec_l1Cur_pick n) := by
  refine fn_ok (sig := sig) mixed ttok (mkK_nat (cspec_l1Cur_pick n)) (mkK_ok (cspec_l1Cur_pick n)) (mkL_nat (mkK_nat (cspec_l1Cur_pick n)) (l := []) trivial) (fn := Try.f81) (c := bodyOf Try.f81) (by kernel_rfl) (by kernel_rfl) (by kernel_rfl) (.eq (l := []) (by kernel_rfl) trivial) (shs := Hspec_l1Cur_pick) (S := Sspec_l1Cur_pick) fun R p k => ?_
  unfold Kspec_l1Cur_pick
  cases h : (PkS.un Sspec_l1Cur_pick p) with
  | none => rfl
  | some d =>
    obtain ⟨x0, x1, x2, x3, u⟩ := (d : Int × (List Int) × Int × Int × Unit)
    have hp := PkS.un_pack h
    subst hp
    exact (espec_l1Cur_pick @spec_l1Cur_next n x0 x1 x2 x3 k).symm

/-! ### (*loop.example/g00269/spec.l1Cur).among -/
theorem cspec_l1Cur_among (n : Nat) : AllOk Try.prog [(81, Kspec_l1Cur_pick @spec_l1Cur_pick n)] := ⟨okspec_l1Cur_pick n, trivial⟩
@[reducible] def Sspec_l1Cur_among : PkS := ⟨[.one (.box (200000, 0) 0), .one (.ro (.int .i64))], [((200000, 0), .box [.ro (.int .u8), .int .i64, .int .u64])]⟩
@[reducible] def Tspec_l1Cur_among : PkS := ⟨[.one (.int .i64), .one (.box (300000, 0) 0), .one (.dead)], [((300000, 0), .box [.ro (.int .u8), .int .i64, .int .u64])]⟩
def Hspec_l1Cur_among : List Sh := [.one .any, .box [(.ro (.int .u8)), .any, .any], .skip]
def Kspec_l1Cur_among (g : ∀ {R : Type}, Nat → (List Int) → (List Int) → Int → Int → (Int → (List Int) → Int → Int → Option R) → Option R) (n : Nat) : KPs := fun R p k => match (PkS.un Sspec_l1Cur_among p : Option ((List Int) × (List Int) × Int × Int × Unit)) with
  | some (x0, x1, x2, x3, _) => g n x0 x1 x2 x3 (fun r0 r1 r2 r3 => k (PkS.pack Tspec_l1Cur_among (r0, r1, r2, r3, ())))
  | none => none
theorem espec_l1Cur_among (spec_l1Cur_pick : ∀ {R : Type}, Nat → Int → (List Int) → Int → Int → (Int → (List Int) → Int → Int → Option R) → Option R) {R : Type} (n : Nat) (x0 : List Int) (x1 : List Int) (x2 : Int) (x3 : Int) (k : Pk → Option R) : evF tt sig (mkK [(81, Kspec_l1Cur_pick @spec_l1Cur_pick n)] R) (mkL (mkK [(81, Kspec_l1Cur_pick @spec_l1Cur_pick n)]) [] R) Try.f82 Hspec_l1Cur_among (PkS.pack Sspec_l1Cur_among (x0, x1, x2, x3, ())) k = (fun (k : Int → (List Int) → Int → Int → Option R) => (spec_l1Cur_pick n (x0.length : Int) x1 x2 x3 fun r1 r2 r3 r4 => (bif decide (0 ≤ r1) then (bif decide (r1 < (x0.length : Int)) then k (x0.getD (Int.toNat r1) 0) r2 r3 r4 else none) else none))) (fun r0 r1 r2 r3 => k (PkS.pack Tspec_l1Cur_among (r0, r1, r2, r3, ()))) := by kernel_rfl
theorem okspec_l1Cur_among (n : Nat) : FnOk Try.prog 82 (Kspec_l1Cur_among @spec_l1Cur_among n) := by
  refine fn_ok (sig := sig) mixed ttok (mkK_nat (cspec_l1Cur_among n)) (mkK_ok (cspec_l1Cur_among n)) (mkL_nat (mkK_nat (cspec_l1Cur_among n)) (l := []) trivial) (fn := Try.f82) (c := bodyOf Try.f82) (by kernel_rfl) (by kernel_rfl) (by kernel_rfl) (.eq (l := []) (by kernel_rfl) trivial) (shs := Hspec_l1Cur_among) (S := Sspec_l1Cur_among) fun R p k => ?_
  unfold Kspec_l1Cur_among
  cases h : (PkS.un Sspec_l1Cur_among p) with
  | none => rfl
  | some d =>
    obtain ⟨x0, x1, x2, x3, u⟩ := (d : (List Int) × (List Int) × Int × Int × Unit)
    have hp := PkS.un_pack h
    subst hp
    exact (espec_l1Cur_among @spec_l1Cur_pick n x0 x1 x2 x3 k).symm

/-! ### (*loop.example/g00269/spec.l1Cur).policy -/
theorem cspec_l1Cur_policy (n : Nat) : AllOk Try.prog [(81, Kspec_l1Cur_pick @spec_l1Cur_pick n), (82, Kspec_l1Cur_among @spec_l1Cur_among n)] := ⟨okspec_l1Cur_pick n, ⟨okspec_l1Cur_among n, trivial⟩⟩
@[reducible] def Sspec_l1Cur_policy : PkS := ⟨[.one (.box (200000, 0) 0)], [((200000, 0), .box [.ro (.int .u8), .int .i64, .int .u64])]⟩
@[reducible] def Tspec_l1Cur_policy : PkS := ⟨[.agg [.int .i64, .int .i64, .int .i64, .int .i64], .one (.box (300000, 0) 0)], [((300000, 0), .box [.ro (.int .u8), .int .i64, .int .u64])]⟩
def Hspec_l1Cur_policy : List Sh := [.agg [.any, .any, .any, .any], .box [(.ro (.int .u8)), .any, .any]]
def Kspec_l1Cur_policy (g : ∀ {R : Type}, Nat → (List Int) → Int → Int → (Int → Int → Int → Int → (List Int) → Int → Int → Option R) → Option R) (n : Nat) : KPs := fun R p k => match (PkS.un Sspec_l1Cur_policy p : Option ((List Int) × Int × Int × Unit)) with
  | some (x0, x1, x2, _) => g n x0 x1 x2 (fun r0 r1 r2 r3 r4 r5 r6 => k (PkS.pack Tspec_l1Cur_policy (r0, r1, r2, r3, r4, r5, r6, ())))
  | none => none
theorem espec_l1Cur_policy (spec_l1Cur_pick : ∀ {R : Type}, Nat → Int → (List Int) → Int → Int → (Int → (List Int) → Int → Int → Option R) → Option R) (spec_l1Cur_among : ∀ {R : Type}, Nat → (List Int) → (List Int) → Int → Int → (Int → (List Int) → Int → Int → Option R) → Option R) {R : Type} (n : Nat) (x0 : List Int) (x1 : Int) (x2 : Int) (k : Pk → Option R) : evF tt sig (mkK [(81, Kspec_l1Cur_pick @spec_l1Cur_pick n), (82, Kspec_l1Cur_among @spec_l1Cur_among n)] R) (mkL (mkK [(81, Kspec_l1Cur_pick @spec_l1Cur_pick n), (82, Kspec_l1Cur_among @spec_l1Cur_among n)]) [] R) Try.f76 Hspec_l1Cur_policy (PkS.pack Sspec_l1Cur_policy (x0, x1, x2, ())) k = (fun (k : Int → Int → Int → Int → (List Int) → Int → Int → Option R) => (spec_l1Cur_pick n 20 x0 x1 x2 fun r1 r2 r3 r4 => (spec_l1Cur_pick n 4 r2 r3 r4 fun r5 r6 r7 r8 => (spec_l1Cur_pick n 12 r6 r7 r8 fun r9 r10 r11 r12 => (spec_l1Cur_pick n 2000 r10 r11 r12 fun r13 r14 r15 r16 => (spec_l1Cur_pick n 30 r14 r15 r16 fun r17 r18 r19 r20 => (bif (r17 == 0) then (spec_l1Cur_among n ([0, 1000, 1001]) r18 r19 r20 fun r21 r22 r23 r24 => k r21 (IntKind.wrap .i64 (1 + r5)) (IntKind.wrap .i64 ((IntKind.wrap .i64 (1 + r1)) + r13)) (IntKind.wrap .i64 (1 + r9)) r22 r23 r24) else (bif (r17 == 1) then (spec_l1Cur_among n ([0, 10, 11]) r18 r19 r20 fun r25 r26 r27 r28 => k (IntKind.wrap .i64 (1 + r1)) r25 (IntKind.wrap .i64 ((IntKind.wrap .i64 (1 + r1)) + r13)) (IntKind.wrap .i64 (1 + r9)) r26 r27 r28) else (bif (r17 == 2) then (spec_l1Cur_among n ([0, 40, 41]) r18 r19 r20 fun r29 r30 r31 r32 => k (IntKind.wrap .i64 (1 + r1)) (IntKind.wrap .i64 (1 + r5)) (IntKind.wrap .i64 ((IntKind.wrap .i64 (1 + r1)) + r13)) r29 r30 r31 r32) else (bif (r17 == 3) then (spec_l1Cur_among n ([0, 1000000, 1000001]) r18 r19 r20 fun r33 r34 r35 r36 => k (IntKind.wrap .i64 (1 + r1)) (IntKind.wrap .i64 (1 + r5)) r33 (IntKind.wrap .i64 (1 + r9)) r34 r35 r36) else k (IntKind.wrap .i64 (1 + r1)) (IntKind.wrap .i64 (1 + r5)) (IntKind.wrap .i64 ((IntKind.wrap .i64 (1 + r1)) + r13)) (IntKind.wrap .i64 (1 + r9)) r18 r19 r20)))))))))) (fun r0 r1 r2 r3 r4 r5 r6 => k (PkS.pack Tspec_l1Cur_policy (r0, r1, r2, r3, r4, r5, r6, ()))) := by kernel_rfl
theorem okspec_l1Cur_policy (n : Nat) : FnOk Try.prog 76 (Kspec_l1Cur_policy @spec_l1Cur_policy n) := by
  refine fn_ok (sig := sig) mixed ttok (mkK_nat (cspec_l1Cur_policy n)) (mkK_ok (cspec_l1Cur_policy n)) (mkL_nat (mkK_nat (cspec_l1Cur_policy n)) (l := []) trivial) (fn := Try.f76) (c := bodyOf Try.f76) (by kernel_rfl) (by kernel_rfl) (by kernel_rfl) (.eq (l := []) (by kernel_rfl) trivial) (shs := Hspec_l1Cur_policy) (S := Sspec_l1Cur_policy) fun R p k => ?_
  unfold Kspec_l1Cur_policy
  cases h : (PkS.un Sspec_l1Cur_policy p) with
  | none => rfl
  | some d =>
    obtain ⟨x0, x1, x2, u⟩ := (d : (List Int) × Int × Int × Unit)
    have hp := PkS.un_pack h
    subst hp
    exact (espec_l1Cur_policy @spec_l1Cur_pick @spec_l1Cur_among n x0 x1 x2 k).symm

/-! ### loop.example/g00269/spec.DrawGoodPolicy -/
theorem cspec_DrawGoodPolicy (n : Nat) : AllOk Try.prog [(76, Kspec_l1Cur_policy @spec_l1Cur_policy n)] := ⟨okspec_l1Cur_policy n, trivial⟩
@[reducible] def Sspec_DrawGoodPolicy : PkS := ⟨[.one (.ro (.int .u8))], []⟩
@[reducible] def Tspec_DrawGoodPolicy : PkS := ⟨[.agg [.int .i64, .int .i64, .int .i64, .int .i64], .one (.dead)], []⟩
def Hspec_DrawGoodPolicy : List Sh := [.agg [.any, .any, .any, .any], .skip]
def Kspec_DrawGoodPolicy (g : ∀ {R : Type}, Nat → (List Int) → (Int → Int → Int → Int → Option R) → Option R) (n : Nat) : KPs := fun R p k => match (PkS.un Sspec_DrawGoodPolicy p : Option ((List Int) × Unit)) with
  | some (x0, _) => g n x0 (fun r0 r1 r2 r3 => k (PkS.pack Tspec_DrawGoodPolicy (r0, r1, r2, r3, ())))
  | none => none
theorem espec_DrawGoodPolicy (spec_l1Cur_policy : ∀ {R : Type}, Nat → (List Int) → Int → Int → (Int → Int → Int → Int → (List Int) → Int → Int → Option R) → Option R) {R : Type} (n : Nat) (x0 : List Int) (k : Pk → Option R) : evF tt sig (mkK [(76, Kspec_l1Cur_policy @spec_l1Cur_policy n)] R) (mkL (mkK [(76, Kspec_l1Cur_policy @spec_l1Cur_policy n)]) [] R) Try.f63 Hspec_DrawGoodPolicy (PkS.pack Sspec_DrawGoodPolicy (x0, ())) k = (fun (k : Int → Int → Int → Int → Option R) => (spec_l1Cur_policy n x0 0 0 fun r1 r2 r3 r4 r5 r6 r7 => k r1 r2 r3 r4)) (fun r0 r1 r2 r3 => k (PkS.pack Tspec_DrawGoodPolicy (r0, r1, r2, r3, ()))) := by kernel_rfl
theorem okspec_DrawGoodPolicy (n : Nat) : FnOk Try.prog 63 (Kspec_DrawGoodPolicy @spec_DrawGoodPolicy n) := by
  refine fn_ok (sig := sig) mixed ttok (mkK_nat (cspec_DrawGoodPolicy n)) (mkK_ok (cspec_DrawGoodPolicy n)) (mkL_nat (mkK_nat (cspec_DrawGoodPolicy n)) (l := []) trivial) (fn := Try.f63) (c := bodyOf Try.f63) (by kernel_rfl) (by kernel_rfl) (by kernel_rfl) (.eq (l := []) (by kernel_rfl) trivial) (shs := Hspec_DrawGoodPolicy) (S := Sspec_DrawGoodPolicy) fun R p k => ?_
  unfold Kspec_DrawGoodPolicy
  cases h : (PkS.un Sspec_DrawGoodPolicy p) with
  | none => rfl
  | some d =>
    obtain ⟨x0, u⟩ := (d : (List Int) × Unit)
    have hp := PkS.un_pack h
    subst hp
    exact (espec_DrawGoodPolicy @spec_l1Cur_policy n x0 k).symm

/-! ### loop.example/g00269/spec.DrawWaitsOf -/
theorem cspec_DrawWaitsOf (n : Nat) : AllOk Try.prog [(63, Kspec_DrawGoodPolicy @spec_DrawGoodPolicy n)] := ⟨okspec_DrawGoodPolicy n, trivial⟩
@[reducible] def Sspec_DrawWaitsOf : PkS := ⟨[.one (.ro (.int .u8))], []⟩
@[reducible] def Tspec_DrawWaitsOf : PkS := ⟨[.agg [.int .i64, .int .i64, .int .i64, .int .i64], .one (.dead)], []⟩
def Hspec_DrawWaitsOf : List Sh := [.agg [.any, .any, .any, .any], .skip]
def Kspec_DrawWaitsOf (g : ∀ {R : Type}, Nat → (List Int) → (Int → Int → Int → Int → Option R) → Option R) (n : Nat) : KPs := fun R p k => match (PkS.un Sspec_DrawWaitsOf p : Option ((List Int) × Unit)) with
  | some (x0, _) => g n x0 (fun r0 r1 r2 r3 => k (PkS.pack Tspec_DrawWaitsOf (r0, r1, r2, r3, ())))
  | none => none
theorem espec_DrawWaitsOf (spec_DrawGoodPolicy : ∀ {R : Type}, Nat → (List Int) → (Int → Int → Int → Int → Option R) → Option R) {R : Type} (n : Nat) (x0 : List Int) (k : Pk → Option R) : evF tt sig (mkK [(63, Kspec_DrawGoodPolicy @spec_DrawGoodPolicy n)] R) (mkL (mkK [(63, Kspec_DrawGoodPolicy @spec_DrawGoodPolicy n)]) [] R) Try.f37 Hspec_DrawWaitsOf (PkS.pack Sspec_DrawWaitsOf (x0, ())) k = (fun (k : Int → Int → Int → Int → Option R) => (spec_DrawGoodPolicy n x0 fun r1 r2 r3 r4 => k r1 r2 r3 r4)) (fun r0 r1 r2 r3 => k (PkS.pack Tspec_DrawWaitsOf (r0, r1, r2, r3, ()))) := by kernel_rfl
theorem okspec_DrawWaitsOf (n : Nat) : FnOk Try.prog 37 (Kspec_DrawWaitsOf @spec_DrawWaitsOf n) := by
  refine fn_ok (sig := sig) mixed ttok (mkK_nat (cspec_DrawWaitsOf n)) (mkK_ok (cspec_DrawWaitsOf n)) (mkL_nat (mkK_nat (cspec_DrawWaitsOf n)) (l := []) trivial) (fn := Try.f37) (c := bodyOf Try.f37) (by kernel_rfl) (by kernel_rfl) (by kernel_rfl) (.eq (l := []) (by kernel_rfl) trivial) (shs := Hspec_DrawWaitsOf) (S := Sspec_DrawWaitsOf) fun R p k => ?_
  unfold Kspec_DrawWaitsOf
  cases h : (PkS.un Sspec_DrawWaitsOf p) with
  | none => rfl
  | some d =>
    obtain ⟨x0, u⟩ := (d : (List Int) × Unit)
    have hp := PkS.un_pack h
    subst hp
    exact (espec_DrawWaitsOf @spec_DrawGoodPolicy n x0 k).symm

/-! ### loop.example/g00269/impl.in -/
theorem cimpl_in (n : Nat) : AllOk Try.prog [] := trivial
@[reducible] def Simpl_in : PkS := ⟨[.one (.int .i64), .one (.int .i64), .one (.int .i64)], []⟩
@[reducible] def Timpl_in : PkS := ⟨[.one (.bool), .one (.dead), .one (.dead), .one (.dead)], []⟩
def Himpl_in : List Sh := [.one .any, .skip, .skip, .skip]
def Kimpl_in (g : ∀ {R : Type}, Nat → Int → Int → Int → (Bool → Option R) → Option R) (n : Nat) : KPs := fun R p k => match (PkS.un Simpl_in p : Option (Int × Int × Int × Unit)) with
  | some (x0, x1, x2, _) => g n x0 x1 x2 (fun r0 => k (PkS.pack Timpl_in (r0, ())))
  | none => none
theorem eimpl_in  {R : Type} (n : Nat) (x0 : Int) (x1 : Int) (x2 : Int) (k : Pk → Option R) : evF tt sig (mkK [] R) (mkL (mkK []) [] R) Try.f54 Himpl_in (PkS.pack Simpl_in (x0, x1, x2, ())) k = (fun (k : Bool → Option R) => (bif (decide (x0 ≥ x1)) then k (decide (x0 ≤ x2)) else k false)) (fun r0 => k (PkS.pack Timpl_in (r0, ()))) := by kernel_rfl
theorem okimpl_in (n : Nat) : FnOk Try.prog 54 (Kimpl_in @impl_in n) := by
  refine fn_ok (sig := sig) mixed ttok (mkK_nat (cimpl_in n)) (mkK_ok (cimpl_in n)) (mkL_nat (mkK_nat (cimpl_in n)) (l := []) trivial) (fn := Try.f54) (c := bodyOf Try.f54) (by kernel_rfl) (by kernel_rfl) (by kernel_rfl) (.eq (l := []) (by kernel_rfl) trivial) (shs := Himpl_in) (S := Simpl_in) fun R p k => ?_
  unfold Kimpl_in
  cases h : (PkS.un Simpl_in p) with
  | none => rfl
  | some d =>
    obtain ⟨x0, x1, x2, u⟩ := (d : Int × Int × Int × Unit)
    have hp := PkS.un_pack h
    subst hp
    exact (eimpl_in  n x0 x1 x2 k).symm

/-! ### loop.example/g00269/impl.GoodPolicy -/
theorem cimpl_GoodPolicy (n : Nat) : AllOk Try.prog [(54, Kimpl_in @impl_in n)] := ⟨okimpl_in n, trivial⟩
@[reducible] def Simpl_GoodPolicy : PkS := ⟨[.agg [.int .i64, .int .i64, .int .i64, .int .i64]], []⟩
@[reducible] def Timpl_GoodPolicy : PkS := ⟨[.one (.bool), .one (.dead)], []⟩
def Himpl_GoodPolicy : List Sh := [.one .any, .skip]
def Kimpl_GoodPolicy (g : ∀ {R : Type}, Nat → Int → Int → Int → Int → (Bool → Option R) → Option R) (n : Nat) : KPs := fun R p k => match (PkS.un Simpl_GoodPolicy p : Option (Int × Int × Int × Int × Unit)) with
  | some (x0, x1, x2, x3, _) => g n x0 x1 x2 x3 (fun r0 => k (PkS.pack Timpl_GoodPolicy (r0, ())))
  | none => none
theorem eimpl_GoodPolicy (impl_in : ∀ {R : Type}, Nat → Int → Int → Int → (Bool → Option R) → Option R) {R : Type} (n : Nat) (x0 : Int) (x1 : Int) (x2 : Int) (x3 : Int) (k : Pk → Option R) : evF tt sig (mkK [(54, Kimpl_in @impl_in n)] R) (mkL (mkK [(54, Kimpl_in @impl_in n)]) [] R) Try.f17 Himpl_GoodPolicy (PkS.pack Simpl_GoodPolicy (x0, x1, x2, x3, ())) k = (fun (k : Bool → Option R) => (impl_in n x0 1 1000 fun r1 => (bif r1 then (impl_in n x1 1 10 fun r2 => (bif r2 then (impl_in n x2 x0 1000000 fun r3 => (bif r3 then (impl_in n x3 1 40 fun r4 => k r4) else k false)) else k false)) else k false))) (fun r0 => k (PkS.pack Timpl_GoodPolicy (r0, ()))) := by kernel_rfl
theorem okimpl_GoodPolicy (n : Nat) : FnOk Try.prog 17 (Kimpl_GoodPolicy @impl_GoodPolicy n) := by
  refine fn_ok (sig := sig) mixed ttok (mkK_nat (cimpl_GoodPolicy n)) (mkK_ok (cimpl_GoodPolicy n)) (mkL_nat (mkK_nat (cimpl_GoodPolicy n)) (l := []) trivial) (fn := Try.f17) (c := bodyOf Try.f17) (by kernel_rfl) (by kernel_rfl) (by kernel_rfl) (.eq (l := []) (by kernel_rfl) trivial) (shs := Himpl_GoodPolicy) (S := Simpl_GoodPolicy) fun R p k => ?_
  unfold Kimpl_GoodPolicy
  cases h : (PkS.un Simpl_GoodPolicy p) with
  | none => rfl
  | some d =>
    obtain ⟨x0, x1, x2, x3, u⟩ := (d : Int × Int × Int × Int × Unit)
    have hp := PkS.un_pack h
    subst hp
    exact (eimpl_GoodPolicy @impl_in n x0 x1 x2 x3 k).symm

/-! ### (*loop.example/g00269/impl.Policy).wait -/
theorem cimpl_Policy_wait (n : Nat) : AllOk Try.prog [] := trivial
@[reducible] def Simpl_Policy_wait_l3 : PkS := ⟨[.one (.box (100000, 0) 0), .one (.int .i64), .one (.int .i64), .one (.int .i64), .one (.box (100000, 0) 0), .one (.dead)], [((100000, 0), .box [.int .i64, .int .i64, .int .i64, .int .i64])]⟩
@[reducible] def Timpl_Policy_wait_l3_0 : PkS := ⟨[.one (.box (100000, 0) 0), .one (.int .i64), .one (.box (100000, 0) 0), .one (.dead)], [((100000, 0), .box [.int .i64, .int .i64, .int .i64, .int .i64])]⟩
def Dimpl_Policy_wait_l3 : LoopD := ⟨36, [0, 1, 5, 6], [.box [.any, .any, .any, .any], .one .any, .one .any, .one .any, .box [.any, .any, .any, .any], .skip], fun x => match x with
  | .exit 0 => some ([0, 5], [.box [.any, .any, .any, .any], .one .any, .box [.any, .any, .any, .any], .skip])
  | _ => none⟩
def Pimpl_Policy_wait_l3 (g : ∀ {R : Type}, Nat → Int → Int → Int → Int → Int → Int → Int → (Int → Int → Int → Int → Int → Option R) → Option R) (n : Nat) : LPs := fun R q kk => match (PkS.un Simpl_Policy_wait_l3 q : Option (Int × Int × Int × Int × Int × Int × Int × Unit)) with
  | some (y3_0, y3_1, y3_2, y3_3, y3_4, y3_5, y3_6, _) => g n y3_0 y3_1 y3_2 y3_3 y3_4 y3_5 y3_6 (fun r0 r1 r2 r3 r4 => kk (.exit 0) (PkS.pack Timpl_Policy_wait_l3_0 (r0, r1, r2, r3, r4, ())))
  | none => none
theorem eimpl_Policy_wait_l3 (impl_Policy_wait_l3 : ∀ {R : Type}, Nat → Int → Int → Int → Int → Int → Int → Int → (Int → Int → Int → Int → Int → Option R) → Option R) {R : Type} (n : Nat) (y3_0 : Int) (y3_1 : Int) (y3_2 : Int) (y3_3 : Int) (y3_4 : Int) (y3_5 : Int) (y3_6 : Int) (kk : Ex → Pk → Option R) : Dimpl_Policy_wait_l3.step tt sig (mkK [] R) (mkL (mkK []) [] R) (loopIn 3 (bodyOf Try.f62)) (fun q' => Pimpl_Policy_wait_l3 @impl_Policy_wait_l3 n R q' kk) (PkS.pack Simpl_Policy_wait_l3 (y3_0, y3_1, y3_2, y3_3, y3_4, y3_5, y3_6, ())) kk = (fun (kexit0 : Int → Int → Int → Int → Int → Option R) => (bif (decide (y3_2 < y3_0)) then (bif (decide (y3_1 < y3_5)) then impl_Policy_wait_l3 n y3_0 (IntKind.wrap .i64 (y3_1 * y3_4)) (IntKind.wrap .i64 (y3_2 + 1)) y3_3 y3_4 y3_5 y3_6 kexit0 else kexit0 y3_1 y3_3 y3_4 y3_5 y3_6) else kexit0 y3_1 y3_3 y3_4 y3_5 y3_6)) (fun r0 r1 r2 r3 r4 => kk (.exit 0) (PkS.pack Timpl_Policy_wait_l3_0 (r0, r1, r2, r3, r4, ()))) := by kernel_rfl
theorem leimpl_Policy_wait_l3 : LoopEq tt sig (fun n => mkK []) (fun n => mkL (mkK []) []) Dimpl_Policy_wait_l3 Simpl_Policy_wait_l3 (loopIn 3 (bodyOf Try.f62)) (Pimpl_Policy_wait_l3 @impl_Policy_wait_l3) where
  zero R q kk := by unfold Pimpl_Policy_wait_l3; cases (PkS.un Simpl_Policy_wait_l3 q) <;> rfl
  succ n R q kk := by
    unfold Pimpl_Policy_wait_l3
    cases h : (PkS.un Simpl_Policy_wait_l3 q) with
    | none => rfl
    | some d =>
      obtain ⟨y3_0, y3_1, y3_2, y3_3, y3_4, y3_5, y3_6, u⟩ := (d : Int × Int × Int × Int × Int × Int × Int × Unit)
      have hp := PkS.un_pack h
      subst hp
      exact (eimpl_Policy_wait_l3 @impl_Policy_wait_l3 n y3_0 y3_1 y3_2 y3_3 y3_4 y3_5 y3_6 kk).symm
theorem nlimpl_Policy_wait_l3 : ∀ n, NatLP (Pimpl_Policy_wait_l3 @impl_Policy_wait_l3 n) := leimpl_Policy_wait_l3.nat (fun n => mkK_nat (cimpl_Policy_wait n)) fun n => mkL_nat (mkK_nat (cimpl_Policy_wait n)) (l := []) trivial
theorem inimpl_Policy_wait_l3 (n : Nat) (R : Type) : LoopsOk Try.prog (mkL (mkK []) [] R) (loopIn 3 (bodyOf Try.f62)) := .eq (l := []) (by kernel_rfl) trivial
theorem lkimpl_Policy_wait_l3 (n : Nat) (R : Type) (L0 : LK R) (h0 : ∀ id, firstRegion (loopIn 3 (bodyOf Try.f62)) = some id → L0 id = Dimpl_Policy_wait_l3.oracle (mkK [] R) (Pimpl_Policy_wait_l3 @impl_Policy_wait_l3 n R)) : LoopOk Try.prog L0 (loopIn 3 (bodyOf Try.f62)) :=
  leimpl_Policy_wait_l3.ok mixed ttok (fun n => mkK_nat (cimpl_Policy_wait n)) (fun n => mkK_ok (cimpl_Policy_wait n)) (fun n => inimpl_Policy_wait_l3 n R) (mkK_nat (cimpl_Policy_wait n)) h0
@[reducible] def Simpl_Policy_wait : PkS := ⟨[.one (.box (200000, 0) 0), .one (.int .i64)], [((200000, 0), .box [.int .i64, .int .i64, .int .i64, .int .i64])]⟩
@[reducible] def Timpl_Policy_wait : PkS := ⟨[.one (.int .i64), .one (.box (300000, 0) 0), .one (.dead)], [((300000, 0), .box [.int .i64, .int .i64, .int .i64, .int .i64])]⟩
def Himpl_Policy_wait : List Sh := [.one .any, .box [.any, .any, .any, .any], .skip]
def Kimpl_Policy_wait (g : ∀ {R : Type}, Nat → Int → Int → Int → Int → Int → (Int → Int → Int → Int → Int → Option R) → Option R) (n : Nat) : KPs := fun R p k => match (PkS.un Simpl_Policy_wait p : Option (Int × Int × Int × Int × Int × Unit)) with
  | some (x0, x1, x2, x3, x4, _) => g n x0 x1 x2 x3 x4 (fun r0 r1 r2 r3 r4 => k (PkS.pack Timpl_Policy_wait (r0, r1, r2, r3, r4, ())))
  | none => none
theorem eimpl_Policy_wait (impl_Policy_wait_l3 : ∀ {R : Type}, Nat → Int → Int → Int → Int → Int → Int → Int → (Int → Int → Int → Int → Int → Option R) → Option R) {R : Type} (n : Nat) (x0 : Int) (x1 : Int) (x2 : Int) (x3 : Int) (x4 : Int) (k : Pk → Option R) : evF tt sig (mkK [] R) (mkL (mkK []) [(3, Dimpl_Policy_wait_l3, Pimpl_Policy_wait_l3 @impl_Policy_wait_l3 n)] R) Try.f62 Himpl_Policy_wait (PkS.pack Simpl_Policy_wait (x0, x1, x2, x3, x4, ())) k = (fun (k : Int → Int → Int → Int → Int → Option R) => (impl_Policy_wait_l3 n x0 x1 1 x1 x2 x3 x4 (fun r1 r2 r3 r4 r5 => k (if r4 < r1 then r4 else r1) r2 r3 r4 r5))) (fun r0 r1 r2 r3 r4 => k (PkS.pack Timpl_Policy_wait (r0, r1, r2, r3, r4, ()))) := by kernel_rfl
theorem okimpl_Policy_wait (n : Nat) : FnOk Try.prog 62 (Kimpl_Policy_wait @impl_Policy_wait n) := by
  refine fn_ok (sig := sig) mixed ttok (mkK_nat (cimpl_Policy_wait n)) (mkK_ok (cimpl_Policy_wait n)) (mkL_nat (mkK_nat (cimpl_Policy_wait n)) (l := [(3, Dimpl_Policy_wait_l3, Pimpl_Policy_wait_l3 @impl_Policy_wait_l3 n)]) ⟨nlimpl_Policy_wait_l3 n, trivial⟩) (fn := Try.f62) (c := bodyOf Try.f62) (by kernel_rfl) (by kernel_rfl) (by kernel_rfl) (.eq (l := [loopIn 3 (bodyOf Try.f62)]) (by kernel_rfl) ⟨(lkimpl_Policy_wait_l3 n _ _ (at_id (i := 3) (by kernel_rfl) rfl)), trivial⟩) (shs := Himpl_Policy_wait) (S := Simpl_Policy_wait) fun R p k => ?_
  unfold Kimpl_Policy_wait
  cases h : (PkS.un Simpl_Policy_wait p) with
  | none => rfl
  | some d =>
    obtain ⟨x0, x1, x2, x3, x4, u⟩ := (d : Int × Int × Int × Int × Int × Unit)
    have hp := PkS.un_pack h
    subst hp
    exact (eimpl_Policy_wait @impl_Policy_wait_l3 n x0 x1 x2 x3 x4 k).symm

/-! ### loop.example/g00269/impl.WaitsOf -/
theorem cimpl_WaitsOf (n : Nat) : AllOk Try.prog [(17, Kimpl_GoodPolicy @impl_GoodPolicy n), (62, Kimpl_Policy_wait @impl_Policy_wait n)] := ⟨okimpl_GoodPolicy n, ⟨okimpl_Policy_wait n, trivial⟩⟩
@[reducible] def Simpl_WaitsOf_l5 : PkS := ⟨[.one (.box (100000, 0) 0), .one (.whole (100000, 1)), .one (.int .i64), .one (.int .i64), .one (.dead)], [((100000, 0), .box [.int .i64, .int .i64, .int .i64, .int .i64]), ((100000, 1), .arr (.int .i64))]⟩
@[reducible] def Timpl_WaitsOf_l5_0 : PkS := ⟨[.one (.whole (100000, 0)), .one (.int .i64), .one (.dead)], [((100000, 0), .arr (.int .i64))]⟩
def Dimpl_WaitsOf_l5 : LoopD := ⟨29, [1, 5, 6, 7], [.box [.any, .any, .any, .any], .one (.own (.int .i64)), .one .any, .one .any, .skip], fun x => match x with
  | .exit 0 => some ([5, 6], [.one (.own (.int .i64)), .one .any, .skip])
  | _ => none⟩
def Pimpl_WaitsOf_l5 (g : ∀ {R : Type}, Nat → Int → Int → Int → Int → Int → Int → (List Int) → (Int → (List Int) → Option R) → Option R) (n : Nat) : LPs := fun R q kk => match (PkS.un Simpl_WaitsOf_l5 q : Option (Int × Int × Int × Int × Int × Int × (List Int) × Unit)) with
  | some (y5_0, y5_1, y5_2, y5_3, y5_4, y5_5, y5_6, _) => g n y5_0 y5_1 y5_2 y5_3 y5_4 y5_5 y5_6 (fun r0 r1 => kk (.exit 0) (PkS.pack Timpl_WaitsOf_l5_0 (r0, r1, ())))
  | none => none
theorem eimpl_WaitsOf_l5 (impl_GoodPolicy : ∀ {R : Type}, Nat → Int → Int → Int → Int → (Bool → Option R) → Option R) (impl_Policy_wait : ∀ {R : Type}, Nat → Int → Int → Int → Int → Int → (Int → Int → Int → Int → Int → Option R) → Option R) (impl_WaitsOf_l5 : ∀ {R : Type}, Nat → Int → Int → Int → Int → Int → Int → (List Int) → (Int → (List Int) → Option R) → Option R) {R : Type} (n : Nat) (y5_0 : Int) (y5_1 : Int) (y5_2 : Int) (y5_3 : Int) (y5_4 : Int) (y5_5 : Int) (y5_6 : List Int) (kk : Ex → Pk → Option R) : Dimpl_WaitsOf_l5.step tt sig (mkK [(17, Kimpl_GoodPolicy @impl_GoodPolicy n), (62, Kimpl_Policy_wait @impl_Policy_wait n)] R) (mkL (mkK [(17, Kimpl_GoodPolicy @impl_GoodPolicy n), (62, Kimpl_Policy_wait @impl_Policy_wait n)]) [] R) (loopIn 5 (bodyOf Try.f33)) (fun q' => Pimpl_WaitsOf_l5 @impl_WaitsOf_l5 n R q' kk) (PkS.pack Simpl_WaitsOf_l5 (y5_0, y5_1, y5_2, y5_3, y5_4, y5_5, y5_6, ())) kk = (fun (kexit0 : Int → (List Int) → Option R) => (bif (decide (y5_1 < y5_5)) then (impl_Policy_wait n y5_1 y5_2 y5_3 y5_4 y5_5 fun r2 r3 r4 r5 r6 => (bif decide (y5_6.length + [r2].length ≤ LIM) then (impl_Policy_wait n y5_1 r3 r4 r5 r6 fun r7 r8 r9 r10 r11 => impl_WaitsOf_l5 n (IntKind.wrap .i64 (y5_0 + r7)) (IntKind.wrap .i64 (y5_1 + 1)) r8 r9 r10 r11 (y5_6 ++ [r2]) kexit0) else none)) else kexit0 y5_0 y5_6)) (fun r0 r1 => kk (.exit 0) (PkS.pack Timpl_WaitsOf_l5_0 (r0, r1, ()))) := by kernel_rfl
theorem leimpl_WaitsOf_l5 : LoopEq tt sig (fun n => mkK [(17, Kimpl_GoodPolicy @impl_GoodPolicy n), (62, Kimpl_Policy_wait @impl_Policy_wait n)]) (fun n => mkL (mkK [(17, Kimpl_GoodPolicy @impl_GoodPolicy n), (62, Kimpl_Policy_wait @impl_Policy_wait n)]) []) Dimpl_WaitsOf_l5 Simpl_WaitsOf_l5 (loopIn 5 (bodyOf Try.f33)) (Pimpl_WaitsOf_l5 @impl_WaitsOf_l5) where
  zero R q kk := by unfold Pimpl_WaitsOf_l5; cases (PkS.un Simpl_WaitsOf_l5 q) <;> rfl
  succ n R q kk := by
    unfold Pimpl_WaitsOf_l5
    cases h : (PkS.un Simpl_WaitsOf_l5 q) with
    | none => rfl
    | some d =>
      obtain ⟨y5_0, y5_1, y5_2, y5_3, y5_4, y5_5, y5_6, u⟩ := (d : Int × Int × Int × Int × Int × Int × (List Int) × Unit)
      have hp := PkS.un_pack h
      subst hp
      exact (eimpl_WaitsOf_l5 @impl_GoodPolicy @impl_Policy_wait @impl_WaitsOf_l5 n y5_0 y5_1 y5_2 y5_3 y5_4 y5_5 y5_6 kk).symm
theorem nlimpl_WaitsOf_l5 : ∀ n, NatLP (Pimpl_WaitsOf_l5 @impl_WaitsOf_l5 n) := leimpl_WaitsOf_l5.nat (fun n => mkK_nat (cimpl_WaitsOf n)) fun n => mkL_nat (mkK_nat (cimpl_WaitsOf n)) (l := []) trivial
theorem inimpl_WaitsOf_l5 (n : Nat) (R : Type) : LoopsOk Try.prog (mkL (mkK [(17, Kimpl_GoodPolicy @impl_GoodPolicy n), (62, Kimpl_Policy_wait @impl_Policy_wait n)]) [] R) (loopIn 5 (bodyOf Try.f33)) := .eq (l := []) (by kernel_rfl) trivial
theorem lkimpl_WaitsOf_l5 (n : Nat) (R : Type) (L0 : LK R) (h0 : ∀ id, firstRegion (loopIn 5 (bodyOf Try.f33)) = some id → L0 id = Dimpl_WaitsOf_l5.oracle (mkK [(17, Kimpl_GoodPolicy @impl_GoodPolicy n), (62, Kimpl_Policy_wait @impl_Policy_wait n)] R) (Pimpl_WaitsOf_l5 @impl_WaitsOf_l5 n R)) : LoopOk Try.prog L0 (loopIn 5 (bodyOf Try.f33)) :=
  leimpl_WaitsOf_l5.ok mixed ttok (fun n => mkK_nat (cimpl_WaitsOf n)) (fun n => mkK_ok (cimpl_WaitsOf n)) (fun n => inimpl_WaitsOf_l5 n R) (mkK_nat (cimpl_WaitsOf n)) h0
@[reducible] def Simpl_WaitsOf : PkS := ⟨[.agg [.int .i64, .int .i64, .int .i64, .int .i64]], []⟩
@[reducible] def Timpl_WaitsOf : PkS := ⟨[.tup [(false, [.whole (300000, 0)]), (false, [.int .i64]), (false, [.bool])], .one (.dead)], [((300000, 0), .arr (.int .i64))]⟩
def Himpl_WaitsOf : List Sh := [.tup [(false, [(.own (.int .i64))]), (false, [.any]), (false, [.any])], .skip]
def Kimpl_WaitsOf (g : ∀ {R : Type}, Nat → Int → Int → Int → Int → (Int → Bool → (List Int) → Option R) → Option R) (n : Nat) : KPs := fun R p k => match (PkS.un Simpl_WaitsOf p : Option (Int × Int × Int × Int × Unit)) with
  | some (x0, x1, x2, x3, _) => g n x0 x1 x2 x3 (fun r0 r1 r2 => k (PkS.pack Timpl_WaitsOf (r0, r1, r2, ())))
  | none => none
theorem eimpl_WaitsOf (impl_GoodPolicy : ∀ {R : Type}, Nat → Int → Int → Int → Int → (Bool → Option R) → Option R) (impl_Policy_wait : ∀ {R : Type}, Nat → Int → Int → Int → Int → Int → (Int → Int → Int → Int → Int → Option R) → Option R) (impl_WaitsOf_l5 : ∀ {R : Type}, Nat → Int → Int → Int → Int → Int → Int → (List Int) → (Int → (List Int) → Option R) → Option R) {R : Type} (n : Nat) (x0 : Int) (x1 : Int) (x2 : Int) (x3 : Int) (k : Pk → Option R) : evF tt sig (mkK [(17, Kimpl_GoodPolicy @impl_GoodPolicy n), (62, Kimpl_Policy_wait @impl_Policy_wait n)] R) (mkL (mkK [(17, Kimpl_GoodPolicy @impl_GoodPolicy n), (62, Kimpl_Policy_wait @impl_Policy_wait n)]) [(5, Dimpl_WaitsOf_l5, Pimpl_WaitsOf_l5 @impl_WaitsOf_l5 n)] R) Try.f33 Himpl_WaitsOf (PkS.pack Simpl_WaitsOf (x0, x1, x2, x3, ())) k = (fun (k : Int → Bool → (List Int) → Option R) => (impl_GoodPolicy n x0 x1 x2 x3 fun r1 => (bif (!r1) then k 0 false ([] : List Int) else (impl_WaitsOf_l5 n 0 1 x0 x1 x2 x3 ([] : List Int) (fun r12 r13 => k r12 true r13))))) (fun r0 r1 r2 => k (PkS.pack Timpl_WaitsOf (r0, r1, r2, ()))) := by kernel_rfl
theorem okimpl_WaitsOf (n : Nat) : FnOk Try.prog 33 (Kimpl_WaitsOf @impl_WaitsOf n) := by
  refine fn_ok (sig := sig) mixed ttok (mkK_nat (cimpl_WaitsOf n)) (mkK_ok (cimpl_WaitsOf n)) (mkL_nat (mkK_nat (cimpl_WaitsOf n)) (l := [(5, Dimpl_WaitsOf_l5, Pimpl_WaitsOf_l5 @impl_WaitsOf_l5 n)]) ⟨nlimpl_WaitsOf_l5 n, trivial⟩) (fn := Try.f33) (c := bodyOf Try.f33) (by kernel_rfl) (by kernel_rfl) (by kernel_rfl) (.eq (l := [loopIn 5 (bodyOf Try.f33)]) (by kernel_rfl) ⟨(lkimpl_WaitsOf_l5 n _ _ (at_id (i := 5) (by kernel_rfl) rfl)), trivial⟩) (shs := Himpl_WaitsOf) (S := Simpl_WaitsOf) fun R p k => ?_
  unfold Kimpl_WaitsOf
  cases h : (PkS.un Simpl_WaitsOf p) with
  | none => rfl
  | some d =>
    obtain ⟨x0, x1, x2, x3, u⟩ := (d : Int × Int × Int × Int × Unit)
    have hp := PkS.un_pack h
    subst hp
    exact (eimpl_WaitsOf @impl_GoodPolicy @impl_Policy_wait @impl_WaitsOf_l5 n x0 x1 x2 x3 k).symm

/-! ### loop.example/g00269/spec.l1In -/
theorem cspec_l1In (n : Nat) : AllOk Try.prog [] := trivial
@[reducible] def Sspec_l1In : PkS := ⟨[.one (.int .i64), .one (.int .i64), .one (.int .i64)], []⟩
@[reducible] def Tspec_l1In : PkS := ⟨[.one (.bool), .one (.dead), .one (.dead), .one (.dead)], []⟩
def Hspec_l1In : List Sh := [.one .any, .skip, .skip, .skip]
def Kspec_l1In (g : ∀ {R : Type}, Nat → Int → Int → Int → (Bool → Option R) → Option R) (n : Nat) : KPs := fun R p k => match (PkS.un Sspec_l1In p : Option (Int × Int × Int × Unit)) with
  | some (x0, x1, x2, _) => g n x0 x1 x2 (fun r0 => k (PkS.pack Tspec_l1In (r0, ())))
  | none => none
theorem espec_l1In  {R : Type} (n : Nat) (x0 : Int) (x1 : Int) (x2 : Int) (k : Pk → Option R) : evF tt sig (mkK [] R) (mkL (mkK []) [] R) Try.f53 Hspec_l1In (PkS.pack Sspec_l1In (x0, x1, x2, ())) k = (fun (k : Bool → Option R) => (bif (decide (x0 ≥ x1)) then k (decide (x0 ≤ x2)) else k false)) (fun r0 => k (PkS.pack Tspec_l1In (r0, ()))) := by kernel_rfl
theorem okspec_l1In (n : Nat) : FnOk Try.prog 53 (Kspec_l1In @spec_l1In n) := by
  refine fn_ok (sig := sig) mixed ttok (mkK_nat (cspec_l1In n)) (mkK_ok (cspec_l1In n)) (mkL_nat (mkK_nat (cspec_l1In n)) (l := []) trivial) (fn := Try.f53) (c := bodyOf Try.f53) (by kernel_rfl) (by kernel_rfl) (by kernel_rfl) (.eq (l := []) (by kernel_rfl) trivial) (shs := Hspec_l1In) (S := Sspec_l1In) fun R p k => ?_
  unfold Kspec_l1In
  cases h : (PkS.un Sspec_l1In p) with
  | none => rfl
  | some d =>
    obtain ⟨x0, x1, x2, u⟩ := (d : Int × Int × Int × Unit)
    have hp := PkS.un_pack h
    subst hp
    exact (espec_l1In  n x0 x1 x2 k).symm

/-! ### loop.example/g00269/spec.GoodPolicy -/
theorem cspec_GoodPolicy (n : Nat) : AllOk Try.prog [(53, Kspec_l1In @spec_l1In n)] := ⟨okspec_l1In n, trivial⟩
@[reducible] def Sspec_GoodPolicy : PkS := ⟨[.agg [.int .i64, .int .i64, .int .i64, .int .i64]], []⟩
@[reducible] def Tspec_GoodPolicy : PkS := ⟨[.one (.bool), .one (.dead)], []⟩
def Hspec_GoodPolicy : List Sh := [.one .any, .skip]
def Kspec_GoodPolicy (g : ∀ {R : Type}, Nat → Int → Int → Int → Int → (Bool → Option R) → Option R) (n : Nat) : KPs := fun R p k => match (PkS.un Sspec_GoodPolicy p : Option (Int × Int × Int × Int × Unit)) with
  | some (x0, x1, x2, x3, _) => g n x0 x1 x2 x3 (fun r0 => k (PkS.pack Tspec_GoodPolicy (r0, ())))
  | none => none
theorem espec_GoodPolicy (spec_l1In : ∀ {R : Type}, Nat → Int → Int → Int → (Bool → Option R) → Option R) {R : Type} (n : Nat) (x0 : Int) (x1 : Int) (x2 : Int) (x3 : Int) (k : Pk → Option R) : evF tt sig (mkK [(53, Kspec_l1In @spec_l1In n)] R) (mkL (mkK [(53, Kspec_l1In @spec_l1In n)]) [] R) Try.f15 Hspec_GoodPolicy (PkS.pack Sspec_GoodPolicy (x0, x1, x2, x3, ())) k = (fun (k : Bool → Option R) => (spec_l1In n x0 1 1000 fun r1 => (bif r1 then (spec_l1In n x1 1 10 fun r2 => (bif r2 then (spec_l1In n x2 x0 1000000 fun r3 => (bif r3 then (spec_l1In n x3 1 40 fun r4 => k r4) else k false)) else k false)) else k false))) (fun r0 => k (PkS.pack Tspec_GoodPolicy (r0, ()))) := by kernel_rfl
theorem okspec_GoodPolicy (n : Nat) : FnOk Try.prog 15 (Kspec_GoodPolicy @spec_GoodPolicy n) := by
  refine fn_ok (sig := sig) mixed ttok (mkK_nat (cspec_GoodPolicy n)) (mkK_ok (cspec_GoodPolicy n)) (mkL_nat (mkK_nat (cspec_GoodPolicy n)) (l := []) trivial) (fn := Try.f15) (c := bodyOf Try.f15) (by kernel_rfl) (by kernel_rfl) (by kernel_rfl) (.eq (l := []) (by kernel_rfl) trivial) (shs := Hspec_GoodPolicy) (S := Sspec_GoodPolicy) fun R p k => ?_
  unfold Kspec_GoodPolicy
  cases h : (PkS.un Sspec_GoodPolicy p) with
  | none => rfl
  | some d =>
    obtain ⟨x0, x1, x2, x3, u⟩ := (d : Int × Int × Int × Int × Unit)
    have hp := PkS.un_pack h
    subst hp
    exact (espec_GoodPolicy @spec_l1In n x0 x1 x2 x3 k).symm

/-! ### loop.example/g00269/spec.l10Wait -/
theorem cspec_l10Wait (n : Nat) : AllOk Try.prog [] := trivial
@[reducible] def Sspec_l10Wait_l2 : PkS := ⟨[.one (.int .i64), .one (.box (100000, 0) 0), .one (.int .i64), .one (.dead), .one (.dead)], [((100000, 0), .box [.int .i64, .int .i64, .int .i64, .int .i64])]⟩
@[reducible] def Tspec_l10Wait_l2_0 : PkS := ⟨[.one (.int .i64), .one (.dead), .one (.dead)], []⟩
@[reducible] def Tspec_l10Wait_l2_1 : PkS := ⟨[.one (.int .i64), .one (.dead), .one (.dead)], []⟩
def Dspec_l10Wait_l2 : LoopD := ⟨23, [1, 2, 5], [.one .any, .box [.any, .any, .any, .any], .one .any, .skip, .skip], fun x => match x with
  | .ret => some ([4], [.one .any, .skip, .skip])
  | .exit 0 => some ([5], [.one .any, .skip, .skip])
  | _ => none⟩
def Pspec_l10Wait_l2 (g : ∀ {R : Type}, Nat → Int → Int → Int → Int → Int → Int → (Int → Option R) → (Int → Option R) → Option R) (n : Nat) : LPs := fun R q kk => match (PkS.un Sspec_l10Wait_l2 q : Option (Int × Int × Int × Int × Int × Int × Unit)) with
  | some (y2_0, y2_1, y2_2, y2_3, y2_4, y2_5, _) => g n y2_0 y2_1 y2_2 y2_3 y2_4 y2_5 (fun r0 => kk .ret (PkS.pack Tspec_l10Wait_l2_0 (r0, ()))) (fun r0 => kk (.exit 0) (PkS.pack Tspec_l10Wait_l2_1 (r0, ())))
  | none => none
theorem espec_l10Wait_l2 (spec_l10Wait_l2 : ∀ {R : Type}, Nat → Int → Int → Int → Int → Int → Int → (Int → Option R) → (Int → Option R) → Option R) {R : Type} (n : Nat) (y2_0 : Int) (y2_1 : Int) (y2_2 : Int) (y2_3 : Int) (y2_4 : Int) (y2_5 : Int) (kk : Ex → Pk → Option R) : Dspec_l10Wait_l2.step tt sig (mkK [] R) (mkL (mkK []) [] R) (loopIn 2 (bodyOf Try.f61)) (fun q' => Pspec_l10Wait_l2 @spec_l10Wait_l2 n R q' kk) (PkS.pack Sspec_l10Wait_l2 (y2_0, y2_1, y2_2, y2_3, y2_4, y2_5, ())) kk = (fun (kret : Int → Option R) (kexit0 : Int → Option R) => (bif (decide (y2_0 > 1)) then (bif (decide ((IntKind.wrap .i64 (y2_1 * y2_3)) > y2_4)) then kret y2_4 else spec_l10Wait_l2 n (IntKind.wrap .i64 (y2_0 - 1)) (IntKind.wrap .i64 (y2_1 * y2_3)) y2_2 y2_3 y2_4 y2_5 kret kexit0) else kexit0 y2_1)) (fun r0 => kk .ret (PkS.pack Tspec_l10Wait_l2_0 (r0, ()))) (fun r0 => kk (.exit 0) (PkS.pack Tspec_l10Wait_l2_1 (r0, ()))) := by kernel_rfl
theorem lespec_l10Wait_l2 : LoopEq tt sig (fun n => mkK []) (fun n => mkL (mkK []) []) Dspec_l10Wait_l2 Sspec_l10Wait_l2 (loopIn 2 (bodyOf Try.f61)) (Pspec_l10Wait_l2 @spec_l10Wait_l2) where
  zero R q kk := by unfold Pspec_l10Wait_l2; cases (PkS.un Sspec_l10Wait_l2 q) <;> rfl
  succ n R q kk := by
    unfold Pspec_l10Wait_l2
    cases h : (PkS.un Sspec_l10Wait_l2 q) with
    | none => rfl
    | some d =>
      obtain ⟨y2_0, y2_1, y2_2, y2_3, y2_4, y2_5, u⟩ := (d : Int × Int × Int × Int × Int × Int × Unit)
      have hp := PkS.un_pack h
      subst hp
      exact (espec_l10Wait_l2 @spec_l10Wait_l2 n y2_0 y2_1 y2_2 y2_3 y2_4 y2_5 kk).symm
theorem nlspec_l10Wait_l2 : ∀ n, NatLP (Pspec_l10Wait_l2 @spec_l10Wait_l2 n) := lespec_l10Wait_l2.nat (fun n => mkK_nat (cspec_l10Wait n)) fun n => mkL_nat (mkK_nat (cspec_l10Wait n)) (l := []) trivial
theorem inspec_l10Wait_l2 (n : Nat) (R : Type) : LoopsOk Try.prog (mkL (mkK []) [] R) (loopIn 2 (bodyOf Try.f61)) := .eq (l := []) (by kernel_rfl) trivial
theorem lkspec_l10Wait_l2 (n : Nat) (R : Type) (L0 : LK R) (h0 : ∀ id, firstRegion (loopIn 2 (bodyOf Try.f61)) = some id → L0 id = Dspec_l10Wait_l2.oracle (mkK [] R) (Pspec_l10Wait_l2 @spec_l10Wait_l2 n R)) : LoopOk Try.prog L0 (loopIn 2 (bodyOf Try.f61)) :=
  lespec_l10Wait_l2.ok mixed ttok (fun n => mkK_nat (cspec_l10Wait n)) (fun n => mkK_ok (cspec_l10Wait n)) (fun n => inspec_l10Wait_l2 n R) (mkK_nat (cspec_l10Wait n)) h0
@[reducible] def Sspec_l10Wait : PkS := ⟨[.agg [.int .i64, .int .i64, .int .i64, .int .i64], .one (.int .i64)], []⟩
@[reducible] def Tspec_l10Wait : PkS := ⟨[.one (.int .i64), .one (.dead), .one (.dead)], []⟩
def Hspec_l10Wait : List Sh := [.one .any, .skip, .skip]
def Kspec_l10Wait (g : ∀ {R : Type}, Nat → Int → Int → Int → Int → Int → (Int → Option R) → Option R) (n : Nat) : KPs := fun R p k => match (PkS.un Sspec_l10Wait p : Option (Int × Int × Int × Int × Int × Unit)) with
  | some (x0, x1, x2, x3, x4, _) => g n x0 x1 x2 x3 x4 (fun r0 => k (PkS.pack Tspec_l10Wait (r0, ())))
  | none => none
theorem espec_l10Wait (spec_l10Wait_l2 : ∀ {R : Type}, Nat → Int → Int → Int → Int → Int → Int → (Int → Option R) → (Int → Option R) → Option R) {R : Type} (n : Nat) (x0 : Int) (x1 : Int) (x2 : Int) (x3 : Int) (x4 : Int) (k : Pk → Option R) : evF tt sig (mkK [] R) (mkL (mkK []) [(2, Dspec_l10Wait_l2, Pspec_l10Wait_l2 @spec_l10Wait_l2 n)] R) Try.f61 Hspec_l10Wait (PkS.pack Sspec_l10Wait (x0, x1, x2, x3, x4, ())) k = (fun (k : Int → Option R) => (spec_l10Wait_l2 n x4 x0 x0 x1 x2 x3 (fun r1 => k r1) (fun r2 => k r2))) (fun r0 => k (PkS.pack Tspec_l10Wait (r0, ()))) := by kernel_rfl
theorem okspec_l10Wait (n : Nat) : FnOk Try.prog 61 (Kspec_l10Wait @spec_l10Wait n) := by
  refine fn_ok (sig := sig) mixed ttok (mkK_nat (cspec_l10Wait n)) (mkK_ok (cspec_l10Wait n)) (mkL_nat (mkK_nat (cspec_l10Wait n)) (l := [(2, Dspec_l10Wait_l2, Pspec_l10Wait_l2 @spec_l10Wait_l2 n)]) ⟨nlspec_l10Wait_l2 n, trivial⟩) (fn := Try.f61) (c := bodyOf Try.f61) (by kernel_rfl) (by kernel_rfl) (by kernel_rfl) (.eq (l := [loopIn 2 (bodyOf Try.f61)]) (by kernel_rfl) ⟨(lkspec_l10Wait_l2 n _ _ (at_id (i := 2) (by kernel_rfl) rfl)), trivial⟩) (shs := Hspec_l10Wait) (S := Sspec_l10Wait) fun R p k => ?_
  unfold Kspec_l10Wait
  cases h : (PkS.un Sspec_l10Wait p) with
  | none => rfl
  | some d =>
    obtain ⟨x0, x1, x2, x3, x4, u⟩ := (d : Int × Int × Int × Int × Int × Unit)
    have hp := PkS.un_pack h
    subst hp
    exact (espec_l10Wait @spec_l10Wait_l2 n x0 x1 x2 x3 x4 k).symm

/-! ### loop.example/g00269/spec.WaitsOf -/
theorem cspec_WaitsOf (n : Nat) : AllOk Try.prog [(15, Kspec_GoodPolicy @spec_GoodPolicy n), (61, Kspec_l10Wait @spec_l10Wait n)] := ⟨okspec_GoodPolicy n, ⟨okspec_l10Wait n, trivial⟩⟩
@[reducible] def Sspec_WaitsOf_l6 : PkS := ⟨[.one (.box (100000, 0) 0), .one (.whole (100000, 1)), .one (.int .i64), .one (.int .i64), .one (.dead)], [((100000, 0), .box [.int .i64, .int .i64, .int .i64, .int .i64]), ((100000, 1), .arr (.int .i64))]⟩
@[reducible] def Tspec_WaitsOf_l6_0 : PkS := ⟨[.one (.whole (100000, 0)), .one (.int .i64), .one (.dead)], [((100000, 0), .arr (.int .i64))]⟩
def Dspec_WaitsOf_l6 : LoopD := ⟨30, [1, 5, 6, 7], [.box [.any, .any, .any, .any], .one (.own (.int .i64)), .one .any, .one .any, .skip], fun x => match x with
  | .exit 0 => some ([5, 6], [.one (.own (.int .i64)), .one .any, .skip])
  | _ => none⟩
def Pspec_WaitsOf_l6 (g : ∀ {R : Type}, Nat → Int → Int → Int → Int → Int → Int → (List Int) → (Int → (List Int) → Option R) → Option R) (n : Nat) : LPs := fun R q kk => match (PkS.un Sspec_WaitsOf_l6 q : Option (Int × Int × Int × Int × Int × Int × (List Int) × Unit)) with
  | some (y6_0, y6_1, y6_2, y6_3, y6_4, y6_5, y6_6, _) => g n y6_0 y6_1 y6_2 y6_3 y6_4 y6_5 y6_6 (fun r0 r1 => kk (.exit 0) (PkS.pack Tspec_WaitsOf_l6_0 (r0, r1, ())))
  | none => none
theorem espec_WaitsOf_l6 (spec_GoodPolicy : ∀ {R : Type}, Nat → Int → Int → Int → Int → (Bool → Option R) → Option R) (spec_l10Wait : ∀ {R : Type}, Nat → Int → Int → Int → Int → Int → (Int → Option R) → Option R) (spec_WaitsOf_l6 : ∀ {R : Type}, Nat → Int → Int → Int → Int → Int → Int → (List Int) → (Int → (List Int) → Option R) → Option R) {R : Type} (n : Nat) (y6_0 : Int) (y6_1 : Int) (y6_2 : Int) (y6_3 : Int) (y6_4 : Int) (y6_5 : Int) (y6_6 : List Int) (kk : Ex → Pk → Option R) : Dspec_WaitsOf_l6.step tt sig (mkK [(15, Kspec_GoodPolicy @spec_GoodPolicy n), (61, Kspec_l10Wait @spec_l10Wait n)] R) (mkL (mkK [(15, Kspec_GoodPolicy @spec_GoodPolicy n), (61, Kspec_l10Wait @spec_l10Wait n)]) [] R) (loopIn 6 (bodyOf Try.f32)) (fun q' => Pspec_WaitsOf_l6 @spec_WaitsOf_l6 n R q' kk) (PkS.pack Sspec_WaitsOf_l6 (y6_0, y6_1, y6_2, y6_3, y6_4, y6_5, y6_6, ())) kk = (fun (kexit0 : Int → (List Int) → Option R) => (bif (decide (y6_1 < y6_5)) then (spec_l10Wait n y6_2 y6_3 y6_4 y6_5 y6_1 fun r2 => (bif decide (y6_6.length + [r2].length ≤ LIM) then (spec_l10Wait n y6_2 y6_3 y6_4 y6_5 y6_1 fun r3 => spec_WaitsOf_l6 n (IntKind.wrap .i64 (y6_0 + r3)) (IntKind.wrap .i64 (y6_1 + 1)) y6_2 y6_3 y6_4 y6_5 (y6_6 ++ [r2]) kexit0) else none)) else kexit0 y6_0 y6_6)) (fun r0 r1 => kk (.exit 0) (PkS.pack Tspec_WaitsOf_l6_0 (r0, r1, ()))) := by kernel_rfl
theorem lespec_WaitsOf_l6 : LoopEq tt sig (fun n => mkK [(15, Kspec_GoodPolicy @spec_GoodPolicy n), (61, Kspec_l10Wait @spec_l10Wait n)]) (fun n => mkL (mkK [(15, Kspec_GoodPolicy @spec_GoodPolicy n), (61, Kspec_l10Wait @spec_l10Wait n)]) []) Dspec_WaitsOf_l6 Sspec_WaitsOf_l6 (loopIn 6 (bodyOf Try.f32)) (Pspec_WaitsOf_l6 @spec_WaitsOf_l6) where
  zero R q kk := by unfold Pspec_WaitsOf_l6; cases (PkS.un Sspec_WaitsOf_l6 q) <;> rfl
  succ n R q kk := by
    unfold Pspec_WaitsOf_l6
    cases h : (PkS.un Sspec_WaitsOf_l6 q) with
    | none => rfl
    | some d =>
      obtain ⟨y6_0, y6_1, y6_2, y6_3, y6_4, y6_5, y6_6, u⟩ := (d : Int × Int × Int × Int × Int × Int × (List Int) × Unit)
      have hp := PkS.un_pack h
      subst hp
      exact (espec_WaitsOf_l6 @spec_GoodPolicy @spec_l10Wait @spec_WaitsOf_l6 n y6_0 y6_1 y6_2 y6_3 y6_4 y6_5 y6_6 kk).symm
theorem nlspec_WaitsOf_l6 : ∀ n, NatLP (Pspec_WaitsOf_l6 @spec_WaitsOf_l6 n) := lespec_WaitsOf_l6.nat (fun n => mkK_nat (cspec_WaitsOf n)) fun n => mkL_nat (mkK_nat (cspec_WaitsOf n)) (l := []) trivial
theorem inspec_WaitsOf_l6 (n : Nat) (R : Type) : LoopsOk Try.prog (mkL (mkK [(15, Kspec_GoodPolicy @spec_GoodPolicy n), (61, Kspec_l10Wait @spec_l10Wait n)]) [] R) (loopIn 6 (bodyOf Try.f32)) := .eq (l := []) (by kernel_rfl) trivial
theorem lkspec_WaitsOf_l6 (n : Nat) (R : Type) (L0 : LK R) (h0 : ∀ id, firstRegion (loopIn 6 (bodyOf Try.f32)) = some id → L0 id = Dspec_WaitsOf_l6.oracle (mkK [(15, Kspec_GoodPolicy @spec_GoodPolicy n), (61, Kspec_l10Wait @spec_l10Wait n)] R) (Pspec_WaitsOf_l6 @spec_WaitsOf_l6 n R)) : LoopOk Try.prog L0 (loopIn 6 (bodyOf Try.f32)) :=
  lespec_WaitsOf_l6.ok mixed ttok (fun n => mkK_nat (cspec_WaitsOf n)) (fun n => mkK_ok (cspec_WaitsOf n)) (fun n => inspec_WaitsOf_l6 n R) (mkK_nat (cspec_WaitsOf n)) h0
@[reducible] def Sspec_WaitsOf : PkS := ⟨[.agg [.int .i64, .int .i64, .int .i64, .int .i64]], []⟩
@[reducible] def Tspec_WaitsOf : PkS := ⟨[.tup [(false, [.whole (300000, 0)]), (false, [.int .i64]), (false, [.bool])], .one (.dead)], [((300000, 0), .arr (.int .i64))]⟩
def Hspec_WaitsOf : List Sh := [.tup [(false, [(.own (.int .i64))]), (false, [.any]), (false, [.any])], .skip]
def Kspec_WaitsOf (g : ∀ {R : Type}, Nat → Int → Int → Int → Int → (Int → Bool → (List Int) → Option R) → Option R) (n : Nat) : KPs := fun R p k => match (PkS.un Sspec_WaitsOf p : Option (Int × Int × Int × Int × Unit)) with
  | some (x0, x1, x2, x3, _) => g n x0 x1 x2 x3 (fun r0 r1 r2 => k (PkS.pack Tspec_WaitsOf (r0, r1, r2, ())))
  | none => none
theorem espec_WaitsOf (spec_GoodPolicy : ∀ {R : Type}, Nat → Int → Int → Int → Int → (Bool → Option R) → Option R) (spec_l10Wait : ∀ {R : Type}, Nat → Int → Int → Int → Int → Int → (Int → Option R) → Option R) (spec_WaitsOf_l6 : ∀ {R : Type}, Nat → Int → Int → Int → Int → Int → Int → (List Int) → (Int → (List Int) → Option R) → Option R) {R : Type} (n : Nat) (x0 : Int) (x1 : Int) (x2 : Int) (x3 : Int) (k : Pk → Option R) : evF tt sig (mkK [(15, Kspec_GoodPolicy @spec_GoodPolicy n), (61, Kspec_l10Wait @spec_l10Wait n)] R) (mkL (mkK [(15, Kspec_GoodPolicy @spec_GoodPolicy n), (61, Kspec_l10Wait @spec_l10Wait n)]) [(6, Dspec_WaitsOf_l6, Pspec_WaitsOf_l6 @spec_WaitsOf_l6 n)] R) Try.f32 Hspec_WaitsOf (PkS.pack Sspec_WaitsOf (x0, x1, x2, x3, ())) k = (fun (k : Int → Bool → (List Int) → Option R) => (spec_GoodPolicy n x0 x1 x2 x3 fun r1 => (bif (!r1) then k 0 false ([] : List Int) else (spec_WaitsOf_l6 n 0 1 x0 x1 x2 x3 ([] : List Int) (fun r4 r5 => k r4 true r5))))) (fun r0 r1 r2 => k (PkS.pack Tspec_WaitsOf (r0, r1, r2, ()))) := by kernel_rfl
theorem okspec_WaitsOf (n : Nat) : FnOk Try.prog 32 (Kspec_WaitsOf @spec_WaitsOf n) := by
  refine fn_ok (sig := sig) mixed ttok (mkK_nat (cspec_WaitsOf n)) (mkK_ok (cspec_WaitsOf n)) (mkL_nat (mkK_nat (cspec_WaitsOf n)) (l := [(6, Dspec_WaitsOf_l6, Pspec_WaitsOf_l6 @spec_WaitsOf_l6 n)]) ⟨nlspec_WaitsOf_l6 n, trivial⟩) (fn := Try.f32) (c := bodyOf Try.f32) (by kernel_rfl) (by kernel_rfl) (by kernel_rfl) (.eq (l := [loopIn 6 (bodyOf Try.f32)]) (by kernel_rfl) ⟨(lkspec_WaitsOf_l6 n _ _ (at_id (i := 6) (by kernel_rfl) rfl)), trivial⟩) (shs := Hspec_WaitsOf) (S := Sspec_WaitsOf) fun R p k => ?_
  unfold Kspec_WaitsOf
  cases h : (PkS.un Sspec_WaitsOf p) with
  | none => rfl
  | some d =>
    obtain ⟨x0, x1, x2, x3, u⟩ := (d : Int × Int × Int × Int × Unit)
    have hp := PkS.un_pack h
    subst hp
    exact (espec_WaitsOf @spec_GoodPolicy @spec_l10Wait @spec_WaitsOf_l6 n x0 x1 x2 x3 k).symm

/-! ### loop.example/g00269/laws.sameInts -/
theorem claws_sameInts (n : Nat) : AllOk Try.prog [] := trivial
@[reducible] def Slaws_sameInts_l4 : PkS := ⟨[.one (.ro (.int .i64)), .one (.ro (.int .i64)), .one (.int .i64), .one (.int .i64), .one (.dead), .one (.dead)], []⟩
@[reducible] def Tlaws_sameInts_l4_0 : PkS := ⟨[.one (.bool), .one (.dead), .one (.dead)], []⟩
@[reducible] def Tlaws_sameInts_l4_1 : PkS := ⟨[.one (.dead), .one (.dead)], []⟩
def Dlaws_sameInts_l4 : LoopD := ⟨26, [0, 1, 12, 13], [.one (.ro (.int .i64)), .one (.ro (.int .i64)), .one .any, .one .any, .skip, .skip], fun x => match x with
  | .ret => some ([4], [.one .any, .skip, .skip])
  | .exit 0 => some ([], [.skip, .skip])
  | _ => none⟩
def Plaws_sameInts_l4 (g : ∀ {R : Type}, Nat → (List Int) → (List Int) → Int → Int → (Bool → Option R) → (Option R) → Option R) (n : Nat) : LPs := fun R q kk => match (PkS.un Slaws_sameInts_l4 q : Option ((List Int) × (List Int) × Int × Int × Unit)) with
  | some (y4_0, y4_1, y4_2, y4_3, _) => g n y4_0 y4_1 y4_2 y4_3 (fun r0 => kk .ret (PkS.pack Tlaws_sameInts_l4_0 (r0, ()))) (kk (.exit 0) (PkS.pack Tlaws_sameInts_l4_1 ()))
  | none => none
theorem elaws_sameInts_l4 (laws_sameInts_l4 : ∀ {R : Type}, Nat → (List Int) → (List Int) → Int → Int → (Bool → Option R) → (Option R) → Option R) {R : Type} (n : Nat) (y4_0 : List Int) (y4_1 : List Int) (y4_2 : Int) (y4_3 : Int) (kk : Ex → Pk → Option R) : Dlaws_sameInts_l4.step tt sig (mkK [] R) (mkL (mkK []) [] R) (loopIn 4 (bodyOf Try.f38)) (fun q' => Plaws_sameInts_l4 @laws_sameInts_l4 n R q' kk) (PkS.pack Slaws_sameInts_l4 (y4_0, y4_1, y4_2, y4_3, ())) kk = (fun (kret : Bool → Option R) (kexit0 : Option R) => (bif (decide (y4_3 < y4_2)) then (bif decide (0 ≤ y4_3) then (bif decide (y4_3 < (y4_0.length : Int)) then (bif decide (0 ≤ y4_3) then (bif decide (y4_3 < (y4_1.length : Int)) then (bif ((y4_0.getD (Int.toNat y4_3) 0) != (y4_1.getD (Int.toNat y4_3) 0)) then kret false else laws_sameInts_l4 n y4_0 y4_1 y4_2 (IntKind.wrap .i64 (y4_3 + 1)) kret kexit0) else none) else none) else none) else none) else kexit0)) (fun r0 => kk .ret (PkS.pack Tlaws_sameInts_l4_0 (r0, ()))) (kk (.exit 0) (PkS.pack Tlaws_sameInts_l4_1 ())) := by kernel_rfl
theorem lelaws_sameInts_l4 : LoopEq tt sig (fun n => mkK []) (fun n => mkL (mkK []) []) Dlaws_sameInts_l4 Slaws_sameInts_l4 (loopIn 4 (bodyOf Try.f38)) (Plaws_sameInts_l4 @laws_sameInts_l4) where
  zero R q kk := by unfold Plaws_sameInts_l4; cases (PkS.un Slaws_sameInts_l4 q) <;> rfl
  succ n R q kk := by
    unfold Plaws_sameInts_l4
    cases h : (PkS.un Slaws_sameInts_l4 q) with
    | none => rfl
    | some d =>
      obtain ⟨y4_0, y4_1, y4_2, y4_3, u⟩ := (d : (List Int) × (List Int) × Int × Int × Unit)
      have hp := PkS.un_pack h
      subst hp
      exact (elaws_sameInts_l4 @laws_sameInts_l4 n y4_0 y4_1 y4_2 y4_3 kk).symm
theorem nllaws_sameInts_l4 : ∀ n, NatLP (Plaws_sameInts_l4 @laws_sameInts_l4 n) := lelaws_sameInts_l4.nat (fun n => mkK_nat (claws_sameInts n)) fun n => mkL_nat (mkK_nat (claws_sameInts n)) (l := []) trivial
theorem inlaws_sameInts_l4 (n : Nat) (R : Type) : LoopsOk Try.prog (mkL (mkK []) [] R) (loopIn 4 (bodyOf Try.f38)) := .eq (l := []) (by kernel_rfl) trivial
theorem lklaws_sameInts_l4 (n : Nat) (R : Type) (L0 : LK R) (h0 : ∀ id, firstRegion (loopIn 4 (bodyOf Try.f38)) = some id → L0 id = Dlaws_sameInts_l4.oracle (mkK [] R) (Plaws_sameInts_l4 @laws_sameInts_l4 n R)) : LoopOk Try.prog L0 (loopIn 4 (bodyOf Try.f38)) :=
  lelaws_sameInts_l4.ok mixed ttok (fun n => mkK_nat (claws_sameInts n)) (fun n => mkK_ok (claws_sameInts n)) (fun n => inlaws_sameInts_l4 n R) (mkK_nat (claws_sameInts n)) h0
@[reducible] def Slaws_sameInts : PkS := ⟨[.one (.ro (.int .i64)), .one (.ro (.int .i64))], []⟩
@[reducible] def Tlaws_sameInts : PkS := ⟨[.one (.bool), .one (.dead), .one (.dead)], []⟩
def Hlaws_sameInts : List Sh := [.one .any, .skip, .skip]
def Klaws_sameInts (g : ∀ {R : Type}, Nat → (List Int) → (List Int) → (Bool → Option R) → Option R) (n : Nat) : KPs := fun R p k => match (PkS.un Slaws_sameInts p : Option ((List Int) × (List Int) × Unit)) with
  | some (x0, x1, _) => g n x0 x1 (fun r0 => k (PkS.pack Tlaws_sameInts (r0, ())))
  | none => none
theorem elaws_sameInts (laws_sameInts_l4 : ∀ {R : Type}, Nat → (List Int) → (List Int) → Int → Int → (Bool → Option R) → (Option R) → Option R) {R : Type} (n : Nat) (x0 : List Int) (x1 : List Int) (k : Pk → Option R) : evF tt sig (mkK [] R) (mkL (mkK []) [(4, Dlaws_sameInts_l4, Plaws_sameInts_l4 @laws_sameInts_l4 n)] R) Try.f38 Hlaws_sameInts (PkS.pack Slaws_sameInts (x0, x1, ())) k = (fun (k : Bool → Option R) => (bif ((x0.length : Int) != (x1.length : Int)) then k false else (laws_sameInts_l4 n x0 x1 (x0.length : Int) 0 (fun r1 => k r1) (k true)))) (fun r0 => k (PkS.pack Tlaws_sameInts (r0, ()))) := by kernel_rfl
theorem oklaws_sameInts (n : Nat) : FnOk Try.prog 38 (Klaws_sameInts @laws_sameInts n) := by
  refine fn_ok (sig := sig) mixed ttok (mkK_nat (claws_sameInts n)) (mkK_ok (claws_sameInts n)) (mkL_nat (mkK_nat (claws_sameInts n)) (l := [(4, Dlaws_sameInts_l4, Plaws_sameInts_l4 @laws_sameInts_l4 n)]) ⟨nllaws_sameInts_l4 n, trivial⟩) (fn := Try.f38) (c := bodyOf Try.f38) (by kernel_rfl) (by kernel_rfl) (by kernel_rfl) (.eq (l := [loopIn 4 (bodyOf Try.f38)]) (by kernel_rfl) ⟨(lklaws_sameInts_l4 n _ _ (at_id (i := 4) (by kernel_rfl) rfl)), trivial⟩) (shs := Hlaws_sameInts) (S := Slaws_sameInts) fun R p k => ?_
  unfold Klaws_sameInts
  cases h : (PkS.un Slaws_sameInts p) with
  | none => rfl
  | some d =>
    obtain ⟨x0, x1, u⟩ := (d : (List Int) × (List Int) × Unit)
    have hp := PkS.un_pack h
    subst hp
    exact (elaws_sameInts @laws_sameInts_l4 n x0 x1 k).symm

/-! ### loop.example/g00269/impl.WaitOf -/
theorem cimpl_WaitOf (n : Nat) : AllOk Try.prog [(17, Kimpl_GoodPolicy @impl_GoodPolicy n), (54, Kimpl_in @impl_in n), (62, Kimpl_Policy_wait @impl_Policy_wait n)] := ⟨okimpl_GoodPolicy n, ⟨okimpl_in n, ⟨okimpl_Policy_wait n, trivial⟩⟩⟩
@[reducible] def Simpl_WaitOf : PkS := ⟨[.agg [.int .i64, .int .i64, .int .i64, .int .i64], .one (.int .i64)], []⟩
@[reducible] def Timpl_WaitOf : PkS := ⟨[.tup [(false, [.int .i64]), (false, [.bool])], .one (.dead), .one (.dead)], []⟩
def Himpl_WaitOf : List Sh := [.tup [(false, [.any]), (false, [.any])], .skip, .skip]
def Kimpl_WaitOf (g : ∀ {R : Type}, Nat → Int → Int → Int → Int → Int → (Int → Bool → Option R) → Option R) (n : Nat) : KPs := fun R p k => match (PkS.un Simpl_WaitOf p : Option (Int × Int × Int × Int × Int × Unit)) with
  | some (x0, x1, x2, x3, x4, _) => g n x0 x1 x2 x3 x4 (fun r0 r1 => k (PkS.pack Timpl_WaitOf (r0, r1, ())))
  | none => none
theorem eimpl_WaitOf (impl_GoodPolicy : ∀ {R : Type}, Nat → Int → Int → Int → Int → (Bool → Option R) → Option R) (impl_in : ∀ {R : Type}, Nat → Int → Int → Int → (Bool → Option R) → Option R) (impl_Policy_wait : ∀ {R : Type}, Nat → Int → Int → Int → Int → Int → (Int → Int → Int → Int → Int → Option R) → Option R) {R : Type} (n : Nat) (x0 : Int) (x1 : Int) (x2 : Int) (x3 : Int) (x4 : Int) (k : Pk → Option R) : evF tt sig (mkK [(17, Kimpl_GoodPolicy @impl_GoodPolicy n), (54, Kimpl_in @impl_in n), (62, Kimpl_Policy_wait @impl_Policy_wait n)] R) (mkL (mkK [(17, Kimpl_GoodPolicy @impl_GoodPolicy n), (54, Kimpl_in @impl_in n), (62, Kimpl_Policy_wait @impl_Policy_wait n)]) [] R) Try.f31 Himpl_WaitOf (PkS.pack Simpl_WaitOf (x0, x1, x2, x3, x4, ())) k = (fun (k : Int → Bool → Option R) => (impl_GoodPolicy n x0 x1 x2 x3 fun r1 => (bif (!r1) then k 0 false else (impl_in n x4 1 x3 fun r2 => (bif (!r2) then k 0 false else (impl_Policy_wait n x4 x0 x1 x2 x3 fun r3 r4 r5 r6 r7 => k r3 true)))))) (fun r0 r1 => k (PkS.pack Timpl_WaitOf (r0, r1, ()))) := by kernel_rfl
theorem okimpl_WaitOf (n : Nat) : FnOk Try.prog 31 (Kimpl_WaitOf @impl_WaitOf n) := by
  refine fn_ok (sig := sig) mixed ttok (mkK_nat (cimpl_WaitOf n)) (mkK_ok (cimpl_WaitOf n)) (mkL_nat (mkK_nat (cimpl_WaitOf n)) (l := []) trivial) (fn := Try.f31) (c := bodyOf Try.f31) (by kernel_rfl) (by kernel_rfl) (by kernel_rfl) (.eq (l := []) (by kernel_rfl) trivial) (shs := Himpl_WaitOf) (S := Simpl_WaitOf) fun R p k => ?_
  unfold Kimpl_WaitOf
  cases h : (PkS.un Simpl_WaitOf p) with
  | none => rfl
  | some d =>
    obtain ⟨x0, x1, x2, x3, x4, u⟩ := (d : Int × Int × Int × Int × Int × Unit)
    have hp := PkS.un_pack h
    subst hp
    exact (eimpl_WaitOf @impl_GoodPolicy @impl_in @impl_Policy_wait n x0 x1 x2 x3 x4 k).symm

/-! ### loop.example/g00269/laws.FnWaits -/
theorem claws_FnWaits (n : Nat) : AllOk Try.prog [(37, Kspec_DrawWaitsOf @spec_DrawWaitsOf n), (33, Kimpl_WaitsOf @impl_WaitsOf n), (32, Kspec_WaitsOf @spec_WaitsOf n), (38, Klaws_sameInts @laws_sameInts n), (17, Kimpl_GoodPolicy @impl_GoodPolicy n), (31, Kimpl_WaitOf @impl_WaitOf n)] := ⟨okspec_DrawWaitsOf n, ⟨okimpl_WaitsOf n, ⟨okspec_WaitsOf n, ⟨oklaws_sameInts n, ⟨okimpl_GoodPolicy n, ⟨okimpl_WaitOf n, trivial⟩⟩⟩⟩⟩⟩
@[reducible] def Slaws_FnWaits_l12 : PkS := ⟨[.one (.box (100000, 0) 0), .one (.whole (100000, 1)), .one (.int .i64), .one (.int .i64), .one (.whole (100000, 1)), .one (.int .i64), .one (.int .i64), .one (.dead)], [((100000, 0), .box [.int .i64, .int .i64, .int .i64, .int .i64]), ((100000, 1), .arr (.int .i64))]⟩
@[reducible] def Tlaws_FnWaits_l12_0 : PkS := ⟨[.one (.bool), .one (.dead)], []⟩
@[reducible] def Tlaws_FnWaits_l12_1 : PkS := ⟨[.one (.box (100000, 0) 0), .one (.whole (100000, 1)), .one (.int .i64), .one (.int .i64), .one (.dead)], [((100000, 0), .box [.int .i64, .int .i64, .int .i64, .int .i64]), ((100000, 1), .arr (.int .i64))]⟩
def Dlaws_FnWaits_l12 : LoopD := ⟨147, [3, 4, 5, 10, 58, 59, 60], [.box [.any, .any, .any, .any], .one (.own (.int .i64)), .one .any, .one .any, .one (.own (.int .i64)), .one .any, .one .any, .skip], fun x => match x with
  | .ret => some ([2], [.one .any, .skip])
  | .exit 0 => some ([3, 4, 5, 10], [.box [.any, .any, .any, .any], .one (.own (.int .i64)), .one .any, .one .any, .skip])
  | _ => none⟩
def Plaws_FnWaits_l12 (g : ∀ {R : Type}, Nat → Int → Int → Int → Int → Int → Int → Int → Int → (List Int) → (Bool → Option R) → (Int → Int → Int → Int → Int → Int → (List Int) → Option R) → Option R) (n : Nat) : LPs := fun R q kk => match (PkS.un Slaws_FnWaits_l12 q : Option (Int × Int × Int × Int × Int × Int × Int × Int × (List Int) × Unit)) with
  | some (y12_0, y12_1, y12_2, y12_3, y12_4, y12_5, y12_6, y12_7, y12_8, _) => g n y12_0 y12_1 y12_2 y12_3 y12_4 y12_5 y12_6 y12_7 y12_8 (fun r0 => kk .ret (PkS.pack Tlaws_FnWaits_l12_0 (r0, ()))) (fun r0 r1 r2 r3 r4 r5 r6 => kk (.exit 0) (PkS.pack Tlaws_FnWaits_l12_1 (r0, r1, r2, r3, r4, r5, r6, ())))
  | none => none
theorem elaws_FnWaits_l12 (spec_DrawWaitsOf : ∀ {R : Type}, Nat → (List Int) → (Int → Int → Int → Int → Option R) → Option R) (impl_WaitsOf : ∀ {R : Type}, Nat → Int → Int → Int → Int → (Int → Bool → (List Int) → Option R) → Option R) (spec_WaitsOf : ∀ {R : Type}, Nat → Int → Int → Int → Int → (Int → Bool → (List Int) → Option R) → Option R) (laws_sameInts : ∀ {R : Type}, Nat → (List Int) → (List Int) → (Bool → Option R) → Option R) (impl_GoodPolicy : ∀ {R : Type}, Nat → Int → Int → Int → Int → (Bool → Option R) → Option R) (impl_WaitOf : ∀ {R : Type}, Nat → Int → Int → Int → Int → Int → (Int → Bool → Option R) → Option R) (laws_FnWaits_l12 : ∀ {R : Type}, Nat → Int → Int → Int → Int → Int → Int → Int → Int → (List Int) → (Bool → Option R) → (Int → Int → Int → Int → Int → Int → (List Int) → Option R) → Option R) {R : Type} (n : Nat) (y12_0 : Int) (y12_1 : Int) (y12_2 : Int) (y12_3 : Int) (y12_4 : Int) (y12_5 : Int) (y12_6 : Int) (y12_7 : Int) (y12_8 : List Int) (kk : Ex → Pk → Option R) : Dlaws_FnWaits_l12.step tt sig (mkK [(37, Kspec_DrawWaitsOf @spec_DrawWaitsOf n), (33, Kimpl_WaitsOf @impl_WaitsOf n), (32, Kspec_WaitsOf @spec_WaitsOf n), (38, Klaws_sameInts @laws_sameInts n), (17, Kimpl_GoodPolicy @impl_GoodPolicy n), (31, Kimpl_WaitOf @impl_WaitOf n)] R) (mkL (mkK [(37, Kspec_DrawWaitsOf @spec_DrawWaitsOf n), (33, Kimpl_WaitsOf @impl_WaitsOf n), (32, Kspec_WaitsOf @spec_WaitsOf n), (38, Klaws_sameInts @laws_sameInts n), (17, Kimpl_GoodPolicy @impl_GoodPolicy n), (31, Kimpl_WaitOf @impl_WaitOf n)]) [] R) (loopIn 12 (bodyOf Try.f10)) (fun q' => Plaws_FnWaits_l12 @laws_FnWaits_l12 n R q' kk) (PkS.pack Slaws_FnWaits_l12 (y12_0, y12_1, y12_2, y12_3, y12_4, y12_5, y12_6, y12_7, y12_8, ())) kk = (fun (kret : Bool → Option R) (kexit0 : Int → Int → Int → Int → Int → Int → (List Int) → Option R) => (bif (decide (y12_3 < y12_2)) then (bif decide (0 ≤ y12_3) then (bif decide (y12_3 < (y12_8.length : Int)) then (impl_WaitOf n y12_4 y12_5 y12_6 y12_7 (IntKind.wrap .i64 (y12_3 + 1)) fun r13 r14 => (bif (!r14) then kret false else (bif (r13 != (y12_8.getD (Int.toNat y12_3) 0)) then kret false else (bif (decide ((y12_8.getD (Int.toNat y12_3) 0) < y12_4)) then kret false else (bif (decide ((y12_8.getD (Int.toNat y12_3) 0) > y12_6)) then kret false else (bif (decide (y12_3 > 0)) then (bif decide (0 ≤ (IntKind.wrap .i64 (y12_3 - 1))) then (bif decide ((IntKind.wrap .i64 (y12_3 - 1)) < (y12_8.length : Int)) then (bif (decide ((y12_8.getD (Int.toNat y12_3) 0) < (y12_8.getD (Int.toNat (IntKind.wrap .i64 (y12_3 - 1))) 0))) then kret false else (bif decide (0 ≤ (IntKind.wrap .i64 (y12_3 - 1))) then (bif decide ((IntKind.wrap .i64 (y12_3 - 1)) < (y12_8.length : Int)) then (bif (decide ((y12_8.getD (Int.toNat y12_3) 0) > (IntKind.wrap .i64 ((y12_8.getD (Int.toNat (IntKind.wrap .i64 (y12_3 - 1))) 0) * y12_5)))) then kret false else laws_FnWaits_l12 n y12_0 (IntKind.wrap .i64 (y12_1 + (y12_8.getD (Int.toNat y12_3) 0))) y12_2 (IntKind.wrap .i64 (y12_3 + 1)) y12_4 y12_5 y12_6 y12_7 y12_8 kret kexit0) else none) else none)) else none) else none) else laws_FnWaits_l12 n y12_0 (IntKind.wrap .i64 (y12_1 + (y12_8.getD (Int.toNat y12_3) 0))) y12_2 (IntKind.wrap .i64 (y12_3 + 1)) y12_4 y12_5 y12_6 y12_7 y12_8 kret kexit0)))))) else none) else none) else kexit0 y12_0 y12_1 y12_4 y12_5 y12_6 y12_7 y12_8)) (fun r0 => kk .ret (PkS.pack Tlaws_FnWaits_l12_0 (r0, ()))) (fun r0 r1 r2 r3 r4 r5 r6 => kk (.exit 0) (PkS.pack Tlaws_FnWaits_l12_1 (r0, r1, r2, r3, r4, r5, r6, ()))) := by kernel_rfl
theorem lelaws_FnWaits_l12 : LoopEq tt sig (fun n => mkK [(37, Kspec_DrawWaitsOf @spec_DrawWaitsOf n), (33, Kimpl_WaitsOf @impl_WaitsOf n), (32, Kspec_WaitsOf @spec_WaitsOf n), (38, Klaws_sameInts @laws_sameInts n), (17, Kimpl_GoodPolicy @impl_GoodPolicy n), (31, Kimpl_WaitOf @impl_WaitOf n)]) (fun n => mkL (mkK [(37, Kspec_DrawWaitsOf @spec_DrawWaitsOf n), (33, Kimpl_WaitsOf @impl_WaitsOf n), (32, Kspec_WaitsOf @spec_WaitsOf n), (38, Klaws_sameInts @laws_sameInts n), (17, Kimpl_GoodPolicy @impl_GoodPolicy n), (31, Kimpl_WaitOf @impl_WaitOf n)]) []) Dlaws_FnWaits_l12 Slaws_FnWaits_l12 (loopIn 12 (bodyOf Try.f10)) (Plaws_FnWaits_l12 @laws_FnWaits_l12) where
  zero R q kk := by unfold Plaws_FnWaits_l12; cases (PkS.un Slaws_FnWaits_l12 q) <;> rfl
  succ n R q kk := by
    unfold Plaws_FnWaits_l12
    cases h : (PkS.un Slaws_FnWaits_l12 q) with
    | none => rfl
    | some d =>
      obtain ⟨y12_0, y12_1, y12_2, y12_3, y12_4, y12_5, y12_6, y12_7, y12_8, u⟩ := (d : Int × Int × Int × Int × Int × Int × Int × Int × (List Int) × Unit)
      have hp := PkS.un_pack h
      subst hp
      exact (elaws_FnWaits_l12 @spec_DrawWaitsOf @impl_WaitsOf @spec_WaitsOf @laws_sameInts @impl_GoodPolicy @impl_WaitOf @laws_FnWaits_l12 n y12_0 y12_1 y12_2 y12_3 y12_4 y12_5 y12_6 y12_7 y12_8 kk).symm
theorem nllaws_FnWaits_l12 : ∀ n, NatLP (Plaws_FnWaits_l12 @laws_FnWaits_l12 n) := lelaws_FnWaits_l12.nat (fun n => mkK_nat (claws_FnWaits n)) fun n => mkL_nat (mkK_nat (claws_FnWaits n)) (l := []) trivial
theorem inlaws_FnWaits_l12 (n : Nat) (R : Type) : LoopsOk Try.prog (mkL (mkK [(37, Kspec_DrawWaitsOf @spec_DrawWaitsOf n), (33, Kimpl_WaitsOf @impl_WaitsOf n), (32, Kspec_WaitsOf @spec_WaitsOf n), (38, Klaws_sameInts @laws_sameInts n), (17, Kimpl_GoodPolicy @impl_GoodPolicy n), (31, Kimpl_WaitOf @impl_WaitOf n)]) [] R) (loopIn 12 (bodyOf Try.f10)) := .eq (l := []) (by kernel_rfl) trivial
theorem lklaws_FnWaits_l12 (n : Nat) (R : Type) (L0 : LK R) (h0 : ∀ id, firstRegion (loopIn 12 (bodyOf Try.f10)) = some id → L0 id = Dlaws_FnWaits_l12.oracle (mkK [(37, Kspec_DrawWaitsOf @spec_DrawWaitsOf n), (33, Kimpl_WaitsOf @impl_WaitsOf n), (32, Kspec_WaitsOf @spec_WaitsOf n), (38, Klaws_sameInts @laws_sameInts n), (17, Kimpl_GoodPolicy @impl_GoodPolicy n), (31, Kimpl_WaitOf @impl_WaitOf n)] R) (Plaws_FnWaits_l12 @laws_FnWaits_l12 n R)) : LoopOk Try.prog L0 (loopIn 12 (bodyOf Try.f10)) :=
  lelaws_FnWaits_l12.ok mixed ttok (fun n => mkK_nat (claws_FnWaits n)) (fun n => mkK_ok (claws_FnWaits n)) (fun n => inlaws_FnWaits_l12 n R) (mkK_nat (claws_FnWaits n)) h0
@[reducible] def Slaws_FnWaits : PkS := ⟨[.one (.ro (.int .u8))], []⟩
@[reducible] def Tlaws_FnWaits : PkS := ⟨[.one (.bool), .one (.dead)], []⟩
def Hlaws_FnWaits : List Sh := [.one .any, .skip]
def Klaws_FnWaits (g : ∀ {R : Type}, Nat → (List Int) → (Bool → Option R) → Option R) (n : Nat) : KPs := fun R p k => match (PkS.un Slaws_FnWaits p : Option ((List Int) × Unit)) with
  | some (x0, _) => g n x0 (fun r0 => k (PkS.pack Tlaws_FnWaits (r0, ())))
  | none => none
theorem elaws_FnWaits (spec_DrawWaitsOf : ∀ {R : Type}, Nat → (List Int) → (Int → Int → Int → Int → Option R) → Option R) (impl_WaitsOf : ∀ {R : Type}, Nat → Int → Int → Int → Int → (Int → Bool → (List Int) → Option R) → Option R) (spec_WaitsOf : ∀ {R : Type}, Nat → Int → Int → Int → Int → (Int → Bool → (List Int) → Option R) → Option R) (laws_sameInts : ∀ {R : Type}, Nat → (List Int) → (List Int) → (Bool → Option R) → Option R) (impl_GoodPolicy : ∀ {R : Type}, Nat → Int → Int → Int → Int → (Bool → Option R) → Option R) (impl_WaitOf : ∀ {R : Type}, Nat → Int → Int → Int → Int → Int → (Int → Bool → Option R) → Option R) (laws_FnWaits_l12 : ∀ {R : Type}, Nat → Int → Int → Int → Int → Int → Int → Int → Int → (List Int) → (Bool → Option R) → (Int → Int → Int → Int → Int → Int → (List Int) → Option R) → Option R) {R : Type} (n : Nat) (x0 : List Int) (k : Pk → Option R) : evF tt sig (mkK [(37, Kspec_DrawWaitsOf @spec_DrawWaitsOf n), (33, Kimpl_WaitsOf @impl_WaitsOf n), (32, Kspec_WaitsOf @spec_WaitsOf n), (38, Klaws_sameInts @laws_sameInts n), (17, Kimpl_GoodPolicy @impl_GoodPolicy n), (31, Kimpl_WaitOf @impl_WaitOf n)] R) (mkL (mkK [(37, Kspec_DrawWaitsOf @spec_DrawWaitsOf n), (33, Kimpl_WaitsOf @impl_WaitsOf n), (32, Kspec_WaitsOf @spec_WaitsOf n), (38, Klaws_sameInts @laws_sameInts n), (17, Kimpl_GoodPolicy @impl_GoodPolicy n), (31, Kimpl_WaitOf @impl_WaitOf n)]) [(12, Dlaws_FnWaits_l12, Plaws_FnWaits_l12 @laws_FnWaits_l12 n)] R) Try.f10 Hlaws_FnWaits (PkS.pack Slaws_FnWaits (x0, ())) k = (fun (k : Bool → Option R) => (bif (decide ((x0.length : Int) > 1048576)) then k true else (spec_DrawWaitsOf n x0 fun r1 r2 r3 r4 => (impl_WaitsOf n r1 r2 r3 r4 fun r5 r6 r7 => (spec_WaitsOf n r1 r2 r3 r4 fun r8 r9 r10 => (bif (!(r6 == r9)) then k false else (bif (r5 != r8) then k false else (laws_sameInts n r7 r10 fun r11 => (bif (!r11) then k false else (impl_GoodPolicy n r1 r2 r3 r4 fun r12 => (bif (!(r12 == r9)) then k false else (bif (!r6) then k (r5 == 0) else (laws_FnWaits_l12 n r5 0 (r7.length : Int) 0 r1 r2 r3 r4 r7 (fun r15 => k r15) (fun r16 r17 r18 r19 r20 r21 r22 => (impl_WaitOf n r18 r19 r20 r21 r21 fun r23 r24 => (bif r24 then (bif (decide (r23 ≤ r20)) then (bif (r17 == r16) then k ((r22.length : Int) == (IntKind.wrap .i64 (r21 - 1))) else k false) else k false) else k false)))))))))))))))) (fun r0 => k (PkS.pack Tlaws_FnWaits (r0, ()))) := by kernel_rfl
theorem oklaws_FnWaits (n : Nat) : FnOk Try.prog 10 (Klaws_FnWaits @laws_FnWaits n) := by
  refine fn_ok (sig := sig) mixed ttok (mkK_nat (claws_FnWaits n)) (mkK_ok (claws_FnWaits n)) (mkL_nat (mkK_nat (claws_FnWaits n)) (l := [(12, Dlaws_FnWaits_l12, Plaws_FnWaits_l12 @laws_FnWaits_l12 n)]) ⟨nllaws_FnWaits_l12 n, trivial⟩) (fn := Try.f10) (c := bodyOf Try.f10) (by kernel_rfl) (by kernel_rfl) (by kernel_rfl) (.eq (l := [loopIn 12 (bodyOf Try.f10)]) (by kernel_rfl) ⟨(lklaws_FnWaits_l12 n _ _ (at_id (i := 12) (by kernel_rfl) rfl)), trivial⟩) (shs := Hlaws_FnWaits) (S := Slaws_FnWaits) fun R p k => ?_
  unfold Klaws_FnWaits
  cases h : (PkS.un Slaws_FnWaits p) with
  | none => rfl
  | some d =>
    obtain ⟨x0, u⟩ := (d : (List Int) × Unit)
    have hp := PkS.un_pack h
    subst hp
    exact (elaws_FnWaits @spec_DrawWaitsOf @impl_WaitsOf @spec_WaitsOf @laws_sameInts @impl_GoodPolicy @impl_WaitOf @laws_FnWaits_l12 n x0 k).symm
end Go.Am.G
