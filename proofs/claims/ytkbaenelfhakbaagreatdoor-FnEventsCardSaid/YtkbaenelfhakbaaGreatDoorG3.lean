/- What the row tells of package variables. -/
import Derived.Test.YtkbaenelfhakbaaGreatDoorF3
import Derived.Test.YtkbaenelfhakbaaGreatDoorAmP
import Derived.KernelRfl
import Derived.Test.YtkbaenelfhakbaaGreatDoorProg
set_option linter.unusedVariables false
set_option maxRecDepth 100000
namespace Go.Am.G
open Go Go.Am
open Go.Proofs
def tt : TT := [(3, ⟨1, false, (.int .i64), 0, [], [.int .i64 0], 8, true, false, [], none⟩), (4, ⟨1, false, .bool, 0, [], [.bool false], 1, true, false, [], none⟩), (5, ⟨1, false, (.int .u8), 0, [], [.int .u8 0], 1, true, false, [], none⟩), (9, ⟨1, false, .str, 0, [], [.str ByteArray.empty], 16, true, false, [], none⟩), (22, ⟨1, false, (.sl (.int .u8)), 5, [], [.nil], 24, true, true, [], none⟩), (24, ⟨4, true, (.pr (.int .i64) (.pr (.int .i64) (.pr (.int .i64) .str))), 0, [(0, 1, false), (1, 1, false), (2, 1, false), (3, 1, false)], [.int .i64 0, .int .i64 0, .int .i64 0, .str ByteArray.empty], 40, true, false, [(.int .i64), (.int .i64), (.int .i64), .str], none⟩), (31, ⟨1, false, (.sl (.pr (.int .i64) (.pr (.int .i64) (.pr (.int .i64) .str)))), 24, [], [.nil], 24, true, true, [], none⟩), (43, ⟨1, false, (.sl .str), 9, [], [.nil], 24, true, true, [], none⟩), (48, ⟨1, false, (.int .u64), 0, [], [.int .u64 0], 8, true, false, [], none⟩), (50, ⟨3, true, (.pr (.sl (.int .u8)) (.pr (.int .i64) (.int .u64))), 0, [(0, 1, false), (1, 1, false), (2, 1, false)], [.nil, .int .i64 0, .int .u64 0], 40, true, false, [], none⟩), (67, ⟨1, false, (.sl (.int .i64)), 3, [], [.nil], 24, true, true, [], none⟩)]
def sig : Sig := sigOf [(3, [.one (.ro (.int .u8)), .one (.ro (.int .u8))]), (4, [.one (.ro (.int .u8))]), (5, [.agg [.any, .any, .any, .any]]), (6, [.agg [.any, .any, .any, .any]]), (7, [.agg [.any, .any, .any, .any]]), (8, [.one .any]), (9, [.one (.ro (.int .u8))]), (10, [.one (.ro (.pr (.int .i64) (.pr (.int .i64) (.pr (.int .i64) .str))))]), (11, [.one (.ro (.pr (.int .i64) (.pr (.int .i64) (.pr (.int .i64) .str))))]), (12, [.one .any]), (13, [.one (.ro (.pr (.int .i64) (.pr (.int .i64) (.pr (.int .i64) .str)))), .one (.ro (.pr (.int .i64) (.pr (.int .i64) (.pr (.int .i64) .str))))]), (14, [.one (.ro (.int .u8))]), (15, [.one (.ro (.int .u8))]), (16, [.agg [.any, .any, .any, .any]]), (17, [.agg [.any, .any, .any, .any]]), (18, [.agg [.any, .any, .any, .any]]), (19, [.one .any, .one .any, .one .any]), (20, [.one .any]), (21, [.one .any]), (22, [.one .any]), (23, [.one .any, .one .any, .one .any]), (24, [.one .any]), (25, [.box [(.ro (.int .u8)), .any, .any], .one .any]), (26, [.box [(.ro (.int .u8)), .any, .any], .one .any]), (27, [.box [(.ro (.int .u8)), .any, .any]]), (28, [.one .any]), (29, [.one .any]), (30, [.one .any]), (31, [.one (.ro .str), .one .any]), (32, [.one .any]), (33, [.one .any, .one .any, .one .any]), (34, [.one .any]), (35, [.one .any]), (36, [.one .any, .one .any]), (39, [.box [(.ro (.int .u8)), .any, .any]]), (40, [.box [(.ro (.int .u8)), .any, .any], .one (.ro .str)]), (41, [.box [(.ro (.int .u8)), .any, .any], .one (.ro (.int .i64))]), (42, [.one .any]), (43, [.one .any])]
theorem ttok : TTok Tryz.prog tt := .of_chk (by kernel_rfl)
theorem mixed : Tryz.prog.follows .mixedOrders = true := by kernel_rfl

/-! ### (*loop.example/g00269/spec.l1Cur).next -/
theorem cspec_l1Cur_next (n : Nat) : AllOk Tryz.prog [] := trivial
@[reducible] def Sspec_l1Cur_next : PkS := ⟨[.one (.box (200000, 0) 0)], [((200000, 0), .box [.ro (.int .u8), .int .i64, .int .u64])]⟩
@[reducible] def Tspec_l1Cur_next : PkS := ⟨[.one (.int .i64), .one (.box (300000, 0) 0)], [((300000, 0), .box [.ro (.int .u8), .int .i64, .int .u64])]⟩
def Hspec_l1Cur_next : List Sh := [.one .any, .box [(.ro (.int .u8)), .any, .any]]
def Kspec_l1Cur_next (g : ∀ {R : Type}, Nat → (List Int) → Int → Int → (Int → (List Int) → Int → Int → Option R) → Option R) (n : Nat) : KPs := fun R p k => match (PkS.un Sspec_l1Cur_next p : Option ((List Int) × Int × Int × Unit)) with
  | some (x0, x1, x2, _) => g n x0 x1 x2 (fun r0 r1 r2 r3 => k (PkS.pack Tspec_l1Cur_next (r0, r1, r2, r3, ())))
  | none => none
theorem espec_l1Cur_next  {R : Type} (n : Nat) (x0 : List Int) (x1 : Int) (x2 : Int) (k : Pk → Option R) : evF tt sig (mkK [] R) (mkL (mkK []) [] R) Tryz.f39 Hspec_l1Cur_next (PkS.pack Sspec_l1Cur_next (x0, x1, x2, ())) k = (fun (k : Int → (List Int) → Int → Int → Option R) => (bif (decide (x1 < (x0.length : Int))) then (bif decide (0 ≤ x1) then (bif decide (x1 < (x0.length : Int)) then (bif (decide ((IntKind.wrap .i64 (x1 + 1)) ≤ (x0.length : Int))) then k (IntKind.wrap .i64 ((x0.getD (Int.toNat x1) 0))) x0 (IntKind.wrap .i64 (x1 + 1)) (IntKind.wrap .u64 ((IntKind.wrap .u64 ((IntKind.wrap .u64 (x2 * 6364136223846793005)) + (IntKind.wrap .u64 ((IntKind.wrap .i64 ((x0.getD (Int.toNat x1) 0))))))) + 1442695040888963407)) else k (IntKind.wrap .i64 ((IntKind.wrap .u64 (Int.ofNat (BitVec.toNat (BitVec.ofInt (IntKind.bits .u64) (Int.fdiv (IntKind.wrap .u64 ((IntKind.wrap .u64 ((IntKind.wrap .u64 (x2 * 6364136223846793005)) + (IntKind.wrap .u64 ((IntKind.wrap .i64 ((x0.getD (Int.toNat x1) 0))))))) + 1442695040888963407)) (2 ^ (min (Int.toNat 40) (IntKind.bits .u64)))) &&& BitVec.ofInt (IntKind.bits .u64) 255)))))) x0 (IntKind.wrap .i64 (x1 + 1)) (IntKind.wrap .u64 ((IntKind.wrap .u64 ((IntKind.wrap .u64 (x2 * 6364136223846793005)) + (IntKind.wrap .u64 ((IntKind.wrap .i64 ((x0.getD (Int.toNat x1) 0))))))) + 1442695040888963407))) else none) else none) else (bif (decide ((IntKind.wrap .i64 (x1 + 1)) ≤ (x0.length : Int))) then k 0 x0 (IntKind.wrap .i64 (x1 + 1)) (IntKind.wrap .u64 ((IntKind.wrap .u64 ((IntKind.wrap .u64 (x2 * 6364136223846793005)) + 0)) + 1442695040888963407)) else k (IntKind.wrap .i64 ((IntKind.wrap .u64 (Int.ofNat (BitVec.toNat (BitVec.ofInt (IntKind.bits .u64) (Int.fdiv (IntKind.wrap .u64 ((IntKind.wrap .u64 ((IntKind.wrap .u64 (x2 * 6364136223846793005)) + 0)) + 1442695040888963407)) (2 ^ (min (Int.toNat 40) (IntKind.bits .u64)))) &&& BitVec.ofInt (IntKind.bits .u64) 255)))))) x0 (IntKind.wrap .i64 (x1 + 1)) (IntKind.wrap .u64 ((IntKind.wrap .u64 ((IntKind.wrap .u64 (x2 * 6364136223846793005)) + 0)) + 1442695040888963407))))) (fun r0 r1 r2 r3 => k (PkS.pack Tspec_l1Cur_next (r0, r1, r2, r3, ()))) := by kernel_rfl
theorem okspec_l1Cur_next (n : Nat) : FnOk Tryz.prog 39 (Kspec_l1Cur_next @spec_l1Cur_next n) := by
  refine fn_ok (sig := sig) mixed ttok (mkK_nat (cspec_l1Cur_next n)) (mkK_ok (cspec_l1Cur_next n)) (mkL_nat (mkK_nat (cspec_l1Cur_next n)) (l := []) trivial) (fn := Tryz.f39) (c := bodyOf Tryz.f39) (by kernel_rfl) (by kernel_rfl) (by kernel_rfl) (.eq (l := []) (by kernel_rfl) trivial) (shs := Hspec_l1Cur_next) (S := Sspec_l1Cur_next) (h1 := by kernel_rfl) fun R p k => ?_
  unfold Kspec_l1Cur_next
  cases h : (PkS.un Sspec_l1Cur_next p) with
  | none => rfl
  | some d =>
    obtain ⟨x0, x1, x2, u⟩ := (d : (List Int) × Int × Int × Unit)
    have hp := PkS.un_pack h
    subst hp
    exact (espec_l1Cur_next  n x0 x1 x2 k).symm

/-! ### (*loop.example/g00269/spec.l1Cur).pick -/
theorem cspec_l1Cur_pick (n : Nat) : AllOk Tryz.prog [(39, Kspec_l1Cur_next @spec_l1Cur_next n)] := ⟨okspec_l1Cur_next n, trivial⟩
@[reducible] def Sspec_l1Cur_pick : PkS := ⟨[.one (.box (200000, 0) 0), .one (.int .i64)], [((200000, 0), .box [.ro (.int .u8), .int .i64, .int .u64])]⟩
@[reducible] def Tspec_l1Cur_pick : PkS := ⟨[.one (.int .i64), .one (.box (300000, 0) 0), .one (.dead)], [((300000, 0), .box [.ro (.int .u8), .int .i64, .int .u64])]⟩
def Hspec_l1Cur_pick : List Sh := [.one .any, .box [(.ro (.int .u8)), .any, .any], .skip]
def Kspec_l1Cur_pick (g : ∀ {R : Type}, Nat → Int → (List Int) → Int → Int → (Int → (List Int) → Int → Int → Option R) → Option R) (n : Nat) : KPs := fun R p k => match (PkS.un Sspec_l1Cur_pick p : Option (Int × (List Int) × Int × Int × Unit)) with
  | some (x0, x1, x2, x3, _) => g n x0 x1 x2 x3 (fun r0 r1 r2 r3 => k (PkS.pack Tspec_l1Cur_pick (r0, r1, r2, r3, ())))
  | none => none
theorem espec_l1Cur_pick (spec_l1Cur_next : ∀ {R : Type}, Nat → (List Int) → Int → Int → (Int → (List Int) → Int → Int → Option R) → Option R) {R : Type} (n : Nat) (x0 : Int) (x1 : List Int) (x2 : Int) (x3 : Int) (k : Pk → Option R) : evF tt sig (mkK [(39, Kspec_l1Cur_next @spec_l1Cur_next n)] R) (mkL (mkK [(39, Kspec_l1Cur_next @spec_l1Cur_next n)]) [] R) Tryz.f25 Hspec_l1Cur_pick (PkS.pack Sspec_l1Cur_pick (x0, x1, x2, x3, ())) k = (fun (k : Int → (List Int) → Int → Int → Option R) => (bif (decide (x0 ≤ 1)) then k 0 x1 x2 x3 else (spec_l1Cur_next n x1 x2 x3 fun r1 r2 r3 r4 => (bif (decide (x0 > 200)) then (spec_l1Cur_next n r2 r3 r4 fun r5 r6 r7 r8 => (bif decide (x0 ≠ 0) then k (Int.tmod (IntKind.wrap .i64 ((IntKind.wrap .i64 (r1 * 256)) + r5)) x0) r6 r7 r8 else none)) else (bif decide (x0 ≠ 0) then k (Int.tmod r1 x0) r2 r3 r4 else none))))) (fun r0 r1 r2 r3 => k (PkS.pack Tspec_l1Cur_pick (r0, r1, r2, r3, ()))) := by kernel_rfl
theorem okspec_l1Cur_pick (n : Nat) : FnOk Tryz.prog 25 (Kspec_l1Cur_pick @spec_l1Cur_pick n) := by
  refine fn_ok (sig := sig) mixed ttok (mkK_nat (cspec_l1Cur_pick n)) (mkK_ok (cspec_l1Cur_pick n)) (mkL_nat (mkK_nat (cspec_l1Cur_pick n)) (l := []) trivial) (fn := Tryz.f25) (c := bodyOf Tryz.f25) (by kernel_rfl) (by kernel_rfl) (by kernel_rfl) (.eq (l := []) (by kernel_rfl) trivial) (shs := Hspec_l1Cur_pick) (S := Sspec_l1Cur_pick) (h1 := by kernel_rfl) fun R p k => ?_
  unfold Kspec_l1Cur_pick
  cases h : (PkS.un Sspec_l1Cur_pick p) with
  | none => rfl
  | some d =>
    obtain ⟨x0, x1, x2, x3, u⟩ := (d : Int × (List Int) × Int × Int × Unit)
    have hp := PkS.un_pack h
    subst hp
    exact (espec_l1Cur_pick @spec_l1Cur_next n x0 x1 x2 x3 k).symm

/-! ### (*loop.example/g00269/spec.l1Cur).of -/
theorem cspec_l1Cur_of (n : Nat) : AllOk Tryz.prog [(25, Kspec_l1Cur_pick @spec_l1Cur_pick n)] := ⟨okspec_l1Cur_pick n, trivial⟩
@[reducible] def Sspec_l1Cur_of : PkS := ⟨[.one (.box (200000, 0) 0), .one (.ro .str)], [((200000, 0), .box [.ro (.int .u8), .int .i64, .int .u64])]⟩
@[reducible] def Tspec_l1Cur_of : PkS := ⟨[.one (.str), .one (.box (300000, 0) 0), .one (.dead)], [((300000, 0), .box [.ro (.int .u8), .int .i64, .int .u64])]⟩
def Hspec_l1Cur_of : List Sh := [.one .any, .box [(.ro (.int .u8)), .any, .any], .skip]
def Kspec_l1Cur_of (g : ∀ {R : Type}, Nat → (List ByteArray) → (List Int) → Int → Int → (ByteArray → (List Int) → Int → Int → Option R) → Option R) (n : Nat) : KPs := fun R p k => match (PkS.un Sspec_l1Cur_of p : Option ((List ByteArray) × (List Int) × Int × Int × Unit)) with
  | some (x0, x1, x2, x3, _) => g n x0 x1 x2 x3 (fun r0 r1 r2 r3 => k (PkS.pack Tspec_l1Cur_of (r0, r1, r2, r3, ())))
  | none => none
theorem espec_l1Cur_of (spec_l1Cur_pick : ∀ {R : Type}, Nat → Int → (List Int) → Int → Int → (Int → (List Int) → Int → Int → Option R) → Option R) {R : Type} (n : Nat) (x0 : List ByteArray) (x1 : List Int) (x2 : Int) (x3 : Int) (k : Pk → Option R) : evF tt sig (mkK [(25, Kspec_l1Cur_pick @spec_l1Cur_pick n)] R) (mkL (mkK [(25, Kspec_l1Cur_pick @spec_l1Cur_pick n)]) [] R) Tryz.f40 Hspec_l1Cur_of (PkS.pack Sspec_l1Cur_of (x0, x1, x2, x3, ())) k = (fun (k : ByteArray → (List Int) → Int → Int → Option R) => (spec_l1Cur_pick n (x0.length : Int) x1 x2 x3 fun r1 r2 r3 r4 => (bif decide (0 ≤ r1) then (bif decide (r1 < (x0.length : Int)) then k (x0.getD (Int.toNat r1) ByteArray.empty) r2 r3 r4 else none) else none))) (fun r0 r1 r2 r3 => k (PkS.pack Tspec_l1Cur_of (r0, r1, r2, r3, ()))) := by kernel_rfl
theorem okspec_l1Cur_of (n : Nat) : FnOk Tryz.prog 40 (Kspec_l1Cur_of @spec_l1Cur_of n) := by
  refine fn_ok (sig := sig) mixed ttok (mkK_nat (cspec_l1Cur_of n)) (mkK_ok (cspec_l1Cur_of n)) (mkL_nat (mkK_nat (cspec_l1Cur_of n)) (l := []) trivial) (fn := Tryz.f40) (c := bodyOf Tryz.f40) (by kernel_rfl) (by kernel_rfl) (by kernel_rfl) (.eq (l := []) (by kernel_rfl) trivial) (shs := Hspec_l1Cur_of) (S := Sspec_l1Cur_of) (h1 := by kernel_rfl) fun R p k => ?_
  unfold Kspec_l1Cur_of
  cases h : (PkS.un Sspec_l1Cur_of p) with
  | none => rfl
  | some d =>
    obtain ⟨x0, x1, x2, x3, u⟩ := (d : (List ByteArray) × (List Int) × Int × Int × Unit)
    have hp := PkS.un_pack h
    subst hp
    exact (espec_l1Cur_of @spec_l1Cur_pick n x0 x1 x2 x3 k).symm

/-! ### (*loop.example/g00269/spec.l1Cur).among -/
theorem cspec_l1Cur_among (n : Nat) : AllOk Tryz.prog [(25, Kspec_l1Cur_pick @spec_l1Cur_pick n)] := ⟨okspec_l1Cur_pick n, trivial⟩
@[reducible] def Sspec_l1Cur_among : PkS := ⟨[.one (.box (200000, 0) 0), .one (.ro (.int .i64))], [((200000, 0), .box [.ro (.int .u8), .int .i64, .int .u64])]⟩
@[reducible] def Tspec_l1Cur_among : PkS := ⟨[.one (.int .i64), .one (.box (300000, 0) 0), .one (.dead)], [((300000, 0), .box [.ro (.int .u8), .int .i64, .int .u64])]⟩
def Hspec_l1Cur_among : List Sh := [.one .any, .box [(.ro (.int .u8)), .any, .any], .skip]
def Kspec_l1Cur_among (g : ∀ {R : Type}, Nat → (List Int) → (List Int) → Int → Int → (Int → (List Int) → Int → Int → Option R) → Option R) (n : Nat) : KPs := fun R p k => match (PkS.un Sspec_l1Cur_among p : Option ((List Int) × (List Int) × Int × Int × Unit)) with
  | some (x0, x1, x2, x3, _) => g n x0 x1 x2 x3 (fun r0 r1 r2 r3 => k (PkS.pack Tspec_l1Cur_among (r0, r1, r2, r3, ())))
  | none => none
theorem espec_l1Cur_among (spec_l1Cur_pick : ∀ {R : Type}, Nat → Int → (List Int) → Int → Int → (Int → (List Int) → Int → Int → Option R) → Option R) {R : Type} (n : Nat) (x0 : List Int) (x1 : List Int) (x2 : Int) (x3 : Int) (k : Pk → Option R) : evF tt sig (mkK [(25, Kspec_l1Cur_pick @spec_l1Cur_pick n)] R) (mkL (mkK [(25, Kspec_l1Cur_pick @spec_l1Cur_pick n)]) [] R) Tryz.f41 Hspec_l1Cur_among (PkS.pack Sspec_l1Cur_among (x0, x1, x2, x3, ())) k = (fun (k : Int → (List Int) → Int → Int → Option R) => (spec_l1Cur_pick n (x0.length : Int) x1 x2 x3 fun r1 r2 r3 r4 => (bif decide (0 ≤ r1) then (bif decide (r1 < (x0.length : Int)) then k (x0.getD (Int.toNat r1) 0) r2 r3 r4 else none) else none))) (fun r0 r1 r2 r3 => k (PkS.pack Tspec_l1Cur_among (r0, r1, r2, r3, ()))) := by kernel_rfl
theorem okspec_l1Cur_among (n : Nat) : FnOk Tryz.prog 41 (Kspec_l1Cur_among @spec_l1Cur_among n) := by
  refine fn_ok (sig := sig) mixed ttok (mkK_nat (cspec_l1Cur_among n)) (mkK_ok (cspec_l1Cur_among n)) (mkL_nat (mkK_nat (cspec_l1Cur_among n)) (l := []) trivial) (fn := Tryz.f41) (c := bodyOf Tryz.f41) (by kernel_rfl) (by kernel_rfl) (by kernel_rfl) (.eq (l := []) (by kernel_rfl) trivial) (shs := Hspec_l1Cur_among) (S := Sspec_l1Cur_among) (h1 := by kernel_rfl) fun R p k => ?_
  unfold Kspec_l1Cur_among
  cases h : (PkS.un Sspec_l1Cur_among p) with
  | none => rfl
  | some d =>
    obtain ⟨x0, x1, x2, x3, u⟩ := (d : (List Int) × (List Int) × Int × Int × Unit)
    have hp := PkS.un_pack h
    subst hp
    exact (espec_l1Cur_among @spec_l1Cur_pick n x0 x1 x2 x3 k).symm

/-! ### (*loop.example/g00269/spec.l1Cur).event -/
theorem cspec_l1Cur_event (n : Nat) : AllOk Tryz.prog [(25, Kspec_l1Cur_pick @spec_l1Cur_pick n), (40, Kspec_l1Cur_of @spec_l1Cur_of n), (41, Kspec_l1Cur_among @spec_l1Cur_among n)] := ⟨okspec_l1Cur_pick n, ⟨okspec_l1Cur_of n, ⟨okspec_l1Cur_among n, trivial⟩⟩⟩
@[reducible] def Sspec_l1Cur_event : PkS := ⟨[.one (.box (200000, 0) 0)], [((200000, 0), .box [.ro (.int .u8), .int .i64, .int .u64])]⟩
@[reducible] def Tspec_l1Cur_event : PkS := ⟨[.agg [.int .i64, .int .i64, .int .i64, .str], .one (.box (300000, 0) 0)], [((300000, 0), .box [.ro (.int .u8), .int .i64, .int .u64])]⟩
def Hspec_l1Cur_event : List Sh := [.agg [.any, .any, .any, .any], .box [(.ro (.int .u8)), .any, .any]]
def Kspec_l1Cur_event (g : ∀ {R : Type}, Nat → (List Int) → Int → Int → (Int → Int → Int → ByteArray → (List Int) → Int → Int → Option R) → Option R) (n : Nat) : KPs := fun R p k => match (PkS.un Sspec_l1Cur_event p : Option ((List Int) × Int × Int × Unit)) with
  | some (x0, x1, x2, _) => g n x0 x1 x2 (fun r0 r1 r2 r3 r4 r5 r6 => k (PkS.pack Tspec_l1Cur_event (r0, r1, r2, r3, r4, r5, r6, ())))
  | none => none
theorem espec_l1Cur_event (spec_l1Cur_pick : ∀ {R : Type}, Nat → Int → (List Int) → Int → Int → (Int → (List Int) → Int → Int → Option R) → Option R) (spec_l1Cur_of : ∀ {R : Type}, Nat → (List ByteArray) → (List Int) → Int → Int → (ByteArray → (List Int) → Int → Int → Option R) → Option R) (spec_l1Cur_among : ∀ {R : Type}, Nat → (List Int) → (List Int) → Int → Int → (Int → (List Int) → Int → Int → Option R) → Option R) {R : Type} (n : Nat) (x0 : List Int) (x1 : Int) (x2 : Int) (k : Pk → Option R) : evF tt sig (mkK [(25, Kspec_l1Cur_pick @spec_l1Cur_pick n), (40, Kspec_l1Cur_of @spec_l1Cur_of n), (41, Kspec_l1Cur_among @spec_l1Cur_among n)] R) (mkL (mkK [(25, Kspec_l1Cur_pick @spec_l1Cur_pick n), (40, Kspec_l1Cur_of @spec_l1Cur_of n), (41, Kspec_l1Cur_among @spec_l1Cur_among n)]) [] R) Tryz.f27 Hspec_l1Cur_event (PkS.pack Sspec_l1Cur_event (x0, x1, x2, ())) k = (fun (k : Int → Int → Int → ByteArray → (List Int) → Int → Int → Option R) => (spec_l1Cur_pick n 20 x0 x1 x2 fun r1 r2 r3 r4 => (spec_l1Cur_pick n 40 r2 r3 r4 fun r5 r6 r7 r8 => (spec_l1Cur_pick n 6 r6 r7 r8 fun r9 r10 r11 r12 => (spec_l1Cur_of n ([(ByteArray.mk #[97]), (ByteArray.mk #[98]), (ByteArray.mk #[112, 97, 121]), (ByteArray.mk #[]), (ByteArray.mk #[115, 104, 105, 112, 50])]) r10 r11 r12 fun r13 r14 r15 r16 => (spec_l1Cur_pick n 60 r14 r15 r16 fun r17 r18 r19 r20 => (bif (r17 == 0) then (spec_l1Cur_among n ([0, 1000, 1001]) r18 r19 r20 fun r21 r22 r23 r24 => k r21 r5 (IntKind.wrap .i64 (1 + r9)) r13 r22 r23 r24) else (bif (r17 == 1) then (spec_l1Cur_among n ([0, 7]) r18 r19 r20 fun r25 r26 r27 r28 => k (IntKind.wrap .i64 (1 + r1)) r5 r25 r13 r26 r27 r28) else (bif (r17 == 2) then (spec_l1Cur_of n ([(ByteArray.mk #[65]), (ByteArray.mk #[49, 50, 51, 52, 53, 54, 55, 56, 57, 48, 49, 50, 51])]) r18 r19 r20 fun r29 r30 r31 r32 => k (IntKind.wrap .i64 (1 + r1)) r5 (IntKind.wrap .i64 (1 + r9)) r29 r30 r31 r32) else (bif (r17 == 3) then (spec_l1Cur_among n ([(-1), 1000000, 1000001]) r18 r19 r20 fun r33 r34 r35 r36 => k (IntKind.wrap .i64 (1 + r1)) r33 (IntKind.wrap .i64 (1 + r9)) r13 r34 r35 r36) else k (IntKind.wrap .i64 (1 + r1)) r5 (IntKind.wrap .i64 (1 + r9)) r13 r18 r19 r20)))))))))) (fun r0 r1 r2 r3 r4 r5 r6 => k (PkS.pack Tspec_l1Cur_event (r0, r1, r2, r3, r4, r5, r6, ()))) := by kernel_rfl
theorem okspec_l1Cur_event (n : Nat) : FnOk Tryz.prog 27 (Kspec_l1Cur_event @spec_l1Cur_event n) := by
  refine fn_ok (sig := sig) mixed ttok (mkK_nat (cspec_l1Cur_event n)) (mkK_ok (cspec_l1Cur_event n)) (mkL_nat (mkK_nat (cspec_l1Cur_event n)) (l := []) trivial) (fn := Tryz.f27) (c := bodyOf Tryz.f27) (by kernel_rfl) (by kernel_rfl) (by kernel_rfl) (.eq (l := []) (by kernel_rfl) trivial) (shs := Hspec_l1Cur_event) (S := Sspec_l1Cur_event) (h1 := by kernel_rfl) fun R p k => ?_
  unfold Kspec_l1Cur_event
  cases h : (PkS.un Sspec_l1Cur_event p) with
  | none => rfl
  | some d =>
    obtain ⟨x0, x1, x2, u⟩ := (d : (List Int) × Int × Int × Unit)
    have hp := PkS.un_pack h
    subst hp
    exact (espec_l1Cur_event @spec_l1Cur_pick @spec_l1Cur_of @spec_l1Cur_among n x0 x1 x2 k).symm

/-! ### loop.example/g00269/spec.DrawGoodEvent -/
theorem cspec_DrawGoodEvent (n : Nat) : AllOk Tryz.prog [(27, Kspec_l1Cur_event @spec_l1Cur_event n)] := ⟨okspec_l1Cur_event n, trivial⟩
@[reducible] def Sspec_DrawGoodEvent : PkS := ⟨[.one (.ro (.int .u8))], []⟩
@[reducible] def Tspec_DrawGoodEvent : PkS := ⟨[.agg [.int .i64, .int .i64, .int .i64, .str], .one (.dead)], []⟩
def Hspec_DrawGoodEvent : List Sh := [.agg [.any, .any, .any, .any], .skip]
def Kspec_DrawGoodEvent (g : ∀ {R : Type}, Nat → (List Int) → (Int → Int → Int → ByteArray → Option R) → Option R) (n : Nat) : KPs := fun R p k => match (PkS.un Sspec_DrawGoodEvent p : Option ((List Int) × Unit)) with
  | some (x0, _) => g n x0 (fun r0 r1 r2 r3 => k (PkS.pack Tspec_DrawGoodEvent (r0, r1, r2, r3, ())))
  | none => none
theorem espec_DrawGoodEvent (spec_l1Cur_event : ∀ {R : Type}, Nat → (List Int) → Int → Int → (Int → Int → Int → ByteArray → (List Int) → Int → Int → Option R) → Option R) {R : Type} (n : Nat) (x0 : List Int) (k : Pk → Option R) : evF tt sig (mkK [(27, Kspec_l1Cur_event @spec_l1Cur_event n)] R) (mkL (mkK [(27, Kspec_l1Cur_event @spec_l1Cur_event n)]) [] R) Tryz.f15 Hspec_DrawGoodEvent (PkS.pack Sspec_DrawGoodEvent (x0, ())) k = (fun (k : Int → Int → Int → ByteArray → Option R) => (spec_l1Cur_event n x0 0 0 fun r1 r2 r3 r4 r5 r6 r7 => k r1 r2 r3 r4)) (fun r0 r1 r2 r3 => k (PkS.pack Tspec_DrawGoodEvent (r0, r1, r2, r3, ()))) := by kernel_rfl
theorem okspec_DrawGoodEvent (n : Nat) : FnOk Tryz.prog 15 (Kspec_DrawGoodEvent @spec_DrawGoodEvent n) := by
  refine fn_ok (sig := sig) mixed ttok (mkK_nat (cspec_DrawGoodEvent n)) (mkK_ok (cspec_DrawGoodEvent n)) (mkL_nat (mkK_nat (cspec_DrawGoodEvent n)) (l := []) trivial) (fn := Tryz.f15) (c := bodyOf Tryz.f15) (by kernel_rfl) (by kernel_rfl) (by kernel_rfl) (.eq (l := []) (by kernel_rfl) trivial) (shs := Hspec_DrawGoodEvent) (S := Sspec_DrawGoodEvent) (h1 := by kernel_rfl) fun R p k => ?_
  unfold Kspec_DrawGoodEvent
  cases h : (PkS.un Sspec_DrawGoodEvent p) with
  | none => rfl
  | some d =>
    obtain ⟨x0, u⟩ := (d : (List Int) × Unit)
    have hp := PkS.un_pack h
    subst hp
    exact (espec_DrawGoodEvent @spec_l1Cur_event n x0 k).symm

/-! ### loop.example/g00269/spec.DrawEventBytes -/
theorem cspec_DrawEventBytes (n : Nat) : AllOk Tryz.prog [(15, Kspec_DrawGoodEvent @spec_DrawGoodEvent n)] := ⟨okspec_DrawGoodEvent n, trivial⟩
@[reducible] def Sspec_DrawEventBytes : PkS := ⟨[.one (.ro (.int .u8))], []⟩
@[reducible] def Tspec_DrawEventBytes : PkS := ⟨[.agg [.int .i64, .int .i64, .int .i64, .str], .one (.dead)], []⟩
def Hspec_DrawEventBytes : List Sh := [.agg [.any, .any, .any, .any], .skip]
def Kspec_DrawEventBytes (g : ∀ {R : Type}, Nat → (List Int) → (Int → Int → Int → ByteArray → Option R) → Option R) (n : Nat) : KPs := fun R p k => match (PkS.un Sspec_DrawEventBytes p : Option ((List Int) × Unit)) with
  | some (x0, _) => g n x0 (fun r0 r1 r2 r3 => k (PkS.pack Tspec_DrawEventBytes (r0, r1, r2, r3, ())))
  | none => none
theorem espec_DrawEventBytes (spec_DrawGoodEvent : ∀ {R : Type}, Nat → (List Int) → (Int → Int → Int → ByteArray → Option R) → Option R) {R : Type} (n : Nat) (x0 : List Int) (k : Pk → Option R) : evF tt sig (mkK [(15, Kspec_DrawGoodEvent @spec_DrawGoodEvent n)] R) (mkL (mkK [(15, Kspec_DrawGoodEvent @spec_DrawGoodEvent n)]) [] R) Tryz.f4 Hspec_DrawEventBytes (PkS.pack Sspec_DrawEventBytes (x0, ())) k = (fun (k : Int → Int → Int → ByteArray → Option R) => (spec_DrawGoodEvent n x0 fun r1 r2 r3 r4 => k r1 r2 r3 r4)) (fun r0 r1 r2 r3 => k (PkS.pack Tspec_DrawEventBytes (r0, r1, r2, r3, ()))) := by kernel_rfl
theorem okspec_DrawEventBytes (n : Nat) : FnOk Tryz.prog 4 (Kspec_DrawEventBytes @spec_DrawEventBytes n) := by
  refine fn_ok (sig := sig) mixed ttok (mkK_nat (cspec_DrawEventBytes n)) (mkK_ok (cspec_DrawEventBytes n)) (mkL_nat (mkK_nat (cspec_DrawEventBytes n)) (l := []) trivial) (fn := Tryz.f4) (c := bodyOf Tryz.f4) (by kernel_rfl) (by kernel_rfl) (by kernel_rfl) (.eq (l := []) (by kernel_rfl) trivial) (shs := Hspec_DrawEventBytes) (S := Sspec_DrawEventBytes) (h1 := by kernel_rfl) fun R p k => ?_
  unfold Kspec_DrawEventBytes
  cases h : (PkS.un Sspec_DrawEventBytes p) with
  | none => rfl
  | some d =>
    obtain ⟨x0, u⟩ := (d : (List Int) × Unit)
    have hp := PkS.un_pack h
    subst hp
    exact (espec_DrawEventBytes @spec_DrawGoodEvent n x0 k).symm

/-! ### loop.example/g00269/impl.in -/
theorem cimpl_in (n : Nat) : AllOk Tryz.prog [] := trivial
@[reducible] def Simpl_in : PkS := ⟨[.one (.int .i64), .one (.int .i64), .one (.int .i64)], []⟩
@[reducible] def Timpl_in : PkS := ⟨[.one (.bool), .one (.dead), .one (.dead), .one (.dead)], []⟩
def Himpl_in : List Sh := [.one .any, .skip, .skip, .skip]
def Kimpl_in (g : ∀ {R : Type}, Nat → Int → Int → Int → (Bool → Option R) → Option R) (n : Nat) : KPs := fun R p k => match (PkS.un Simpl_in p : Option (Int × Int × Int × Unit)) with
  | some (x0, x1, x2, _) => g n x0 x1 x2 (fun r0 => k (PkS.pack Timpl_in (r0, ())))
  | none => none
theorem eimpl_in  {R : Type} (n : Nat) (x0 : Int) (x1 : Int) (x2 : Int) (k : Pk → Option R) : evF tt sig (mkK [] R) (mkL (mkK []) [] R) Tryz.f19 Himpl_in (PkS.pack Simpl_in (x0, x1, x2, ())) k = (fun (k : Bool → Option R) => (bif (decide (x0 ≥ x1)) then k (decide (x0 ≤ x2)) else k false)) (fun r0 => k (PkS.pack Timpl_in (r0, ()))) := by kernel_rfl
theorem okimpl_in (n : Nat) : FnOk Tryz.prog 19 (Kimpl_in @impl_in n) := by
  refine fn_ok (sig := sig) mixed ttok (mkK_nat (cimpl_in n)) (mkK_ok (cimpl_in n)) (mkL_nat (mkK_nat (cimpl_in n)) (l := []) trivial) (fn := Tryz.f19) (c := bodyOf Tryz.f19) (by kernel_rfl) (by kernel_rfl) (by kernel_rfl) (.eq (l := []) (by kernel_rfl) trivial) (shs := Himpl_in) (S := Simpl_in) (h1 := by kernel_rfl) fun R p k => ?_
  unfold Kimpl_in
  cases h : (PkS.un Simpl_in p) with
  | none => rfl
  | some d =>
    obtain ⟨x0, x1, x2, u⟩ := (d : Int × Int × Int × Unit)
    have hp := PkS.un_pack h
    subst hp
    exact (eimpl_in  n x0 x1 x2 k).symm

/-! ### loop.example/g00269/impl.isVersion -/
theorem cimpl_isVersion (n : Nat) : AllOk Tryz.prog [(19, Kimpl_in @impl_in n)] := ⟨okimpl_in n, trivial⟩
@[reducible] def Simpl_isVersion : PkS := ⟨[.one (.int .i64)], []⟩
@[reducible] def Timpl_isVersion : PkS := ⟨[.one (.bool), .one (.dead)], []⟩
def Himpl_isVersion : List Sh := [.one .any, .skip]
def Kimpl_isVersion (g : ∀ {R : Type}, Nat → Int → (Bool → Option R) → Option R) (n : Nat) : KPs := fun R p k => match (PkS.un Simpl_isVersion p : Option (Int × Unit)) with
  | some (x0, _) => g n x0 (fun r0 => k (PkS.pack Timpl_isVersion (r0, ())))
  | none => none
theorem eimpl_isVersion (impl_in : ∀ {R : Type}, Nat → Int → Int → Int → (Bool → Option R) → Option R) {R : Type} (n : Nat) (x0 : Int) (k : Pk → Option R) : evF tt sig (mkK [(19, Kimpl_in @impl_in n)] R) (mkL (mkK [(19, Kimpl_in @impl_in n)]) [] R) Tryz.f20 Himpl_isVersion (PkS.pack Simpl_isVersion (x0, ())) k = (fun (k : Bool → Option R) => (impl_in n x0 0 1000000 fun r1 => k r1)) (fun r0 => k (PkS.pack Timpl_isVersion (r0, ()))) := by kernel_rfl
theorem okimpl_isVersion (n : Nat) : FnOk Tryz.prog 20 (Kimpl_isVersion @impl_isVersion n) := by
  refine fn_ok (sig := sig) mixed ttok (mkK_nat (cimpl_isVersion n)) (mkK_ok (cimpl_isVersion n)) (mkL_nat (mkK_nat (cimpl_isVersion n)) (l := []) trivial) (fn := Tryz.f20) (c := bodyOf Tryz.f20) (by kernel_rfl) (by kernel_rfl) (by kernel_rfl) (.eq (l := []) (by kernel_rfl) trivial) (shs := Himpl_isVersion) (S := Simpl_isVersion) (h1 := by kernel_rfl) fun R p k => ?_
  unfold Kimpl_isVersion
  cases h : (PkS.un Simpl_isVersion p) with
  | none => rfl
  | some d =>
    obtain ⟨x0, u⟩ := (d : Int × Unit)
    have hp := PkS.un_pack h
    subst hp
    exact (eimpl_isVersion @impl_in n x0 k).symm

/-! ### loop.example/g00269/impl.goodKind -/
theorem cimpl_goodKind (n : Nat) : AllOk Tryz.prog [(19, Kimpl_in @impl_in n)] := ⟨okimpl_in n, trivial⟩
@[reducible] def Simpl_goodKind : PkS := ⟨[.one (.int .i64)], []⟩
@[reducible] def Timpl_goodKind : PkS := ⟨[.one (.bool), .one (.dead)], []⟩
def Himpl_goodKind : List Sh := [.one .any, .skip]
def Kimpl_goodKind (g : ∀ {R : Type}, Nat → Int → (Bool → Option R) → Option R) (n : Nat) : KPs := fun R p k => match (PkS.un Simpl_goodKind p : Option (Int × Unit)) with
  | some (x0, _) => g n x0 (fun r0 => k (PkS.pack Timpl_goodKind (r0, ())))
  | none => none
theorem eimpl_goodKind (impl_in : ∀ {R : Type}, Nat → Int → Int → Int → (Bool → Option R) → Option R) {R : Type} (n : Nat) (x0 : Int) (k : Pk → Option R) : evF tt sig (mkK [(19, Kimpl_in @impl_in n)] R) (mkL (mkK [(19, Kimpl_in @impl_in n)]) [] R) Tryz.f21 Himpl_goodKind (PkS.pack Simpl_goodKind (x0, ())) k = (fun (k : Bool → Option R) => (impl_in n x0 1 6 fun r1 => k r1)) (fun r0 => k (PkS.pack Timpl_goodKind (r0, ()))) := by kernel_rfl
theorem okimpl_goodKind (n : Nat) : FnOk Tryz.prog 21 (Kimpl_goodKind @impl_goodKind n) := by
  refine fn_ok (sig := sig) mixed ttok (mkK_nat (cimpl_goodKind n)) (mkK_ok (cimpl_goodKind n)) (mkL_nat (mkK_nat (cimpl_goodKind n)) (l := []) trivial) (fn := Tryz.f21) (c := bodyOf Tryz.f21) (by kernel_rfl) (by kernel_rfl) (by kernel_rfl) (.eq (l := []) (by kernel_rfl) trivial) (shs := Himpl_goodKind) (S := Simpl_goodKind) (h1 := by kernel_rfl) fun R p k => ?_
  unfold Kimpl_goodKind
  cases h : (PkS.un Simpl_goodKind p) with
  | none => rfl
  | some d =>
    obtain ⟨x0, u⟩ := (d : Int × Unit)
    have hp := PkS.un_pack h
    subst hp
    exact (eimpl_goodKind @impl_in n x0 k).symm

/-! ### strings.Trim -/
theorem cstrings_Trim (n : Nat) : AllOk Tryz.prog [] := trivial
@[reducible] def Sstrings_Trim : PkS := ⟨[.one (.str), .one (.str)], []⟩
@[reducible] def Tstrings_Trim : PkS := ⟨[.one (.str), .one (.dead), .one (.dead)], []⟩
def Kstrings_Trim (g : ∀ {R : Type}, Nat → ByteArray → ByteArray → (ByteArray → Option R) → Option R) (n : Nat) : KPs := fun R p k => match (PkS.un Sstrings_Trim p : Option (ByteArray × ByteArray × Unit)) with
  | some (x0, x1, _) => g n x0 x1 (fun r0 => k (PkS.pack Tstrings_Trim (r0, ())))
  | none => none
def ren160 : Go.Shelf.Ren := ⟨fun n => match n with
  | 160 => 36
  | 232 => 49
  | 231 => 48
  | 227 => 50
  | 234 => 52
  | 233 => 51
  | 236 => 54
  | 235 => 53
  | 228 => 63
  | 271 => 66
  | 151 => 65
  | 197 => 64
  | 120 => 83
  | 152 => 82
  | 260 => 81
  | 137 => 96
  | 119 => 97
  | 224 => 86
  | 225 => 85
  | 217 => 84
  | 266 => 98
  | _ => 0, fun n => match n with
  | 0 => 0
  | 3 => 3
  | 4 => 4
  | 5 => 5
  | 9 => 9
  | 21 => 21
  | 46 => 69
  | 105 => 88
  | 116 => 77
  | 117 => 78
  | 119 => 117
  | 124 => 81
  | 138 => 119
  | 139 => 120
  | _ => 0, fun n => match n with
  | 3 => 4
  | 4 => 5
  | _ => 0⟩
theorem lays160 : Go.Proofs.Lays.n160 Tryz.prog ren160 where
  mixed := by kernel_rfl
  f119 := by kernel_rfl
  f120 := by kernel_rfl
  f137 := by kernel_rfl
  f151 := by kernel_rfl
  f152 := by kernel_rfl
  f160 := by kernel_rfl
  f197 := by kernel_rfl
  f217 := by kernel_rfl
  f224 := by kernel_rfl
  f225 := by kernel_rfl
  f227 := by kernel_rfl
  f228 := by kernel_rfl
  f231 := by kernel_rfl
  f232 := by kernel_rfl
  f233 := by kernel_rfl
  f234 := by kernel_rfl
  f235 := by kernel_rfl
  f236 := by kernel_rfl
  f260 := by kernel_rfl
  f266 := by kernel_rfl
  f271 := by kernel_rfl
  t0 := by kernel_rfl
  a0 w := by kernel_rfl
  z0 w := by kernel_rfl
  v0 w := by kernel_rfl
  t3 := by kernel_rfl
  a3 w := by kernel_rfl
  z3 w := by kernel_rfl
  v3 w := by kernel_rfl
  t4 := by kernel_rfl
  a4 w := by kernel_rfl
  z4 w := by kernel_rfl
  v4 w := by kernel_rfl
  t5 := by kernel_rfl
  a5 w := by kernel_rfl
  z5 w := by kernel_rfl
  v5 w := by kernel_rfl
  t9 := by kernel_rfl
  a9 w := by kernel_rfl
  z9 w := by kernel_rfl
  v9 w := by kernel_rfl
  t21 := by kernel_rfl
  a21 w := by kernel_rfl
  z21 w := by kernel_rfl
  v21 w := by kernel_rfl
  t46 := by kernel_rfl
  a46 w := by kernel_rfl
  z46 w := by kernel_rfl
  v46 w := by kernel_rfl
  t105 := by kernel_rfl
  a105 w := by kernel_rfl
  z105 w := by kernel_rfl
  v105 w := by kernel_rfl
  t116 := by kernel_rfl
  a116 w := by kernel_rfl
  z116 w := by kernel_rfl
  t117 := by kernel_rfl
  a117 w := by kernel_rfl
  z117 w := by kernel_rfl
  v117 w := by kernel_rfl
  t119 := by kernel_rfl
  a119 w := by kernel_rfl
  z119 w := by kernel_rfl
  t124 := by kernel_rfl
  a124 w := by kernel_rfl
  z124 w := by kernel_rfl
  v124 w := by kernel_rfl
  t138 := by kernel_rfl
  a138 w := by kernel_rfl
  z138 w := by kernel_rfl
  v138 w := by kernel_rfl
  t139 := by kernel_rfl
  a139 w := by kernel_rfl
  z139 w := by kernel_rfl
  v139 w := by kernel_rfl
  g3 := by kernel_rfl
  g4 := by kernel_rfl
theorem okstrings_Trim (n : Nat) : FnOk Tryz.prog 36 (Kstrings_Trim @strings_Trim n) := by
  have e : Kstrings_Trim @strings_Trim n = trimK := by kernel_rfl
  rw [e]
  exact trim_ok lays160 (by kernel_rfl) rfl (fn := Tryz.f36) (c := bodyOf Tryz.f36) (by kernel_rfl) (by kernel_rfl) (by kernel_rfl)

/-! ### loop.example/g00269/impl.goodName -/
theorem cimpl_goodName (n : Nat) : AllOk Tryz.prog [(36, Kstrings_Trim @strings_Trim n)] := ⟨okstrings_Trim n, trivial⟩
@[reducible] def Simpl_goodName : PkS := ⟨[.one (.str)], []⟩
@[reducible] def Timpl_goodName : PkS := ⟨[.one (.bool), .one (.dead)], []⟩
def Himpl_goodName : List Sh := [.one .any, .skip]
def Kimpl_goodName (g : ∀ {R : Type}, Nat → ByteArray → (Bool → Option R) → Option R) (n : Nat) : KPs := fun R p k => match (PkS.un Simpl_goodName p : Option (ByteArray × Unit)) with
  | some (x0, _) => g n x0 (fun r0 => k (PkS.pack Timpl_goodName (r0, ())))
  | none => none
theorem eimpl_goodName (strings_Trim : ∀ {R : Type}, Nat → ByteArray → ByteArray → (ByteArray → Option R) → Option R) {R : Type} (n : Nat) (x0 : ByteArray) (k : Pk → Option R) : evF tt sig (mkK [(36, Kstrings_Trim @strings_Trim n)] R) (mkL (mkK [(36, Kstrings_Trim @strings_Trim n)]) [] R) Tryz.f22 Himpl_goodName (PkS.pack Simpl_goodName (x0, ())) k = (fun (k : Bool → Option R) => (bif (decide ((x0.size : Int) ≤ 12)) then (strings_Trim n x0 (ByteArray.mk #[97, 98, 99, 100, 101, 102, 103, 104, 105, 106, 107, 108, 109, 110, 111, 112, 113, 114, 115, 116, 117, 118, 119, 120, 121, 122, 48, 49, 50, 51, 52, 53, 54, 55, 56, 57]) fun r1 => k ((ByteArray.toList r1) == (ByteArray.toList (ByteArray.mk #[])))) else k false)) (fun r0 => k (PkS.pack Timpl_goodName (r0, ()))) := by kernel_rfl
theorem okimpl_goodName (n : Nat) : FnOk Tryz.prog 22 (Kimpl_goodName @impl_goodName n) := by
  refine fn_ok (sig := sig) mixed ttok (mkK_nat (cimpl_goodName n)) (mkK_ok (cimpl_goodName n)) (mkL_nat (mkK_nat (cimpl_goodName n)) (l := []) trivial) (fn := Tryz.f22) (c := bodyOf Tryz.f22) (by kernel_rfl) (by kernel_rfl) (by kernel_rfl) (.eq (l := []) (by kernel_rfl) trivial) (shs := Himpl_goodName) (S := Simpl_goodName) (h1 := by kernel_rfl) fun R p k => ?_
  unfold Kimpl_goodName
  cases h : (PkS.un Simpl_goodName p) with
  | none => rfl
  | some d =>
    obtain ⟨x0, u⟩ := (d : ByteArray × Unit)
    have hp := PkS.un_pack h
    subst hp
    exact (eimpl_goodName @strings_Trim n x0 k).symm

/-! ### loop.example/g00269/impl.GoodEvent -/
theorem cimpl_GoodEvent (n : Nat) : AllOk Tryz.prog [(19, Kimpl_in @impl_in n), (20, Kimpl_isVersion @impl_isVersion n), (21, Kimpl_goodKind @impl_goodKind n), (22, Kimpl_goodName @impl_goodName n)] := ⟨okimpl_in n, ⟨okimpl_isVersion n, ⟨okimpl_goodKind n, ⟨okimpl_goodName n, trivial⟩⟩⟩⟩
@[reducible] def Simpl_GoodEvent : PkS := ⟨[.agg [.int .i64, .int .i64, .int .i64, .str]], []⟩
@[reducible] def Timpl_GoodEvent : PkS := ⟨[.one (.bool), .one (.dead)], []⟩
def Himpl_GoodEvent : List Sh := [.one .any, .skip]
def Kimpl_GoodEvent (g : ∀ {R : Type}, Nat → Int → Int → Int → ByteArray → (Bool → Option R) → Option R) (n : Nat) : KPs := fun R p k => match (PkS.un Simpl_GoodEvent p : Option (Int × Int × Int × ByteArray × Unit)) with
  | some (x0, x1, x2, x3, _) => g n x0 x1 x2 x3 (fun r0 => k (PkS.pack Timpl_GoodEvent (r0, ())))
  | none => none
theorem eimpl_GoodEvent (impl_in : ∀ {R : Type}, Nat → Int → Int → Int → (Bool → Option R) → Option R) (impl_isVersion : ∀ {R : Type}, Nat → Int → (Bool → Option R) → Option R) (impl_goodKind : ∀ {R : Type}, Nat → Int → (Bool → Option R) → Option R) (impl_goodName : ∀ {R : Type}, Nat → ByteArray → (Bool → Option R) → Option R) {R : Type} (n : Nat) (x0 : Int) (x1 : Int) (x2 : Int) (x3 : ByteArray) (k : Pk → Option R) : evF tt sig (mkK [(19, Kimpl_in @impl_in n), (20, Kimpl_isVersion @impl_isVersion n), (21, Kimpl_goodKind @impl_goodKind n), (22, Kimpl_goodName @impl_goodName n)] R) (mkL (mkK [(19, Kimpl_in @impl_in n), (20, Kimpl_isVersion @impl_isVersion n), (21, Kimpl_goodKind @impl_goodKind n), (22, Kimpl_goodName @impl_goodName n)]) [] R) Tryz.f7 Himpl_GoodEvent (PkS.pack Simpl_GoodEvent (x0, x1, x2, x3, ())) k = (fun (k : Bool → Option R) => (impl_in n x0 1 1000 fun r1 => (bif r1 then (impl_isVersion n x1 fun r2 => (bif r2 then (impl_goodKind n x2 fun r3 => (bif r3 then (impl_goodName n x3 fun r4 => k r4) else k false)) else k false)) else k false))) (fun r0 => k (PkS.pack Timpl_GoodEvent (r0, ()))) := by kernel_rfl
theorem okimpl_GoodEvent (n : Nat) : FnOk Tryz.prog 7 (Kimpl_GoodEvent @impl_GoodEvent n) := by
  refine fn_ok (sig := sig) mixed ttok (mkK_nat (cimpl_GoodEvent n)) (mkK_ok (cimpl_GoodEvent n)) (mkL_nat (mkK_nat (cimpl_GoodEvent n)) (l := []) trivial) (fn := Tryz.f7) (c := bodyOf Tryz.f7) (by kernel_rfl) (by kernel_rfl) (by kernel_rfl) (.eq (l := []) (by kernel_rfl) trivial) (shs := Himpl_GoodEvent) (S := Simpl_GoodEvent) (h1 := by kernel_rfl) fun R p k => ?_
  unfold Kimpl_GoodEvent
  cases h : (PkS.un Simpl_GoodEvent p) with
  | none => rfl
  | some d =>
    obtain ⟨x0, x1, x2, x3, u⟩ := (d : Int × Int × Int × ByteArray × Unit)
    have hp := PkS.un_pack h
    subst hp
    exact (eimpl_GoodEvent @impl_in @impl_isVersion @impl_goodKind @impl_goodName n x0 x1 x2 x3 k).symm

/-! ### strconv.Itoa -/
theorem cstrconv_Itoa (n : Nat) : AllOk Tryz.prog [] := trivial
@[reducible] def Sstrconv_Itoa : PkS := ⟨[.one (.int .i64)], []⟩
@[reducible] def Tstrconv_Itoa : PkS := ⟨[.one (.str), .one (.dead)], []⟩
def Kstrconv_Itoa (g : ∀ {R : Type}, Nat → Int → (ByteArray → Option R) → Option R) (n : Nat) : KPs := fun R p k => match (PkS.un Sstrconv_Itoa p : Option (Int × Unit)) with
  | some (x0, _) => g n x0 (fun r0 => k (PkS.pack Tstrconv_Itoa (r0, ())))
  | none => none
theorem okstrconv_Itoa (n : Nat) : FnOk Tryz.prog 32 (Kstrconv_Itoa @strconv_Itoa n) := by
  have e : Kstrconv_Itoa @strconv_Itoa n = itoaK := by kernel_rfl
  rw [e]
  exact itoa_ok laysItoa (g := 3) (by simp [glob]) named3 rfl (fn := Tryz.f32) (c := bodyOf Tryz.f32) (by kernel_rfl) (by kernel_rfl) (by kernel_rfl)

/-! ### strings.Join -/
theorem cstrings_Join (n : Nat) : AllOk Tryz.prog [] := trivial
@[reducible] def Sstrings_Join : PkS := ⟨[.one (.ro .str), .one (.str)], []⟩
@[reducible] def Tstrings_Join : PkS := ⟨[.one (.str), .one (.dead), .one (.dead)], []⟩
def Kstrings_Join (g : ∀ {R : Type}, Nat → (List ByteArray) → ByteArray → (ByteArray → Option R) → Option R) (n : Nat) : KPs := fun R p k => match (PkS.un Sstrings_Join p : Option ((List ByteArray) × ByteArray × Unit)) with
  | some (x0, x1, _) => g n x0 x1 (fun r0 => k (PkS.pack Tstrings_Join (r0, ())))
  | none => none
theorem okstrings_Join (n : Nat) : FnOk Tryz.prog 31 (Kstrings_Join @strings_Join n) := by
  have e : Kstrings_Join @strings_Join n = joinK := by kernel_rfl
  rw [e]
  exact join_ok laysJoin extraJoin rfl (fn := Tryz.f31) (c := bodyOf Tryz.f31) (by kernel_rfl) (by kernel_rfl) (by kernel_rfl)

/-! ### loop.example/g00269/impl.eventText -/
theorem cimpl_eventText (n : Nat) : AllOk Tryz.prog [(32, Kstrconv_Itoa @strconv_Itoa n), (31, Kstrings_Join @strings_Join n)] := ⟨okstrconv_Itoa n, ⟨okstrings_Join n, trivial⟩⟩
@[reducible] def Simpl_eventText : PkS := ⟨[.agg [.int .i64, .int .i64, .int .i64, .str]], []⟩
@[reducible] def Timpl_eventText : PkS := ⟨[.one (.str), .one (.dead)], []⟩
def Himpl_eventText : List Sh := [.one .any, .skip]
def Kimpl_eventText (g : ∀ {R : Type}, Nat → Int → Int → Int → ByteArray → (ByteArray → Option R) → Option R) (n : Nat) : KPs := fun R p k => match (PkS.un Simpl_eventText p : Option (Int × Int × Int × ByteArray × Unit)) with
  | some (x0, x1, x2, x3, _) => g n x0 x1 x2 x3 (fun r0 => k (PkS.pack Timpl_eventText (r0, ())))
  | none => none
theorem eimpl_eventText (strconv_Itoa : ∀ {R : Type}, Nat → Int → (ByteArray → Option R) → Option R) (strings_Join : ∀ {R : Type}, Nat → (List ByteArray) → ByteArray → (ByteArray → Option R) → Option R) {R : Type} (n : Nat) (x0 : Int) (x1 : Int) (x2 : Int) (x3 : ByteArray) (k : Pk → Option R) : evF tt sig (mkK [(32, Kstrconv_Itoa @strconv_Itoa n), (31, Kstrings_Join @strings_Join n)] R) (mkL (mkK [(32, Kstrconv_Itoa @strconv_Itoa n), (31, Kstrings_Join @strings_Join n)]) [] R) Tryz.f16 Himpl_eventText (PkS.pack Simpl_eventText (x0, x1, x2, x3, ())) k = (fun (k : ByteArray → Option R) => (strconv_Itoa n x2 fun r1 => (strconv_Itoa n x0 fun r2 => (strconv_Itoa n x1 fun r3 => (strings_Join n ([r1, r2, r3, x3, (ByteArray.mk #[])]) (ByteArray.mk #[46]) fun r4 => k r4))))) (fun r0 => k (PkS.pack Timpl_eventText (r0, ()))) := by kernel_rfl
theorem okimpl_eventText (n : Nat) : FnOk Tryz.prog 16 (Kimpl_eventText @impl_eventText n) := by
  refine fn_ok (sig := sig) mixed ttok (mkK_nat (cimpl_eventText n)) (mkK_ok (cimpl_eventText n)) (mkL_nat (mkK_nat (cimpl_eventText n)) (l := []) trivial) (fn := Tryz.f16) (c := bodyOf Tryz.f16) (by kernel_rfl) (by kernel_rfl) (by kernel_rfl) (.eq (l := []) (by kernel_rfl) trivial) (shs := Himpl_eventText) (S := Simpl_eventText) (h1 := by kernel_rfl) fun R p k => ?_
  unfold Kimpl_eventText
  cases h : (PkS.un Simpl_eventText p) with
  | none => rfl
  | some d =>
    obtain ⟨x0, x1, x2, x3, u⟩ := (d : Int × Int × Int × ByteArray × Unit)
    have hp := PkS.un_pack h
    subst hp
    exact (eimpl_eventText @strconv_Itoa @strings_Join n x0 x1 x2 x3 k).symm

/-! ### loop.example/g00269/impl.EventBytes -/
theorem cimpl_EventBytes (n : Nat) : AllOk Tryz.prog [(7, Kimpl_GoodEvent @impl_GoodEvent n), (16, Kimpl_eventText @impl_eventText n)] := ⟨okimpl_GoodEvent n, ⟨okimpl_eventText n, trivial⟩⟩
@[reducible] def Simpl_EventBytes : PkS := ⟨[.agg [.int .i64, .int .i64, .int .i64, .str]], []⟩
@[reducible] def Timpl_EventBytes : PkS := ⟨[.tup [(false, [.str]), (false, [.bool])], .one (.dead)], []⟩
def Himpl_EventBytes : List Sh := [.tup [(false, [.any]), (false, [.any])], .skip]
def Kimpl_EventBytes (g : ∀ {R : Type}, Nat → Int → Int → Int → ByteArray → (ByteArray → Bool → Option R) → Option R) (n : Nat) : KPs := fun R p k => match (PkS.un Simpl_EventBytes p : Option (Int × Int × Int × ByteArray × Unit)) with
  | some (x0, x1, x2, x3, _) => g n x0 x1 x2 x3 (fun r0 r1 => k (PkS.pack Timpl_EventBytes (r0, r1, ())))
  | none => none
theorem eimpl_EventBytes (impl_GoodEvent : ∀ {R : Type}, Nat → Int → Int → Int → ByteArray → (Bool → Option R) → Option R) (impl_eventText : ∀ {R : Type}, Nat → Int → Int → Int → ByteArray → (ByteArray → Option R) → Option R) {R : Type} (n : Nat) (x0 : Int) (x1 : Int) (x2 : Int) (x3 : ByteArray) (k : Pk → Option R) : evF tt sig (mkK [(7, Kimpl_GoodEvent @impl_GoodEvent n), (16, Kimpl_eventText @impl_eventText n)] R) (mkL (mkK [(7, Kimpl_GoodEvent @impl_GoodEvent n), (16, Kimpl_eventText @impl_eventText n)]) [] R) Tryz.f5 Himpl_EventBytes (PkS.pack Simpl_EventBytes (x0, x1, x2, x3, ())) k = (fun (k : ByteArray → Bool → Option R) => (impl_GoodEvent n x0 x1 x2 x3 fun r1 => (bif (!r1) then k (ByteArray.mk #[]) false else (impl_eventText n x0 x1 x2 x3 fun r2 => k r2 true)))) (fun r0 r1 => k (PkS.pack Timpl_EventBytes (r0, r1, ()))) := by kernel_rfl
theorem okimpl_EventBytes (n : Nat) : FnOk Tryz.prog 5 (Kimpl_EventBytes @impl_EventBytes n) := by
  refine fn_ok (sig := sig) mixed ttok (mkK_nat (cimpl_EventBytes n)) (mkK_ok (cimpl_EventBytes n)) (mkL_nat (mkK_nat (cimpl_EventBytes n)) (l := []) trivial) (fn := Tryz.f5) (c := bodyOf Tryz.f5) (by kernel_rfl) (by kernel_rfl) (by kernel_rfl) (.eq (l := []) (by kernel_rfl) trivial) (shs := Himpl_EventBytes) (S := Simpl_EventBytes) (h1 := by kernel_rfl) fun R p k => ?_
  unfold Kimpl_EventBytes
  cases h : (PkS.un Simpl_EventBytes p) with
  | none => rfl
  | some d =>
    obtain ⟨x0, x1, x2, x3, u⟩ := (d : Int × Int × Int × ByteArray × Unit)
    have hp := PkS.un_pack h
    subst hp
    exact (eimpl_EventBytes @impl_GoodEvent @impl_eventText n x0 x1 x2 x3 k).symm

/-! ### loop.example/g00269/spec.l1In -/
theorem cspec_l1In (n : Nat) : AllOk Tryz.prog [] := trivial
@[reducible] def Sspec_l1In : PkS := ⟨[.one (.int .i64), .one (.int .i64), .one (.int .i64)], []⟩
@[reducible] def Tspec_l1In : PkS := ⟨[.one (.bool), .one (.dead), .one (.dead), .one (.dead)], []⟩
def Hspec_l1In : List Sh := [.one .any, .skip, .skip, .skip]
def Kspec_l1In (g : ∀ {R : Type}, Nat → Int → Int → Int → (Bool → Option R) → Option R) (n : Nat) : KPs := fun R p k => match (PkS.un Sspec_l1In p : Option (Int × Int × Int × Unit)) with
  | some (x0, x1, x2, _) => g n x0 x1 x2 (fun r0 => k (PkS.pack Tspec_l1In (r0, ())))
  | none => none
theorem espec_l1In  {R : Type} (n : Nat) (x0 : Int) (x1 : Int) (x2 : Int) (k : Pk → Option R) : evF tt sig (mkK [] R) (mkL (mkK []) [] R) Tryz.f33 Hspec_l1In (PkS.pack Sspec_l1In (x0, x1, x2, ())) k = (fun (k : Bool → Option R) => (bif (decide (x0 ≥ x1)) then k (decide (x0 ≤ x2)) else k false)) (fun r0 => k (PkS.pack Tspec_l1In (r0, ()))) := by kernel_rfl
theorem okspec_l1In (n : Nat) : FnOk Tryz.prog 33 (Kspec_l1In @spec_l1In n) := by
  refine fn_ok (sig := sig) mixed ttok (mkK_nat (cspec_l1In n)) (mkK_ok (cspec_l1In n)) (mkL_nat (mkK_nat (cspec_l1In n)) (l := []) trivial) (fn := Tryz.f33) (c := bodyOf Tryz.f33) (by kernel_rfl) (by kernel_rfl) (by kernel_rfl) (.eq (l := []) (by kernel_rfl) trivial) (shs := Hspec_l1In) (S := Sspec_l1In) (h1 := by kernel_rfl) fun R p k => ?_
  unfold Kspec_l1In
  cases h : (PkS.un Sspec_l1In p) with
  | none => rfl
  | some d =>
    obtain ⟨x0, x1, x2, u⟩ := (d : Int × Int × Int × Unit)
    have hp := PkS.un_pack h
    subst hp
    exact (espec_l1In  n x0 x1 x2 k).symm

/-! ### loop.example/g00269/spec.l1Name -/
theorem cspec_l1Name (n : Nat) : AllOk Tryz.prog [] := trivial
@[reducible] def Sspec_l1Name_l2 : PkS := ⟨[.one (.str), .one (.int .i64), .one (.dead)], []⟩
@[reducible] def Tspec_l1Name_l2_0 : PkS := ⟨[.one (.bool), .one (.dead)], []⟩
@[reducible] def Tspec_l1Name_l2_1 : PkS := ⟨[.one (.str), .one (.dead)], []⟩
def Dspec_l1Name_l2 : LoopD := ⟨36, [0, 3], [.one .any, .one .any, .skip], fun x => match x with
  | .ret => some ([2], [.one .any, .skip])
  | .exit 0 => some ([0], [.one .any, .skip])
  | _ => none⟩
def Pspec_l1Name_l2 (g : ∀ {R : Type}, Nat → ByteArray → Int → (Bool → Option R) → (ByteArray → Option R) → Option R) (n : Nat) : LPs := fun R q kk => match (PkS.un Sspec_l1Name_l2 q : Option (ByteArray × Int × Unit)) with
  | some (y2_0, y2_1, _) => g n y2_0 y2_1 (fun r0 => kk .ret (PkS.pack Tspec_l1Name_l2_0 (r0, ()))) (fun r0 => kk (.exit 0) (PkS.pack Tspec_l1Name_l2_1 (r0, ())))
  | none => none
theorem espec_l1Name_l2 (spec_l1Name_l2 : ∀ {R : Type}, Nat → ByteArray → Int → (Bool → Option R) → (ByteArray → Option R) → Option R) {R : Type} (n : Nat) (y2_0 : ByteArray) (y2_1 : Int) (kk : Ex → Pk → Option R) : Dspec_l1Name_l2.step tt sig (mkK [] R) (mkL (mkK []) [] R) (loopIn 2 (bodyOf Tryz.f34)) (fun q' => Pspec_l1Name_l2 @spec_l1Name_l2 n R q' kk) (PkS.pack Sspec_l1Name_l2 (y2_0, y2_1, ())) kk = (fun (kret : Bool → Option R) (kexit0 : ByteArray → Option R) => (bif (decide (y2_1 < (y2_0.size : Int))) then (bif decide (0 ≤ y2_1) then (bif decide (y2_1 < (y2_0.size : Int)) then (bif (decide (((y2_0.data.getD (Int.toNat y2_1) 0).toNat : Int) ≥ 97)) then (bif decide (0 ≤ y2_1) then (bif decide (y2_1 < (y2_0.size : Int)) then (bif (decide (((y2_0.data.getD (Int.toNat y2_1) 0).toNat : Int) ≤ 122)) then spec_l1Name_l2 n y2_0 (IntKind.wrap .i64 (y2_1 + 1)) kret kexit0 else (bif decide (0 ≤ y2_1) then (bif decide (y2_1 < (y2_0.size : Int)) then (bif (decide (((y2_0.data.getD (Int.toNat y2_1) 0).toNat : Int) ≥ 48)) then (bif decide (0 ≤ y2_1) then (bif decide (y2_1 < (y2_0.size : Int)) then (bif (!(decide (((y2_0.data.getD (Int.toNat y2_1) 0).toNat : Int) ≤ 57))) then kret false else spec_l1Name_l2 n y2_0 (IntKind.wrap .i64 (y2_1 + 1)) kret kexit0) else none) else none) else kret false) else none) else none)) else none) else none) else (bif decide (0 ≤ y2_1) then (bif decide (y2_1 < (y2_0.size : Int)) then (bif (decide (((y2_0.data.getD (Int.toNat y2_1) 0).toNat : Int) ≥ 48)) then (bif decide (0 ≤ y2_1) then (bif decide (y2_1 < (y2_0.size : Int)) then (bif (!(decide (((y2_0.data.getD (Int.toNat y2_1) 0).toNat : Int) ≤ 57))) then kret false else spec_l1Name_l2 n y2_0 (IntKind.wrap .i64 (y2_1 + 1)) kret kexit0) else none) else none) else kret false) else none) else none)) else none) else none) else kexit0 y2_0)) (fun r0 => kk .ret (PkS.pack Tspec_l1Name_l2_0 (r0, ()))) (fun r0 => kk (.exit 0) (PkS.pack Tspec_l1Name_l2_1 (r0, ()))) := by kernel_rfl
theorem lespec_l1Name_l2 : LoopEq tt sig (fun n => mkK []) (fun n => mkL (mkK []) []) Dspec_l1Name_l2 Sspec_l1Name_l2 (loopIn 2 (bodyOf Tryz.f34)) (Pspec_l1Name_l2 @spec_l1Name_l2) where
  zero R q kk := by unfold Pspec_l1Name_l2; cases (PkS.un Sspec_l1Name_l2 q) <;> rfl
  succ n R q kk := by
    unfold Pspec_l1Name_l2
    cases h : (PkS.un Sspec_l1Name_l2 q) with
    | none => rfl
    | some d =>
      obtain ⟨y2_0, y2_1, u⟩ := (d : ByteArray × Int × Unit)
      have hp := PkS.un_pack h
      subst hp
      exact (espec_l1Name_l2 @spec_l1Name_l2 n y2_0 y2_1 kk).symm
theorem nlspec_l1Name_l2 : ∀ n, NatLP (Pspec_l1Name_l2 @spec_l1Name_l2 n) := lespec_l1Name_l2.nat (fun n => mkK_nat (cspec_l1Name n)) fun n => mkL_nat (mkK_nat (cspec_l1Name n)) (l := []) trivial
theorem inspec_l1Name_l2 (n : Nat) (R : Type) : LoopsOk Tryz.prog (mkL (mkK []) [] R) (loopIn 2 (bodyOf Tryz.f34)) := .eq (l := []) (by kernel_rfl) trivial
theorem lkspec_l1Name_l2 (n : Nat) (R : Type) (L0 : LK R) (h0 : ∀ id, firstRegion (loopIn 2 (bodyOf Tryz.f34)) = some id → L0 id = Dspec_l1Name_l2.oracle (mkK [] R) (Pspec_l1Name_l2 @spec_l1Name_l2 n R)) : LoopOk Tryz.prog L0 (loopIn 2 (bodyOf Tryz.f34)) :=
  lespec_l1Name_l2.ok mixed ttok (fun n => mkK_nat (cspec_l1Name n)) (fun n => mkK_ok (cspec_l1Name n)) (fun n => inspec_l1Name_l2 n R) (mkK_nat (cspec_l1Name n)) h0
@[reducible] def Sspec_l1Name : PkS := ⟨[.one (.str)], []⟩
@[reducible] def Tspec_l1Name : PkS := ⟨[.one (.bool), .one (.dead)], []⟩
def Hspec_l1Name : List Sh := [.one .any, .skip]
def Kspec_l1Name (g : ∀ {R : Type}, Nat → ByteArray → (Bool → Option R) → Option R) (n : Nat) : KPs := fun R p k => match (PkS.un Sspec_l1Name p : Option (ByteArray × Unit)) with
  | some (x0, _) => g n x0 (fun r0 => k (PkS.pack Tspec_l1Name (r0, ())))
  | none => none
theorem espec_l1Name (spec_l1Name_l2 : ∀ {R : Type}, Nat → ByteArray → Int → (Bool → Option R) → (ByteArray → Option R) → Option R) {R : Type} (n : Nat) (x0 : ByteArray) (k : Pk → Option R) : evF tt sig (mkK [] R) (mkL (mkK []) [(2, Dspec_l1Name_l2, Pspec_l1Name_l2 @spec_l1Name_l2 n)] R) Tryz.f34 Hspec_l1Name (PkS.pack Sspec_l1Name (x0, ())) k = (fun (k : Bool → Option R) => (spec_l1Name_l2 n x0 0 (fun r1 => k r1) (fun r2 => k (decide ((r2.size : Int) ≤ 12))))) (fun r0 => k (PkS.pack Tspec_l1Name (r0, ()))) := by kernel_rfl
theorem okspec_l1Name (n : Nat) : FnOk Tryz.prog 34 (Kspec_l1Name @spec_l1Name n) := by
  refine fn_ok (sig := sig) mixed ttok (mkK_nat (cspec_l1Name n)) (mkK_ok (cspec_l1Name n)) (mkL_nat (mkK_nat (cspec_l1Name n)) (l := [(2, Dspec_l1Name_l2, Pspec_l1Name_l2 @spec_l1Name_l2 n)]) ⟨nlspec_l1Name_l2 n, trivial⟩) (fn := Tryz.f34) (c := bodyOf Tryz.f34) (by kernel_rfl) (by kernel_rfl) (by kernel_rfl) (.eq (l := [.lo (loopIn 2 (bodyOf Tryz.f34))]) (by kernel_rfl) ⟨(lkspec_l1Name_l2 n _ _ (at_id (i := 2) (by kernel_rfl) rfl)), trivial⟩) (shs := Hspec_l1Name) (S := Sspec_l1Name) (h1 := by kernel_rfl) fun R p k => ?_
  unfold Kspec_l1Name
  cases h : (PkS.un Sspec_l1Name p) with
  | none => rfl
  | some d =>
    obtain ⟨x0, u⟩ := (d : ByteArray × Unit)
    have hp := PkS.un_pack h
    subst hp
    exact (espec_l1Name @spec_l1Name_l2 n x0 k).symm

/-! ### loop.example/g00269/spec.GoodEvent -/
theorem cspec_GoodEvent (n : Nat) : AllOk Tryz.prog [(33, Kspec_l1In @spec_l1In n), (34, Kspec_l1Name @spec_l1Name n)] := ⟨okspec_l1In n, ⟨okspec_l1Name n, trivial⟩⟩
@[reducible] def Sspec_GoodEvent : PkS := ⟨[.agg [.int .i64, .int .i64, .int .i64, .str]], []⟩
@[reducible] def Tspec_GoodEvent : PkS := ⟨[.one (.bool), .one (.dead)], []⟩
def Hspec_GoodEvent : List Sh := [.one .any, .skip]
def Kspec_GoodEvent (g : ∀ {R : Type}, Nat → Int → Int → Int → ByteArray → (Bool → Option R) → Option R) (n : Nat) : KPs := fun R p k => match (PkS.un Sspec_GoodEvent p : Option (Int × Int × Int × ByteArray × Unit)) with
  | some (x0, x1, x2, x3, _) => g n x0 x1 x2 x3 (fun r0 => k (PkS.pack Tspec_GoodEvent (r0, ())))
  | none => none
theorem espec_GoodEvent (spec_l1In : ∀ {R : Type}, Nat → Int → Int → Int → (Bool → Option R) → Option R) (spec_l1Name : ∀ {R : Type}, Nat → ByteArray → (Bool → Option R) → Option R) {R : Type} (n : Nat) (x0 : Int) (x1 : Int) (x2 : Int) (x3 : ByteArray) (k : Pk → Option R) : evF tt sig (mkK [(33, Kspec_l1In @spec_l1In n), (34, Kspec_l1Name @spec_l1Name n)] R) (mkL (mkK [(33, Kspec_l1In @spec_l1In n), (34, Kspec_l1Name @spec_l1Name n)]) [] R) Tryz.f17 Hspec_GoodEvent (PkS.pack Sspec_GoodEvent (x0, x1, x2, x3, ())) k = (fun (k : Bool → Option R) => (spec_l1In n x0 1 1000 fun r1 => (bif r1 then (spec_l1In n x1 0 1000000 fun r2 => (bif r2 then (spec_l1In n x2 1 6 fun r3 => (bif r3 then (spec_l1Name n x3 fun r4 => k r4) else k false)) else k false)) else k false))) (fun r0 => k (PkS.pack Tspec_GoodEvent (r0, ()))) := by kernel_rfl
theorem okspec_GoodEvent (n : Nat) : FnOk Tryz.prog 17 (Kspec_GoodEvent @spec_GoodEvent n) := by
  refine fn_ok (sig := sig) mixed ttok (mkK_nat (cspec_GoodEvent n)) (mkK_ok (cspec_GoodEvent n)) (mkL_nat (mkK_nat (cspec_GoodEvent n)) (l := []) trivial) (fn := Tryz.f17) (c := bodyOf Tryz.f17) (by kernel_rfl) (by kernel_rfl) (by kernel_rfl) (.eq (l := []) (by kernel_rfl) trivial) (shs := Hspec_GoodEvent) (S := Sspec_GoodEvent) (h1 := by kernel_rfl) fun R p k => ?_
  unfold Kspec_GoodEvent
  cases h : (PkS.un Sspec_GoodEvent p) with
  | none => rfl
  | some d =>
    obtain ⟨x0, x1, x2, x3, u⟩ := (d : Int × Int × Int × ByteArray × Unit)
    have hp := PkS.un_pack h
    subst hp
    exact (espec_GoodEvent @spec_l1In @spec_l1Name n x0 x1 x2 x3 k).symm

/-! ### loop.example/g00269/spec.l1Num -/
theorem cspec_l1Num (n : Nat) : AllOk Tryz.prog [] := trivial
@[reducible] def Sspec_l1Num : PkS := ⟨[.one (.int .i64)], []⟩
@[reducible] def Tspec_l1Num : PkS := ⟨[.one (.str), .one (.dead)], []⟩
def Hspec_l1Num : List Sh := [.one .any, .skip]
def Kspec_l1Num (g : ∀ {R : Type}, Nat → Int → (ByteArray → Option R) → Option R) (n : Nat) : KPs := fun R p k => match (PkS.un Sspec_l1Num p : Option (Int × Unit)) with
  | some (x0, _) => g n x0 (fun r0 => k (PkS.pack Tspec_l1Num (r0, ())))
  | none => none
theorem dspec_l1Num (n : Nat) (ih : FnOk Tryz.prog 35 (Kspec_l1Num @spec_l1Num n)) : AllOk Tryz.prog [(35, Kspec_l1Num @spec_l1Num n)] := ⟨ih, trivial⟩
theorem espec_l1Num (spec_l1Num : ∀ {R : Type}, Nat → Int → (ByteArray → Option R) → Option R) {R : Type} (n : Nat) (x0 : Int) (k : Pk → Option R) : evF tt sig (mkK [(35, Kspec_l1Num @spec_l1Num n)] R) (mkL (mkK []) [] R) Tryz.f35 Hspec_l1Num (PkS.pack Sspec_l1Num (x0, ())) k = (fun (k : ByteArray → Option R) => (bif (decide (x0 < 10)) then k (bytesOf ([(IntKind.wrap .u8 ((IntKind.wrap .i64 (48 + x0))))])) else (spec_l1Num n (IntKind.wrap .i64 (Int.tdiv x0 10)) fun r1 => (bif decide (r1.size + (bytesOf ([(IntKind.wrap .u8 ((IntKind.wrap .i64 (48 + (Int.tmod x0 10)))))])).size ≤ STR) then k (r1 ++ (bytesOf ([(IntKind.wrap .u8 ((IntKind.wrap .i64 (48 + (Int.tmod x0 10)))))]))) else none)))) (fun r0 => k (PkS.pack Tspec_l1Num (r0, ()))) := by kernel_rfl
theorem okspec_l1Num : ∀ n, FnOk Tryz.prog 35 (Kspec_l1Num @spec_l1Num n)
  | 0 => fn_none fun R p k => by unfold Kspec_l1Num; cases (PkS.un Sspec_l1Num p : Option (Int × Unit)) <;> rfl
  | n + 1 => by
    refine fn_ok (sig := sig) mixed ttok (mkK_nat (dspec_l1Num n (okspec_l1Num n))) (mkK_ok (dspec_l1Num n (okspec_l1Num n))) (mkL_nat (mkK_nat (cspec_l1Num n)) (l := []) trivial) (fn := Tryz.f35) (c := bodyOf Tryz.f35) (by kernel_rfl) (by kernel_rfl) (by kernel_rfl) (.eq (l := []) (by kernel_rfl) trivial) (shs := Hspec_l1Num) (S := Sspec_l1Num) (h1 := by kernel_rfl) fun R p k => ?_
    unfold Kspec_l1Num
    cases h : (PkS.un Sspec_l1Num p) with
    | none => rfl
    | some d =>
      obtain ⟨x0, u⟩ := (d : Int × Unit)
      have hp := PkS.un_pack h
      subst hp
      exact (espec_l1Num @spec_l1Num n x0 k).symm

/-! ### loop.example/g00269/spec.l1Bytes -/
theorem cspec_l1Bytes (n : Nat) : AllOk Tryz.prog [(35, Kspec_l1Num @spec_l1Num n)] := ⟨okspec_l1Num n, trivial⟩
@[reducible] def Sspec_l1Bytes : PkS := ⟨[.agg [.int .i64, .int .i64, .int .i64, .str]], []⟩
@[reducible] def Tspec_l1Bytes : PkS := ⟨[.one (.str), .one (.dead)], []⟩
def Hspec_l1Bytes : List Sh := [.one .any, .skip]
def Kspec_l1Bytes (g : ∀ {R : Type}, Nat → Int → Int → Int → ByteArray → (ByteArray → Option R) → Option R) (n : Nat) : KPs := fun R p k => match (PkS.un Sspec_l1Bytes p : Option (Int × Int × Int × ByteArray × Unit)) with
  | some (x0, x1, x2, x3, _) => g n x0 x1 x2 x3 (fun r0 => k (PkS.pack Tspec_l1Bytes (r0, ())))
  | none => none
theorem espec_l1Bytes (spec_l1Num : ∀ {R : Type}, Nat → Int → (ByteArray → Option R) → Option R) {R : Type} (n : Nat) (x0 : Int) (x1 : Int) (x2 : Int) (x3 : ByteArray) (k : Pk → Option R) : evF tt sig (mkK [(35, Kspec_l1Num @spec_l1Num n)] R) (mkL (mkK [(35, Kspec_l1Num @spec_l1Num n)]) [] R) Tryz.f18 Hspec_l1Bytes (PkS.pack Sspec_l1Bytes (x0, x1, x2, x3, ())) k = (fun (k : ByteArray → Option R) => (spec_l1Num n x2 fun r1 => (bif decide (r1.size + (ByteArray.mk #[46]).size ≤ STR) then (spec_l1Num n x0 fun r2 => (bif decide ((r1 ++ (ByteArray.mk #[46])).size + r2.size ≤ STR) then (bif decide (((r1 ++ (ByteArray.mk #[46])) ++ r2).size + (ByteArray.mk #[46]).size ≤ STR) then (spec_l1Num n x1 fun r3 => (bif decide ((((r1 ++ (ByteArray.mk #[46])) ++ r2) ++ (ByteArray.mk #[46])).size + r3.size ≤ STR) then (bif decide (((((r1 ++ (ByteArray.mk #[46])) ++ r2) ++ (ByteArray.mk #[46])) ++ r3).size + (ByteArray.mk #[46]).size ≤ STR) then (bif decide ((((((r1 ++ (ByteArray.mk #[46])) ++ r2) ++ (ByteArray.mk #[46])) ++ r3) ++ (ByteArray.mk #[46])).size + x3.size ≤ STR) then (bif decide (((((((r1 ++ (ByteArray.mk #[46])) ++ r2) ++ (ByteArray.mk #[46])) ++ r3) ++ (ByteArray.mk #[46])) ++ x3).size + (ByteArray.mk #[46]).size ≤ STR) then k (((((((r1 ++ (ByteArray.mk #[46])) ++ r2) ++ (ByteArray.mk #[46])) ++ r3) ++ (ByteArray.mk #[46])) ++ x3) ++ (ByteArray.mk #[46])) else none) else none) else none) else none)) else none) else none)) else none))) (fun r0 => k (PkS.pack Tspec_l1Bytes (r0, ()))) := by kernel_rfl
theorem okspec_l1Bytes (n : Nat) : FnOk Tryz.prog 18 (Kspec_l1Bytes @spec_l1Bytes n) := by
  refine fn_ok (sig := sig) mixed ttok (mkK_nat (cspec_l1Bytes n)) (mkK_ok (cspec_l1Bytes n)) (mkL_nat (mkK_nat (cspec_l1Bytes n)) (l := []) trivial) (fn := Tryz.f18) (c := bodyOf Tryz.f18) (by kernel_rfl) (by kernel_rfl) (by kernel_rfl) (.eq (l := []) (by kernel_rfl) trivial) (shs := Hspec_l1Bytes) (S := Sspec_l1Bytes) (h1 := by kernel_rfl) fun R p k => ?_
  unfold Kspec_l1Bytes
  cases h : (PkS.un Sspec_l1Bytes p) with
  | none => rfl
  | some d =>
    obtain ⟨x0, x1, x2, x3, u⟩ := (d : Int × Int × Int × ByteArray × Unit)
    have hp := PkS.un_pack h
    subst hp
    exact (espec_l1Bytes @spec_l1Num n x0 x1 x2 x3 k).symm

/-! ### loop.example/g00269/spec.EventBytes -/
theorem cspec_EventBytes (n : Nat) : AllOk Tryz.prog [(17, Kspec_GoodEvent @spec_GoodEvent n), (18, Kspec_l1Bytes @spec_l1Bytes n)] := ⟨okspec_GoodEvent n, ⟨okspec_l1Bytes n, trivial⟩⟩
@[reducible] def Sspec_EventBytes : PkS := ⟨[.agg [.int .i64, .int .i64, .int .i64, .str]], []⟩
@[reducible] def Tspec_EventBytes : PkS := ⟨[.tup [(false, [.str]), (false, [.bool])], .one (.dead)], []⟩
def Hspec_EventBytes : List Sh := [.tup [(false, [.any]), (false, [.any])], .skip]
def Kspec_EventBytes (g : ∀ {R : Type}, Nat → Int → Int → Int → ByteArray → (ByteArray → Bool → Option R) → Option R) (n : Nat) : KPs := fun R p k => match (PkS.un Sspec_EventBytes p : Option (Int × Int × Int × ByteArray × Unit)) with
  | some (x0, x1, x2, x3, _) => g n x0 x1 x2 x3 (fun r0 r1 => k (PkS.pack Tspec_EventBytes (r0, r1, ())))
  | none => none
theorem espec_EventBytes (spec_GoodEvent : ∀ {R : Type}, Nat → Int → Int → Int → ByteArray → (Bool → Option R) → Option R) (spec_l1Bytes : ∀ {R : Type}, Nat → Int → Int → Int → ByteArray → (ByteArray → Option R) → Option R) {R : Type} (n : Nat) (x0 : Int) (x1 : Int) (x2 : Int) (x3 : ByteArray) (k : Pk → Option R) : evF tt sig (mkK [(17, Kspec_GoodEvent @spec_GoodEvent n), (18, Kspec_l1Bytes @spec_l1Bytes n)] R) (mkL (mkK [(17, Kspec_GoodEvent @spec_GoodEvent n), (18, Kspec_l1Bytes @spec_l1Bytes n)]) [] R) Tryz.f6 Hspec_EventBytes (PkS.pack Sspec_EventBytes (x0, x1, x2, x3, ())) k = (fun (k : ByteArray → Bool → Option R) => (spec_GoodEvent n x0 x1 x2 x3 fun r1 => (bif (!r1) then k (ByteArray.mk #[]) false else (spec_l1Bytes n x0 x1 x2 x3 fun r2 => k r2 true)))) (fun r0 r1 => k (PkS.pack Tspec_EventBytes (r0, r1, ()))) := by kernel_rfl
theorem okspec_EventBytes (n : Nat) : FnOk Tryz.prog 6 (Kspec_EventBytes @spec_EventBytes n) := by
  refine fn_ok (sig := sig) mixed ttok (mkK_nat (cspec_EventBytes n)) (mkK_ok (cspec_EventBytes n)) (mkL_nat (mkK_nat (cspec_EventBytes n)) (l := []) trivial) (fn := Tryz.f6) (c := bodyOf Tryz.f6) (by kernel_rfl) (by kernel_rfl) (by kernel_rfl) (.eq (l := []) (by kernel_rfl) trivial) (shs := Hspec_EventBytes) (S := Sspec_EventBytes) (h1 := by kernel_rfl) fun R p k => ?_
  unfold Kspec_EventBytes
  cases h : (PkS.un Sspec_EventBytes p) with
  | none => rfl
  | some d =>
    obtain ⟨x0, x1, x2, x3, u⟩ := (d : Int × Int × Int × ByteArray × Unit)
    have hp := PkS.un_pack h
    subst hp
    exact (espec_EventBytes @spec_GoodEvent @spec_l1Bytes n x0 x1 x2 x3 k).symm

/-! ### strings.SplitN -/
theorem cstrings_SplitN (n : Nat) : AllOk Tryz.prog [] := trivial
@[reducible] def Sstrings_SplitN : PkS := ⟨[.one (.str), .one (.str), .one (.int .i64)], []⟩
@[reducible] def Tstrings_SplitN : PkS := ⟨[.one (.whole (300000, 0)), .one (.dead), .one (.dead), .one (.dead)], [((300000, 0), .arr .str)]⟩
def Kstrings_SplitN (g : ∀ {R : Type}, Nat → ByteArray → ByteArray → Int → ((List ByteArray) → Option R) → Option R) (n : Nat) : KPs := fun R p k => match (PkS.un Sstrings_SplitN p : Option (ByteArray × ByteArray × Int × Unit)) with
  | some (x0, x1, x2, _) => g n x0 x1 x2 (fun r0 => k (PkS.pack Tstrings_SplitN (r0, ())))
  | none => none
theorem okstrings_SplitN (n : Nat) : FnOk Tryz.prog 23 (Kstrings_SplitN @strings_SplitN n) := by
  have e : Kstrings_SplitN @strings_SplitN n = splitK := by kernel_rfl
  rw [e]
  exact splitN_ok laysSplitN (by kernel_rfl) (by show (0, isInt) ∈ glob; simp [glob]) rfl (fn := Tryz.f23) (c := bodyOf Tryz.f23) (by kernel_rfl) (by kernel_rfl) (by kernel_rfl)

/-! ### loop.example/g00269/impl.number -/
theorem cimpl_number (n : Nat) : AllOk Tryz.prog [] := trivial
@[reducible] def Simpl_number : PkS := ⟨[.one (.str)], []⟩
@[reducible] def Timpl_number : PkS := ⟨[.tup [(false, [.int .i64]), (false, [.bool])], .one (.dead)], []⟩
def Kimpl_number (g : ∀ {R : Type}, Nat → ByteArray → (Int → Bool → Option R) → Option R) (n : Nat) : KPs := fun R p k => match (PkS.un Simpl_number p : Option (ByteArray × Unit)) with
  | some (x0, _) => g n x0 (fun r0 r1 => k (PkS.pack Timpl_number (r0, r1, ())))
  | none => none
theorem okimpl_number (n : Nat) : FnOk Tryz.prog 24 (Kimpl_number @impl_number n) := by
  have e : Kimpl_number @impl_number n = numK := by kernel_rfl
  rw [e]
  exact number_ok (by simp [glob]) (fn := Tryz.f24) (c := bodyOf Tryz.f24) (by kernel_rfl) (by kernel_rfl) (by kernel_rfl)

/-! ### loop.example/g00269/impl.ReadEvent -/
theorem cimpl_ReadEvent (n : Nat) : AllOk Tryz.prog [(23, Kstrings_SplitN @strings_SplitN n), (24, Kimpl_number @impl_number n), (7, Kimpl_GoodEvent @impl_GoodEvent n)] := ⟨okstrings_SplitN n, ⟨okimpl_number n, ⟨okimpl_GoodEvent n, trivial⟩⟩⟩
@[reducible] def Simpl_ReadEvent : PkS := ⟨[.one (.str)], []⟩
@[reducible] def Timpl_ReadEvent : PkS := ⟨[.tup [(true, [.int .i64, .int .i64, .int .i64, .str]), (false, [.bool])], .one (.dead)], []⟩
def Himpl_ReadEvent : List Sh := [.tup [(true, [.any, .any, .any, .any]), (false, [.any])], .skip]
def Kimpl_ReadEvent (g : ∀ {R : Type}, Nat → ByteArray → (Int → Int → Int → ByteArray → Bool → Option R) → Option R) (n : Nat) : KPs := fun R p k => match (PkS.un Simpl_ReadEvent p : Option (ByteArray × Unit)) with
  | some (x0, _) => g n x0 (fun r0 r1 r2 r3 r4 => k (PkS.pack Timpl_ReadEvent (r0, r1, r2, r3, r4, ())))
  | none => none
theorem eimpl_ReadEvent (strings_SplitN : ∀ {R : Type}, Nat → ByteArray → ByteArray → Int → ((List ByteArray) → Option R) → Option R) (impl_number : ∀ {R : Type}, Nat → ByteArray → (Int → Bool → Option R) → Option R) (impl_GoodEvent : ∀ {R : Type}, Nat → Int → Int → Int → ByteArray → (Bool → Option R) → Option R) {R : Type} (n : Nat) (x0 : ByteArray) (k : Pk → Option R) : evF tt sig (mkK [(23, Kstrings_SplitN @strings_SplitN n), (24, Kimpl_number @impl_number n), (7, Kimpl_GoodEvent @impl_GoodEvent n)] R) (mkL (mkK [(23, Kstrings_SplitN @strings_SplitN n), (24, Kimpl_number @impl_number n), (7, Kimpl_GoodEvent @impl_GoodEvent n)]) [] R) Tryz.f8 Himpl_ReadEvent (PkS.pack Simpl_ReadEvent (x0, ())) k = (fun (k : Int → Int → Int → ByteArray → Bool → Option R) => (strings_SplitN n x0 (ByteArray.mk #[46]) 6 fun r1 => (bif ((r1.length : Int) != 5) then k 0 0 0 ByteArray.empty false else (bif decide (4 < (r1.length : Int)) then (bif (!((ByteArray.toList (r1.getD 4 ByteArray.empty)) == (ByteArray.toList (ByteArray.mk #[])))) then k 0 0 0 ByteArray.empty false else (bif decide (0 < (r1.length : Int)) then (impl_number n (r1.getD 0 ByteArray.empty) fun r2 r3 => (bif decide (1 < (r1.length : Int)) then (impl_number n (r1.getD 1 ByteArray.empty) fun r4 r5 => (bif decide (2 < (r1.length : Int)) then (impl_number n (r1.getD 2 ByteArray.empty) fun r6 r7 => (bif decide (3 < (r1.length : Int)) then (bif (!r3) then k 0 0 0 ByteArray.empty false else (bif (!r5) then k 0 0 0 ByteArray.empty false else (bif (!r7) then k 0 0 0 ByteArray.empty false else (impl_GoodEvent n r4 r6 r2 (r1.getD 3 ByteArray.empty) fun r8 => (bif (!r8) then k 0 0 0 ByteArray.empty false else k r4 r6 r2 (r1.getD 3 ByteArray.empty) true))))) else none)) else none)) else none)) else none)) else none)))) (fun r0 r1 r2 r3 r4 => k (PkS.pack Timpl_ReadEvent (r0, r1, r2, r3, r4, ()))) := by kernel_rfl
theorem okimpl_ReadEvent (n : Nat) : FnOk Tryz.prog 8 (Kimpl_ReadEvent @impl_ReadEvent n) := by
  refine fn_ok (sig := sig) mixed ttok (mkK_nat (cimpl_ReadEvent n)) (mkK_ok (cimpl_ReadEvent n)) (mkL_nat (mkK_nat (cimpl_ReadEvent n)) (l := []) trivial) (fn := Tryz.f8) (c := bodyOf Tryz.f8) (by kernel_rfl) (by kernel_rfl) (by kernel_rfl) (.eq (l := []) (by kernel_rfl) trivial) (shs := Himpl_ReadEvent) (S := Simpl_ReadEvent) (h1 := by kernel_rfl) fun R p k => ?_
  unfold Kimpl_ReadEvent
  cases h : (PkS.un Simpl_ReadEvent p) with
  | none => rfl
  | some d =>
    obtain ⟨x0, u⟩ := (d : ByteArray × Unit)
    have hp := PkS.un_pack h
    subst hp
    exact (eimpl_ReadEvent @strings_SplitN @impl_number @impl_GoodEvent n x0 k).symm

/-! ### (*loop.example/g00269/spec.l1Cur).one -/
theorem cspec_l1Cur_one (n : Nat) : AllOk Tryz.prog [(25, Kspec_l1Cur_pick @spec_l1Cur_pick n)] := ⟨okspec_l1Cur_pick n, trivial⟩
@[reducible] def Sspec_l1Cur_one : PkS := ⟨[.one (.box (200000, 0) 0), .one (.int .i64)], [((200000, 0), .box [.ro (.int .u8), .int .i64, .int .u64])]⟩
@[reducible] def Tspec_l1Cur_one : PkS := ⟨[.one (.bool), .one (.box (300000, 0) 0), .one (.dead)], [((300000, 0), .box [.ro (.int .u8), .int .i64, .int .u64])]⟩
def Hspec_l1Cur_one : List Sh := [.one .any, .box [(.ro (.int .u8)), .any, .any], .skip]
def Kspec_l1Cur_one (g : ∀ {R : Type}, Nat → Int → (List Int) → Int → Int → (Bool → (List Int) → Int → Int → Option R) → Option R) (n : Nat) : KPs := fun R p k => match (PkS.un Sspec_l1Cur_one p : Option (Int × (List Int) × Int × Int × Unit)) with
  | some (x0, x1, x2, x3, _) => g n x0 x1 x2 x3 (fun r0 r1 r2 r3 => k (PkS.pack Tspec_l1Cur_one (r0, r1, r2, r3, ())))
  | none => none
theorem espec_l1Cur_one (spec_l1Cur_pick : ∀ {R : Type}, Nat → Int → (List Int) → Int → Int → (Int → (List Int) → Int → Int → Option R) → Option R) {R : Type} (n : Nat) (x0 : Int) (x1 : List Int) (x2 : Int) (x3 : Int) (k : Pk → Option R) : evF tt sig (mkK [(25, Kspec_l1Cur_pick @spec_l1Cur_pick n)] R) (mkL (mkK [(25, Kspec_l1Cur_pick @spec_l1Cur_pick n)]) [] R) Tryz.f26 Hspec_l1Cur_one (PkS.pack Sspec_l1Cur_one (x0, x1, x2, x3, ())) k = (fun (k : Bool → (List Int) → Int → Int → Option R) => (spec_l1Cur_pick n x0 x1 x2 x3 fun r1 r2 r3 r4 => k (r1 == 0) r2 r3 r4)) (fun r0 r1 r2 r3 => k (PkS.pack Tspec_l1Cur_one (r0, r1, r2, r3, ()))) := by kernel_rfl
theorem okspec_l1Cur_one (n : Nat) : FnOk Tryz.prog 26 (Kspec_l1Cur_one @spec_l1Cur_one n) := by
  refine fn_ok (sig := sig) mixed ttok (mkK_nat (cspec_l1Cur_one n)) (mkK_ok (cspec_l1Cur_one n)) (mkL_nat (mkK_nat (cspec_l1Cur_one n)) (l := []) trivial) (fn := Tryz.f26) (c := bodyOf Tryz.f26) (by kernel_rfl) (by kernel_rfl) (by kernel_rfl) (.eq (l := []) (by kernel_rfl) trivial) (shs := Hspec_l1Cur_one) (S := Sspec_l1Cur_one) (h1 := by kernel_rfl) fun R p k => ?_
  unfold Kspec_l1Cur_one
  cases h : (PkS.un Sspec_l1Cur_one p) with
  | none => rfl
  | some d =>
    obtain ⟨x0, x1, x2, x3, u⟩ := (d : Int × (List Int) × Int × Int × Unit)
    have hp := PkS.un_pack h
    subst hp
    exact (espec_l1Cur_one @spec_l1Cur_pick n x0 x1 x2 x3 k).symm

/-! ### loop.example/g00269/spec.DrawEventsBytes -/
theorem cspec_DrawEventsBytes (n : Nat) : AllOk Tryz.prog [(25, Kspec_l1Cur_pick @spec_l1Cur_pick n), (26, Kspec_l1Cur_one @spec_l1Cur_one n), (27, Kspec_l1Cur_event @spec_l1Cur_event n)] := ⟨okspec_l1Cur_pick n, ⟨okspec_l1Cur_one n, ⟨okspec_l1Cur_event n, trivial⟩⟩⟩
@[reducible] def Sspec_DrawEventsBytes_l6 : PkS := ⟨[.one (.box (100000, 0) 0), .one (.whole (100000, 1)), .one (.int .i64), .one (.dead)], [((100000, 0), .box [.ro (.int .u8), .int .i64, .int .u64]), ((100000, 1), .arr (.pr (.int .i64) (.pr (.int .i64) (.pr (.int .i64) .str))))]⟩
@[reducible] def Tspec_DrawEventsBytes_l6_0 : PkS := ⟨[.one (.whole (100000, 0)), .one (.dead)], [((100000, 0), .arr (.pr (.int .i64) (.pr (.int .i64) (.pr (.int .i64) .str))))]⟩
def Dspec_DrawEventsBytes_l6 : LoopD := ⟨26, [3, 4, 5], [.box [(.ro (.int .u8)), .any, .any], .one (.own (.pr (.int .i64) (.pr (.int .i64) (.pr (.int .i64) .str)))), .one .any, .skip], fun x => match x with
  | .exit 0 => some ([4], [.one (.own (.pr (.int .i64) (.pr (.int .i64) (.pr (.int .i64) .str)))), .skip])
  | _ => none⟩
def Pspec_DrawEventsBytes_l6 (g : ∀ {R : Type}, Nat → Int → (List Int) → Int → Int → (List (Int × Int × Int × ByteArray)) → ((List (Int × Int × Int × ByteArray)) → Option R) → Option R) (n : Nat) : LPs := fun R q kk => match (PkS.un Sspec_DrawEventsBytes_l6 q : Option (Int × (List Int) × Int × Int × (List (Int × Int × Int × ByteArray)) × Unit)) with
  | some (y6_0, y6_1, y6_2, y6_3, y6_4, _) => g n y6_0 y6_1 y6_2 y6_3 y6_4 (fun r0 => kk (.exit 0) (PkS.pack Tspec_DrawEventsBytes_l6_0 (r0, ())))
  | none => none
theorem espec_DrawEventsBytes_l6 (spec_l1Cur_pick : ∀ {R : Type}, Nat → Int → (List Int) → Int → Int → (Int → (List Int) → Int → Int → Option R) → Option R) (spec_l1Cur_one : ∀ {R : Type}, Nat → Int → (List Int) → Int → Int → (Bool → (List Int) → Int → Int → Option R) → Option R) (spec_l1Cur_event : ∀ {R : Type}, Nat → (List Int) → Int → Int → (Int → Int → Int → ByteArray → (List Int) → Int → Int → Option R) → Option R) (spec_DrawEventsBytes_l6 : ∀ {R : Type}, Nat → Int → (List Int) → Int → Int → (List (Int × Int × Int × ByteArray)) → ((List (Int × Int × Int × ByteArray)) → Option R) → Option R) {R : Type} (n : Nat) (y6_0 : Int) (y6_1 : List Int) (y6_2 : Int) (y6_3 : Int) (y6_4 : List (Int × Int × Int × ByteArray)) (kk : Ex → Pk → Option R) : Dspec_DrawEventsBytes_l6.step tt sig (mkK [(25, Kspec_l1Cur_pick @spec_l1Cur_pick n), (26, Kspec_l1Cur_one @spec_l1Cur_one n), (27, Kspec_l1Cur_event @spec_l1Cur_event n)] R) (mkL (mkK [(25, Kspec_l1Cur_pick @spec_l1Cur_pick n), (26, Kspec_l1Cur_one @spec_l1Cur_one n), (27, Kspec_l1Cur_event @spec_l1Cur_event n)]) [] R) (loopIn 6 (bodyOf Tryz.f9)) (fun q' => Pspec_DrawEventsBytes_l6 @spec_DrawEventsBytes_l6 n R q' kk) (PkS.pack Sspec_DrawEventsBytes_l6 (y6_0, y6_1, y6_2, y6_3, y6_4, ())) kk = (fun (kexit0 : (List (Int × Int × Int × ByteArray)) → Option R) => (bif (decide (y6_0 > 0)) then (spec_l1Cur_event n y6_1 y6_2 y6_3 fun r13 r14 r15 r16 r17 r18 r19 => (bif decide (y6_4.length + ([(r13, (r14, (r15, r16)))]).length ≤ LIM) then spec_DrawEventsBytes_l6 n (IntKind.wrap .i64 (y6_0 - 1)) r17 r18 r19 (y6_4 ++ [(r13, (r14, (r15, r16)))]) kexit0 else none)) else kexit0 y6_4)) (fun r0 => kk (.exit 0) (PkS.pack Tspec_DrawEventsBytes_l6_0 (r0, ()))) := by kernel_rfl
theorem lespec_DrawEventsBytes_l6 : LoopEq tt sig (fun n => mkK [(25, Kspec_l1Cur_pick @spec_l1Cur_pick n), (26, Kspec_l1Cur_one @spec_l1Cur_one n), (27, Kspec_l1Cur_event @spec_l1Cur_event n)]) (fun n => mkL (mkK [(25, Kspec_l1Cur_pick @spec_l1Cur_pick n), (26, Kspec_l1Cur_one @spec_l1Cur_one n), (27, Kspec_l1Cur_event @spec_l1Cur_event n)]) []) Dspec_DrawEventsBytes_l6 Sspec_DrawEventsBytes_l6 (loopIn 6 (bodyOf Tryz.f9)) (Pspec_DrawEventsBytes_l6 @spec_DrawEventsBytes_l6) where
  zero R q kk := by unfold Pspec_DrawEventsBytes_l6; cases (PkS.un Sspec_DrawEventsBytes_l6 q) <;> rfl
  succ n R q kk := by
    unfold Pspec_DrawEventsBytes_l6
    cases h : (PkS.un Sspec_DrawEventsBytes_l6 q) with
    | none => rfl
    | some d =>
      obtain ⟨y6_0, y6_1, y6_2, y6_3, y6_4, u⟩ := (d : Int × (List Int) × Int × Int × (List (Int × Int × Int × ByteArray)) × Unit)
      have hp := PkS.un_pack h
      subst hp
      exact (espec_DrawEventsBytes_l6 @spec_l1Cur_pick @spec_l1Cur_one @spec_l1Cur_event @spec_DrawEventsBytes_l6 n y6_0 y6_1 y6_2 y6_3 y6_4 kk).symm
theorem nlspec_DrawEventsBytes_l6 : ∀ n, NatLP (Pspec_DrawEventsBytes_l6 @spec_DrawEventsBytes_l6 n) := lespec_DrawEventsBytes_l6.nat (fun n => mkK_nat (cspec_DrawEventsBytes n)) fun n => mkL_nat (mkK_nat (cspec_DrawEventsBytes n)) (l := []) trivial
theorem inspec_DrawEventsBytes_l6 (n : Nat) (R : Type) : LoopsOk Tryz.prog (mkL (mkK [(25, Kspec_l1Cur_pick @spec_l1Cur_pick n), (26, Kspec_l1Cur_one @spec_l1Cur_one n), (27, Kspec_l1Cur_event @spec_l1Cur_event n)]) [] R) (loopIn 6 (bodyOf Tryz.f9)) := .eq (l := []) (by kernel_rfl) trivial
theorem lkspec_DrawEventsBytes_l6 (n : Nat) (R : Type) (L0 : LK R) (h0 : ∀ id, firstRegion (loopIn 6 (bodyOf Tryz.f9)) = some id → L0 id = Dspec_DrawEventsBytes_l6.oracle (mkK [(25, Kspec_l1Cur_pick @spec_l1Cur_pick n), (26, Kspec_l1Cur_one @spec_l1Cur_one n), (27, Kspec_l1Cur_event @spec_l1Cur_event n)] R) (Pspec_DrawEventsBytes_l6 @spec_DrawEventsBytes_l6 n R)) : LoopOk Tryz.prog L0 (loopIn 6 (bodyOf Tryz.f9)) :=
  lespec_DrawEventsBytes_l6.ok mixed ttok (fun n => mkK_nat (cspec_DrawEventsBytes n)) (fun n => mkK_ok (cspec_DrawEventsBytes n)) (fun n => inspec_DrawEventsBytes_l6 n R) (mkK_nat (cspec_DrawEventsBytes n)) h0
@[reducible] def Sspec_DrawEventsBytes : PkS := ⟨[.one (.ro (.int .u8))], []⟩
@[reducible] def Tspec_DrawEventsBytes : PkS := ⟨[.one (.whole (300000, 0)), .one (.dead)], [((300000, 0), .arr (.pr (.int .i64) (.pr (.int .i64) (.pr (.int .i64) .str))))]⟩
def Hspec_DrawEventsBytes : List Sh := [.one (.own (.pr (.int .i64) (.pr (.int .i64) (.pr (.int .i64) .str)))), .skip]
def Kspec_DrawEventsBytes (g : ∀ {R : Type}, Nat → (List Int) → ((List (Int × Int × Int × ByteArray)) → Option R) → Option R) (n : Nat) : KPs := fun R p k => match (PkS.un Sspec_DrawEventsBytes p : Option ((List Int) × Unit)) with
  | some (x0, _) => g n x0 (fun r0 => k (PkS.pack Tspec_DrawEventsBytes (r0, ())))
  | none => none
theorem espec_DrawEventsBytes (spec_l1Cur_pick : ∀ {R : Type}, Nat → Int → (List Int) → Int → Int → (Int → (List Int) → Int → Int → Option R) → Option R) (spec_l1Cur_one : ∀ {R : Type}, Nat → Int → (List Int) → Int → Int → (Bool → (List Int) → Int → Int → Option R) → Option R) (spec_l1Cur_event : ∀ {R : Type}, Nat → (List Int) → Int → Int → (Int → Int → Int → ByteArray → (List Int) → Int → Int → Option R) → Option R) (spec_DrawEventsBytes_l6 : ∀ {R : Type}, Nat → Int → (List Int) → Int → Int → (List (Int × Int × Int × ByteArray)) → ((List (Int × Int × Int × ByteArray)) → Option R) → Option R) {R : Type} (n : Nat) (x0 : List Int) (k : Pk → Option R) : evF tt sig (mkK [(25, Kspec_l1Cur_pick @spec_l1Cur_pick n), (26, Kspec_l1Cur_one @spec_l1Cur_one n), (27, Kspec_l1Cur_event @spec_l1Cur_event n)] R) (mkL (mkK [(25, Kspec_l1Cur_pick @spec_l1Cur_pick n), (26, Kspec_l1Cur_one @spec_l1Cur_one n), (27, Kspec_l1Cur_event @spec_l1Cur_event n)]) [(6, Dspec_DrawEventsBytes_l6, Pspec_DrawEventsBytes_l6 @spec_DrawEventsBytes_l6 n)] R) Tryz.f9 Hspec_DrawEventsBytes (PkS.pack Sspec_DrawEventsBytes (x0, ())) k = (fun (k : (List (Int × Int × Int × ByteArray)) → Option R) => (spec_l1Cur_pick n 6 x0 0 0 fun r1 r2 r3 r4 => (spec_l1Cur_one n 30 r2 r3 r4 fun r5 r6 r7 r8 => (bif r5 then (spec_l1Cur_pick n 2 r6 r7 r8 fun r9 r10 r11 r12 => (spec_DrawEventsBytes_l6 n (IntKind.wrap .i64 (60 + r9)) r10 r11 r12 ([] : List (Int × Int × Int × ByteArray)) (fun r20 => k r20))) else (spec_DrawEventsBytes_l6 n r1 r6 r7 r8 ([] : List (Int × Int × Int × ByteArray)) (fun r21 => k r21)))))) (fun r0 => k (PkS.pack Tspec_DrawEventsBytes (r0, ()))) := by kernel_rfl
theorem okspec_DrawEventsBytes (n : Nat) : FnOk Tryz.prog 9 (Kspec_DrawEventsBytes @spec_DrawEventsBytes n) := by
  refine fn_ok (sig := sig) mixed ttok (mkK_nat (cspec_DrawEventsBytes n)) (mkK_ok (cspec_DrawEventsBytes n)) (mkL_nat (mkK_nat (cspec_DrawEventsBytes n)) (l := [(6, Dspec_DrawEventsBytes_l6, Pspec_DrawEventsBytes_l6 @spec_DrawEventsBytes_l6 n)]) ⟨nlspec_DrawEventsBytes_l6 n, trivial⟩) (fn := Tryz.f9) (c := bodyOf Tryz.f9) (by kernel_rfl) (by kernel_rfl) (by kernel_rfl) (.eq (l := [.lo (loopIn 6 (bodyOf Tryz.f9))]) (by kernel_rfl) ⟨(lkspec_DrawEventsBytes_l6 n _ _ (at_id (i := 6) (by kernel_rfl) rfl)), trivial⟩) (shs := Hspec_DrawEventsBytes) (S := Sspec_DrawEventsBytes) (h1 := by kernel_rfl) fun R p k => ?_
  unfold Kspec_DrawEventsBytes
  cases h : (PkS.un Sspec_DrawEventsBytes p) with
  | none => rfl
  | some d =>
    obtain ⟨x0, u⟩ := (d : (List Int) × Unit)
    have hp := PkS.un_pack h
    subst hp
    exact (espec_DrawEventsBytes @spec_l1Cur_pick @spec_l1Cur_one @spec_l1Cur_event @spec_DrawEventsBytes_l6 n x0 k).symm

/-! ### loop.example/g00269/impl.SumOf -/
theorem cimpl_SumOf (n : Nat) : AllOk Tryz.prog [] := trivial
@[reducible] def Simpl_SumOf_l3 : PkS := ⟨[.one (.str), .one (.int .i64), .one (.int .i64), .one (.int .i64), .one (.int .i64), .one (.dead)], []⟩
@[reducible] def Timpl_SumOf_l3_0 : PkS := ⟨[.one (.int .i64), .one (.int .i64), .one (.dead)], []⟩
def Dimpl_SumOf_l3 : LoopD := ⟨27, [0, 3, 4, 7, 8], [.one .any, .one .any, .one .any, .one .any, .one .any, .skip], fun x => match x with
  | .exit 0 => some ([3, 4], [.one .any, .one .any, .skip])
  | _ => none⟩
def Pimpl_SumOf_l3 (g : ∀ {R : Type}, Nat → ByteArray → Int → Int → Int → Int → (Int → Int → Option R) → Option R) (n : Nat) : LPs := fun R q kk => match (PkS.un Simpl_SumOf_l3 q : Option (ByteArray × Int × Int × Int × Int × Unit)) with
  | some (y3_0, y3_1, y3_2, y3_3, y3_4, _) => g n y3_0 y3_1 y3_2 y3_3 y3_4 (fun r0 r1 => kk (.exit 0) (PkS.pack Timpl_SumOf_l3_0 (r0, r1, ())))
  | none => none
theorem eimpl_SumOf_l3 (impl_SumOf_l3 : ∀ {R : Type}, Nat → ByteArray → Int → Int → Int → Int → (Int → Int → Option R) → Option R) {R : Type} (n : Nat) (y3_0 : ByteArray) (y3_1 : Int) (y3_2 : Int) (y3_3 : Int) (y3_4 : Int) (kk : Ex → Pk → Option R) : Dimpl_SumOf_l3.step tt sig (mkK [] R) (mkL (mkK []) [] R) (loopIn 3 (bodyOf Tryz.f42)) (fun q' => Pimpl_SumOf_l3 @impl_SumOf_l3 n R q' kk) (PkS.pack Simpl_SumOf_l3 (y3_0, y3_1, y3_2, y3_3, y3_4, ())) kk = (fun (kexit0 : Int → Int → Option R) => (bif (decide (y3_4 < y3_3)) then (bif decide (0 ≤ y3_4) then (bif decide (y3_4 < (y3_0.size : Int)) then impl_SumOf_l3 n y3_0 (Int.tmod (IntKind.wrap .i64 (y3_1 + (IntKind.wrap .i64 (((y3_0.data.getD (Int.toNat y3_4) 0).toNat : Int))))) 255) (Int.tmod (IntKind.wrap .i64 (y3_2 + (Int.tmod (IntKind.wrap .i64 (y3_1 + (IntKind.wrap .i64 (((y3_0.data.getD (Int.toNat y3_4) 0).toNat : Int))))) 255))) 255) y3_3 (IntKind.wrap .i64 (y3_4 + 1)) kexit0 else none) else none) else kexit0 y3_1 y3_2)) (fun r0 r1 => kk (.exit 0) (PkS.pack Timpl_SumOf_l3_0 (r0, r1, ()))) := by kernel_rfl
theorem leimpl_SumOf_l3 : LoopEq tt sig (fun n => mkK []) (fun n => mkL (mkK []) []) Dimpl_SumOf_l3 Simpl_SumOf_l3 (loopIn 3 (bodyOf Tryz.f42)) (Pimpl_SumOf_l3 @impl_SumOf_l3) where
  zero R q kk := by unfold Pimpl_SumOf_l3; cases (PkS.un Simpl_SumOf_l3 q) <;> rfl
  succ n R q kk := by
    unfold Pimpl_SumOf_l3
    cases h : (PkS.un Simpl_SumOf_l3 q) with
    | none => rfl
    | some d =>
      obtain ⟨y3_0, y3_1, y3_2, y3_3, y3_4, u⟩ := (d : ByteArray × Int × Int × Int × Int × Unit)
      have hp := PkS.un_pack h
      subst hp
      exact (eimpl_SumOf_l3 @impl_SumOf_l3 n y3_0 y3_1 y3_2 y3_3 y3_4 kk).symm
theorem nlimpl_SumOf_l3 : ∀ n, NatLP (Pimpl_SumOf_l3 @impl_SumOf_l3 n) := leimpl_SumOf_l3.nat (fun n => mkK_nat (cimpl_SumOf n)) fun n => mkL_nat (mkK_nat (cimpl_SumOf n)) (l := []) trivial
theorem inimpl_SumOf_l3 (n : Nat) (R : Type) : LoopsOk Tryz.prog (mkL (mkK []) [] R) (loopIn 3 (bodyOf Tryz.f42)) := .eq (l := []) (by kernel_rfl) trivial
theorem lkimpl_SumOf_l3 (n : Nat) (R : Type) (L0 : LK R) (h0 : ∀ id, firstRegion (loopIn 3 (bodyOf Tryz.f42)) = some id → L0 id = Dimpl_SumOf_l3.oracle (mkK [] R) (Pimpl_SumOf_l3 @impl_SumOf_l3 n R)) : LoopOk Tryz.prog L0 (loopIn 3 (bodyOf Tryz.f42)) :=
  leimpl_SumOf_l3.ok mixed ttok (fun n => mkK_nat (cimpl_SumOf n)) (fun n => mkK_ok (cimpl_SumOf n)) (fun n => inimpl_SumOf_l3 n R) (mkK_nat (cimpl_SumOf n)) h0
@[reducible] def Simpl_SumOf : PkS := ⟨[.one (.str)], []⟩
@[reducible] def Timpl_SumOf : PkS := ⟨[.one (.int .i64), .one (.dead)], []⟩
def Himpl_SumOf : List Sh := [.one .any, .skip]
def Kimpl_SumOf (g : ∀ {R : Type}, Nat → ByteArray → (Int → Option R) → Option R) (n : Nat) : KPs := fun R p k => match (PkS.un Simpl_SumOf p : Option (ByteArray × Unit)) with
  | some (x0, _) => g n x0 (fun r0 => k (PkS.pack Timpl_SumOf (r0, ())))
  | none => none
theorem eimpl_SumOf (impl_SumOf_l3 : ∀ {R : Type}, Nat → ByteArray → Int → Int → Int → Int → (Int → Int → Option R) → Option R) {R : Type} (n : Nat) (x0 : ByteArray) (k : Pk → Option R) : evF tt sig (mkK [] R) (mkL (mkK []) [(3, Dimpl_SumOf_l3, Pimpl_SumOf_l3 @impl_SumOf_l3 n)] R) Tryz.f42 Himpl_SumOf (PkS.pack Simpl_SumOf (x0, ())) k = (fun (k : Int → Option R) => (impl_SumOf_l3 n x0 0 0 (x0.size : Int) 0 (fun r1 r2 => k (IntKind.wrap .i64 ((IntKind.wrap .i64 (256 * r2)) + r1))))) (fun r0 => k (PkS.pack Timpl_SumOf (r0, ()))) := by kernel_rfl
theorem okimpl_SumOf (n : Nat) : FnOk Tryz.prog 42 (Kimpl_SumOf @impl_SumOf n) := by
  refine fn_ok (sig := sig) mixed ttok (mkK_nat (cimpl_SumOf n)) (mkK_ok (cimpl_SumOf n)) (mkL_nat (mkK_nat (cimpl_SumOf n)) (l := [(3, Dimpl_SumOf_l3, Pimpl_SumOf_l3 @impl_SumOf_l3 n)]) ⟨nlimpl_SumOf_l3 n, trivial⟩) (fn := Tryz.f42) (c := bodyOf Tryz.f42) (by kernel_rfl) (by kernel_rfl) (by kernel_rfl) (.eq (l := [.lo (loopIn 3 (bodyOf Tryz.f42))]) (by kernel_rfl) ⟨(lkimpl_SumOf_l3 n _ _ (at_id (i := 3) (by kernel_rfl) rfl)), trivial⟩) (shs := Himpl_SumOf) (S := Simpl_SumOf) (h1 := by kernel_rfl) fun R p k => ?_
  unfold Kimpl_SumOf
  cases h : (PkS.un Simpl_SumOf p) with
  | none => rfl
  | some d =>
    obtain ⟨x0, u⟩ := (d : ByteArray × Unit)
    have hp := PkS.un_pack h
    subst hp
    exact (eimpl_SumOf @impl_SumOf_l3 n x0 k).symm

/-! ### loop.example/g00269/impl.frame -/
theorem cimpl_frame (n : Nat) : AllOk Tryz.prog [(42, Kimpl_SumOf @impl_SumOf n)] := ⟨okimpl_SumOf n, trivial⟩
@[reducible] def Simpl_frame : PkS := ⟨[.one (.str)], []⟩
@[reducible] def Timpl_frame : PkS := ⟨[.one (.str), .one (.dead)], []⟩
def Himpl_frame : List Sh := [.one .any, .skip]
def Kimpl_frame (g : ∀ {R : Type}, Nat → ByteArray → (ByteArray → Option R) → Option R) (n : Nat) : KPs := fun R p k => match (PkS.un Simpl_frame p : Option (ByteArray × Unit)) with
  | some (x0, _) => g n x0 (fun r0 => k (PkS.pack Timpl_frame (r0, ())))
  | none => none
theorem eimpl_frame (impl_SumOf : ∀ {R : Type}, Nat → ByteArray → (Int → Option R) → Option R) {R : Type} (n : Nat) (x0 : ByteArray) (k : Pk → Option R) : evF tt sig (mkK [(42, Kimpl_SumOf @impl_SumOf n)] R) (mkL (mkK [(42, Kimpl_SumOf @impl_SumOf n)]) [] R) Tryz.f28 Himpl_frame (PkS.pack Simpl_frame (x0, ())) k = (fun (k : ByteArray → Option R) => (impl_SumOf n x0 fun r1 => (bif decide ((bytesOf ([(IntKind.wrap .u8 ((x0.size : Int)))])).size + x0.size ≤ STR) then (bif decide (((bytesOf ([(IntKind.wrap .u8 ((x0.size : Int)))])) ++ x0).size + (bytesOf ([(IntKind.wrap .u8 ((IntKind.wrap .i64 (Int.tdiv r1 256)))), (IntKind.wrap .u8 ((Int.tmod r1 256)))])).size ≤ STR) then k (((bytesOf ([(IntKind.wrap .u8 ((x0.size : Int)))])) ++ x0) ++ (bytesOf ([(IntKind.wrap .u8 ((IntKind.wrap .i64 (Int.tdiv r1 256)))), (IntKind.wrap .u8 ((Int.tmod r1 256)))]))) else none) else none))) (fun r0 => k (PkS.pack Timpl_frame (r0, ()))) := by kernel_rfl
theorem okimpl_frame (n : Nat) : FnOk Tryz.prog 28 (Kimpl_frame @impl_frame n) := by
  refine fn_ok (sig := sig) mixed ttok (mkK_nat (cimpl_frame n)) (mkK_ok (cimpl_frame n)) (mkL_nat (mkK_nat (cimpl_frame n)) (l := []) trivial) (fn := Tryz.f28) (c := bodyOf Tryz.f28) (by kernel_rfl) (by kernel_rfl) (by kernel_rfl) (.eq (l := []) (by kernel_rfl) trivial) (shs := Himpl_frame) (S := Simpl_frame) (h1 := by kernel_rfl) fun R p k => ?_
  unfold Kimpl_frame
  cases h : (PkS.un Simpl_frame p) with
  | none => rfl
  | some d =>
    obtain ⟨x0, u⟩ := (d : ByteArray × Unit)
    have hp := PkS.un_pack h
    subst hp
    exact (eimpl_frame @impl_SumOf n x0 k).symm

/-! ### loop.example/g00269/impl.EventsBytes -/
theorem cimpl_EventsBytes (n : Nat) : AllOk Tryz.prog [(7, Kimpl_GoodEvent @impl_GoodEvent n), (16, Kimpl_eventText @impl_eventText n), (28, Kimpl_frame @impl_frame n)] := ⟨okimpl_GoodEvent n, ⟨okimpl_eventText n, ⟨okimpl_frame n, trivial⟩⟩⟩
@[reducible] def Simpl_EventsBytes_l3 : PkS := ⟨[.one (.ro (.pr (.int .i64) (.pr (.int .i64) (.pr (.int .i64) .str)))), .one (.str), .one (.ro (.pr (.int .i64) (.pr (.int .i64) (.pr (.int .i64) .str)))), .one (.int .i64), .one (.int .i64), .one (.dead)], []⟩
@[reducible] def Timpl_EventsBytes_l3_0 : PkS := ⟨[.one (.str), .one (.bool), .one (.dead)], []⟩
@[reducible] def Timpl_EventsBytes_l3_1 : PkS := ⟨[.one (.str), .one (.dead)], []⟩
def Dimpl_EventsBytes_l3 : LoopD := ⟨28, [0, 4, 7, 8, 9], [.one (.ro (.pr (.int .i64) (.pr (.int .i64) (.pr (.int .i64) .str)))), .one .any, .one (.ro (.pr (.int .i64) (.pr (.int .i64) (.pr (.int .i64) .str)))), .one .any, .one .any, .skip], fun x => match x with
  | .ret => some ([2, 3], [.one .any, .one .any, .skip])
  | .exit 0 => some ([4], [.one .any, .skip])
  | _ => none⟩
def Pimpl_EventsBytes_l3 (g : ∀ {R : Type}, Nat → (List (Int × Int × Int × ByteArray)) → ByteArray → (List (Int × Int × Int × ByteArray)) → Int → Int → (ByteArray → Bool → Option R) → (ByteArray → Option R) → Option R) (n : Nat) : LPs := fun R q kk => match (PkS.un Simpl_EventsBytes_l3 q : Option ((List (Int × Int × Int × ByteArray)) × ByteArray × (List (Int × Int × Int × ByteArray)) × Int × Int × Unit)) with
  | some (y3_0, y3_1, y3_2, y3_3, y3_4, _) => g n y3_0 y3_1 y3_2 y3_3 y3_4 (fun r0 r1 => kk .ret (PkS.pack Timpl_EventsBytes_l3_0 (r0, r1, ()))) (fun r0 => kk (.exit 0) (PkS.pack Timpl_EventsBytes_l3_1 (r0, ())))
  | none => none
theorem eimpl_EventsBytes_l3 (impl_GoodEvent : ∀ {R : Type}, Nat → Int → Int → Int → ByteArray → (Bool → Option R) → Option R) (impl_eventText : ∀ {R : Type}, Nat → Int → Int → Int → ByteArray → (ByteArray → Option R) → Option R) (impl_frame : ∀ {R : Type}, Nat → ByteArray → (ByteArray → Option R) → Option R) (impl_EventsBytes_l3 : ∀ {R : Type}, Nat → (List (Int × Int × Int × ByteArray)) → ByteArray → (List (Int × Int × Int × ByteArray)) → Int → Int → (ByteArray → Bool → Option R) → (ByteArray → Option R) → Option R) {R : Type} (n : Nat) (y3_0 : List (Int × Int × Int × ByteArray)) (y3_1 : ByteArray) (y3_2 : List (Int × Int × Int × ByteArray)) (y3_3 : Int) (y3_4 : Int) (kk : Ex → Pk → Option R) : Dimpl_EventsBytes_l3.step tt sig (mkK [(7, Kimpl_GoodEvent @impl_GoodEvent n), (16, Kimpl_eventText @impl_eventText n), (28, Kimpl_frame @impl_frame n)] R) (mkL (mkK [(7, Kimpl_GoodEvent @impl_GoodEvent n), (16, Kimpl_eventText @impl_eventText n), (28, Kimpl_frame @impl_frame n)]) [] R) (loopIn 3 (bodyOf Tryz.f10)) (fun q' => Pimpl_EventsBytes_l3 @impl_EventsBytes_l3 n R q' kk) (PkS.pack Simpl_EventsBytes_l3 (y3_0, y3_1, y3_2, y3_3, y3_4, ())) kk = (fun (kret : ByteArray → Bool → Option R) (kexit0 : ByteArray → Option R) => (bif (decide (y3_4 < y3_3)) then (bif decide (0 ≤ y3_4) then (bif decide (y3_4 < (y3_2.length : Int)) then (impl_GoodEvent n ((y3_2.getD (Int.toNat y3_4) (0, (0, (0, ByteArray.empty)))).1) ((y3_2.getD (Int.toNat y3_4) (0, (0, (0, ByteArray.empty)))).2.1) ((y3_2.getD (Int.toNat y3_4) (0, (0, (0, ByteArray.empty)))).2.2.1) ((y3_2.getD (Int.toNat y3_4) (0, (0, (0, ByteArray.empty)))).2.2.2) fun r1 => (bif (!r1) then kret (ByteArray.mk #[]) false else (bif (decide ((y3_0.length : Int) > 60)) then kret (ByteArray.mk #[]) false else (impl_eventText n ((y3_2.getD (Int.toNat y3_4) (0, (0, (0, ByteArray.empty)))).1) ((y3_2.getD (Int.toNat y3_4) (0, (0, (0, ByteArray.empty)))).2.1) ((y3_2.getD (Int.toNat y3_4) (0, (0, (0, ByteArray.empty)))).2.2.1) ((y3_2.getD (Int.toNat y3_4) (0, (0, (0, ByteArray.empty)))).2.2.2) fun r2 => (impl_frame n r2 fun r3 => (bif decide (y3_1.size + r3.size ≤ STR) then impl_EventsBytes_l3 n y3_0 (y3_1 ++ r3) y3_2 y3_3 (IntKind.wrap .i64 (y3_4 + 1)) kret kexit0 else none)))))) else none) else none) else kexit0 y3_1)) (fun r0 r1 => kk .ret (PkS.pack Timpl_EventsBytes_l3_0 (r0, r1, ()))) (fun r0 => kk (.exit 0) (PkS.pack Timpl_EventsBytes_l3_1 (r0, ()))) := by kernel_rfl
theorem leimpl_EventsBytes_l3 : LoopEq tt sig (fun n => mkK [(7, Kimpl_GoodEvent @impl_GoodEvent n), (16, Kimpl_eventText @impl_eventText n), (28, Kimpl_frame @impl_frame n)]) (fun n => mkL (mkK [(7, Kimpl_GoodEvent @impl_GoodEvent n), (16, Kimpl_eventText @impl_eventText n), (28, Kimpl_frame @impl_frame n)]) []) Dimpl_EventsBytes_l3 Simpl_EventsBytes_l3 (loopIn 3 (bodyOf Tryz.f10)) (Pimpl_EventsBytes_l3 @impl_EventsBytes_l3) where
  zero R q kk := by unfold Pimpl_EventsBytes_l3; cases (PkS.un Simpl_EventsBytes_l3 q) <;> rfl
  succ n R q kk := by
    unfold Pimpl_EventsBytes_l3
    cases h : (PkS.un Simpl_EventsBytes_l3 q) with
    | none => rfl
    | some d =>
      obtain ⟨y3_0, y3_1, y3_2, y3_3, y3_4, u⟩ := (d : (List (Int × Int × Int × ByteArray)) × ByteArray × (List (Int × Int × Int × ByteArray)) × Int × Int × Unit)
      have hp := PkS.un_pack h
      subst hp
      exact (eimpl_EventsBytes_l3 @impl_GoodEvent @impl_eventText @impl_frame @impl_EventsBytes_l3 n y3_0 y3_1 y3_2 y3_3 y3_4 kk).symm
theorem nlimpl_EventsBytes_l3 : ∀ n, NatLP (Pimpl_EventsBytes_l3 @impl_EventsBytes_l3 n) := leimpl_EventsBytes_l3.nat (fun n => mkK_nat (cimpl_EventsBytes n)) fun n => mkL_nat (mkK_nat (cimpl_EventsBytes n)) (l := []) trivial
theorem inimpl_EventsBytes_l3 (n : Nat) (R : Type) : LoopsOk Tryz.prog (mkL (mkK [(7, Kimpl_GoodEvent @impl_GoodEvent n), (16, Kimpl_eventText @impl_eventText n), (28, Kimpl_frame @impl_frame n)]) [] R) (loopIn 3 (bodyOf Tryz.f10)) := .eq (l := []) (by kernel_rfl) trivial
theorem lkimpl_EventsBytes_l3 (n : Nat) (R : Type) (L0 : LK R) (h0 : ∀ id, firstRegion (loopIn 3 (bodyOf Tryz.f10)) = some id → L0 id = Dimpl_EventsBytes_l3.oracle (mkK [(7, Kimpl_GoodEvent @impl_GoodEvent n), (16, Kimpl_eventText @impl_eventText n), (28, Kimpl_frame @impl_frame n)] R) (Pimpl_EventsBytes_l3 @impl_EventsBytes_l3 n R)) : LoopOk Tryz.prog L0 (loopIn 3 (bodyOf Tryz.f10)) :=
  leimpl_EventsBytes_l3.ok mixed ttok (fun n => mkK_nat (cimpl_EventsBytes n)) (fun n => mkK_ok (cimpl_EventsBytes n)) (fun n => inimpl_EventsBytes_l3 n R) (mkK_nat (cimpl_EventsBytes n)) h0
@[reducible] def Simpl_EventsBytes : PkS := ⟨[.one (.ro (.pr (.int .i64) (.pr (.int .i64) (.pr (.int .i64) .str))))], []⟩
@[reducible] def Timpl_EventsBytes : PkS := ⟨[.tup [(false, [.str]), (false, [.bool])], .one (.dead)], []⟩
def Himpl_EventsBytes : List Sh := [.tup [(false, [.any]), (false, [.any])], .skip]
def Kimpl_EventsBytes (g : ∀ {R : Type}, Nat → (List (Int × Int × Int × ByteArray)) → (ByteArray → Bool → Option R) → Option R) (n : Nat) : KPs := fun R p k => match (PkS.un Simpl_EventsBytes p : Option ((List (Int × Int × Int × ByteArray)) × Unit)) with
  | some (x0, _) => g n x0 (fun r0 r1 => k (PkS.pack Timpl_EventsBytes (r0, r1, ())))
  | none => none
theorem eimpl_EventsBytes (impl_GoodEvent : ∀ {R : Type}, Nat → Int → Int → Int → ByteArray → (Bool → Option R) → Option R) (impl_eventText : ∀ {R : Type}, Nat → Int → Int → Int → ByteArray → (ByteArray → Option R) → Option R) (impl_frame : ∀ {R : Type}, Nat → ByteArray → (ByteArray → Option R) → Option R) (impl_EventsBytes_l3 : ∀ {R : Type}, Nat → (List (Int × Int × Int × ByteArray)) → ByteArray → (List (Int × Int × Int × ByteArray)) → Int → Int → (ByteArray → Bool → Option R) → (ByteArray → Option R) → Option R) {R : Type} (n : Nat) (x0 : List (Int × Int × Int × ByteArray)) (k : Pk → Option R) : evF tt sig (mkK [(7, Kimpl_GoodEvent @impl_GoodEvent n), (16, Kimpl_eventText @impl_eventText n), (28, Kimpl_frame @impl_frame n)] R) (mkL (mkK [(7, Kimpl_GoodEvent @impl_GoodEvent n), (16, Kimpl_eventText @impl_eventText n), (28, Kimpl_frame @impl_frame n)]) [(3, Dimpl_EventsBytes_l3, Pimpl_EventsBytes_l3 @impl_EventsBytes_l3 n)] R) Tryz.f10 Himpl_EventsBytes (PkS.pack Simpl_EventsBytes (x0, ())) k = (fun (k : ByteArray → Bool → Option R) => (impl_EventsBytes_l3 n x0 (ByteArray.mk #[]) x0 (x0.length : Int) 0 (fun r4 r5 => k r4 r5) (fun r6 => k r6 true))) (fun r0 r1 => k (PkS.pack Timpl_EventsBytes (r0, r1, ()))) := by kernel_rfl
theorem okimpl_EventsBytes (n : Nat) : FnOk Tryz.prog 10 (Kimpl_EventsBytes @impl_EventsBytes n) := by
  refine fn_ok (sig := sig) mixed ttok (mkK_nat (cimpl_EventsBytes n)) (mkK_ok (cimpl_EventsBytes n)) (mkL_nat (mkK_nat (cimpl_EventsBytes n)) (l := [(3, Dimpl_EventsBytes_l3, Pimpl_EventsBytes_l3 @impl_EventsBytes_l3 n)]) ⟨nlimpl_EventsBytes_l3 n, trivial⟩) (fn := Tryz.f10) (c := bodyOf Tryz.f10) (by kernel_rfl) (by kernel_rfl) (by kernel_rfl) (.eq (l := [.lo (loopIn 3 (bodyOf Tryz.f10))]) (by kernel_rfl) ⟨(lkimpl_EventsBytes_l3 n _ _ (at_id (i := 3) (by kernel_rfl) rfl)), trivial⟩) (shs := Himpl_EventsBytes) (S := Simpl_EventsBytes) (h1 := by kernel_rfl) fun R p k => ?_
  unfold Kimpl_EventsBytes
  cases h : (PkS.un Simpl_EventsBytes p) with
  | none => rfl
  | some d =>
    obtain ⟨x0, u⟩ := (d : (List (Int × Int × Int × ByteArray)) × Unit)
    have hp := PkS.un_pack h
    subst hp
    exact (eimpl_EventsBytes @impl_GoodEvent @impl_eventText @impl_frame @impl_EventsBytes_l3 n x0 k).symm

/-! ### loop.example/g00269/spec.SumOf -/
theorem cspec_SumOf (n : Nat) : AllOk Tryz.prog [] := trivial
@[reducible] def Sspec_SumOf_l4 : PkS := ⟨[.one (.str), .one (.int .i64), .one (.int .i64), .one (.int .i64), .one (.dead)], []⟩
@[reducible] def Tspec_SumOf_l4_0 : PkS := ⟨[.one (.int .i64), .one (.int .i64), .one (.dead)], []⟩
def Dspec_SumOf_l4 : LoopD := ⟨27, [0, 3, 4, 5], [.one .any, .one .any, .one .any, .one .any, .skip], fun x => match x with
  | .exit 0 => some ([3, 4], [.one .any, .one .any, .skip])
  | _ => none⟩
def Pspec_SumOf_l4 (g : ∀ {R : Type}, Nat → ByteArray → Int → Int → Int → (Int → Int → Option R) → Option R) (n : Nat) : LPs := fun R q kk => match (PkS.un Sspec_SumOf_l4 q : Option (ByteArray × Int × Int × Int × Unit)) with
  | some (y4_0, y4_1, y4_2, y4_3, _) => g n y4_0 y4_1 y4_2 y4_3 (fun r0 r1 => kk (.exit 0) (PkS.pack Tspec_SumOf_l4_0 (r0, r1, ())))
  | none => none
theorem espec_SumOf_l4 (spec_SumOf_l4 : ∀ {R : Type}, Nat → ByteArray → Int → Int → Int → (Int → Int → Option R) → Option R) {R : Type} (n : Nat) (y4_0 : ByteArray) (y4_1 : Int) (y4_2 : Int) (y4_3 : Int) (kk : Ex → Pk → Option R) : Dspec_SumOf_l4.step tt sig (mkK [] R) (mkL (mkK []) [] R) (loopIn 4 (bodyOf Tryz.f43)) (fun q' => Pspec_SumOf_l4 @spec_SumOf_l4 n R q' kk) (PkS.pack Sspec_SumOf_l4 (y4_0, y4_1, y4_2, y4_3, ())) kk = (fun (kexit0 : Int → Int → Option R) => (bif (decide (y4_3 < (y4_0.size : Int))) then (bif decide (0 ≤ y4_3) then (bif decide (y4_3 < (y4_0.size : Int)) then spec_SumOf_l4 n y4_0 (Int.tmod (IntKind.wrap .i64 (y4_1 + (IntKind.wrap .i64 (((y4_0.data.getD (Int.toNat y4_3) 0).toNat : Int))))) 255) (Int.tmod (IntKind.wrap .i64 (y4_2 + (Int.tmod (IntKind.wrap .i64 (y4_1 + (IntKind.wrap .i64 (((y4_0.data.getD (Int.toNat y4_3) 0).toNat : Int))))) 255))) 255) (IntKind.wrap .i64 (y4_3 + 1)) kexit0 else none) else none) else kexit0 y4_1 y4_2)) (fun r0 r1 => kk (.exit 0) (PkS.pack Tspec_SumOf_l4_0 (r0, r1, ()))) := by kernel_rfl
theorem lespec_SumOf_l4 : LoopEq tt sig (fun n => mkK []) (fun n => mkL (mkK []) []) Dspec_SumOf_l4 Sspec_SumOf_l4 (loopIn 4 (bodyOf Tryz.f43)) (Pspec_SumOf_l4 @spec_SumOf_l4) where
  zero R q kk := by unfold Pspec_SumOf_l4; cases (PkS.un Sspec_SumOf_l4 q) <;> rfl
  succ n R q kk := by
    unfold Pspec_SumOf_l4
    cases h : (PkS.un Sspec_SumOf_l4 q) with
    | none => rfl
    | some d =>
      obtain ⟨y4_0, y4_1, y4_2, y4_3, u⟩ := (d : ByteArray × Int × Int × Int × Unit)
      have hp := PkS.un_pack h
      subst hp
      exact (espec_SumOf_l4 @spec_SumOf_l4 n y4_0 y4_1 y4_2 y4_3 kk).symm
theorem nlspec_SumOf_l4 : ∀ n, NatLP (Pspec_SumOf_l4 @spec_SumOf_l4 n) := lespec_SumOf_l4.nat (fun n => mkK_nat (cspec_SumOf n)) fun n => mkL_nat (mkK_nat (cspec_SumOf n)) (l := []) trivial
theorem inspec_SumOf_l4 (n : Nat) (R : Type) : LoopsOk Tryz.prog (mkL (mkK []) [] R) (loopIn 4 (bodyOf Tryz.f43)) := .eq (l := []) (by kernel_rfl) trivial
theorem lkspec_SumOf_l4 (n : Nat) (R : Type) (L0 : LK R) (h0 : ∀ id, firstRegion (loopIn 4 (bodyOf Tryz.f43)) = some id → L0 id = Dspec_SumOf_l4.oracle (mkK [] R) (Pspec_SumOf_l4 @spec_SumOf_l4 n R)) : LoopOk Tryz.prog L0 (loopIn 4 (bodyOf Tryz.f43)) :=
  lespec_SumOf_l4.ok mixed ttok (fun n => mkK_nat (cspec_SumOf n)) (fun n => mkK_ok (cspec_SumOf n)) (fun n => inspec_SumOf_l4 n R) (mkK_nat (cspec_SumOf n)) h0
@[reducible] def Sspec_SumOf : PkS := ⟨[.one (.str)], []⟩
@[reducible] def Tspec_SumOf : PkS := ⟨[.one (.int .i64), .one (.dead)], []⟩
def Hspec_SumOf : List Sh := [.one .any, .skip]
def Kspec_SumOf (g : ∀ {R : Type}, Nat → ByteArray → (Int → Option R) → Option R) (n : Nat) : KPs := fun R p k => match (PkS.un Sspec_SumOf p : Option (ByteArray × Unit)) with
  | some (x0, _) => g n x0 (fun r0 => k (PkS.pack Tspec_SumOf (r0, ())))
  | none => none
theorem espec_SumOf (spec_SumOf_l4 : ∀ {R : Type}, Nat → ByteArray → Int → Int → Int → (Int → Int → Option R) → Option R) {R : Type} (n : Nat) (x0 : ByteArray) (k : Pk → Option R) : evF tt sig (mkK [] R) (mkL (mkK []) [(4, Dspec_SumOf_l4, Pspec_SumOf_l4 @spec_SumOf_l4 n)] R) Tryz.f43 Hspec_SumOf (PkS.pack Sspec_SumOf (x0, ())) k = (fun (k : Int → Option R) => (spec_SumOf_l4 n x0 0 0 0 (fun r1 r2 => k (IntKind.wrap .i64 ((IntKind.wrap .i64 (256 * r2)) + r1))))) (fun r0 => k (PkS.pack Tspec_SumOf (r0, ()))) := by kernel_rfl
theorem okspec_SumOf (n : Nat) : FnOk Tryz.prog 43 (Kspec_SumOf @spec_SumOf n) := by
  refine fn_ok (sig := sig) mixed ttok (mkK_nat (cspec_SumOf n)) (mkK_ok (cspec_SumOf n)) (mkL_nat (mkK_nat (cspec_SumOf n)) (l := [(4, Dspec_SumOf_l4, Pspec_SumOf_l4 @spec_SumOf_l4 n)]) ⟨nlspec_SumOf_l4 n, trivial⟩) (fn := Tryz.f43) (c := bodyOf Tryz.f43) (by kernel_rfl) (by kernel_rfl) (by kernel_rfl) (.eq (l := [.lo (loopIn 4 (bodyOf Tryz.f43))]) (by kernel_rfl) ⟨(lkspec_SumOf_l4 n _ _ (at_id (i := 4) (by kernel_rfl) rfl)), trivial⟩) (shs := Hspec_SumOf) (S := Sspec_SumOf) (h1 := by kernel_rfl) fun R p k => ?_
  unfold Kspec_SumOf
  cases h : (PkS.un Sspec_SumOf p) with
  | none => rfl
  | some d =>
    obtain ⟨x0, u⟩ := (d : ByteArray × Unit)
    have hp := PkS.un_pack h
    subst hp
    exact (espec_SumOf @spec_SumOf_l4 n x0 k).symm

/-! ### loop.example/g00269/spec.l1Frame -/
theorem cspec_l1Frame (n : Nat) : AllOk Tryz.prog [(43, Kspec_SumOf @spec_SumOf n)] := ⟨okspec_SumOf n, trivial⟩
@[reducible] def Sspec_l1Frame : PkS := ⟨[.one (.str)], []⟩
@[reducible] def Tspec_l1Frame : PkS := ⟨[.one (.str), .one (.dead)], []⟩
def Hspec_l1Frame : List Sh := [.one .any, .skip]
def Kspec_l1Frame (g : ∀ {R : Type}, Nat → ByteArray → (ByteArray → Option R) → Option R) (n : Nat) : KPs := fun R p k => match (PkS.un Sspec_l1Frame p : Option (ByteArray × Unit)) with
  | some (x0, _) => g n x0 (fun r0 => k (PkS.pack Tspec_l1Frame (r0, ())))
  | none => none
theorem espec_l1Frame (spec_SumOf : ∀ {R : Type}, Nat → ByteArray → (Int → Option R) → Option R) {R : Type} (n : Nat) (x0 : ByteArray) (k : Pk → Option R) : evF tt sig (mkK [(43, Kspec_SumOf @spec_SumOf n)] R) (mkL (mkK [(43, Kspec_SumOf @spec_SumOf n)]) [] R) Tryz.f29 Hspec_l1Frame (PkS.pack Sspec_l1Frame (x0, ())) k = (fun (k : ByteArray → Option R) => (spec_SumOf n x0 fun r1 => (bif decide ((bytesOf ([(IntKind.wrap .u8 ((x0.size : Int)))])).size + x0.size ≤ STR) then (bif decide (((bytesOf ([(IntKind.wrap .u8 ((x0.size : Int)))])) ++ x0).size + (bytesOf ([(IntKind.wrap .u8 ((Int.fdiv r1 (2 ^ (min (Int.toNat 8) (IntKind.bits .i64)))))), (IntKind.wrap .u8 (r1))])).size ≤ STR) then k (((bytesOf ([(IntKind.wrap .u8 ((x0.size : Int)))])) ++ x0) ++ (bytesOf ([(IntKind.wrap .u8 ((Int.fdiv r1 (2 ^ (min (Int.toNat 8) (IntKind.bits .i64)))))), (IntKind.wrap .u8 (r1))]))) else none) else none))) (fun r0 => k (PkS.pack Tspec_l1Frame (r0, ()))) := by kernel_rfl
theorem okspec_l1Frame (n : Nat) : FnOk Tryz.prog 29 (Kspec_l1Frame @spec_l1Frame n) := by
  refine fn_ok (sig := sig) mixed ttok (mkK_nat (cspec_l1Frame n)) (mkK_ok (cspec_l1Frame n)) (mkL_nat (mkK_nat (cspec_l1Frame n)) (l := []) trivial) (fn := Tryz.f29) (c := bodyOf Tryz.f29) (by kernel_rfl) (by kernel_rfl) (by kernel_rfl) (.eq (l := []) (by kernel_rfl) trivial) (shs := Hspec_l1Frame) (S := Sspec_l1Frame) (h1 := by kernel_rfl) fun R p k => ?_
  unfold Kspec_l1Frame
  cases h : (PkS.un Sspec_l1Frame p) with
  | none => rfl
  | some d =>
    obtain ⟨x0, u⟩ := (d : ByteArray × Unit)
    have hp := PkS.un_pack h
    subst hp
    exact (espec_l1Frame @spec_SumOf n x0 k).symm

/-! ### loop.example/g00269/spec.EventsBytes -/
theorem cspec_EventsBytes (n : Nat) : AllOk Tryz.prog [(17, Kspec_GoodEvent @spec_GoodEvent n), (18, Kspec_l1Bytes @spec_l1Bytes n), (29, Kspec_l1Frame @spec_l1Frame n)] := ⟨okspec_GoodEvent n, ⟨okspec_l1Bytes n, ⟨okspec_l1Frame n, trivial⟩⟩⟩
@[reducible] def Sspec_EventsBytes_l3 : PkS := ⟨[.one (.ro (.pr (.int .i64) (.pr (.int .i64) (.pr (.int .i64) .str)))), .one (.str), .one (.ro (.pr (.int .i64) (.pr (.int .i64) (.pr (.int .i64) .str)))), .one (.int .i64), .one (.int .i64), .one (.dead)], []⟩
@[reducible] def Tspec_EventsBytes_l3_0 : PkS := ⟨[.one (.str), .one (.bool), .one (.dead)], []⟩
@[reducible] def Tspec_EventsBytes_l3_1 : PkS := ⟨[.one (.ro (.pr (.int .i64) (.pr (.int .i64) (.pr (.int .i64) .str)))), .one (.str), .one (.dead)], []⟩
def Dspec_EventsBytes_l3 : LoopD := ⟨26, [0, 4, 7, 8, 9], [.one (.ro (.pr (.int .i64) (.pr (.int .i64) (.pr (.int .i64) .str)))), .one .any, .one (.ro (.pr (.int .i64) (.pr (.int .i64) (.pr (.int .i64) .str)))), .one .any, .one .any, .skip], fun x => match x with
  | .ret => some ([2, 3], [.one .any, .one .any, .skip])
  | .exit 0 => some ([0, 4], [.one (.ro (.pr (.int .i64) (.pr (.int .i64) (.pr (.int .i64) .str)))), .one .any, .skip])
  | _ => none⟩
def Pspec_EventsBytes_l3 (g : ∀ {R : Type}, Nat → (List (Int × Int × Int × ByteArray)) → ByteArray → (List (Int × Int × Int × ByteArray)) → Int → Int → (ByteArray → Bool → Option R) → ((List (Int × Int × Int × ByteArray)) → ByteArray → Option R) → Option R) (n : Nat) : LPs := fun R q kk => match (PkS.un Sspec_EventsBytes_l3 q : Option ((List (Int × Int × Int × ByteArray)) × ByteArray × (List (Int × Int × Int × ByteArray)) × Int × Int × Unit)) with
  | some (y3_0, y3_1, y3_2, y3_3, y3_4, _) => g n y3_0 y3_1 y3_2 y3_3 y3_4 (fun r0 r1 => kk .ret (PkS.pack Tspec_EventsBytes_l3_0 (r0, r1, ()))) (fun r0 r1 => kk (.exit 0) (PkS.pack Tspec_EventsBytes_l3_1 (r0, r1, ())))
  | none => none
theorem espec_EventsBytes_l3 (spec_GoodEvent : ∀ {R : Type}, Nat → Int → Int → Int → ByteArray → (Bool → Option R) → Option R) (spec_l1Bytes : ∀ {R : Type}, Nat → Int → Int → Int → ByteArray → (ByteArray → Option R) → Option R) (spec_l1Frame : ∀ {R : Type}, Nat → ByteArray → (ByteArray → Option R) → Option R) (spec_EventsBytes_l3 : ∀ {R : Type}, Nat → (List (Int × Int × Int × ByteArray)) → ByteArray → (List (Int × Int × Int × ByteArray)) → Int → Int → (ByteArray → Bool → Option R) → ((List (Int × Int × Int × ByteArray)) → ByteArray → Option R) → Option R) {R : Type} (n : Nat) (y3_0 : List (Int × Int × Int × ByteArray)) (y3_1 : ByteArray) (y3_2 : List (Int × Int × Int × ByteArray)) (y3_3 : Int) (y3_4 : Int) (kk : Ex → Pk → Option R) : Dspec_EventsBytes_l3.step tt sig (mkK [(17, Kspec_GoodEvent @spec_GoodEvent n), (18, Kspec_l1Bytes @spec_l1Bytes n), (29, Kspec_l1Frame @spec_l1Frame n)] R) (mkL (mkK [(17, Kspec_GoodEvent @spec_GoodEvent n), (18, Kspec_l1Bytes @spec_l1Bytes n), (29, Kspec_l1Frame @spec_l1Frame n)]) [] R) (loopIn 3 (bodyOf Tryz.f11)) (fun q' => Pspec_EventsBytes_l3 @spec_EventsBytes_l3 n R q' kk) (PkS.pack Sspec_EventsBytes_l3 (y3_0, y3_1, y3_2, y3_3, y3_4, ())) kk = (fun (kret : ByteArray → Bool → Option R) (kexit0 : (List (Int × Int × Int × ByteArray)) → ByteArray → Option R) => (bif (decide (y3_4 < y3_3)) then (bif decide (0 ≤ y3_4) then (bif decide (y3_4 < (y3_2.length : Int)) then (spec_GoodEvent n ((y3_2.getD (Int.toNat y3_4) (0, (0, (0, ByteArray.empty)))).1) ((y3_2.getD (Int.toNat y3_4) (0, (0, (0, ByteArray.empty)))).2.1) ((y3_2.getD (Int.toNat y3_4) (0, (0, (0, ByteArray.empty)))).2.2.1) ((y3_2.getD (Int.toNat y3_4) (0, (0, (0, ByteArray.empty)))).2.2.2) fun r1 => (bif (!r1) then kret (ByteArray.mk #[]) false else (spec_l1Bytes n ((y3_2.getD (Int.toNat y3_4) (0, (0, (0, ByteArray.empty)))).1) ((y3_2.getD (Int.toNat y3_4) (0, (0, (0, ByteArray.empty)))).2.1) ((y3_2.getD (Int.toNat y3_4) (0, (0, (0, ByteArray.empty)))).2.2.1) ((y3_2.getD (Int.toNat y3_4) (0, (0, (0, ByteArray.empty)))).2.2.2) fun r2 => (spec_l1Frame n r2 fun r3 => (bif decide (y3_1.size + r3.size ≤ STR) then spec_EventsBytes_l3 n y3_0 (y3_1 ++ r3) y3_2 y3_3 (IntKind.wrap .i64 (y3_4 + 1)) kret kexit0 else none))))) else none) else none) else kexit0 y3_0 y3_1)) (fun r0 r1 => kk .ret (PkS.pack Tspec_EventsBytes_l3_0 (r0, r1, ()))) (fun r0 r1 => kk (.exit 0) (PkS.pack Tspec_EventsBytes_l3_1 (r0, r1, ()))) := by kernel_rfl
theorem lespec_EventsBytes_l3 : LoopEq tt sig (fun n => mkK [(17, Kspec_GoodEvent @spec_GoodEvent n), (18, Kspec_l1Bytes @spec_l1Bytes n), (29, Kspec_l1Frame @spec_l1Frame n)]) (fun n => mkL (mkK [(17, Kspec_GoodEvent @spec_GoodEvent n), (18, Kspec_l1Bytes @spec_l1Bytes n), (29, Kspec_l1Frame @spec_l1Frame n)]) []) Dspec_EventsBytes_l3 Sspec_EventsBytes_l3 (loopIn 3 (bodyOf Tryz.f11)) (Pspec_EventsBytes_l3 @spec_EventsBytes_l3) where
  zero R q kk := by unfold Pspec_EventsBytes_l3; cases (PkS.un Sspec_EventsBytes_l3 q) <;> rfl
  succ n R q kk := by
    unfold Pspec_EventsBytes_l3
    cases h : (PkS.un Sspec_EventsBytes_l3 q) with
    | none => rfl
    | some d =>
      obtain ⟨y3_0, y3_1, y3_2, y3_3, y3_4, u⟩ := (d : (List (Int × Int × Int × ByteArray)) × ByteArray × (List (Int × Int × Int × ByteArray)) × Int × Int × Unit)
      have hp := PkS.un_pack h
      subst hp
      exact (espec_EventsBytes_l3 @spec_GoodEvent @spec_l1Bytes @spec_l1Frame @spec_EventsBytes_l3 n y3_0 y3_1 y3_2 y3_3 y3_4 kk).symm
theorem nlspec_EventsBytes_l3 : ∀ n, NatLP (Pspec_EventsBytes_l3 @spec_EventsBytes_l3 n) := lespec_EventsBytes_l3.nat (fun n => mkK_nat (cspec_EventsBytes n)) fun n => mkL_nat (mkK_nat (cspec_EventsBytes n)) (l := []) trivial
theorem inspec_EventsBytes_l3 (n : Nat) (R : Type) : LoopsOk Tryz.prog (mkL (mkK [(17, Kspec_GoodEvent @spec_GoodEvent n), (18, Kspec_l1Bytes @spec_l1Bytes n), (29, Kspec_l1Frame @spec_l1Frame n)]) [] R) (loopIn 3 (bodyOf Tryz.f11)) := .eq (l := []) (by kernel_rfl) trivial
theorem lkspec_EventsBytes_l3 (n : Nat) (R : Type) (L0 : LK R) (h0 : ∀ id, firstRegion (loopIn 3 (bodyOf Tryz.f11)) = some id → L0 id = Dspec_EventsBytes_l3.oracle (mkK [(17, Kspec_GoodEvent @spec_GoodEvent n), (18, Kspec_l1Bytes @spec_l1Bytes n), (29, Kspec_l1Frame @spec_l1Frame n)] R) (Pspec_EventsBytes_l3 @spec_EventsBytes_l3 n R)) : LoopOk Tryz.prog L0 (loopIn 3 (bodyOf Tryz.f11)) :=
  lespec_EventsBytes_l3.ok mixed ttok (fun n => mkK_nat (cspec_EventsBytes n)) (fun n => mkK_ok (cspec_EventsBytes n)) (fun n => inspec_EventsBytes_l3 n R) (mkK_nat (cspec_EventsBytes n)) h0
@[reducible] def Sspec_EventsBytes : PkS := ⟨[.one (.ro (.pr (.int .i64) (.pr (.int .i64) (.pr (.int .i64) .str))))], []⟩
@[reducible] def Tspec_EventsBytes : PkS := ⟨[.tup [(false, [.str]), (false, [.bool])], .one (.dead)], []⟩
def Hspec_EventsBytes : List Sh := [.tup [(false, [.any]), (false, [.any])], .skip]
def Kspec_EventsBytes (g : ∀ {R : Type}, Nat → (List (Int × Int × Int × ByteArray)) → (ByteArray → Bool → Option R) → Option R) (n : Nat) : KPs := fun R p k => match (PkS.un Sspec_EventsBytes p : Option ((List (Int × Int × Int × ByteArray)) × Unit)) with
  | some (x0, _) => g n x0 (fun r0 r1 => k (PkS.pack Tspec_EventsBytes (r0, r1, ())))
  | none => none
theorem espec_EventsBytes (spec_GoodEvent : ∀ {R : Type}, Nat → Int → Int → Int → ByteArray → (Bool → Option R) → Option R) (spec_l1Bytes : ∀ {R : Type}, Nat → Int → Int → Int → ByteArray → (ByteArray → Option R) → Option R) (spec_l1Frame : ∀ {R : Type}, Nat → ByteArray → (ByteArray → Option R) → Option R) (spec_EventsBytes_l3 : ∀ {R : Type}, Nat → (List (Int × Int × Int × ByteArray)) → ByteArray → (List (Int × Int × Int × ByteArray)) → Int → Int → (ByteArray → Bool → Option R) → ((List (Int × Int × Int × ByteArray)) → ByteArray → Option R) → Option R) {R : Type} (n : Nat) (x0 : List (Int × Int × Int × ByteArray)) (k : Pk → Option R) : evF tt sig (mkK [(17, Kspec_GoodEvent @spec_GoodEvent n), (18, Kspec_l1Bytes @spec_l1Bytes n), (29, Kspec_l1Frame @spec_l1Frame n)] R) (mkL (mkK [(17, Kspec_GoodEvent @spec_GoodEvent n), (18, Kspec_l1Bytes @spec_l1Bytes n), (29, Kspec_l1Frame @spec_l1Frame n)]) [(3, Dspec_EventsBytes_l3, Pspec_EventsBytes_l3 @spec_EventsBytes_l3 n)] R) Tryz.f11 Hspec_EventsBytes (PkS.pack Sspec_EventsBytes (x0, ())) k = (fun (k : ByteArray → Bool → Option R) => (spec_EventsBytes_l3 n x0 (ByteArray.mk #[]) x0 (x0.length : Int) 0 (fun r4 r5 => k r4 r5) (fun r6 r7 => (bif (decide ((r6.length : Int) > 60)) then k (ByteArray.mk #[]) false else k r7 true)))) (fun r0 r1 => k (PkS.pack Tspec_EventsBytes (r0, r1, ()))) := by kernel_rfl
theorem okspec_EventsBytes (n : Nat) : FnOk Tryz.prog 11 (Kspec_EventsBytes @spec_EventsBytes n) := by
  refine fn_ok (sig := sig) mixed ttok (mkK_nat (cspec_EventsBytes n)) (mkK_ok (cspec_EventsBytes n)) (mkL_nat (mkK_nat (cspec_EventsBytes n)) (l := [(3, Dspec_EventsBytes_l3, Pspec_EventsBytes_l3 @spec_EventsBytes_l3 n)]) ⟨nlspec_EventsBytes_l3 n, trivial⟩) (fn := Tryz.f11) (c := bodyOf Tryz.f11) (by kernel_rfl) (by kernel_rfl) (by kernel_rfl) (.eq (l := [.lo (loopIn 3 (bodyOf Tryz.f11))]) (by kernel_rfl) ⟨(lkspec_EventsBytes_l3 n _ _ (at_id (i := 3) (by kernel_rfl) rfl)), trivial⟩) (shs := Hspec_EventsBytes) (S := Sspec_EventsBytes) (h1 := by kernel_rfl) fun R p k => ?_
  unfold Kspec_EventsBytes
  cases h : (PkS.un Sspec_EventsBytes p) with
  | none => rfl
  | some d =>
    obtain ⟨x0, u⟩ := (d : (List (Int × Int × Int × ByteArray)) × Unit)
    have hp := PkS.un_pack h
    subst hp
    exact (espec_EventsBytes @spec_GoodEvent @spec_l1Bytes @spec_l1Frame @spec_EventsBytes_l3 n x0 k).symm

/-! ### loop.example/g00269/impl.TakeFrame -/
theorem cimpl_TakeFrame (n : Nat) : AllOk Tryz.prog [(28, Kimpl_frame @impl_frame n)] := ⟨okimpl_frame n, trivial⟩
@[reducible] def Simpl_TakeFrame : PkS := ⟨[.one (.str)], []⟩
@[reducible] def Timpl_TakeFrame : PkS := ⟨[.tup [(false, [.str]), (false, [.int .i64]), (false, [.bool])], .one (.dead)], []⟩
def Himpl_TakeFrame : List Sh := [.tup [(false, [.any]), (false, [.any]), (false, [.any])], .skip]
def Kimpl_TakeFrame (g : ∀ {R : Type}, Nat → ByteArray → (ByteArray → Int → Bool → Option R) → Option R) (n : Nat) : KPs := fun R p k => match (PkS.un Simpl_TakeFrame p : Option (ByteArray × Unit)) with
  | some (x0, _) => g n x0 (fun r0 r1 r2 => k (PkS.pack Timpl_TakeFrame (r0, r1, r2, ())))
  | none => none
theorem eimpl_TakeFrame (impl_frame : ∀ {R : Type}, Nat → ByteArray → (ByteArray → Option R) → Option R) {R : Type} (n : Nat) (x0 : ByteArray) (k : Pk → Option R) : evF tt sig (mkK [(28, Kimpl_frame @impl_frame n)] R) (mkL (mkK [(28, Kimpl_frame @impl_frame n)]) [] R) Tryz.f30 Himpl_TakeFrame (PkS.pack Simpl_TakeFrame (x0, ())) k = (fun (k : ByteArray → Int → Bool → Option R) => (bif ((ByteArray.toList x0) == (ByteArray.toList (ByteArray.mk #[]))) then k (ByteArray.mk #[]) 0 false else (bif decide (0 < (x0.size : Int)) then (bif (decide ((IntKind.wrap .i64 (((x0.data.getD 0 0).toNat : Int))) > 60)) then k (ByteArray.mk #[]) 0 false else (bif decide (0 < (x0.size : Int)) then (bif (decide ((x0.size : Int) < (IntKind.wrap .i64 ((IntKind.wrap .i64 (((x0.data.getD 0 0).toNat : Int))) + 3)))) then k (ByteArray.mk #[]) 0 false else (bif decide (0 < (x0.size : Int)) then (bif decide (1 ≤ (IntKind.wrap .i64 (1 + (IntKind.wrap .i64 (((x0.data.getD 0 0).toNat : Int)))))) then (bif decide ((IntKind.wrap .i64 (1 + (IntKind.wrap .i64 (((x0.data.getD 0 0).toNat : Int))))) ≤ (x0.size : Int)) then (impl_frame n (ByteArray.extract x0 1 (Int.toNat (IntKind.wrap .i64 (1 + (IntKind.wrap .i64 (((x0.data.getD 0 0).toNat : Int))))))) fun r1 => (bif decide (0 ≤ (IntKind.wrap .i64 ((IntKind.wrap .i64 (((x0.data.getD 0 0).toNat : Int))) + 3))) then (bif decide ((IntKind.wrap .i64 ((IntKind.wrap .i64 (((x0.data.getD 0 0).toNat : Int))) + 3)) ≤ (x0.size : Int)) then (bif (!((ByteArray.toList r1) == (ByteArray.toList (ByteArray.extract x0 0 (Int.toNat (IntKind.wrap .i64 ((IntKind.wrap .i64 (((x0.data.getD 0 0).toNat : Int))) + 3))))))) then k (ByteArray.mk #[]) 0 false else k (ByteArray.extract x0 1 (Int.toNat (IntKind.wrap .i64 (1 + (IntKind.wrap .i64 (((x0.data.getD 0 0).toNat : Int))))))) (IntKind.wrap .i64 ((IntKind.wrap .i64 (((x0.data.getD 0 0).toNat : Int))) + 3)) true) else none) else none)) else none) else none) else none)) else none)) else none))) (fun r0 r1 r2 => k (PkS.pack Timpl_TakeFrame (r0, r1, r2, ()))) := by kernel_rfl
theorem okimpl_TakeFrame (n : Nat) : FnOk Tryz.prog 30 (Kimpl_TakeFrame @impl_TakeFrame n) := by
  refine fn_ok (sig := sig) mixed ttok (mkK_nat (cimpl_TakeFrame n)) (mkK_ok (cimpl_TakeFrame n)) (mkL_nat (mkK_nat (cimpl_TakeFrame n)) (l := []) trivial) (fn := Tryz.f30) (c := bodyOf Tryz.f30) (by kernel_rfl) (by kernel_rfl) (by kernel_rfl) (.eq (l := []) (by kernel_rfl) trivial) (shs := Himpl_TakeFrame) (S := Simpl_TakeFrame) (h1 := by kernel_rfl) fun R p k => ?_
  unfold Kimpl_TakeFrame
  cases h : (PkS.un Simpl_TakeFrame p) with
  | none => rfl
  | some d =>
    obtain ⟨x0, u⟩ := (d : ByteArray × Unit)
    have hp := PkS.un_pack h
    subst hp
    exact (eimpl_TakeFrame @impl_frame n x0 k).symm

/-! ### loop.example/g00269/impl.ReadEvents -/
theorem cimpl_ReadEvents (n : Nat) : AllOk Tryz.prog [(30, Kimpl_TakeFrame @impl_TakeFrame n), (8, Kimpl_ReadEvent @impl_ReadEvent n)] := ⟨okimpl_TakeFrame n, ⟨okimpl_ReadEvent n, trivial⟩⟩
@[reducible] def Simpl_ReadEvents_l2 : PkS := ⟨[.one (.str), .one (.whole (100000, 0)), .one (.int .i64), .one (.dead)], [((100000, 0), .arr (.pr (.int .i64) (.pr (.int .i64) (.pr (.int .i64) .str))))]⟩
@[reducible] def Timpl_ReadEvents_l2_0 : PkS := ⟨[.one (.whole (100000, 0)), .one (.int .i64), .one (.dead)], [((100000, 0), .arr (.pr (.int .i64) (.pr (.int .i64) (.pr (.int .i64) .str))))]⟩
def Dimpl_ReadEvents_l2 : LoopD := ⟨40, [0, 4, 5], [.one .any, .one (.own (.pr (.int .i64) (.pr (.int .i64) (.pr (.int .i64) .str)))), .one .any, .skip], fun x => match x with
  | .exit 0 => some ([4, 5], [.one (.own (.pr (.int .i64) (.pr (.int .i64) (.pr (.int .i64) .str)))), .one .any, .skip])
  | _ => none⟩
def Pimpl_ReadEvents_l2 (g : ∀ {R : Type}, Nat → ByteArray → Int → (List (Int × Int × Int × ByteArray)) → (Int → (List (Int × Int × Int × ByteArray)) → Option R) → Option R) (n : Nat) : LPs := fun R q kk => match (PkS.un Simpl_ReadEvents_l2 q : Option (ByteArray × Int × (List (Int × Int × Int × ByteArray)) × Unit)) with
  | some (y2_0, y2_1, y2_2, _) => g n y2_0 y2_1 y2_2 (fun r0 r1 => kk (.exit 0) (PkS.pack Timpl_ReadEvents_l2_0 (r0, r1, ())))
  | none => none
theorem eimpl_ReadEvents_l2 (impl_TakeFrame : ∀ {R : Type}, Nat → ByteArray → (ByteArray → Int → Bool → Option R) → Option R) (impl_ReadEvent : ∀ {R : Type}, Nat → ByteArray → (Int → Int → Int → ByteArray → Bool → Option R) → Option R) (impl_ReadEvents_l2 : ∀ {R : Type}, Nat → ByteArray → Int → (List (Int × Int × Int × ByteArray)) → (Int → (List (Int × Int × Int × ByteArray)) → Option R) → Option R) {R : Type} (n : Nat) (y2_0 : ByteArray) (y2_1 : Int) (y2_2 : List (Int × Int × Int × ByteArray)) (kk : Ex → Pk → Option R) : Dimpl_ReadEvents_l2.step tt sig (mkK [(30, Kimpl_TakeFrame @impl_TakeFrame n), (8, Kimpl_ReadEvent @impl_ReadEvent n)] R) (mkL (mkK [(30, Kimpl_TakeFrame @impl_TakeFrame n), (8, Kimpl_ReadEvent @impl_ReadEvent n)]) [] R) (loopIn 2 (bodyOf Tryz.f12)) (fun q' => Pimpl_ReadEvents_l2 @impl_ReadEvents_l2 n R q' kk) (PkS.pack Simpl_ReadEvents_l2 (y2_0, y2_1, y2_2, ())) kk = (fun (kexit0 : Int → (List (Int × Int × Int × ByteArray)) → Option R) => (bif (decide ((y2_2.length : Int) < 60)) then (bif decide (0 ≤ y2_1) then (bif decide (y2_1 ≤ (y2_0.size : Int)) then (bif decide ((y2_0.size : Int) ≤ (y2_0.size : Int)) then (impl_TakeFrame n (ByteArray.extract y2_0 (Int.toNat y2_1) (Int.toNat (y2_0.size : Int))) fun r1 r2 r3 => (bif (!r3) then kexit0 y2_1 y2_2 else (impl_ReadEvent n r1 fun r4 r5 r6 r7 r8 => (bif (!r8) then kexit0 y2_1 y2_2 else (bif decide (y2_2.length + ([(r4, (r5, (r6, r7)))]).length ≤ LIM) then impl_ReadEvents_l2 n y2_0 (IntKind.wrap .i64 (y2_1 + r2)) (y2_2 ++ [(r4, (r5, (r6, r7)))]) kexit0 else none))))) else none) else none) else none) else kexit0 y2_1 y2_2)) (fun r0 r1 => kk (.exit 0) (PkS.pack Timpl_ReadEvents_l2_0 (r0, r1, ()))) := by kernel_rfl
theorem leimpl_ReadEvents_l2 : LoopEq tt sig (fun n => mkK [(30, Kimpl_TakeFrame @impl_TakeFrame n), (8, Kimpl_ReadEvent @impl_ReadEvent n)]) (fun n => mkL (mkK [(30, Kimpl_TakeFrame @impl_TakeFrame n), (8, Kimpl_ReadEvent @impl_ReadEvent n)]) []) Dimpl_ReadEvents_l2 Simpl_ReadEvents_l2 (loopIn 2 (bodyOf Tryz.f12)) (Pimpl_ReadEvents_l2 @impl_ReadEvents_l2) where
  zero R q kk := by unfold Pimpl_ReadEvents_l2; cases (PkS.un Simpl_ReadEvents_l2 q) <;> rfl
  succ n R q kk := by
    unfold Pimpl_ReadEvents_l2
    cases h : (PkS.un Simpl_ReadEvents_l2 q) with
    | none => rfl
    | some d =>
      obtain ⟨y2_0, y2_1, y2_2, u⟩ := (d : ByteArray × Int × (List (Int × Int × Int × ByteArray)) × Unit)
      have hp := PkS.un_pack h
      subst hp
      exact (eimpl_ReadEvents_l2 @impl_TakeFrame @impl_ReadEvent @impl_ReadEvents_l2 n y2_0 y2_1 y2_2 kk).symm
theorem nlimpl_ReadEvents_l2 : ∀ n, NatLP (Pimpl_ReadEvents_l2 @impl_ReadEvents_l2 n) := leimpl_ReadEvents_l2.nat (fun n => mkK_nat (cimpl_ReadEvents n)) fun n => mkL_nat (mkK_nat (cimpl_ReadEvents n)) (l := []) trivial
theorem inimpl_ReadEvents_l2 (n : Nat) (R : Type) : LoopsOk Tryz.prog (mkL (mkK [(30, Kimpl_TakeFrame @impl_TakeFrame n), (8, Kimpl_ReadEvent @impl_ReadEvent n)]) [] R) (loopIn 2 (bodyOf Tryz.f12)) := .eq (l := []) (by kernel_rfl) trivial
theorem lkimpl_ReadEvents_l2 (n : Nat) (R : Type) (L0 : LK R) (h0 : ∀ id, firstRegion (loopIn 2 (bodyOf Tryz.f12)) = some id → L0 id = Dimpl_ReadEvents_l2.oracle (mkK [(30, Kimpl_TakeFrame @impl_TakeFrame n), (8, Kimpl_ReadEvent @impl_ReadEvent n)] R) (Pimpl_ReadEvents_l2 @impl_ReadEvents_l2 n R)) : LoopOk Tryz.prog L0 (loopIn 2 (bodyOf Tryz.f12)) :=
  leimpl_ReadEvents_l2.ok mixed ttok (fun n => mkK_nat (cimpl_ReadEvents n)) (fun n => mkK_ok (cimpl_ReadEvents n)) (fun n => inimpl_ReadEvents_l2 n R) (mkK_nat (cimpl_ReadEvents n)) h0
@[reducible] def Simpl_ReadEvents : PkS := ⟨[.one (.str)], []⟩
@[reducible] def Timpl_ReadEvents : PkS := ⟨[.tup [(false, [.whole (300000, 0)]), (false, [.int .i64])], .one (.dead)], [((300000, 0), .arr (.pr (.int .i64) (.pr (.int .i64) (.pr (.int .i64) .str))))]⟩
def Himpl_ReadEvents : List Sh := [.tup [(false, [(.own (.pr (.int .i64) (.pr (.int .i64) (.pr (.int .i64) .str))))]), (false, [.any])], .skip]
def Kimpl_ReadEvents (g : ∀ {R : Type}, Nat → ByteArray → (Int → (List (Int × Int × Int × ByteArray)) → Option R) → Option R) (n : Nat) : KPs := fun R p k => match (PkS.un Simpl_ReadEvents p : Option (ByteArray × Unit)) with
  | some (x0, _) => g n x0 (fun r0 r1 => k (PkS.pack Timpl_ReadEvents (r0, r1, ())))
  | none => none
theorem eimpl_ReadEvents (impl_TakeFrame : ∀ {R : Type}, Nat → ByteArray → (ByteArray → Int → Bool → Option R) → Option R) (impl_ReadEvent : ∀ {R : Type}, Nat → ByteArray → (Int → Int → Int → ByteArray → Bool → Option R) → Option R) (impl_ReadEvents_l2 : ∀ {R : Type}, Nat → ByteArray → Int → (List (Int × Int × Int × ByteArray)) → (Int → (List (Int × Int × Int × ByteArray)) → Option R) → Option R) {R : Type} (n : Nat) (x0 : ByteArray) (k : Pk → Option R) : evF tt sig (mkK [(30, Kimpl_TakeFrame @impl_TakeFrame n), (8, Kimpl_ReadEvent @impl_ReadEvent n)] R) (mkL (mkK [(30, Kimpl_TakeFrame @impl_TakeFrame n), (8, Kimpl_ReadEvent @impl_ReadEvent n)]) [(2, Dimpl_ReadEvents_l2, Pimpl_ReadEvents_l2 @impl_ReadEvents_l2 n)] R) Tryz.f12 Himpl_ReadEvents (PkS.pack Simpl_ReadEvents (x0, ())) k = (fun (k : Int → (List (Int × Int × Int × ByteArray)) → Option R) => (impl_ReadEvents_l2 n x0 0 ([] : List (Int × Int × Int × ByteArray)) (fun r9 r10 => k r9 r10))) (fun r0 r1 => k (PkS.pack Timpl_ReadEvents (r0, r1, ()))) := by kernel_rfl
theorem okimpl_ReadEvents (n : Nat) : FnOk Tryz.prog 12 (Kimpl_ReadEvents @impl_ReadEvents n) := by
  refine fn_ok (sig := sig) mixed ttok (mkK_nat (cimpl_ReadEvents n)) (mkK_ok (cimpl_ReadEvents n)) (mkL_nat (mkK_nat (cimpl_ReadEvents n)) (l := [(2, Dimpl_ReadEvents_l2, Pimpl_ReadEvents_l2 @impl_ReadEvents_l2 n)]) ⟨nlimpl_ReadEvents_l2 n, trivial⟩) (fn := Tryz.f12) (c := bodyOf Tryz.f12) (by kernel_rfl) (by kernel_rfl) (by kernel_rfl) (.eq (l := [.lo (loopIn 2 (bodyOf Tryz.f12))]) (by kernel_rfl) ⟨(lkimpl_ReadEvents_l2 n _ _ (at_id (i := 2) (by kernel_rfl) rfl)), trivial⟩) (shs := Himpl_ReadEvents) (S := Simpl_ReadEvents) (h1 := by kernel_rfl) fun R p k => ?_
  unfold Kimpl_ReadEvents
  cases h : (PkS.un Simpl_ReadEvents p) with
  | none => rfl
  | some d =>
    obtain ⟨x0, u⟩ := (d : ByteArray × Unit)
    have hp := PkS.un_pack h
    subst hp
    exact (eimpl_ReadEvents @impl_TakeFrame @impl_ReadEvent @impl_ReadEvents_l2 n x0 k).symm

/-! ### loop.example/g00269/laws.sameEvents -/
theorem claws_sameEvents (n : Nat) : AllOk Tryz.prog [] := trivial
@[reducible] def Slaws_sameEvents_l4 : PkS := ⟨[.one (.ro (.pr (.int .i64) (.pr (.int .i64) (.pr (.int .i64) .str)))), .one (.ro (.pr (.int .i64) (.pr (.int .i64) (.pr (.int .i64) .str)))), .one (.int .i64), .one (.int .i64), .one (.dead), .one (.dead)], []⟩
@[reducible] def Tlaws_sameEvents_l4_0 : PkS := ⟨[.one (.bool), .one (.dead), .one (.dead)], []⟩
@[reducible] def Tlaws_sameEvents_l4_1 : PkS := ⟨[.one (.dead), .one (.dead)], []⟩
def Dlaws_sameEvents_l4 : LoopD := ⟨26, [0, 1, 12, 13], [.one (.ro (.pr (.int .i64) (.pr (.int .i64) (.pr (.int .i64) .str)))), .one (.ro (.pr (.int .i64) (.pr (.int .i64) (.pr (.int .i64) .str)))), .one .any, .one .any, .skip, .skip], fun x => match x with
  | .ret => some ([4], [.one .any, .skip, .skip])
  | .exit 0 => some ([], [.skip, .skip])
  | _ => none⟩
def Plaws_sameEvents_l4 (g : ∀ {R : Type}, Nat → (List (Int × Int × Int × ByteArray)) → (List (Int × Int × Int × ByteArray)) → Int → Int → (Bool → Option R) → (Option R) → Option R) (n : Nat) : LPs := fun R q kk => match (PkS.un Slaws_sameEvents_l4 q : Option ((List (Int × Int × Int × ByteArray)) × (List (Int × Int × Int × ByteArray)) × Int × Int × Unit)) with
  | some (y4_0, y4_1, y4_2, y4_3, _) => g n y4_0 y4_1 y4_2 y4_3 (fun r0 => kk .ret (PkS.pack Tlaws_sameEvents_l4_0 (r0, ()))) (kk (.exit 0) (PkS.pack Tlaws_sameEvents_l4_1 ()))
  | none => none
theorem elaws_sameEvents_l4 (laws_sameEvents_l4 : ∀ {R : Type}, Nat → (List (Int × Int × Int × ByteArray)) → (List (Int × Int × Int × ByteArray)) → Int → Int → (Bool → Option R) → (Option R) → Option R) {R : Type} (n : Nat) (y4_0 : List (Int × Int × Int × ByteArray)) (y4_1 : List (Int × Int × Int × ByteArray)) (y4_2 : Int) (y4_3 : Int) (kk : Ex → Pk → Option R) : Dlaws_sameEvents_l4.step tt sig (mkK [] R) (mkL (mkK []) [] R) (loopIn 4 (bodyOf Tryz.f13)) (fun q' => Plaws_sameEvents_l4 @laws_sameEvents_l4 n R q' kk) (PkS.pack Slaws_sameEvents_l4 (y4_0, y4_1, y4_2, y4_3, ())) kk = (fun (kret : Bool → Option R) (kexit0 : Option R) => (bif (decide (y4_3 < y4_2)) then (bif decide (0 ≤ y4_3) then (bif decide (y4_3 < (y4_0.length : Int)) then (bif decide (0 ≤ y4_3) then (bif decide (y4_3 < (y4_1.length : Int)) then (bif (!(((y4_0.getD (Int.toNat y4_3) (0, (0, (0, ByteArray.empty)))).1 == (y4_1.getD (Int.toNat y4_3) (0, (0, (0, ByteArray.empty)))).1) && (((y4_0.getD (Int.toNat y4_3) (0, (0, (0, ByteArray.empty)))).2.1 == (y4_1.getD (Int.toNat y4_3) (0, (0, (0, ByteArray.empty)))).2.1) && (((y4_0.getD (Int.toNat y4_3) (0, (0, (0, ByteArray.empty)))).2.2.1 == (y4_1.getD (Int.toNat y4_3) (0, (0, (0, ByteArray.empty)))).2.2.1) && ((ByteArray.toList ((y4_0.getD (Int.toNat y4_3) (0, (0, (0, ByteArray.empty)))).2.2.2) == ByteArray.toList ((y4_1.getD (Int.toNat y4_3) (0, (0, (0, ByteArray.empty)))).2.2.2)) && true))))) then kret false else laws_sameEvents_l4 n y4_0 y4_1 y4_2 (IntKind.wrap .i64 (y4_3 + 1)) kret kexit0) else none) else none) else none) else none) else kexit0)) (fun r0 => kk .ret (PkS.pack Tlaws_sameEvents_l4_0 (r0, ()))) (kk (.exit 0) (PkS.pack Tlaws_sameEvents_l4_1 ())) := by kernel_rfl
theorem lelaws_sameEvents_l4 : LoopEq tt sig (fun n => mkK []) (fun n => mkL (mkK []) []) Dlaws_sameEvents_l4 Slaws_sameEvents_l4 (loopIn 4 (bodyOf Tryz.f13)) (Plaws_sameEvents_l4 @laws_sameEvents_l4) where
  zero R q kk := by unfold Plaws_sameEvents_l4; cases (PkS.un Slaws_sameEvents_l4 q) <;> rfl
  succ n R q kk := by
    unfold Plaws_sameEvents_l4
    cases h : (PkS.un Slaws_sameEvents_l4 q) with
    | none => rfl
    | some d =>
      obtain ⟨y4_0, y4_1, y4_2, y4_3, u⟩ := (d : (List (Int × Int × Int × ByteArray)) × (List (Int × Int × Int × ByteArray)) × Int × Int × Unit)
      have hp := PkS.un_pack h
      subst hp
      exact (elaws_sameEvents_l4 @laws_sameEvents_l4 n y4_0 y4_1 y4_2 y4_3 kk).symm
theorem nllaws_sameEvents_l4 : ∀ n, NatLP (Plaws_sameEvents_l4 @laws_sameEvents_l4 n) := lelaws_sameEvents_l4.nat (fun n => mkK_nat (claws_sameEvents n)) fun n => mkL_nat (mkK_nat (claws_sameEvents n)) (l := []) trivial
theorem inlaws_sameEvents_l4 (n : Nat) (R : Type) : LoopsOk Tryz.prog (mkL (mkK []) [] R) (loopIn 4 (bodyOf Tryz.f13)) := .eq (l := []) (by kernel_rfl) trivial
theorem lklaws_sameEvents_l4 (n : Nat) (R : Type) (L0 : LK R) (h0 : ∀ id, firstRegion (loopIn 4 (bodyOf Tryz.f13)) = some id → L0 id = Dlaws_sameEvents_l4.oracle (mkK [] R) (Plaws_sameEvents_l4 @laws_sameEvents_l4 n R)) : LoopOk Tryz.prog L0 (loopIn 4 (bodyOf Tryz.f13)) :=
  lelaws_sameEvents_l4.ok mixed ttok (fun n => mkK_nat (claws_sameEvents n)) (fun n => mkK_ok (claws_sameEvents n)) (fun n => inlaws_sameEvents_l4 n R) (mkK_nat (claws_sameEvents n)) h0
@[reducible] def Slaws_sameEvents : PkS := ⟨[.one (.ro (.pr (.int .i64) (.pr (.int .i64) (.pr (.int .i64) .str)))), .one (.ro (.pr (.int .i64) (.pr (.int .i64) (.pr (.int .i64) .str))))], []⟩
@[reducible] def Tlaws_sameEvents : PkS := ⟨[.one (.bool), .one (.dead), .one (.dead)], []⟩
def Hlaws_sameEvents : List Sh := [.one .any, .skip, .skip]
def Klaws_sameEvents (g : ∀ {R : Type}, Nat → (List (Int × Int × Int × ByteArray)) → (List (Int × Int × Int × ByteArray)) → (Bool → Option R) → Option R) (n : Nat) : KPs := fun R p k => match (PkS.un Slaws_sameEvents p : Option ((List (Int × Int × Int × ByteArray)) × (List (Int × Int × Int × ByteArray)) × Unit)) with
  | some (x0, x1, _) => g n x0 x1 (fun r0 => k (PkS.pack Tlaws_sameEvents (r0, ())))
  | none => none
theorem elaws_sameEvents (laws_sameEvents_l4 : ∀ {R : Type}, Nat → (List (Int × Int × Int × ByteArray)) → (List (Int × Int × Int × ByteArray)) → Int → Int → (Bool → Option R) → (Option R) → Option R) {R : Type} (n : Nat) (x0 : List (Int × Int × Int × ByteArray)) (x1 : List (Int × Int × Int × ByteArray)) (k : Pk → Option R) : evF tt sig (mkK [] R) (mkL (mkK []) [(4, Dlaws_sameEvents_l4, Plaws_sameEvents_l4 @laws_sameEvents_l4 n)] R) Tryz.f13 Hlaws_sameEvents (PkS.pack Slaws_sameEvents (x0, x1, ())) k = (fun (k : Bool → Option R) => (bif ((x0.length : Int) != (x1.length : Int)) then k false else (laws_sameEvents_l4 n x0 x1 (x0.length : Int) 0 (fun r1 => k r1) (k true)))) (fun r0 => k (PkS.pack Tlaws_sameEvents (r0, ()))) := by kernel_rfl
theorem oklaws_sameEvents (n : Nat) : FnOk Tryz.prog 13 (Klaws_sameEvents @laws_sameEvents n) := by
  refine fn_ok (sig := sig) mixed ttok (mkK_nat (claws_sameEvents n)) (mkK_ok (claws_sameEvents n)) (mkL_nat (mkK_nat (claws_sameEvents n)) (l := [(4, Dlaws_sameEvents_l4, Plaws_sameEvents_l4 @laws_sameEvents_l4 n)]) ⟨nllaws_sameEvents_l4 n, trivial⟩) (fn := Tryz.f13) (c := bodyOf Tryz.f13) (by kernel_rfl) (by kernel_rfl) (by kernel_rfl) (.eq (l := [.lo (loopIn 4 (bodyOf Tryz.f13))]) (by kernel_rfl) ⟨(lklaws_sameEvents_l4 n _ _ (at_id (i := 4) (by kernel_rfl) rfl)), trivial⟩) (shs := Hlaws_sameEvents) (S := Slaws_sameEvents) (h1 := by kernel_rfl) fun R p k => ?_
  unfold Klaws_sameEvents
  cases h : (PkS.un Slaws_sameEvents p) with
  | none => rfl
  | some d =>
    obtain ⟨x0, x1, u⟩ := (d : (List (Int × Int × Int × ByteArray)) × (List (Int × Int × Int × ByteArray)) × Unit)
    have hp := PkS.un_pack h
    subst hp
    exact (elaws_sameEvents @laws_sameEvents_l4 n x0 x1 k).symm

/-! ### loop.example/g00269/laws.numberOf -/
theorem claws_numberOf (n : Nat) : AllOk Tryz.prog [] := trivial
@[reducible] def Slaws_numberOf_l3 : PkS := ⟨[.one (.int .i64), .one (.ro (.int .u8)), .one (.int .i64), .one (.int .i64), .one (.dead)], []⟩
@[reducible] def Tlaws_numberOf_l3_0 : PkS := ⟨[.one (.int .i64), .one (.dead)], []⟩
def Dlaws_numberOf_l3 : LoopD := ⟨20, [3, 6, 7, 8], [.one .any, .one (.ro (.int .u8)), .one .any, .one .any, .skip], fun x => match x with
  | .exit 0 => some ([3], [.one .any, .skip])
  | _ => none⟩
def Plaws_numberOf_l3 (g : ∀ {R : Type}, Nat → Int → (List Int) → Int → Int → (Int → Option R) → Option R) (n : Nat) : LPs := fun R q kk => match (PkS.un Slaws_numberOf_l3 q : Option (Int × (List Int) × Int × Int × Unit)) with
  | some (y3_0, y3_1, y3_2, y3_3, _) => g n y3_0 y3_1 y3_2 y3_3 (fun r0 => kk (.exit 0) (PkS.pack Tlaws_numberOf_l3_0 (r0, ())))
  | none => none
theorem elaws_numberOf_l3 (laws_numberOf_l3 : ∀ {R : Type}, Nat → Int → (List Int) → Int → Int → (Int → Option R) → Option R) {R : Type} (n : Nat) (y3_0 : Int) (y3_1 : List Int) (y3_2 : Int) (y3_3 : Int) (kk : Ex → Pk → Option R) : Dlaws_numberOf_l3.step tt sig (mkK [] R) (mkL (mkK []) [] R) (loopIn 3 (bodyOf Tryz.f14)) (fun q' => Plaws_numberOf_l3 @laws_numberOf_l3 n R q' kk) (PkS.pack Slaws_numberOf_l3 (y3_0, y3_1, y3_2, y3_3, ())) kk = (fun (kexit0 : Int → Option R) => (bif (decide (y3_3 < y3_2)) then (bif decide (0 ≤ y3_3) then (bif decide (y3_3 < (y3_1.length : Int)) then laws_numberOf_l3 n (Int.tmod (IntKind.wrap .i64 ((IntKind.wrap .i64 (31 * y3_0)) + (IntKind.wrap .i64 ((y3_1.getD (Int.toNat y3_3) 0))))) 1000003) y3_1 y3_2 (IntKind.wrap .i64 (y3_3 + 1)) kexit0 else none) else none) else kexit0 y3_0)) (fun r0 => kk (.exit 0) (PkS.pack Tlaws_numberOf_l3_0 (r0, ()))) := by kernel_rfl
theorem lelaws_numberOf_l3 : LoopEq tt sig (fun n => mkK []) (fun n => mkL (mkK []) []) Dlaws_numberOf_l3 Slaws_numberOf_l3 (loopIn 3 (bodyOf Tryz.f14)) (Plaws_numberOf_l3 @laws_numberOf_l3) where
  zero R q kk := by unfold Plaws_numberOf_l3; cases (PkS.un Slaws_numberOf_l3 q) <;> rfl
  succ n R q kk := by
    unfold Plaws_numberOf_l3
    cases h : (PkS.un Slaws_numberOf_l3 q) with
    | none => rfl
    | some d =>
      obtain ⟨y3_0, y3_1, y3_2, y3_3, u⟩ := (d : Int × (List Int) × Int × Int × Unit)
      have hp := PkS.un_pack h
      subst hp
      exact (elaws_numberOf_l3 @laws_numberOf_l3 n y3_0 y3_1 y3_2 y3_3 kk).symm
theorem nllaws_numberOf_l3 : ∀ n, NatLP (Plaws_numberOf_l3 @laws_numberOf_l3 n) := lelaws_numberOf_l3.nat (fun n => mkK_nat (claws_numberOf n)) fun n => mkL_nat (mkK_nat (claws_numberOf n)) (l := []) trivial
theorem inlaws_numberOf_l3 (n : Nat) (R : Type) : LoopsOk Tryz.prog (mkL (mkK []) [] R) (loopIn 3 (bodyOf Tryz.f14)) := .eq (l := []) (by kernel_rfl) trivial
theorem lklaws_numberOf_l3 (n : Nat) (R : Type) (L0 : LK R) (h0 : ∀ id, firstRegion (loopIn 3 (bodyOf Tryz.f14)) = some id → L0 id = Dlaws_numberOf_l3.oracle (mkK [] R) (Plaws_numberOf_l3 @laws_numberOf_l3 n R)) : LoopOk Tryz.prog L0 (loopIn 3 (bodyOf Tryz.f14)) :=
  lelaws_numberOf_l3.ok mixed ttok (fun n => mkK_nat (claws_numberOf n)) (fun n => mkK_ok (claws_numberOf n)) (fun n => inlaws_numberOf_l3 n R) (mkK_nat (claws_numberOf n)) h0
@[reducible] def Slaws_numberOf : PkS := ⟨[.one (.ro (.int .u8))], []⟩
@[reducible] def Tlaws_numberOf : PkS := ⟨[.one (.int .i64), .one (.dead)], []⟩
def Hlaws_numberOf : List Sh := [.one .any, .skip]
def Klaws_numberOf (g : ∀ {R : Type}, Nat → (List Int) → (Int → Option R) → Option R) (n : Nat) : KPs := fun R p k => match (PkS.un Slaws_numberOf p : Option ((List Int) × Unit)) with
  | some (x0, _) => g n x0 (fun r0 => k (PkS.pack Tlaws_numberOf (r0, ())))
  | none => none
theorem elaws_numberOf (laws_numberOf_l3 : ∀ {R : Type}, Nat → Int → (List Int) → Int → Int → (Int → Option R) → Option R) {R : Type} (n : Nat) (x0 : List Int) (k : Pk → Option R) : evF tt sig (mkK [] R) (mkL (mkK []) [(3, Dlaws_numberOf_l3, Plaws_numberOf_l3 @laws_numberOf_l3 n)] R) Tryz.f14 Hlaws_numberOf (PkS.pack Slaws_numberOf (x0, ())) k = (fun (k : Int → Option R) => (laws_numberOf_l3 n 0 x0 (x0.length : Int) 0 (fun r1 => k r1))) (fun r0 => k (PkS.pack Tlaws_numberOf (r0, ()))) := by kernel_rfl
theorem oklaws_numberOf (n : Nat) : FnOk Tryz.prog 14 (Klaws_numberOf @laws_numberOf n) := by
  refine fn_ok (sig := sig) mixed ttok (mkK_nat (claws_numberOf n)) (mkK_ok (claws_numberOf n)) (mkL_nat (mkK_nat (claws_numberOf n)) (l := [(3, Dlaws_numberOf_l3, Plaws_numberOf_l3 @laws_numberOf_l3 n)]) ⟨nllaws_numberOf_l3 n, trivial⟩) (fn := Tryz.f14) (c := bodyOf Tryz.f14) (by kernel_rfl) (by kernel_rfl) (by kernel_rfl) (.eq (l := [.lo (loopIn 3 (bodyOf Tryz.f14))]) (by kernel_rfl) ⟨(lklaws_numberOf_l3 n _ _ (at_id (i := 3) (by kernel_rfl) rfl)), trivial⟩) (shs := Hlaws_numberOf) (S := Slaws_numberOf) (h1 := by kernel_rfl) fun R p k => ?_
  unfold Klaws_numberOf
  cases h : (PkS.un Slaws_numberOf p) with
  | none => rfl
  | some d =>
    obtain ⟨x0, u⟩ := (d : (List Int) × Unit)
    have hp := PkS.un_pack h
    subst hp
    exact (elaws_numberOf @laws_numberOf_l3 n x0 k).symm

/-! ### loop.example/g00269/laws.FnEvents -/
theorem claws_FnEvents (n : Nat) : AllOk Tryz.prog [(4, Kspec_DrawEventBytes @spec_DrawEventBytes n), (5, Kimpl_EventBytes @impl_EventBytes n), (6, Kspec_EventBytes @spec_EventBytes n), (7, Kimpl_GoodEvent @impl_GoodEvent n), (8, Kimpl_ReadEvent @impl_ReadEvent n), (9, Kspec_DrawEventsBytes @spec_DrawEventsBytes n), (10, Kimpl_EventsBytes @impl_EventsBytes n), (11, Kspec_EventsBytes @spec_EventsBytes n), (12, Kimpl_ReadEvents @impl_ReadEvents n), (13, Klaws_sameEvents @laws_sameEvents n), (14, Klaws_numberOf @laws_numberOf n)] := ⟨okspec_DrawEventBytes n, ⟨okimpl_EventBytes n, ⟨okspec_EventBytes n, ⟨okimpl_GoodEvent n, ⟨okimpl_ReadEvent n, ⟨okspec_DrawEventsBytes n, ⟨okimpl_EventsBytes n, ⟨okspec_EventsBytes n, ⟨okimpl_ReadEvents n, ⟨oklaws_sameEvents n, ⟨oklaws_numberOf n, trivial⟩⟩⟩⟩⟩⟩⟩⟩⟩⟩⟩
@[reducible] def Slaws_FnEvents : PkS := ⟨[.one (.ro (.int .u8)), .one (.ro (.int .u8))], []⟩
@[reducible] def Tlaws_FnEvents : PkS := ⟨[.one (.bool), .one (.dead), .one (.dead)], []⟩
def Hlaws_FnEvents : List Sh := [.one .any, .skip, .skip]
def Klaws_FnEvents (g : ∀ {R : Type}, Nat → (List Int) → (List Int) → (Bool → Option R) → Option R) (n : Nat) : KPs := fun R p k => match (PkS.un Slaws_FnEvents p : Option ((List Int) × (List Int) × Unit)) with
  | some (x0, x1, _) => g n x0 x1 (fun r0 => k (PkS.pack Tlaws_FnEvents (r0, ())))
  | none => none
theorem elaws_FnEvents (spec_DrawEventBytes : ∀ {R : Type}, Nat → (List Int) → (Int → Int → Int → ByteArray → Option R) → Option R) (impl_EventBytes : ∀ {R : Type}, Nat → Int → Int → Int → ByteArray → (ByteArray → Bool → Option R) → Option R) (spec_EventBytes : ∀ {R : Type}, Nat → Int → Int → Int → ByteArray → (ByteArray → Bool → Option R) → Option R) (impl_GoodEvent : ∀ {R : Type}, Nat → Int → Int → Int → ByteArray → (Bool → Option R) → Option R) (impl_ReadEvent : ∀ {R : Type}, Nat → ByteArray → (Int → Int → Int → ByteArray → Bool → Option R) → Option R) (spec_DrawEventsBytes : ∀ {R : Type}, Nat → (List Int) → ((List (Int × Int × Int × ByteArray)) → Option R) → Option R) (impl_EventsBytes : ∀ {R : Type}, Nat → (List (Int × Int × Int × ByteArray)) → (ByteArray → Bool → Option R) → Option R) (spec_EventsBytes : ∀ {R : Type}, Nat → (List (Int × Int × Int × ByteArray)) → (ByteArray → Bool → Option R) → Option R) (impl_ReadEvents : ∀ {R : Type}, Nat → ByteArray → (Int → (List (Int × Int × Int × ByteArray)) → Option R) → Option R) (laws_sameEvents : ∀ {R : Type}, Nat → (List (Int × Int × Int × ByteArray)) → (List (Int × Int × Int × ByteArray)) → (Bool → Option R) → Option R) (laws_numberOf : ∀ {R : Type}, Nat → (List Int) → (Int → Option R) → Option R) {R : Type} (n : Nat) (x0 : List Int) (x1 : List Int) (k : Pk → Option R) : evF tt sig (mkK [(4, Kspec_DrawEventBytes @spec_DrawEventBytes n), (5, Kimpl_EventBytes @impl_EventBytes n), (6, Kspec_EventBytes @spec_EventBytes n), (7, Kimpl_GoodEvent @impl_GoodEvent n), (8, Kimpl_ReadEvent @impl_ReadEvent n), (9, Kspec_DrawEventsBytes @spec_DrawEventsBytes n), (10, Kimpl_EventsBytes @impl_EventsBytes n), (11, Kspec_EventsBytes @spec_EventsBytes n), (12, Kimpl_ReadEvents @impl_ReadEvents n), (13, Klaws_sameEvents @laws_sameEvents n), (14, Klaws_numberOf @laws_numberOf n)] R) (mkL (mkK [(4, Kspec_DrawEventBytes @spec_DrawEventBytes n), (5, Kimpl_EventBytes @impl_EventBytes n), (6, Kspec_EventBytes @spec_EventBytes n), (7, Kimpl_GoodEvent @impl_GoodEvent n), (8, Kimpl_ReadEvent @impl_ReadEvent n), (9, Kspec_DrawEventsBytes @spec_DrawEventsBytes n), (10, Kimpl_EventsBytes @impl_EventsBytes n), (11, Kspec_EventsBytes @spec_EventsBytes n), (12, Kimpl_ReadEvents @impl_ReadEvents n), (13, Klaws_sameEvents @laws_sameEvents n), (14, Klaws_numberOf @laws_numberOf n)]) [] R) Tryz.f3 Hlaws_FnEvents (PkS.pack Slaws_FnEvents (x0, x1, ())) k = (fun (k : Bool → Option R) => (bif (decide ((IntKind.wrap .i64 ((x0.length : Int) + (x1.length : Int))) > 1048576)) then k true else (spec_DrawEventBytes n x0 fun r1 r2 r3 r4 => (impl_EventBytes n r1 r2 r3 r4 fun r5 r6 => (spec_EventBytes n r1 r2 r3 r4 fun r7 r8 => (bif (!(r6 == r8)) then k false else (bif (!((ByteArray.toList r5) == (ByteArray.toList r7))) then k false else (impl_GoodEvent n r1 r2 r3 r4 fun r9 => (bif (!(r9 == r8)) then k false else (bif r6 then (impl_ReadEvent n r5 fun r10 r11 r12 r13 r14 => (bif (!r14) then k false else (bif (!((r10 == r1) && ((r11 == r2) && ((r12 == r3) && ((ByteArray.toList r13 == ByteArray.toList r4) && true))))) then k false else (spec_DrawEventsBytes n x1 fun r15 => (impl_EventsBytes n r15 fun r16 r17 => (spec_EventsBytes n r15 fun r18 r19 => (bif (!(r17 == r19)) then k false else (bif (!((ByteArray.toList r16) == (ByteArray.toList r18))) then k false else (bif (!r17) then k ((ByteArray.toList r16) == (ByteArray.toList (ByteArray.mk #[]))) else (impl_ReadEvents n r16 fun r20 r21 => (laws_sameEvents n r21 r15 fun r22 => (bif (!r22) then k false else (bif (r20 != (r16.size : Int)) then k false else (bif (decide ((r16.size : Int) > 0)) then (laws_numberOf n x0 fun r23 => (bif decide ((r16.size : Int) ≠ 0) then (bif decide (0 ≤ (Int.tmod r23 (r16.size : Int))) then (bif decide ((Int.tmod r23 (r16.size : Int)) ≤ (r16.size : Int)) then (impl_ReadEvents n (ByteArray.extract r16 0 (Int.toNat (Int.tmod r23 (r16.size : Int)))) fun r24 r25 => (bif (decide ((r25.length : Int) ≤ (r15.length : Int))) then (bif decide (0 ≤ (r25.length : Int)) then (bif decide ((r25.length : Int) ≤ (r15.length : Int)) then (laws_sameEvents n r25 ((r15.drop 0).take ((Int.toNat (r25.length : Int)) - 0)) fun r26 => (bif r26 then k (decide (r24 ≤ (Int.tmod r23 (r16.size : Int)))) else k false)) else none) else none) else k false)) else none) else none) else none)) else (bif decide (0 ≤ (r16.size : Int)) then (impl_ReadEvents n (ByteArray.extract r16 0 0) fun r27 r28 => (bif (decide ((r28.length : Int) ≤ (r15.length : Int))) then (bif decide (0 ≤ (r28.length : Int)) then (bif decide ((r28.length : Int) ≤ (r15.length : Int)) then (laws_sameEvents n r28 ((r15.drop 0).take ((Int.toNat (r28.length : Int)) - 0)) fun r29 => (bif r29 then k (decide (r27 ≤ 0)) else k false)) else none) else none) else k false)) else none))))))))))))))) else (spec_DrawEventsBytes n x1 fun r30 => (impl_EventsBytes n r30 fun r31 r32 => (spec_EventsBytes n r30 fun r33 r34 => (bif (!(r32 == r34)) then k false else (bif (!((ByteArray.toList r31) == (ByteArray.toList r33))) then k false else (bif (!r32) then k ((ByteArray.toList r31) == (ByteArray.toList (ByteArray.mk #[]))) else (impl_ReadEvents n r31 fun r35 r36 => (laws_sameEvents n r36 r30 fun r37 => (bif (!r37) then k false else (bif (r35 != (r31.size : Int)) then k false else (bif (decide ((r31.size : Int) > 0)) then (laws_numberOf n x0 fun r38 => (bif decide ((r31.size : Int) ≠ 0) then (bif decide (0 ≤ (Int.tmod r38 (r31.size : Int))) then (bif decide ((Int.tmod r38 (r31.size : Int)) ≤ (r31.size : Int)) then (impl_ReadEvents n (ByteArray.extract r31 0 (Int.toNat (Int.tmod r38 (r31.size : Int)))) fun r39 r40 => (bif (decide ((r40.length : Int) ≤ (r30.length : Int))) then (bif decide (0 ≤ (r40.length : Int)) then (bif decide ((r40.length : Int) ≤ (r30.length : Int)) then (laws_sameEvents n r40 ((r30.drop 0).take ((Int.toNat (r40.length : Int)) - 0)) fun r41 => (bif r41 then k (decide (r39 ≤ (Int.tmod r38 (r31.size : Int)))) else k false)) else none) else none) else k false)) else none) else none) else none)) else (bif decide (0 ≤ (r31.size : Int)) then (impl_ReadEvents n (ByteArray.extract r31 0 0) fun r42 r43 => (bif (decide ((r43.length : Int) ≤ (r30.length : Int))) then (bif decide (0 ≤ (r43.length : Int)) then (bif decide ((r43.length : Int) ≤ (r30.length : Int)) then (laws_sameEvents n r43 ((r30.drop 0).take ((Int.toNat (r43.length : Int)) - 0)) fun r44 => (bif r44 then k (decide (r42 ≤ 0)) else k false)) else none) else none) else k false)) else none)))))))))))))))))))))) (fun r0 => k (PkS.pack Tlaws_FnEvents (r0, ()))) := by kernel_rfl
theorem oklaws_FnEvents (n : Nat) : FnOk Tryz.prog 3 (Klaws_FnEvents @laws_FnEvents n) := by
  refine fn_ok (sig := sig) mixed ttok (mkK_nat (claws_FnEvents n)) (mkK_ok (claws_FnEvents n)) (mkL_nat (mkK_nat (claws_FnEvents n)) (l := []) trivial) (fn := Tryz.f3) (c := bodyOf Tryz.f3) (by kernel_rfl) (by kernel_rfl) (by kernel_rfl) (.eq (l := []) (by kernel_rfl) trivial) (shs := Hlaws_FnEvents) (S := Slaws_FnEvents) (h1 := by kernel_rfl) fun R p k => ?_
  unfold Klaws_FnEvents
  cases h : (PkS.un Slaws_FnEvents p) with
  | none => rfl
  | some d =>
    obtain ⟨x0, x1, u⟩ := (d : (List Int) × (List Int) × Unit)
    have hp := PkS.un_pack h
    subst hp
    exact (elaws_FnEvents @spec_DrawEventBytes @impl_EventBytes @spec_EventBytes @impl_GoodEvent @impl_ReadEvent @spec_DrawEventsBytes @impl_EventsBytes @spec_EventsBytes @impl_ReadEvents @laws_sameEvents @laws_numberOf n x0 x1 k).symm
end Go.Am.G
