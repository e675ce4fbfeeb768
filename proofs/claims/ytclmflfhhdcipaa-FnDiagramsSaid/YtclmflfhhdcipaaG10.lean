/- The code of the functions that the law reaches does what the plain functions say. -/
import Derived.Test.YtclmflfhhdcipaaF10
import Derived.Test.YtclmflfhhdcipaaAmB
import Derived.KernelRfl
import Derived.Test.YtclmflfhhdcipaaProg
set_option linter.unusedVariables false
set_option maxRecDepth 100000
namespace Go.Am.G
open Go Go.Am
open Go.Proofs
def tt : TT := [(3, ⟨1, false, (.int .i64), 0, [], [.int .i64 0], 8, true, false, [], none⟩), (4, ⟨1, false, .bool, 0, [], [.bool false], 1, true, false, [], none⟩), (5, ⟨1, false, (.int .u8), 0, [], [.int .u8 0], 1, true, false, [], none⟩), (9, ⟨1, false, .str, 0, [], [.str ByteArray.empty], 16, true, false, [], none⟩), (27, ⟨1, false, (.sl (.pr (.int .i64) (.pr (.int .i64) (.int .i64)))), 79, [], [.nil], 24, true, true, [], none⟩), (29, ⟨2, true, (.pr (.sl (.pr (.int .i64) (.pr (.int .i64) (.int .i64)))) (.int .i64)), 0, [(0, 1, false), (1, 1, false)], [.nil, .int .i64 0], 32, true, false, [], none⟩), (47, ⟨1, false, (.sl (.int .u8)), 5, [], [.nil], 24, true, true, [], none⟩), (51, ⟨1, false, (.int .u64), 0, [], [.int .u64 0], 8, true, false, [], none⟩), (57, ⟨1, false, (.int .u64), 0, [], [.int .u64 0], 8, true, false, [], none⟩), (61, ⟨1, false, (.int .u64), 0, [], [.int .u64 0], 8, true, false, [], none⟩), (76, ⟨3, true, (.pr (.sl (.int .u8)) (.pr (.int .i64) (.int .u64))), 0, [(0, 1, false), (1, 1, false), (2, 1, false)], [.nil, .int .i64 0, .int .u64 0], 40, true, false, [], none⟩), (79, ⟨3, true, (.pr (.int .i64) (.pr (.int .i64) (.int .i64))), 0, [(0, 1, false), (1, 1, false), (2, 1, false)], [.int .i64 0, .int .i64 0, .int .i64 0], 24, true, false, [(.int .i64), (.int .i64), (.int .i64)], none⟩), (82, ⟨1, false, (.sl (.int .u64)), 61, [], [.nil], 24, true, true, [], none⟩), (87, ⟨3, true, (.pr .str (.pr (.int .i64) .bool)), 0, [(0, 1, false), (1, 1, false), (2, 1, false)], [.str ByteArray.empty, .int .i64 0, .bool false], 32, true, false, [.str, (.int .i64), .bool], none⟩), (96, ⟨1, false, .bool, 0, [], [.dead], 8, false, false, [], some (61, 3)⟩), (98, ⟨2, true, .bool, 0, [(0, 1, false), (1, 1, false)], [.nil, .dead], 32, false, false, [], none⟩), (105, ⟨1, false, (.sl (.int .u64)), 57, [], [.nil], 24, true, true, [], none⟩), (106, ⟨1, false, (.sl .bool), 4, [], [.nil], 24, true, true, [], none⟩), (111, ⟨1, false, (.sl .str), 9, [], [.nil], 24, true, true, [], none⟩)]
def sig : Sig := sigOf [(10, [.one (.ro (.int .u8)), .one (.ro (.int .u8))]), (13, [.agg [(.ro (.pr (.int .i64) (.pr (.int .i64) (.int .i64)))), .any]]), (15, [.agg [(.ro (.pr (.int .i64) (.pr (.int .i64) (.int .i64)))), .any]]), (18, [.agg [(.ro (.pr (.int .i64) (.pr (.int .i64) (.int .i64)))), .any], .one .any]), (19, [.one .any]), (26, [.agg [(.ro (.pr (.int .i64) (.pr (.int .i64) (.int .i64)))), .any]]), (28, [.agg [(.ro (.pr (.int .i64) (.pr (.int .i64) (.int .i64)))), .any], .one .any, .one .any]), (29, [.agg [(.ro (.pr (.int .i64) (.pr (.int .i64) (.int .i64)))), .any], .agg [(.ro (.pr (.int .i64) (.pr (.int .i64) (.int .i64)))), .any]]), (30, [.agg [(.ro (.pr (.int .i64) (.pr (.int .i64) (.int .i64)))), .any], .agg [(.ro (.pr (.int .i64) (.pr (.int .i64) (.int .i64)))), .any]]), (31, [.one (.ro (.int .u8))]), (32, [.agg [(.ro (.pr (.int .i64) (.pr (.int .i64) (.int .i64)))), .any], .agg [(.ro (.pr (.int .i64) (.pr (.int .i64) (.int .i64)))), .any]]), (33, [.one (.ro (.int .u8))]), (40, [.agg [(.ro (.pr (.int .i64) (.pr (.int .i64) (.int .i64)))), .any]]), (42, [.agg [(.ro (.pr (.int .i64) (.pr (.int .i64) (.int .i64)))), .any]]), (44, [.one .any, .one .any, .one .any]), (45, [.one .any, .one .any, .one .any]), (46, [.one .any]), (47, [.one .any]), (49, [.one .any]), (53, [.one .any]), (54, [.one .any, .one .any, .one .any]), (55, [.one .any, .one .any, .one .any]), (56, [.box [(.ro (.int .u8)), .any, .any]]), (58, [.agg [(.ro (.pr (.int .i64) (.pr (.int .i64) (.int .i64)))), .any]]), (60, [.one .any, .one (.ro (.int .u64))]), (61, [.one .any]), (62, [.one (.ro (.pr (.int .i64) (.pr (.int .i64) (.int .i64)))), .one (.ro (.pr (.int .i64) (.pr (.int .i64) (.int .i64))))]), (64, [.box [.any, .any, .any]]), (65, [.one .any, .one .any, .one (.own (.pr (.int .i64) (.pr (.int .i64) (.int .i64))))]), (67, [.box [(.own (.pr (.int .i64) (.pr (.int .i64) (.int .i64)))), .map], .one .any]), (68, [.one .any]), (69, [.box [(.ro (.int .u8)), .any, .any], .one .any]), (70, [.box [(.ro (.int .u8)), .any, .any], .one .any]), (71, [.box [(.ro (.int .u8)), .any, .any], .one .any]), (73, [.box [.any, .any, .any]]), (74, [.box [.any, .any, .any], .one .any]), (77, [.box [(.ro (.int .u8)), .any, .any], .one (.ro .str)]), (78, [.box [(.ro (.int .u8)), .any, .any]])]
theorem ttok : TTok Try.prog tt := .of_chk (by kernel_rfl)
theorem mixed : Try.prog.follows .mixedOrders = true := by kernel_rfl

/-! ### (*loop.example/g00269/spec.l1Cur).next -/
theorem cspec_l1Cur_next (n : Nat) : AllOk Try.prog [] := trivial
@[reducible] def Sspec_l1Cur_next : PkS := ⟨[.one (.box (200000, 0) 0)], [((200000, 0), .box [.ro (.int .u8), .int .i64, .int .u64])]⟩
@[reducible] def Tspec_l1Cur_next : PkS := ⟨[.one (.int .i64), .one (.box (300000, 0) 0)], [((300000, 0), .box [.ro (.int .u8), .int .i64, .int .u64])]⟩
def Hspec_l1Cur_next : List Sh := [.one .any, .box [(.ro (.int .u8)), .any, .any]]
def Kspec_l1Cur_next (g : ∀ {R : Type}, Nat → (List Int) → Int → Int → (Int → (List Int) → Int → Int → Option R) → Option R) (n : Nat) : KPs := fun R p k => match (PkS.un Sspec_l1Cur_next p : Option ((List Int) × Int × Int × Unit)) with
  | some (x0, x1, x2, _) => g n x0 x1 x2 (fun r0 r1 r2 r3 => k (PkS.pack Tspec_l1Cur_next (r0, r1, r2, r3, ())))
  | none => none
theorem espec_l1Cur_next  {R : Type} (n : Nat) (x0 : List Int) (x1 : Int) (x2 : Int) (k : Pk → Option R) : evF tt sig (mkK [] R) (mkL (mkK []) [] R) Try.f78 Hspec_l1Cur_next (PkS.pack Sspec_l1Cur_next (x0, x1, x2, ())) k = (fun (k : Int → (List Int) → Int → Int → Option R) => (bif (decide (x1 < (x0.length : Int))) then (bif decide (0 ≤ x1) then (bif decide (x1 < (x0.length : Int)) then (bif (decide ((IntKind.wrap .i64 (x1 + 1)) ≤ (x0.length : Int))) then k (IntKind.wrap .i64 ((x0.getD (Int.toNat x1) 0))) x0 (IntKind.wrap .i64 (x1 + 1)) (IntKind.wrap .u64 ((IntKind.wrap .u64 ((IntKind.wrap .u64 (x2 * 6364136223846793005)) + (IntKind.wrap .u64 ((IntKind.wrap .i64 ((x0.getD (Int.toNat x1) 0))))))) + 1442695040888963407)) else k (IntKind.wrap .i64 ((IntKind.wrap .u64 (Int.ofNat (BitVec.toNat (BitVec.ofInt (IntKind.bits .u64) (Int.fdiv (IntKind.wrap .u64 ((IntKind.wrap .u64 ((IntKind.wrap .u64 (x2 * 6364136223846793005)) + (IntKind.wrap .u64 ((IntKind.wrap .i64 ((x0.getD (Int.toNat x1) 0))))))) + 1442695040888963407)) (2 ^ (min (Int.toNat 40) (IntKind.bits .u64)))) &&& BitVec.ofInt (IntKind.bits .u64) 255)))))) x0 (IntKind.wrap .i64 (x1 + 1)) (IntKind.wrap .u64 ((IntKind.wrap .u64 ((IntKind.wrap .u64 (x2 * 6364136223846793005)) + (IntKind.wrap .u64 ((IntKind.wrap .i64 ((x0.getD (Int.toNat x1) 0))))))) + 1442695040888963407))) else none) else none) else (bif (decide ((IntKind.wrap .i64 (x1 + 1)) ≤ (x0.length : Int))) then k 0 x0 (IntKind.wrap .i64 (x1 + 1)) (IntKind.wrap .u64 ((IntKind.wrap .u64 ((IntKind.wrap .u64 (x2 * 6364136223846793005)) + 0)) + 1442695040888963407)) else k (IntKind.wrap .i64 ((IntKind.wrap .u64 (Int.ofNat (BitVec.toNat (BitVec.ofInt (IntKind.bits .u64) (Int.fdiv (IntKind.wrap .u64 ((IntKind.wrap .u64 ((IntKind.wrap .u64 (x2 * 6364136223846793005)) + 0)) + 1442695040888963407)) (2 ^ (min (Int.toNat 40) (IntKind.bits .u64)))) &&& BitVec.ofInt (IntKind.bits .u64) 255)))))) x0 (IntKind.wrap .i64 (x1 + 1)) (IntKind.wrap .u64 ((IntKind.wrap .u64 ((IntKind.wrap .u64 (x2 * 6364136223846793005)) + 0)) + 1442695040888963407))))) (fun r0 r1 r2 r3 => k (PkS.pack Tspec_l1Cur_next (r0, r1, r2, r3, ()))) := by kernel_rfl
theorem okspec_l1Cur_next (n : Nat) : FnOk Try.prog 78 (Kspec_l1Cur_next @spec_l1Cur_next n) := by
  refine fn_ok (sig := sig) mixed ttok (mkK_nat (cspec_l1Cur_next n)) (mkK_ok (cspec_l1Cur_next n)) (mkL_nat (mkK_nat (cspec_l1Cur_next n)) (l := []) trivial) (fn := Try.f78) (c := bodyOf Try.f78) (by kernel_rfl) (by kernel_rfl) (by kernel_rfl) (.eq (l := []) (by kernel_rfl) trivial) (shs := Hspec_l1Cur_next) (S := Sspec_l1Cur_next) (h1 := by kernel_rfl) fun R p k => ?_
  unfold Kspec_l1Cur_next
  cases h : (PkS.un Sspec_l1Cur_next p) with
  | none => rfl
  | some d =>
    obtain ⟨x0, x1, x2, u⟩ := (d : (List Int) × Int × Int × Unit)
    have hp := PkS.un_pack h
    subst hp
    exact (espec_l1Cur_next  n x0 x1 x2 k).symm

/-! ### (*loop.example/g00269/spec.l1Cur).pick -/
theorem cspec_l1Cur_pick (n : Nat) : AllOk Try.prog [(78, Kspec_l1Cur_next @spec_l1Cur_next n)] := ⟨okspec_l1Cur_next n, trivial⟩
@[reducible] def Sspec_l1Cur_pick : PkS := ⟨[.one (.box (200000, 0) 0), .one (.int .i64)], [((200000, 0), .box [.ro (.int .u8), .int .i64, .int .u64])]⟩
@[reducible] def Tspec_l1Cur_pick : PkS := ⟨[.one (.int .i64), .one (.box (300000, 0) 0), .one (.dead)], [((300000, 0), .box [.ro (.int .u8), .int .i64, .int .u64])]⟩
def Hspec_l1Cur_pick : List Sh := [.one .any, .box [(.ro (.int .u8)), .any, .any], .skip]
def Kspec_l1Cur_pick (g : ∀ {R : Type}, Nat → Int → (List Int) → Int → Int → (Int → (List Int) → Int → Int → Option R) → Option R) (n : Nat) : KPs := fun R p k => match (PkS.un Sspec_l1Cur_pick p : Option (Int × (List Int) × Int × Int × Unit)) with
  | some (x0, x1, x2, x3, _) => g n x0 x1 x2 x3 (fun r0 r1 r2 r3 => k (PkS.pack Tspec_l1Cur_pick (r0, r1, r2, r3, ())))
  | none => none
theorem espec_l1Cur_pick (spec_l1Cur_next : ∀ {R : Type}, Nat → (List Int) → Int → Int → (Int → (List Int) → Int → Int → Option R) → Option R) {R : Type} (n : Nat) (x0 : Int) (x1 : List Int) (x2 : Int) (x3 : Int) (k : Pk → Option R) : evF tt sig (mkK [(78, Kspec_l1Cur_next @spec_l1Cur_next n)] R) (mkL (mkK [(78, Kspec_l1Cur_next @spec_l1Cur_next n)]) [] R) Try.f70 Hspec_l1Cur_pick (PkS.pack Sspec_l1Cur_pick (x0, x1, x2, x3, ())) k = (fun (k : Int → (List Int) → Int → Int → Option R) => (bif (decide (x0 ≤ 1)) then k 0 x1 x2 x3 else (spec_l1Cur_next n x1 x2 x3 fun r1 r2 r3 r4 => (bif (decide (x0 > 200)) then (spec_l1Cur_next n r2 r3 r4 fun r5 r6 r7 r8 => (bif decide (x0 ≠ 0) then k (Int.tmod (IntKind.wrap .i64 ((IntKind.wrap .i64 (r1 * 256)) + r5)) x0) r6 r7 r8 else none)) else (bif decide (x0 ≠ 0) then k (Int.tmod r1 x0) r2 r3 r4 else none))))) (fun r0 r1 r2 r3 => k (PkS.pack Tspec_l1Cur_pick (r0, r1, r2, r3, ()))) := by kernel_rfl
theorem okspec_l1Cur_pick (n : Nat) : FnOk Try.prog 70 (Kspec_l1Cur_pick @spec_l1Cur_pick n) := by
  refine fn_ok (sig := sig) mixed ttok (mkK_nat (cspec_l1Cur_pick n)) (mkK_ok (cspec_l1Cur_pick n)) (mkL_nat (mkK_nat (cspec_l1Cur_pick n)) (l := []) trivial) (fn := Try.f70) (c := bodyOf Try.f70) (by kernel_rfl) (by kernel_rfl) (by kernel_rfl) (.eq (l := []) (by kernel_rfl) trivial) (shs := Hspec_l1Cur_pick) (S := Sspec_l1Cur_pick) (h1 := by kernel_rfl) fun R p k => ?_
  unfold Kspec_l1Cur_pick
  cases h : (PkS.un Sspec_l1Cur_pick p) with
  | none => rfl
  | some d =>
    obtain ⟨x0, x1, x2, x3, u⟩ := (d : Int × (List Int) × Int × Int × Unit)
    have hp := PkS.un_pack h
    subst hp
    exact (espec_l1Cur_pick @spec_l1Cur_next n x0 x1 x2 x3 k).symm

/-! ### (*loop.example/g00269/spec.l1Cur).of -/
theorem cspec_l1Cur_of (n : Nat) : AllOk Try.prog [(70, Kspec_l1Cur_pick @spec_l1Cur_pick n)] := ⟨okspec_l1Cur_pick n, trivial⟩
@[reducible] def Sspec_l1Cur_of : PkS := ⟨[.one (.box (200000, 0) 0), .one (.ro .str)], [((200000, 0), .box [.ro (.int .u8), .int .i64, .int .u64])]⟩
@[reducible] def Tspec_l1Cur_of : PkS := ⟨[.one (.str), .one (.box (300000, 0) 0), .one (.dead)], [((300000, 0), .box [.ro (.int .u8), .int .i64, .int .u64])]⟩
def Hspec_l1Cur_of : List Sh := [.one .any, .box [(.ro (.int .u8)), .any, .any], .skip]
def Kspec_l1Cur_of (g : ∀ {R : Type}, Nat → (List ByteArray) → (List Int) → Int → Int → (ByteArray → (List Int) → Int → Int → Option R) → Option R) (n : Nat) : KPs := fun R p k => match (PkS.un Sspec_l1Cur_of p : Option ((List ByteArray) × (List Int) × Int × Int × Unit)) with
  | some (x0, x1, x2, x3, _) => g n x0 x1 x2 x3 (fun r0 r1 r2 r3 => k (PkS.pack Tspec_l1Cur_of (r0, r1, r2, r3, ())))
  | none => none
theorem espec_l1Cur_of (spec_l1Cur_pick : ∀ {R : Type}, Nat → Int → (List Int) → Int → Int → (Int → (List Int) → Int → Int → Option R) → Option R) {R : Type} (n : Nat) (x0 : List ByteArray) (x1 : List Int) (x2 : Int) (x3 : Int) (k : Pk → Option R) : evF tt sig (mkK [(70, Kspec_l1Cur_pick @spec_l1Cur_pick n)] R) (mkL (mkK [(70, Kspec_l1Cur_pick @spec_l1Cur_pick n)]) [] R) Try.f77 Hspec_l1Cur_of (PkS.pack Sspec_l1Cur_of (x0, x1, x2, x3, ())) k = (fun (k : ByteArray → (List Int) → Int → Int → Option R) => (spec_l1Cur_pick n (x0.length : Int) x1 x2 x3 fun r1 r2 r3 r4 => (bif decide (0 ≤ r1) then (bif decide (r1 < (x0.length : Int)) then k (x0.getD (Int.toNat r1) ByteArray.empty) r2 r3 r4 else none) else none))) (fun r0 r1 r2 r3 => k (PkS.pack Tspec_l1Cur_of (r0, r1, r2, r3, ()))) := by kernel_rfl
theorem okspec_l1Cur_of (n : Nat) : FnOk Try.prog 77 (Kspec_l1Cur_of @spec_l1Cur_of n) := by
  refine fn_ok (sig := sig) mixed ttok (mkK_nat (cspec_l1Cur_of n)) (mkK_ok (cspec_l1Cur_of n)) (mkL_nat (mkK_nat (cspec_l1Cur_of n)) (l := []) trivial) (fn := Try.f77) (c := bodyOf Try.f77) (by kernel_rfl) (by kernel_rfl) (by kernel_rfl) (.eq (l := []) (by kernel_rfl) trivial) (shs := Hspec_l1Cur_of) (S := Sspec_l1Cur_of) (h1 := by kernel_rfl) fun R p k => ?_
  unfold Kspec_l1Cur_of
  cases h : (PkS.un Sspec_l1Cur_of p) with
  | none => rfl
  | some d =>
    obtain ⟨x0, x1, x2, x3, u⟩ := (d : (List ByteArray) × (List Int) × Int × Int × Unit)
    have hp := PkS.un_pack h
    subst hp
    exact (espec_l1Cur_of @spec_l1Cur_pick n x0 x1 x2 x3 k).symm

/-! ### (*loop.example/g00269/spec.l1Cur).one -/
theorem cspec_l1Cur_one (n : Nat) : AllOk Try.prog [(70, Kspec_l1Cur_pick @spec_l1Cur_pick n)] := ⟨okspec_l1Cur_pick n, trivial⟩
@[reducible] def Sspec_l1Cur_one : PkS := ⟨[.one (.box (200000, 0) 0), .one (.int .i64)], [((200000, 0), .box [.ro (.int .u8), .int .i64, .int .u64])]⟩
@[reducible] def Tspec_l1Cur_one : PkS := ⟨[.one (.bool), .one (.box (300000, 0) 0), .one (.dead)], [((300000, 0), .box [.ro (.int .u8), .int .i64, .int .u64])]⟩
def Hspec_l1Cur_one : List Sh := [.one .any, .box [(.ro (.int .u8)), .any, .any], .skip]
def Kspec_l1Cur_one (g : ∀ {R : Type}, Nat → Int → (List Int) → Int → Int → (Bool → (List Int) → Int → Int → Option R) → Option R) (n : Nat) : KPs := fun R p k => match (PkS.un Sspec_l1Cur_one p : Option (Int × (List Int) × Int × Int × Unit)) with
  | some (x0, x1, x2, x3, _) => g n x0 x1 x2 x3 (fun r0 r1 r2 r3 => k (PkS.pack Tspec_l1Cur_one (r0, r1, r2, r3, ())))
  | none => none
theorem espec_l1Cur_one (spec_l1Cur_pick : ∀ {R : Type}, Nat → Int → (List Int) → Int → Int → (Int → (List Int) → Int → Int → Option R) → Option R) {R : Type} (n : Nat) (x0 : Int) (x1 : List Int) (x2 : Int) (x3 : Int) (k : Pk → Option R) : evF tt sig (mkK [(70, Kspec_l1Cur_pick @spec_l1Cur_pick n)] R) (mkL (mkK [(70, Kspec_l1Cur_pick @spec_l1Cur_pick n)]) [] R) Try.f71 Hspec_l1Cur_one (PkS.pack Sspec_l1Cur_one (x0, x1, x2, x3, ())) k = (fun (k : Bool → (List Int) → Int → Int → Option R) => (spec_l1Cur_pick n x0 x1 x2 x3 fun r1 r2 r3 r4 => k (r1 == 0) r2 r3 r4)) (fun r0 r1 r2 r3 => k (PkS.pack Tspec_l1Cur_one (r0, r1, r2, r3, ()))) := by kernel_rfl
theorem okspec_l1Cur_one (n : Nat) : FnOk Try.prog 71 (Kspec_l1Cur_one @spec_l1Cur_one n) := by
  refine fn_ok (sig := sig) mixed ttok (mkK_nat (cspec_l1Cur_one n)) (mkK_ok (cspec_l1Cur_one n)) (mkL_nat (mkK_nat (cspec_l1Cur_one n)) (l := []) trivial) (fn := Try.f71) (c := bodyOf Try.f71) (by kernel_rfl) (by kernel_rfl) (by kernel_rfl) (.eq (l := []) (by kernel_rfl) trivial) (shs := Hspec_l1Cur_one) (S := Sspec_l1Cur_one) (h1 := by kernel_rfl) fun R p k => ?_
  unfold Kspec_l1Cur_one
  cases h : (PkS.un Sspec_l1Cur_one p) with
  | none => rfl
  | some d =>
    obtain ⟨x0, x1, x2, x3, u⟩ := (d : Int × (List Int) × Int × Int × Unit)
    have hp := PkS.un_pack h
    subst hp
    exact (espec_l1Cur_one @spec_l1Cur_pick n x0 x1 x2 x3 k).symm

/-! ### (*loop.example/g00269/spec.l1Cur).form -/
theorem cspec_l1Cur_form (n : Nat) : AllOk Try.prog [(77, Kspec_l1Cur_of @spec_l1Cur_of n), (71, Kspec_l1Cur_one @spec_l1Cur_one n)] := ⟨okspec_l1Cur_of n, ⟨okspec_l1Cur_one n, trivial⟩⟩
@[reducible] def Sspec_l1Cur_form : PkS := ⟨[.one (.box (200000, 0) 0), .one (.int .i64)], [((200000, 0), .box [.ro (.int .u8), .int .i64, .int .u64])]⟩
@[reducible] def Tspec_l1Cur_form : PkS := ⟨[.one (.str), .one (.box (300000, 0) 0), .one (.dead)], [((300000, 0), .box [.ro (.int .u8), .int .i64, .int .u64])]⟩
def Hspec_l1Cur_form : List Sh := [.one .any, .box [(.ro (.int .u8)), .any, .any], .skip]
def Kspec_l1Cur_form (g : ∀ {R : Type}, Nat → Int → (List Int) → Int → Int → (ByteArray → (List Int) → Int → Int → Option R) → Option R) (n : Nat) : KPs := fun R p k => match (PkS.un Sspec_l1Cur_form p : Option (Int × (List Int) × Int × Int × Unit)) with
  | some (x0, x1, x2, x3, _) => g n x0 x1 x2 x3 (fun r0 r1 r2 r3 => k (PkS.pack Tspec_l1Cur_form (r0, r1, r2, r3, ())))
  | none => none
theorem dspec_l1Cur_form (n : Nat) (ih : FnOk Try.prog 69 (Kspec_l1Cur_form @spec_l1Cur_form n)) : AllOk Try.prog [(77, Kspec_l1Cur_of @spec_l1Cur_of n), (71, Kspec_l1Cur_one @spec_l1Cur_one n), (69, Kspec_l1Cur_form @spec_l1Cur_form n)] := ⟨okspec_l1Cur_of n, ⟨okspec_l1Cur_one n, ⟨ih, trivial⟩⟩⟩
theorem espec_l1Cur_form (spec_l1Cur_of : ∀ {R : Type}, Nat → (List ByteArray) → (List Int) → Int → Int → (ByteArray → (List Int) → Int → Int → Option R) → Option R) (spec_l1Cur_one : ∀ {R : Type}, Nat → Int → (List Int) → Int → Int → (Bool → (List Int) → Int → Int → Option R) → Option R) (spec_l1Cur_form : ∀ {R : Type}, Nat → Int → (List Int) → Int → Int → (ByteArray → (List Int) → Int → Int → Option R) → Option R) {R : Type} (n : Nat) (x0 : Int) (x1 : List Int) (x2 : Int) (x3 : Int) (k : Pk → Option R) : evF tt sig (mkK [(77, Kspec_l1Cur_of @spec_l1Cur_of n), (71, Kspec_l1Cur_one @spec_l1Cur_one n), (69, Kspec_l1Cur_form @spec_l1Cur_form n)] R) (mkL (mkK [(77, Kspec_l1Cur_of @spec_l1Cur_of n), (71, Kspec_l1Cur_one @spec_l1Cur_one n)]) [] R) Try.f69 Hspec_l1Cur_form (PkS.pack Sspec_l1Cur_form (x0, x1, x2, x3, ())) k = (fun (k : ByteArray → (List Int) → Int → Int → Option R) => (bif (decide (x0 ≤ 0)) then (spec_l1Cur_of n ([(ByteArray.mk #[97]), (ByteArray.mk #[98]), (ByteArray.mk #[99]), (ByteArray.mk #[100]), (ByteArray.mk #[101]), (ByteArray.mk #[102]), (ByteArray.mk #[48]), (ByteArray.mk #[49]), (ByteArray.mk #[97]), (ByteArray.mk #[98])]) x1 x2 x3 fun r1 r2 r3 r4 => k r1 r2 r3 r4) else (spec_l1Cur_one n 6 x1 x2 x3 fun r5 r6 r7 r8 => (bif r5 then (spec_l1Cur_of n ([(ByteArray.mk #[97]), (ByteArray.mk #[98]), (ByteArray.mk #[99]), (ByteArray.mk #[100]), (ByteArray.mk #[101]), (ByteArray.mk #[102]), (ByteArray.mk #[48]), (ByteArray.mk #[49]), (ByteArray.mk #[97]), (ByteArray.mk #[98])]) r6 r7 r8 fun r9 r10 r11 r12 => k r9 r10 r11 r12) else (spec_l1Cur_one n 4 r6 r7 r8 fun r13 r14 r15 r16 => (bif r13 then (spec_l1Cur_form n (IntKind.wrap .i64 (x0 - 1)) r14 r15 r16 fun r17 r18 r19 r20 => (bif decide ((ByteArray.mk #[33]).size + r17.size ≤ STR) then k ((ByteArray.mk #[33]) ++ r17) r18 r19 r20 else none)) else (spec_l1Cur_form n (IntKind.wrap .i64 (x0 - 1)) r14 r15 r16 fun r21 r22 r23 r24 => (bif decide ((ByteArray.mk #[40]).size + r21.size ≤ STR) then (spec_l1Cur_of n ([(ByteArray.mk #[38]), (ByteArray.mk #[124]), (ByteArray.mk #[94])]) r22 r23 r24 fun r25 r26 r27 r28 => (bif decide (((ByteArray.mk #[40]) ++ r21).size + r25.size ≤ STR) then (spec_l1Cur_form n (IntKind.wrap .i64 (x0 - 1)) r26 r27 r28 fun r29 r30 r31 r32 => (bif decide ((((ByteArray.mk #[40]) ++ r21) ++ r25).size + r29.size ≤ STR) then (bif decide (((((ByteArray.mk #[40]) ++ r21) ++ r25) ++ r29).size + (ByteArray.mk #[41]).size ≤ STR) then k (((((ByteArray.mk #[40]) ++ r21) ++ r25) ++ r29) ++ (ByteArray.mk #[41])) r30 r31 r32 else none) else none)) else none)) else none)))))))) (fun r0 r1 r2 r3 => k (PkS.pack Tspec_l1Cur_form (r0, r1, r2, r3, ()))) := by kernel_rfl
theorem okspec_l1Cur_form : ∀ n, FnOk Try.prog 69 (Kspec_l1Cur_form @spec_l1Cur_form n)
  | 0 => fn_none fun R p k => by unfold Kspec_l1Cur_form; cases (PkS.un Sspec_l1Cur_form p : Option (Int × (List Int) × Int × Int × Unit)) <;> rfl
  | n + 1 => by
    refine fn_ok (sig := sig) mixed ttok (mkK_nat (dspec_l1Cur_form n (okspec_l1Cur_form n))) (mkK_ok (dspec_l1Cur_form n (okspec_l1Cur_form n))) (mkL_nat (mkK_nat (cspec_l1Cur_form n)) (l := []) trivial) (fn := Try.f69) (c := bodyOf Try.f69) (by kernel_rfl) (by kernel_rfl) (by kernel_rfl) (.eq (l := []) (by kernel_rfl) trivial) (shs := Hspec_l1Cur_form) (S := Sspec_l1Cur_form) (h1 := by kernel_rfl) fun R p k => ?_
    unfold Kspec_l1Cur_form
    cases h : (PkS.un Sspec_l1Cur_form p) with
    | none => rfl
    | some d =>
      obtain ⟨x0, x1, x2, x3, u⟩ := (d : Int × (List Int) × Int × Int × Unit)
      have hp := PkS.un_pack h
      subst hp
      exact (espec_l1Cur_form @spec_l1Cur_of @spec_l1Cur_one @spec_l1Cur_form n x0 x1 x2 x3 k).symm

/-! ### (*loop.example/g00269/spec.l7R).next -/
theorem cspec_l7R_next (n : Nat) : AllOk Try.prog [] := trivial
@[reducible] def Sspec_l7R_next : PkS := ⟨[.one (.box (200000, 0) 0)], [((200000, 0), .box [.str, .int .i64, .bool])]⟩
@[reducible] def Tspec_l7R_next : PkS := ⟨[.one (.int .u8), .one (.box (300000, 0) 0)], [((300000, 0), .box [.str, .int .i64, .bool])]⟩
def Hspec_l7R_next : List Sh := [.one .any, .box [.any, .any, .any]]
def Kspec_l7R_next (g : ∀ {R : Type}, Nat → ByteArray → Int → Bool → (Int → ByteArray → Int → Bool → Option R) → Option R) (n : Nat) : KPs := fun R p k => match (PkS.un Sspec_l7R_next p : Option (ByteArray × Int × Bool × Unit)) with
  | some (x0, x1, x2, _) => g n x0 x1 x2 (fun r0 r1 r2 r3 => k (PkS.pack Tspec_l7R_next (r0, r1, r2, r3, ())))
  | none => none
theorem espec_l7R_next  {R : Type} (n : Nat) (x0 : ByteArray) (x1 : Int) (x2 : Bool) (k : Pk → Option R) : evF tt sig (mkK [] R) (mkL (mkK []) [] R) Try.f73 Hspec_l7R_next (PkS.pack Sspec_l7R_next (x0, x1, x2, ())) k = (fun (k : Int → ByteArray → Int → Bool → Option R) => (bif (decide (x1 < (x0.size : Int))) then (bif decide (0 ≤ x1) then (bif decide (x1 < (x0.size : Int)) then k ((x0.data.getD (Int.toNat x1) 0).toNat : Int) x0 x1 x2 else none) else none) else k 0 x0 x1 x2)) (fun r0 r1 r2 r3 => k (PkS.pack Tspec_l7R_next (r0, r1, r2, r3, ()))) := by kernel_rfl
theorem okspec_l7R_next (n : Nat) : FnOk Try.prog 73 (Kspec_l7R_next @spec_l7R_next n) := by
  refine fn_ok (sig := sig) mixed ttok (mkK_nat (cspec_l7R_next n)) (mkK_ok (cspec_l7R_next n)) (mkL_nat (mkK_nat (cspec_l7R_next n)) (l := []) trivial) (fn := Try.f73) (c := bodyOf Try.f73) (by kernel_rfl) (by kernel_rfl) (by kernel_rfl) (.eq (l := []) (by kernel_rfl) trivial) (shs := Hspec_l7R_next) (S := Sspec_l7R_next) (h1 := by kernel_rfl) fun R p k => ?_
  unfold Kspec_l7R_next
  cases h : (PkS.un Sspec_l7R_next p) with
  | none => rfl
  | some d =>
    obtain ⟨x0, x1, x2, u⟩ := (d : ByteArray × Int × Bool × Unit)
    have hp := PkS.un_pack h
    subst hp
    exact (espec_l7R_next  n x0 x1 x2 k).symm

/-! ### loop.example/g00269/spec.l7Var -/
theorem cspec_l7Var (n : Nat) : AllOk Try.prog [] := trivial
@[reducible] def Sspec_l7Var_l3 : PkS := ⟨[.one (.int .i64), .one (.int .u64), .one (.int .i64), .one (.dead)], []⟩
@[reducible] def Tspec_l7Var_l3_0 : PkS := ⟨[.one (.int .u64), .one (.dead)], []⟩
def Dspec_l7Var_l3 : LoopD := ⟨21, [0, 3, 4], [.one .any, .one .any, .one .any, .skip], fun x => match x with
  | .exit 0 => some ([3], [.one .any, .skip])
  | _ => none⟩
def Pspec_l7Var_l3 (g : ∀ {R : Type}, Nat → Int → Int → Int → (Int → Option R) → Option R) (n : Nat) : LPs := fun R q kk => match (PkS.un Sspec_l7Var_l3 q : Option (Int × Int × Int × Unit)) with
  | some (y3_0, y3_1, y3_2, _) => g n y3_0 y3_1 y3_2 (fun r0 => kk (.exit 0) (PkS.pack Tspec_l7Var_l3_0 (r0, ())))
  | none => none
theorem espec_l7Var_l3 (spec_l7Var_l3 : ∀ {R : Type}, Nat → Int → Int → Int → (Int → Option R) → Option R) {R : Type} (n : Nat) (y3_0 : Int) (y3_1 : Int) (y3_2 : Int) (kk : Ex → Pk → Option R) : Dspec_l7Var_l3.step tt sig (mkK [] R) (mkL (mkK []) [] R) (loopIn 3 (bodyOf Try.f68)) (fun q' => Pspec_l7Var_l3 @spec_l7Var_l3 n R q' kk) (PkS.pack Sspec_l7Var_l3 (y3_0, y3_1, y3_2, ())) kk = (fun (kexit0 : Int → Option R) => (bif (decide (y3_2 < 64)) then (bif decide (0 ≤ (IntKind.wrap .u64 (y3_0))) then (bif ((IntKind.wrap .i64 (Int.ofNat (BitVec.toNat (BitVec.ofInt (IntKind.bits .i64) (Int.fdiv y3_2 (2 ^ (min (Int.toNat (IntKind.wrap .u64 (y3_0))) (IntKind.bits .i64)))) &&& BitVec.ofInt (IntKind.bits .i64) 1)))) == 1) then (bif decide (0 ≤ (IntKind.wrap .u64 (y3_2))) then spec_l7Var_l3 n y3_0 (IntKind.wrap .u64 (Int.ofNat (BitVec.toNat (BitVec.ofInt (IntKind.bits .u64) y3_1 ||| BitVec.ofInt (IntKind.bits .u64) (IntKind.wrap .u64 (1 * 2 ^ (min (Int.toNat (IntKind.wrap .u64 (y3_2))) (IntKind.bits .u64)))))))) (IntKind.wrap .i64 (y3_2 + 1)) kexit0 else none) else spec_l7Var_l3 n y3_0 y3_1 (IntKind.wrap .i64 (y3_2 + 1)) kexit0) else none) else kexit0 y3_1)) (fun r0 => kk (.exit 0) (PkS.pack Tspec_l7Var_l3_0 (r0, ()))) := by kernel_rfl
theorem lespec_l7Var_l3 : LoopEq tt sig (fun n => mkK []) (fun n => mkL (mkK []) []) Dspec_l7Var_l3 Sspec_l7Var_l3 (loopIn 3 (bodyOf Try.f68)) (Pspec_l7Var_l3 @spec_l7Var_l3) where
  zero R q kk := by unfold Pspec_l7Var_l3; cases (PkS.un Sspec_l7Var_l3 q) <;> rfl
  succ n R q kk := by
    unfold Pspec_l7Var_l3
    cases h : (PkS.un Sspec_l7Var_l3 q) with
    | none => rfl
    | some d =>
      obtain ⟨y3_0, y3_1, y3_2, u⟩ := (d : Int × Int × Int × Unit)
      have hp := PkS.un_pack h
      subst hp
      exact (espec_l7Var_l3 @spec_l7Var_l3 n y3_0 y3_1 y3_2 kk).symm
theorem nlspec_l7Var_l3 : ∀ n, NatLP (Pspec_l7Var_l3 @spec_l7Var_l3 n) := lespec_l7Var_l3.nat (fun n => mkK_nat (cspec_l7Var n)) fun n => mkL_nat (mkK_nat (cspec_l7Var n)) (l := []) trivial
theorem inspec_l7Var_l3 (n : Nat) (R : Type) : LoopsOk Try.prog (mkL (mkK []) [] R) (loopIn 3 (bodyOf Try.f68)) := .eq (l := []) (by kernel_rfl) trivial
theorem lkspec_l7Var_l3 (n : Nat) (R : Type) (L0 : LK R) (h0 : ∀ id, firstRegion (loopIn 3 (bodyOf Try.f68)) = some id → L0 id = Dspec_l7Var_l3.oracle (mkK [] R) (Pspec_l7Var_l3 @spec_l7Var_l3 n R)) : LoopOk Try.prog L0 (loopIn 3 (bodyOf Try.f68)) :=
  lespec_l7Var_l3.ok mixed ttok (fun n => mkK_nat (cspec_l7Var n)) (fun n => mkK_ok (cspec_l7Var n)) (fun n => inspec_l7Var_l3 n R) (mkK_nat (cspec_l7Var n)) h0
@[reducible] def Sspec_l7Var : PkS := ⟨[.one (.int .i64)], []⟩
@[reducible] def Tspec_l7Var : PkS := ⟨[.one (.int .u64), .one (.dead)], []⟩
def Hspec_l7Var : List Sh := [.one .any, .skip]
def Kspec_l7Var (g : ∀ {R : Type}, Nat → Int → (Int → Option R) → Option R) (n : Nat) : KPs := fun R p k => match (PkS.un Sspec_l7Var p : Option (Int × Unit)) with
  | some (x0, _) => g n x0 (fun r0 => k (PkS.pack Tspec_l7Var (r0, ())))
  | none => none
theorem espec_l7Var (spec_l7Var_l3 : ∀ {R : Type}, Nat → Int → Int → Int → (Int → Option R) → Option R) {R : Type} (n : Nat) (x0 : Int) (k : Pk → Option R) : evF tt sig (mkK [] R) (mkL (mkK []) [(3, Dspec_l7Var_l3, Pspec_l7Var_l3 @spec_l7Var_l3 n)] R) Try.f68 Hspec_l7Var (PkS.pack Sspec_l7Var (x0, ())) k = (fun (k : Int → Option R) => (spec_l7Var_l3 n x0 0 0 (fun r1 => k r1))) (fun r0 => k (PkS.pack Tspec_l7Var (r0, ()))) := by kernel_rfl
theorem okspec_l7Var (n : Nat) : FnOk Try.prog 68 (Kspec_l7Var @spec_l7Var n) := by
  refine fn_ok (sig := sig) mixed ttok (mkK_nat (cspec_l7Var n)) (mkK_ok (cspec_l7Var n)) (mkL_nat (mkK_nat (cspec_l7Var n)) (l := [(3, Dspec_l7Var_l3, Pspec_l7Var_l3 @spec_l7Var_l3 n)]) ⟨nlspec_l7Var_l3 n, trivial⟩) (fn := Try.f68) (c := bodyOf Try.f68) (by kernel_rfl) (by kernel_rfl) (by kernel_rfl) (.eq (l := [.lo (loopIn 3 (bodyOf Try.f68))]) (by kernel_rfl) ⟨(lkspec_l7Var_l3 n _ _ (at_id (i := 3) (by kernel_rfl) rfl)), trivial⟩) (shs := Hspec_l7Var) (S := Sspec_l7Var) (h1 := by kernel_rfl) fun R p k => ?_
  unfold Kspec_l7Var
  cases h : (PkS.un Sspec_l7Var p) with
  | none => rfl
  | some d =>
    obtain ⟨x0, u⟩ := (d : Int × Unit)
    have hp := PkS.un_pack h
    subst hp
    exact (espec_l7Var @spec_l7Var_l3 n x0 k).symm

/-! ### (*loop.example/g00269/spec.l7R).want -/
theorem cspec_l7R_want (n : Nat) : AllOk Try.prog [(73, Kspec_l7R_next @spec_l7R_next n)] := ⟨okspec_l7R_next n, trivial⟩
@[reducible] def Sspec_l7R_want : PkS := ⟨[.one (.box (200000, 0) 0), .one (.int .u8)], [((200000, 0), .box [.str, .int .i64, .bool])]⟩
@[reducible] def Tspec_l7R_want : PkS := ⟨[.tup [], .one (.box (300000, 0) 0), .one (.dead)], [((300000, 0), .box [.str, .int .i64, .bool])]⟩
def Hspec_l7R_want : List Sh := [.tup [], .box [.any, .any, .any], .skip]
def Kspec_l7R_want (g : ∀ {R : Type}, Nat → Int → ByteArray → Int → Bool → (ByteArray → Int → Bool → Option R) → Option R) (n : Nat) : KPs := fun R p k => match (PkS.un Sspec_l7R_want p : Option (Int × ByteArray × Int × Bool × Unit)) with
  | some (x0, x1, x2, x3, _) => g n x0 x1 x2 x3 (fun r0 r1 r2 => k (PkS.pack Tspec_l7R_want (r0, r1, r2, ())))
  | none => none
theorem espec_l7R_want (spec_l7R_next : ∀ {R : Type}, Nat → ByteArray → Int → Bool → (Int → ByteArray → Int → Bool → Option R) → Option R) {R : Type} (n : Nat) (x0 : Int) (x1 : ByteArray) (x2 : Int) (x3 : Bool) (k : Pk → Option R) : evF tt sig (mkK [(73, Kspec_l7R_next @spec_l7R_next n)] R) (mkL (mkK [(73, Kspec_l7R_next @spec_l7R_next n)]) [] R) Try.f74 Hspec_l7R_want (PkS.pack Sspec_l7R_want (x0, x1, x2, x3, ())) k = (fun (k : ByteArray → Int → Bool → Option R) => (spec_l7R_next n x1 x2 x3 fun r1 r2 r3 r4 => (bif (r1 != x0) then k r2 (IntKind.wrap .i64 (r3 + 1)) true else k r2 (IntKind.wrap .i64 (r3 + 1)) r4))) (fun r0 r1 r2 => k (PkS.pack Tspec_l7R_want (r0, r1, r2, ()))) := by kernel_rfl
theorem okspec_l7R_want (n : Nat) : FnOk Try.prog 74 (Kspec_l7R_want @spec_l7R_want n) := by
  refine fn_ok (sig := sig) mixed ttok (mkK_nat (cspec_l7R_want n)) (mkK_ok (cspec_l7R_want n)) (mkL_nat (mkK_nat (cspec_l7R_want n)) (l := []) trivial) (fn := Try.f74) (c := bodyOf Try.f74) (by kernel_rfl) (by kernel_rfl) (by kernel_rfl) (.eq (l := []) (by kernel_rfl) trivial) (shs := Hspec_l7R_want) (S := Sspec_l7R_want) (h1 := by kernel_rfl) fun R p k => ?_
  unfold Kspec_l7R_want
  cases h : (PkS.un Sspec_l7R_want p) with
  | none => rfl
  | some d =>
    obtain ⟨x0, x1, x2, x3, u⟩ := (d : Int × ByteArray × Int × Bool × Unit)
    have hp := PkS.un_pack h
    subst hp
    exact (espec_l7R_want @spec_l7R_next n x0 x1 x2 x3 k).symm

/-! ### (*loop.example/g00269/spec.l7R).form -/
theorem cspec_l7R_form (n : Nat) : AllOk Try.prog [(73, Kspec_l7R_next @spec_l7R_next n), (68, Kspec_l7Var @spec_l7Var n), (74, Kspec_l7R_want @spec_l7R_want n)] := ⟨okspec_l7R_next n, ⟨okspec_l7Var n, ⟨okspec_l7R_want n, trivial⟩⟩⟩
@[reducible] def Sspec_l7R_form : PkS := ⟨[.one (.box (200000, 0) 0)], [((200000, 0), .box [.str, .int .i64, .bool])]⟩
@[reducible] def Tspec_l7R_form : PkS := ⟨[.one (.int .u64), .one (.box (300000, 0) 0)], [((300000, 0), .box [.str, .int .i64, .bool])]⟩
def Hspec_l7R_form : List Sh := [.one .any, .box [.any, .any, .any]]
def Kspec_l7R_form (g : ∀ {R : Type}, Nat → ByteArray → Int → Bool → (Int → ByteArray → Int → Bool → Option R) → Option R) (n : Nat) : KPs := fun R p k => match (PkS.un Sspec_l7R_form p : Option (ByteArray × Int × Bool × Unit)) with
  | some (x0, x1, x2, _) => g n x0 x1 x2 (fun r0 r1 r2 r3 => k (PkS.pack Tspec_l7R_form (r0, r1, r2, r3, ())))
  | none => none
theorem dspec_l7R_form (n : Nat) (ih : FnOk Try.prog 64 (Kspec_l7R_form @spec_l7R_form n)) : AllOk Try.prog [(73, Kspec_l7R_next @spec_l7R_next n), (68, Kspec_l7Var @spec_l7Var n), (74, Kspec_l7R_want @spec_l7R_want n), (64, Kspec_l7R_form @spec_l7R_form n)] := ⟨okspec_l7R_next n, ⟨okspec_l7Var n, ⟨okspec_l7R_want n, ⟨ih, trivial⟩⟩⟩⟩
theorem espec_l7R_form (spec_l7R_next : ∀ {R : Type}, Nat → ByteArray → Int → Bool → (Int → ByteArray → Int → Bool → Option R) → Option R) (spec_l7Var : ∀ {R : Type}, Nat → Int → (Int → Option R) → Option R) (spec_l7R_want : ∀ {R : Type}, Nat → Int → ByteArray → Int → Bool → (ByteArray → Int → Bool → Option R) → Option R) (spec_l7R_form : ∀ {R : Type}, Nat → ByteArray → Int → Bool → (Int → ByteArray → Int → Bool → Option R) → Option R) {R : Type} (n : Nat) (x0 : ByteArray) (x1 : Int) (x2 : Bool) (k : Pk → Option R) : evF tt sig (mkK [(73, Kspec_l7R_next @spec_l7R_next n), (68, Kspec_l7Var @spec_l7Var n), (74, Kspec_l7R_want @spec_l7R_want n), (64, Kspec_l7R_form @spec_l7R_form n)] R) (mkL (mkK [(73, Kspec_l7R_next @spec_l7R_next n), (68, Kspec_l7Var @spec_l7Var n), (74, Kspec_l7R_want @spec_l7R_want n)]) [] R) Try.f64 Hspec_l7R_form (PkS.pack Sspec_l7R_form (x0, x1, x2, ())) k = (fun (k : Int → ByteArray → Int → Bool → Option R) => (spec_l7R_next n x0 x1 x2 fun r1 r2 r3 r4 => (bif r4 then k 0 r2 (IntKind.wrap .i64 (r3 + 1)) r4 else (bif (r1 == 48) then k 0 r2 (IntKind.wrap .i64 (r3 + 1)) r4 else (bif (r1 == 49) then k 18446744073709551615 r2 (IntKind.wrap .i64 (r3 + 1)) r4 else (bif (decide (r1 ≥ 97)) then (bif (decide (r1 ≤ 102)) then (spec_l7Var n (IntKind.wrap .i64 ((IntKind.wrap .u8 (r1 - 97)))) fun r5 => k r5 r2 (IntKind.wrap .i64 (r3 + 1)) r4) else (bif (r1 == 33) then (spec_l7R_form n r2 (IntKind.wrap .i64 (r3 + 1)) r4 fun r6 r7 r8 r9 => k (IntKind.wrap .u64 (BitVec.toNat (BitVec.ofInt (IntKind.bits .u64) (18446744073709551615) ^^^ BitVec.ofInt (IntKind.bits .u64) r6))) r7 r8 r9) else (bif (r1 == 40) then (spec_l7R_form n r2 (IntKind.wrap .i64 (r3 + 1)) r4 fun r10 r11 r12 r13 => (spec_l7R_next n r11 r12 r13 fun r14 r15 r16 r17 => (spec_l7R_form n r15 (IntKind.wrap .i64 (r16 + 1)) r17 fun r18 r19 r20 r21 => (spec_l7R_want n 41 r19 r20 r21 fun r22 r23 r24 => (bif (r14 == 38) then k (IntKind.wrap .u64 (Int.ofNat (BitVec.toNat (BitVec.ofInt (IntKind.bits .u64) r10 &&& BitVec.ofInt (IntKind.bits .u64) r18)))) r22 r23 r24 else (bif (r14 == 124) then k (IntKind.wrap .u64 (Int.ofNat (BitVec.toNat (BitVec.ofInt (IntKind.bits .u64) r10 ||| BitVec.ofInt (IntKind.bits .u64) r18)))) r22 r23 r24 else (bif (r14 == 94) then k (IntKind.wrap .u64 (Int.ofNat (BitVec.toNat (BitVec.ofInt (IntKind.bits .u64) r10 ^^^ BitVec.ofInt (IntKind.bits .u64) r18)))) r22 r23 r24 else k 0 r22 r23 true))))))) else k 0 r2 (IntKind.wrap .i64 (r3 + 1)) true))) else (bif (r1 == 33) then (spec_l7R_form n r2 (IntKind.wrap .i64 (r3 + 1)) r4 fun r25 r26 r27 r28 => k (IntKind.wrap .u64 (BitVec.toNat (BitVec.ofInt (IntKind.bits .u64) (18446744073709551615) ^^^ BitVec.ofInt (IntKind.bits .u64) r25))) r26 r27 r28) else (bif (r1 == 40) then (spec_l7R_form n r2 (IntKind.wrap .i64 (r3 + 1)) r4 fun r29 r30 r31 r32 => (spec_l7R_next n r30 r31 r32 fun r33 r34 r35 r36 => (spec_l7R_form n r34 (IntKind.wrap .i64 (r35 + 1)) r36 fun r37 r38 r39 r40 => (spec_l7R_want n 41 r38 r39 r40 fun r41 r42 r43 => (bif (r33 == 38) then k (IntKind.wrap .u64 (Int.ofNat (BitVec.toNat (BitVec.ofInt (IntKind.bits .u64) r29 &&& BitVec.ofInt (IntKind.bits .u64) r37)))) r41 r42 r43 else (bif (r33 == 124) then k (IntKind.wrap .u64 (Int.ofNat (BitVec.toNat (BitVec.ofInt (IntKind.bits .u64) r29 ||| BitVec.ofInt (IntKind.bits .u64) r37)))) r41 r42 r43 else (bif (r33 == 94) then k (IntKind.wrap .u64 (Int.ofNat (BitVec.toNat (BitVec.ofInt (IntKind.bits .u64) r29 ^^^ BitVec.ofInt (IntKind.bits .u64) r37)))) r41 r42 r43 else k 0 r41 r42 true))))))) else k 0 r2 (IntKind.wrap .i64 (r3 + 1)) true)))))))) (fun r0 r1 r2 r3 => k (PkS.pack Tspec_l7R_form (r0, r1, r2, r3, ()))) := by kernel_rfl
theorem okspec_l7R_form : ∀ n, FnOk Try.prog 64 (Kspec_l7R_form @spec_l7R_form n)
  | 0 => fn_none fun R p k => by unfold Kspec_l7R_form; cases (PkS.un Sspec_l7R_form p : Option (ByteArray × Int × Bool × Unit)) <;> rfl
  | n + 1 => by
    refine fn_ok (sig := sig) mixed ttok (mkK_nat (dspec_l7R_form n (okspec_l7R_form n))) (mkK_ok (dspec_l7R_form n (okspec_l7R_form n))) (mkL_nat (mkK_nat (cspec_l7R_form n)) (l := []) trivial) (fn := Try.f64) (c := bodyOf Try.f64) (by kernel_rfl) (by kernel_rfl) (by kernel_rfl) (.eq (l := []) (by kernel_rfl) trivial) (shs := Hspec_l7R_form) (S := Sspec_l7R_form) (h1 := by kernel_rfl) fun R p k => ?_
    unfold Kspec_l7R_form
    cases h : (PkS.un Sspec_l7R_form p) with
    | none => rfl
    | some d =>
      obtain ⟨x0, x1, x2, u⟩ := (d : ByteArray × Int × Bool × Unit)
      have hp := PkS.un_pack h
      subst hp
      exact (espec_l7R_form @spec_l7R_next @spec_l7Var @spec_l7R_want @spec_l7R_form n x0 x1 x2 k).symm

/-! ### loop.example/g00269/spec.l7Table -/
theorem cspec_l7Table (n : Nat) : AllOk Try.prog [(64, Kspec_l7R_form @spec_l7R_form n)] := ⟨okspec_l7R_form n, trivial⟩
@[reducible] def Sspec_l7Table : PkS := ⟨[.one (.str)], []⟩
@[reducible] def Tspec_l7Table : PkS := ⟨[.tup [(false, [.int .u64]), (false, [.bool])], .one (.dead)], []⟩
def Hspec_l7Table : List Sh := [.tup [(false, [.any]), (false, [.any])], .skip]
def Kspec_l7Table (g : ∀ {R : Type}, Nat → ByteArray → (Int → Bool → Option R) → Option R) (n : Nat) : KPs := fun R p k => match (PkS.un Sspec_l7Table p : Option (ByteArray × Unit)) with
  | some (x0, _) => g n x0 (fun r0 r1 => k (PkS.pack Tspec_l7Table (r0, r1, ())))
  | none => none
theorem espec_l7Table (spec_l7R_form : ∀ {R : Type}, Nat → ByteArray → Int → Bool → (Int → ByteArray → Int → Bool → Option R) → Option R) {R : Type} (n : Nat) (x0 : ByteArray) (k : Pk → Option R) : evF tt sig (mkK [(64, Kspec_l7R_form @spec_l7R_form n)] R) (mkL (mkK [(64, Kspec_l7R_form @spec_l7R_form n)]) [] R) Try.f46 Hspec_l7Table (PkS.pack Sspec_l7Table (x0, ())) k = (fun (k : Int → Bool → Option R) => (bif (decide ((x0.size : Int) > 60)) then k 0 false else (spec_l7R_form n x0 0 false fun r1 r2 r3 r4 => (bif (!r4) then k r1 (r3 == (x0.size : Int)) else k r1 false)))) (fun r0 r1 => k (PkS.pack Tspec_l7Table (r0, r1, ()))) := by kernel_rfl
theorem okspec_l7Table (n : Nat) : FnOk Try.prog 46 (Kspec_l7Table @spec_l7Table n) := by
  refine fn_ok (sig := sig) mixed ttok (mkK_nat (cspec_l7Table n)) (mkK_ok (cspec_l7Table n)) (mkL_nat (mkK_nat (cspec_l7Table n)) (l := []) trivial) (fn := Try.f46) (c := bodyOf Try.f46) (by kernel_rfl) (by kernel_rfl) (by kernel_rfl) (.eq (l := []) (by kernel_rfl) trivial) (shs := Hspec_l7Table) (S := Sspec_l7Table) (h1 := by kernel_rfl) fun R p k => ?_
  unfold Kspec_l7Table
  cases h : (PkS.un Sspec_l7Table p) with
  | none => rfl
  | some d =>
    obtain ⟨x0, u⟩ := (d : ByteArray × Unit)
    have hp := PkS.un_pack h
    subst hp
    exact (espec_l7Table @spec_l7R_form n x0 k).symm

/-! ### loop.example/g00269/spec.l7Half -/
theorem cspec_l7Half (n : Nat) : AllOk Try.prog [(68, Kspec_l7Var @spec_l7Var n)] := ⟨okspec_l7Var n, trivial⟩
@[reducible] def Sspec_l7Half : PkS := ⟨[.one (.int .u64), .one (.int .i64), .one (.bool)], []⟩
@[reducible] def Tspec_l7Half : PkS := ⟨[.one (.int .u64), .one (.dead), .one (.dead), .one (.dead)], []⟩
def Hspec_l7Half : List Sh := [.one .any, .skip, .skip, .skip]
def Kspec_l7Half (g : ∀ {R : Type}, Nat → Int → Int → Bool → (Int → Option R) → Option R) (n : Nat) : KPs := fun R p k => match (PkS.un Sspec_l7Half p : Option (Int × Int × Bool × Unit)) with
  | some (x0, x1, x2, _) => g n x0 x1 x2 (fun r0 => k (PkS.pack Tspec_l7Half (r0, ())))
  | none => none
theorem espec_l7Half (spec_l7Var : ∀ {R : Type}, Nat → Int → (Int → Option R) → Option R) {R : Type} (n : Nat) (x0 : Int) (x1 : Int) (x2 : Bool) (k : Pk → Option R) : evF tt sig (mkK [(68, Kspec_l7Var @spec_l7Var n)] R) (mkL (mkK [(68, Kspec_l7Var @spec_l7Var n)]) [] R) Try.f54 Hspec_l7Half (PkS.pack Sspec_l7Half (x0, x1, x2, ())) k = (fun (k : Int → Option R) => (spec_l7Var n x1 fun r1 => (bif decide (0 ≤ (IntKind.wrap .u64 (x1))) then (bif x2 then (bif decide (0 ≤ (IntKind.wrap .u64 (1 * 2 ^ (min (Int.toNat (IntKind.wrap .u64 (x1))) (IntKind.bits .u64))))) then k (IntKind.wrap .u64 (Int.ofNat (BitVec.toNat (BitVec.ofInt (IntKind.bits .u64) (IntKind.wrap .u64 (Int.ofNat (BitVec.toNat (BitVec.ofInt (IntKind.bits .u64) x0 &&& BitVec.ofInt (IntKind.bits .u64) r1)))) ||| BitVec.ofInt (IntKind.bits .u64) (Int.fdiv (IntKind.wrap .u64 (Int.ofNat (BitVec.toNat (BitVec.ofInt (IntKind.bits .u64) x0 &&& BitVec.ofInt (IntKind.bits .u64) r1)))) (2 ^ (min (Int.toNat (IntKind.wrap .u64 (1 * 2 ^ (min (Int.toNat (IntKind.wrap .u64 (x1))) (IntKind.bits .u64))))) (IntKind.bits .u64)))))))) else none) else (bif decide (0 ≤ (IntKind.wrap .u64 (1 * 2 ^ (min (Int.toNat (IntKind.wrap .u64 (x1))) (IntKind.bits .u64))))) then k (IntKind.wrap .u64 (Int.ofNat (BitVec.toNat (BitVec.ofInt (IntKind.bits .u64) (IntKind.wrap .u64 (Int.ofNat (BitVec.toNat (BitVec.ofInt (IntKind.bits .u64) x0 &&& ~~~ BitVec.ofInt (IntKind.bits .u64) r1)))) ||| BitVec.ofInt (IntKind.bits .u64) (IntKind.wrap .u64 ((IntKind.wrap .u64 (Int.ofNat (BitVec.toNat (BitVec.ofInt (IntKind.bits .u64) x0 &&& ~~~ BitVec.ofInt (IntKind.bits .u64) r1)))) * 2 ^ (min (Int.toNat (IntKind.wrap .u64 (1 * 2 ^ (min (Int.toNat (IntKind.wrap .u64 (x1))) (IntKind.bits .u64))))) (IntKind.bits .u64)))))))) else none)) else none))) (fun r0 => k (PkS.pack Tspec_l7Half (r0, ()))) := by kernel_rfl
theorem okspec_l7Half (n : Nat) : FnOk Try.prog 54 (Kspec_l7Half @spec_l7Half n) := by
  refine fn_ok (sig := sig) mixed ttok (mkK_nat (cspec_l7Half n)) (mkK_ok (cspec_l7Half n)) (mkL_nat (mkK_nat (cspec_l7Half n)) (l := []) trivial) (fn := Try.f54) (c := bodyOf Try.f54) (by kernel_rfl) (by kernel_rfl) (by kernel_rfl) (.eq (l := []) (by kernel_rfl) trivial) (shs := Hspec_l7Half) (S := Sspec_l7Half) (h1 := by kernel_rfl) fun R p k => ?_
  unfold Kspec_l7Half
  cases h : (PkS.un Sspec_l7Half p) with
  | none => rfl
  | some d =>
    obtain ⟨x0, x1, x2, u⟩ := (d : Int × Int × Bool × Unit)
    have hp := PkS.un_pack h
    subst hp
    exact (espec_l7Half @spec_l7Var n x0 x1 x2 k).symm

/-! ### loop.example/g00269/spec.l7Build -/
theorem cspec_l7Build (n : Nat) : AllOk Try.prog [(54, Kspec_l7Half @spec_l7Half n)] := ⟨okspec_l7Half n, trivial⟩
@[reducible] def Sspec_l7Build_l14 : PkS := ⟨[.one (.whole (100000, 0)), .one (.box (100000, 1) 0), .one (.whole (100000, 0)), .one (.int .i64), .one (.int .i64), .one (.dead), .one (.dead), .one (.dead)], [((100000, 0), .arr (.pr (.int .i64) (.pr (.int .i64) (.int .i64)))), ((100000, 1), .box [.int .i64, .int .i64, .int .i64])]⟩
@[reducible] def Tspec_l7Build_l14_0 : PkS := ⟨[.one (.int .i64), .one (.whole (100000, 0)), .one (.dead), .one (.dead), .one (.dead)], [((100000, 0), .arr (.pr (.int .i64) (.pr (.int .i64) (.int .i64))))]⟩
@[reducible] def Tspec_l7Build_l14_1 : PkS := ⟨[.one (.whole (100000, 0)), .one (.box (100000, 1) 0), .one (.dead), .one (.dead), .one (.dead)], [((100000, 0), .arr (.pr (.int .i64) (.pr (.int .i64) (.int .i64)))), ((100000, 1), .box [.int .i64, .int .i64, .int .i64])]⟩
def Dspec_l7Build_l14 : LoopD := ⟨77, [2, 12, 58, 59, 60], [.one (.own (.pr (.int .i64) (.pr (.int .i64) (.int .i64)))), .box [.any, .any, .any], .one (.own (.pr (.int .i64) (.pr (.int .i64) (.int .i64)))), .one .any, .one .any, .skip, .skip, .skip], fun x => match x with
  | .ret => some ([6, 7], [.one .any, .one (.own (.pr (.int .i64) (.pr (.int .i64) (.int .i64)))), .skip, .skip, .skip])
  | .exit 1 => some ([2, 12], [.one (.own (.pr (.int .i64) (.pr (.int .i64) (.int .i64)))), .box [.any, .any, .any], .skip, .skip, .skip])
  | _ => none⟩
def Pspec_l7Build_l14 (g : ∀ {R : Type}, Nat → Int → Int → (List (Int × Int × Int)) → Int → Int → Int → (Int → (List (Int × Int × Int)) → Option R) → ((List (Int × Int × Int)) → Int → Int → Int → Option R) → Option R) (n : Nat) : LPs := fun R q kk => match (PkS.un Sspec_l7Build_l14 q : Option (Int × Int × (List (Int × Int × Int)) × Int × Int × Int × Unit)) with
  | some (y14_0, y14_1, y14_2, y14_3, y14_4, y14_5, _) => g n y14_0 y14_1 y14_2 y14_3 y14_4 y14_5 (fun r0 r1 => kk .ret (PkS.pack Tspec_l7Build_l14_0 (r0, r1, ()))) (fun r0 r1 r2 r3 => kk (.exit 1) (PkS.pack Tspec_l7Build_l14_1 (r0, r1, r2, r3, ())))
  | none => none
theorem espec_l7Build_l14 (spec_l7Half : ∀ {R : Type}, Nat → Int → Int → Bool → (Int → Option R) → Option R) (spec_l7Build_l14 : ∀ {R : Type}, Nat → Int → Int → (List (Int × Int × Int)) → Int → Int → Int → (Int → (List (Int × Int × Int)) → Option R) → ((List (Int × Int × Int)) → Int → Int → Int → Option R) → Option R) {R : Type} (n : Nat) (y14_0 : Int) (y14_1 : Int) (y14_2 : List (Int × Int × Int)) (y14_3 : Int) (y14_4 : Int) (y14_5 : Int) (kk : Ex → Pk → Option R) : Dspec_l7Build_l14.step tt sig (mkK [(54, Kspec_l7Half @spec_l7Half n)] R) (mkL (mkK [(54, Kspec_l7Half @spec_l7Half n)]) [] R) (loopIn 14 (bodyOf Try.f65)) (fun q' => Pspec_l7Build_l14 @spec_l7Build_l14 n R q' kk) (PkS.pack Sspec_l7Build_l14 (y14_0, y14_1, y14_2, y14_3, y14_4, y14_5, ())) kk = (fun (kret : Int → (List (Int × Int × Int)) → Option R) (kexit1 : (List (Int × Int × Int)) → Int → Int → Int → Option R) => (bif (decide (y14_1 < y14_0)) then (bif decide (0 ≤ y14_1) then (bif decide (y14_1 < (y14_2.length : Int)) then (bif (((y14_2.getD (Int.toNat y14_1) (0, (0, 0))).1 == y14_3) && (((y14_2.getD (Int.toNat y14_1) (0, (0, 0))).2.1 == y14_4) && (((y14_2.getD (Int.toNat y14_1) (0, (0, 0))).2.2 == y14_5) && true))) then kret y14_1 y14_2 else spec_l7Build_l14 n y14_0 (IntKind.wrap .i64 (y14_1 + 1)) y14_2 y14_3 y14_4 y14_5 kret kexit1) else none) else none) else kexit1 y14_2 y14_3 y14_4 y14_5)) (fun r0 r1 => kk .ret (PkS.pack Tspec_l7Build_l14_0 (r0, r1, ()))) (fun r0 r1 r2 r3 => kk (.exit 1) (PkS.pack Tspec_l7Build_l14_1 (r0, r1, r2, r3, ()))) := by kernel_rfl
theorem lespec_l7Build_l14 : LoopEq tt sig (fun n => mkK [(54, Kspec_l7Half @spec_l7Half n)]) (fun n => mkL (mkK [(54, Kspec_l7Half @spec_l7Half n)]) []) Dspec_l7Build_l14 Sspec_l7Build_l14 (loopIn 14 (bodyOf Try.f65)) (Pspec_l7Build_l14 @spec_l7Build_l14) where
  zero R q kk := by unfold Pspec_l7Build_l14; cases (PkS.un Sspec_l7Build_l14 q) <;> rfl
  succ n R q kk := by
    unfold Pspec_l7Build_l14
    cases h : (PkS.un Sspec_l7Build_l14 q) with
    | none => rfl
    | some d =>
      obtain ⟨y14_0, y14_1, y14_2, y14_3, y14_4, y14_5, u⟩ := (d : Int × Int × (List (Int × Int × Int)) × Int × Int × Int × Unit)
      have hp := PkS.un_pack h
      subst hp
      exact (espec_l7Build_l14 @spec_l7Half @spec_l7Build_l14 n y14_0 y14_1 y14_2 y14_3 y14_4 y14_5 kk).symm
theorem nlspec_l7Build_l14 : ∀ n, NatLP (Pspec_l7Build_l14 @spec_l7Build_l14 n) := lespec_l7Build_l14.nat (fun n => mkK_nat (cspec_l7Build n)) fun n => mkL_nat (mkK_nat (cspec_l7Build n)) (l := []) trivial
theorem inspec_l7Build_l14 (n : Nat) (R : Type) : LoopsOk Try.prog (mkL (mkK [(54, Kspec_l7Half @spec_l7Half n)]) [] R) (loopIn 14 (bodyOf Try.f65)) := .eq (l := []) (by kernel_rfl) trivial
theorem lkspec_l7Build_l14 (n : Nat) (R : Type) (L0 : LK R) (h0 : ∀ id, firstRegion (loopIn 14 (bodyOf Try.f65)) = some id → L0 id = Dspec_l7Build_l14.oracle (mkK [(54, Kspec_l7Half @spec_l7Half n)] R) (Pspec_l7Build_l14 @spec_l7Build_l14 n R)) : LoopOk Try.prog L0 (loopIn 14 (bodyOf Try.f65)) :=
  lespec_l7Build_l14.ok mixed ttok (fun n => mkK_nat (cspec_l7Build n)) (fun n => mkK_ok (cspec_l7Build n)) (fun n => inspec_l7Build_l14 n R) (mkK_nat (cspec_l7Build n)) h0
@[reducible] def Sspec_l7Build : PkS := ⟨[.one (.int .u64), .one (.int .i64), .one (.whole (200000, 0))], [((200000, 0), .arr (.pr (.int .i64) (.pr (.int .i64) (.int .i64))))]⟩
@[reducible] def Tspec_l7Build : PkS := ⟨[.tup [(false, [.int .i64]), (false, [.whole (300000, 0)])], .one (.dead), .one (.dead), .one (.dead)], [((300000, 0), .arr (.pr (.int .i64) (.pr (.int .i64) (.int .i64))))]⟩
def Hspec_l7Build : List Sh := [.tup [(false, [.any]), (false, [(.own (.pr (.int .i64) (.pr (.int .i64) (.int .i64))))])], .skip, .skip, .skip]
def Kspec_l7Build (g : ∀ {R : Type}, Nat → Int → Int → (List (Int × Int × Int)) → (Int → (List (Int × Int × Int)) → Option R) → Option R) (n : Nat) : KPs := fun R p k => match (PkS.un Sspec_l7Build p : Option (Int × Int × (List (Int × Int × Int)) × Unit)) with
  | some (x0, x1, x2, _) => g n x0 x1 x2 (fun r0 r1 => k (PkS.pack Tspec_l7Build (r0, r1, ())))
  | none => none
theorem dspec_l7Build (n : Nat) (ih : FnOk Try.prog 65 (Kspec_l7Build @spec_l7Build n)) : AllOk Try.prog [(54, Kspec_l7Half @spec_l7Half n), (65, Kspec_l7Build @spec_l7Build n)] := ⟨okspec_l7Half n, ⟨ih, trivial⟩⟩
theorem espec_l7Build (spec_l7Half : ∀ {R : Type}, Nat → Int → Int → Bool → (Int → Option R) → Option R) (spec_l7Build : ∀ {R : Type}, Nat → Int → Int → (List (Int × Int × Int)) → (Int → (List (Int × Int × Int)) → Option R) → Option R) (spec_l7Build_l14 : ∀ {R : Type}, Nat → Int → Int → (List (Int × Int × Int)) → Int → Int → Int → (Int → (List (Int × Int × Int)) → Option R) → ((List (Int × Int × Int)) → Int → Int → Int → Option R) → Option R) {R : Type} (n : Nat) (x0 : Int) (x1 : Int) (x2 : List (Int × Int × Int)) (k : Pk → Option R) : evF tt sig (mkK [(54, Kspec_l7Half @spec_l7Half n), (65, Kspec_l7Build @spec_l7Build n)] R) (mkL (mkK [(54, Kspec_l7Half @spec_l7Half n)]) [(14, Dspec_l7Build_l14, Pspec_l7Build_l14 @spec_l7Build_l14 n)] R) Try.f65 Hspec_l7Build (PkS.pack Sspec_l7Build (x0, x1, x2, ())) k = (fun (k : Int → (List (Int × Int × Int)) → Option R) => (bif (x0 == 0) then k (-2) x2 else (bif (x0 == 18446744073709551615) then k (-1) x2 else (spec_l7Half n x0 x1 false fun r1 => (spec_l7Half n x0 x1 true fun r2 => (bif (r1 == r2) then (spec_l7Build n x0 (IntKind.wrap .i64 (x1 + 1)) x2 fun r3 r4 => k r3 r4) else (spec_l7Build n r1 (IntKind.wrap .i64 (x1 + 1)) x2 fun r5 r6 => (spec_l7Build n r2 (IntKind.wrap .i64 (x1 + 1)) r6 fun r7 r8 => (spec_l7Build_l14 n (r8.length : Int) 0 r8 x1 r5 r7 (fun r9 r10 => k r9 r10) (fun r11 r12 r13 r14 => (bif decide (r11.length + ([(r12, (r13, r14))]).length ≤ LIM) then k (r11.length : Int) (r11 ++ [(r12, (r13, r14))]) else none))))))))))) (fun r0 r1 => k (PkS.pack Tspec_l7Build (r0, r1, ()))) := by kernel_rfl
theorem okspec_l7Build : ∀ n, FnOk Try.prog 65 (Kspec_l7Build @spec_l7Build n)
  | 0 => fn_none fun R p k => by unfold Kspec_l7Build; cases (PkS.un Sspec_l7Build p : Option (Int × Int × (List (Int × Int × Int)) × Unit)) <;> rfl
  | n + 1 => by
    refine fn_ok (sig := sig) mixed ttok (mkK_nat (dspec_l7Build n (okspec_l7Build n))) (mkK_ok (dspec_l7Build n (okspec_l7Build n))) (mkL_nat (mkK_nat (cspec_l7Build n)) (l := [(14, Dspec_l7Build_l14, Pspec_l7Build_l14 @spec_l7Build_l14 n)]) ⟨nlspec_l7Build_l14 n, trivial⟩) (fn := Try.f65) (c := bodyOf Try.f65) (by kernel_rfl) (by kernel_rfl) (by kernel_rfl) (.eq (l := [.lo (loopIn 14 (bodyOf Try.f65))]) (by kernel_rfl) ⟨(lkspec_l7Build_l14 n _ _ (at_id (i := 14) (by kernel_rfl) rfl)), trivial⟩) (shs := Hspec_l7Build) (S := Sspec_l7Build) (h1 := by kernel_rfl) fun R p k => ?_
    unfold Kspec_l7Build
    cases h : (PkS.un Sspec_l7Build p) with
    | none => rfl
    | some d =>
      obtain ⟨x0, x1, x2, u⟩ := (d : Int × Int × (List (Int × Int × Int)) × Unit)
      have hp := PkS.un_pack h
      subst hp
      exact (espec_l7Build @spec_l7Half @spec_l7Build @spec_l7Build_l14 n x0 x1 x2 k).symm

/-! ### loop.example/g00269/spec.l7Diagram -/
theorem cspec_l7Diagram (n : Nat) : AllOk Try.prog [(65, Kspec_l7Build @spec_l7Build n)] := ⟨okspec_l7Build n, trivial⟩
@[reducible] def Sspec_l7Diagram : PkS := ⟨[.one (.int .u64)], []⟩
@[reducible] def Tspec_l7Diagram : PkS := ⟨[.tup [(true, [.whole (300000, 0), .int .i64]), (false, [.bool])], .one (.dead)], [((300000, 0), .arr (.pr (.int .i64) (.pr (.int .i64) (.int .i64))))]⟩
def Hspec_l7Diagram : List Sh := [.tup [(true, [(.own (.pr (.int .i64) (.pr (.int .i64) (.int .i64)))), .any]), (false, [.any])], .skip]
def Kspec_l7Diagram (g : ∀ {R : Type}, Nat → Int → (Int → Bool → (List (Int × Int × Int)) → Option R) → Option R) (n : Nat) : KPs := fun R p k => match (PkS.un Sspec_l7Diagram p : Option (Int × Unit)) with
  | some (x0, _) => g n x0 (fun r0 r1 r2 => k (PkS.pack Tspec_l7Diagram (r0, r1, r2, ())))
  | none => none
theorem espec_l7Diagram (spec_l7Build : ∀ {R : Type}, Nat → Int → Int → (List (Int × Int × Int)) → (Int → (List (Int × Int × Int)) → Option R) → Option R) {R : Type} (n : Nat) (x0 : Int) (k : Pk → Option R) : evF tt sig (mkK [(65, Kspec_l7Build @spec_l7Build n)] R) (mkL (mkK [(65, Kspec_l7Build @spec_l7Build n)]) [] R) Try.f47 Hspec_l7Diagram (PkS.pack Sspec_l7Diagram (x0, ())) k = (fun (k : Int → Bool → (List (Int × Int × Int)) → Option R) => (spec_l7Build n x0 0 ([] : List (Int × Int × Int)) fun r1 r2 => k r1 (decide ((r2.length : Int) ≤ 70)) r2)) (fun r0 r1 r2 => k (PkS.pack Tspec_l7Diagram (r0, r1, r2, ()))) := by kernel_rfl
theorem okspec_l7Diagram (n : Nat) : FnOk Try.prog 47 (Kspec_l7Diagram @spec_l7Diagram n) := by
  refine fn_ok (sig := sig) mixed ttok (mkK_nat (cspec_l7Diagram n)) (mkK_ok (cspec_l7Diagram n)) (mkL_nat (mkK_nat (cspec_l7Diagram n)) (l := []) trivial) (fn := Try.f47) (c := bodyOf Try.f47) (by kernel_rfl) (by kernel_rfl) (by kernel_rfl) (.eq (l := []) (by kernel_rfl) trivial) (shs := Hspec_l7Diagram) (S := Sspec_l7Diagram) (h1 := by kernel_rfl) fun R p k => ?_
  unfold Kspec_l7Diagram
  cases h : (PkS.un Sspec_l7Diagram p) with
  | none => rfl
  | some d =>
    obtain ⟨x0, u⟩ := (d : Int × Unit)
    have hp := PkS.un_pack h
    subst hp
    exact (espec_l7Diagram @spec_l7Build n x0 k).symm

/-! ### loop.example/g00269/spec.DiagramOf -/
theorem cspec_DiagramOf (n : Nat) : AllOk Try.prog [(46, Kspec_l7Table @spec_l7Table n), (47, Kspec_l7Diagram @spec_l7Diagram n)] := ⟨okspec_l7Table n, ⟨okspec_l7Diagram n, trivial⟩⟩
@[reducible] def Sspec_DiagramOf : PkS := ⟨[.one (.str)], []⟩
@[reducible] def Tspec_DiagramOf : PkS := ⟨[.tup [(true, [.whole (300000, 0), .int .i64]), (false, [.bool])], .one (.dead)], [((300000, 0), .arr (.pr (.int .i64) (.pr (.int .i64) (.int .i64))))]⟩
def Hspec_DiagramOf : List Sh := [.tup [(true, [(.own (.pr (.int .i64) (.pr (.int .i64) (.int .i64)))), .any]), (false, [.any])], .skip]
def Kspec_DiagramOf (g : ∀ {R : Type}, Nat → ByteArray → (Int → Bool → (List (Int × Int × Int)) → Option R) → Option R) (n : Nat) : KPs := fun R p k => match (PkS.un Sspec_DiagramOf p : Option (ByteArray × Unit)) with
  | some (x0, _) => g n x0 (fun r0 r1 r2 => k (PkS.pack Tspec_DiagramOf (r0, r1, r2, ())))
  | none => none
theorem espec_DiagramOf (spec_l7Table : ∀ {R : Type}, Nat → ByteArray → (Int → Bool → Option R) → Option R) (spec_l7Diagram : ∀ {R : Type}, Nat → Int → (Int → Bool → (List (Int × Int × Int)) → Option R) → Option R) {R : Type} (n : Nat) (x0 : ByteArray) (k : Pk → Option R) : evF tt sig (mkK [(46, Kspec_l7Table @spec_l7Table n), (47, Kspec_l7Diagram @spec_l7Diagram n)] R) (mkL (mkK [(46, Kspec_l7Table @spec_l7Table n), (47, Kspec_l7Diagram @spec_l7Diagram n)]) [] R) Try.f19 Hspec_DiagramOf (PkS.pack Sspec_DiagramOf (x0, ())) k = (fun (k : Int → Bool → (List (Int × Int × Int)) → Option R) => (spec_l7Table n x0 fun r1 r2 => (bif (!r2) then k 0 false ([] : List (Int × Int × Int)) else (spec_l7Diagram n r1 fun r3 r4 r5 => (bif (!r4) then k 0 false ([] : List (Int × Int × Int)) else k r3 true r5))))) (fun r0 r1 r2 => k (PkS.pack Tspec_DiagramOf (r0, r1, r2, ()))) := by kernel_rfl
theorem okspec_DiagramOf (n : Nat) : FnOk Try.prog 19 (Kspec_DiagramOf @spec_DiagramOf n) := by
  refine fn_ok (sig := sig) mixed ttok (mkK_nat (cspec_DiagramOf n)) (mkK_ok (cspec_DiagramOf n)) (mkL_nat (mkK_nat (cspec_DiagramOf n)) (l := []) trivial) (fn := Try.f19) (c := bodyOf Try.f19) (by kernel_rfl) (by kernel_rfl) (by kernel_rfl) (.eq (l := []) (by kernel_rfl) trivial) (shs := Hspec_DiagramOf) (S := Sspec_DiagramOf) (h1 := by kernel_rfl) fun R p k => ?_
  unfold Kspec_DiagramOf
  cases h : (PkS.un Sspec_DiagramOf p) with
  | none => rfl
  | some d =>
    obtain ⟨x0, u⟩ := (d : ByteArray × Unit)
    have hp := PkS.un_pack h
    subst hp
    exact (espec_DiagramOf @spec_l7Table @spec_l7Diagram n x0 k).symm

/-! ### (*loop.example/g00269/spec.l1Cur).diagram -/
theorem cspec_l1Cur_diagram (n : Nat) : AllOk Try.prog [(70, Kspec_l1Cur_pick @spec_l1Cur_pick n), (69, Kspec_l1Cur_form @spec_l1Cur_form n), (19, Kspec_DiagramOf @spec_DiagramOf n), (71, Kspec_l1Cur_one @spec_l1Cur_one n)] := ⟨okspec_l1Cur_pick n, ⟨okspec_l1Cur_form n, ⟨okspec_DiagramOf n, ⟨okspec_l1Cur_one n, trivial⟩⟩⟩⟩
@[reducible] def Sspec_l1Cur_diagram : PkS := ⟨[.one (.box (200000, 0) 0)], [((200000, 0), .box [.ro (.int .u8), .int .i64, .int .u64])]⟩
@[reducible] def Tspec_l1Cur_diagram : PkS := ⟨[.agg [.whole (300000, 0), .int .i64], .one (.box (300000, 1) 0)], [((300000, 0), .arr (.pr (.int .i64) (.pr (.int .i64) (.int .i64)))), ((300000, 1), .box [.ro (.int .u8), .int .i64, .int .u64])]⟩
def Hspec_l1Cur_diagram : List Sh := [.agg [(.own (.pr (.int .i64) (.pr (.int .i64) (.int .i64)))), .any], .box [(.ro (.int .u8)), .any, .any]]
def Kspec_l1Cur_diagram (g : ∀ {R : Type}, Nat → (List Int) → Int → Int → (Int → (List (Int × Int × Int)) → (List Int) → Int → Int → Option R) → Option R) (n : Nat) : KPs := fun R p k => match (PkS.un Sspec_l1Cur_diagram p : Option ((List Int) × Int × Int × Unit)) with
  | some (x0, x1, x2, _) => g n x0 x1 x2 (fun r0 r1 r2 r3 r4 => k (PkS.pack Tspec_l1Cur_diagram (r0, r1, r2, r3, r4, ())))
  | none => none
theorem espec_l1Cur_diagram (spec_l1Cur_pick : ∀ {R : Type}, Nat → Int → (List Int) → Int → Int → (Int → (List Int) → Int → Int → Option R) → Option R) (spec_l1Cur_form : ∀ {R : Type}, Nat → Int → (List Int) → Int → Int → (ByteArray → (List Int) → Int → Int → Option R) → Option R) (spec_DiagramOf : ∀ {R : Type}, Nat → ByteArray → (Int → Bool → (List (Int × Int × Int)) → Option R) → Option R) (spec_l1Cur_one : ∀ {R : Type}, Nat → Int → (List Int) → Int → Int → (Bool → (List Int) → Int → Int → Option R) → Option R) {R : Type} (n : Nat) (x0 : List Int) (x1 : Int) (x2 : Int) (k : Pk → Option R) : evF tt sig (mkK [(70, Kspec_l1Cur_pick @spec_l1Cur_pick n), (69, Kspec_l1Cur_form @spec_l1Cur_form n), (19, Kspec_DiagramOf @spec_DiagramOf n), (71, Kspec_l1Cur_one @spec_l1Cur_one n)] R) (mkL (mkK [(70, Kspec_l1Cur_pick @spec_l1Cur_pick n), (69, Kspec_l1Cur_form @spec_l1Cur_form n), (19, Kspec_DiagramOf @spec_DiagramOf n), (71, Kspec_l1Cur_one @spec_l1Cur_one n)]) [] R) Try.f56 Hspec_l1Cur_diagram (PkS.pack Sspec_l1Cur_diagram (x0, x1, x2, ())) k = (fun (k : Int → (List (Int × Int × Int)) → (List Int) → Int → Int → Option R) => (spec_l1Cur_pick n 5 x0 x1 x2 fun r1 r2 r3 r4 => (spec_l1Cur_form n r1 r2 r3 r4 fun r5 r6 r7 r8 => (spec_DiagramOf n r5 fun r9 r10 r11 => (bif (!r10) then (spec_DiagramOf n (ByteArray.mk #[40, 97, 94, 40, 98, 38, 102, 41, 41]) fun r12 r13 r14 => (bif (decide ((r14.length : Int) > 0)) then (spec_l1Cur_one n 20 r6 r7 r8 fun r15 r16 r17 r18 => (bif r15 then (spec_l1Cur_pick n (r14.length : Int) r16 r17 r18 fun r19 r20 r21 r22 => (spec_l1Cur_pick n 3 r20 r21 r22 fun r23 r24 r25 r26 => (bif (r23 == 0) then (spec_l1Cur_pick n 7 r24 r25 r26 fun r27 r28 r29 r30 => (bif decide (0 ≤ r19) then (bif decide (r19 < (r14.length : Int)) then k r12 (r14.set (Int.toNat r19) (r27, (r14.getD (Int.toNat r19) (0, (0, 0))).2)) r28 r29 r30 else none) else none)) else (bif (r23 == 1) then (spec_l1Cur_pick n 4 r24 r25 r26 fun r31 r32 r33 r34 => (bif decide (0 ≤ r19) then (bif decide (r19 < (r14.length : Int)) then k r12 (r14.set (Int.toNat r19) ((r14.getD (Int.toNat r19) (0, (0, 0))).1, ((IntKind.wrap .i64 (r31 - 2)), (r14.getD (Int.toNat r19) (0, (0, 0))).2.2))) r32 r33 r34 else none) else none)) else k (IntKind.wrap .i64 (r12 - 1)) r14 r24 r25 r26)))) else k r12 r14 r16 r17 r18)) else k r12 r14 r6 r7 r8)) else (bif (decide ((r11.length : Int) > 0)) then (spec_l1Cur_one n 20 r6 r7 r8 fun r35 r36 r37 r38 => (bif r35 then (spec_l1Cur_pick n (r11.length : Int) r36 r37 r38 fun r39 r40 r41 r42 => (spec_l1Cur_pick n 3 r40 r41 r42 fun r43 r44 r45 r46 => (bif (r43 == 0) then (spec_l1Cur_pick n 7 r44 r45 r46 fun r47 r48 r49 r50 => (bif decide (0 ≤ r39) then (bif decide (r39 < (r11.length : Int)) then k r9 (r11.set (Int.toNat r39) (r47, (r11.getD (Int.toNat r39) (0, (0, 0))).2)) r48 r49 r50 else none) else none)) else (bif (r43 == 1) then (spec_l1Cur_pick n 4 r44 r45 r46 fun r51 r52 r53 r54 => (bif decide (0 ≤ r39) then (bif decide (r39 < (r11.length : Int)) then k r9 (r11.set (Int.toNat r39) ((r11.getD (Int.toNat r39) (0, (0, 0))).1, ((IntKind.wrap .i64 (r51 - 2)), (r11.getD (Int.toNat r39) (0, (0, 0))).2.2))) r52 r53 r54 else none) else none)) else k (IntKind.wrap .i64 (r9 - 1)) r11 r44 r45 r46)))) else k r9 r11 r36 r37 r38)) else k r9 r11 r6 r7 r8)))))) (fun r0 r1 r2 r3 r4 => k (PkS.pack Tspec_l1Cur_diagram (r0, r1, r2, r3, r4, ()))) := by kernel_rfl
theorem okspec_l1Cur_diagram (n : Nat) : FnOk Try.prog 56 (Kspec_l1Cur_diagram @spec_l1Cur_diagram n) := by
  refine fn_ok (sig := sig) mixed ttok (mkK_nat (cspec_l1Cur_diagram n)) (mkK_ok (cspec_l1Cur_diagram n)) (mkL_nat (mkK_nat (cspec_l1Cur_diagram n)) (l := []) trivial) (fn := Try.f56) (c := bodyOf Try.f56) (by kernel_rfl) (by kernel_rfl) (by kernel_rfl) (.eq (l := []) (by kernel_rfl) trivial) (shs := Hspec_l1Cur_diagram) (S := Sspec_l1Cur_diagram) (h1 := by kernel_rfl) fun R p k => ?_
  unfold Kspec_l1Cur_diagram
  cases h : (PkS.un Sspec_l1Cur_diagram p) with
  | none => rfl
  | some d =>
    obtain ⟨x0, x1, x2, u⟩ := (d : (List Int) × Int × Int × Unit)
    have hp := PkS.un_pack h
    subst hp
    exact (espec_l1Cur_diagram @spec_l1Cur_pick @spec_l1Cur_form @spec_DiagramOf @spec_l1Cur_one n x0 x1 x2 k).symm

/-! ### loop.example/g00269/spec.DrawBothOf -/
theorem cspec_DrawBothOf (n : Nat) : AllOk Try.prog [(56, Kspec_l1Cur_diagram @spec_l1Cur_diagram n)] := ⟨okspec_l1Cur_diagram n, trivial⟩
@[reducible] def Sspec_DrawBothOf : PkS := ⟨[.one (.ro (.int .u8))], []⟩
@[reducible] def Tspec_DrawBothOf : PkS := ⟨[.tup [(true, [.whole (300000, 0), .int .i64]), (true, [.whole (300000, 1), .int .i64])], .one (.dead)], [((300000, 0), .arr (.pr (.int .i64) (.pr (.int .i64) (.int .i64)))), ((300000, 1), .arr (.pr (.int .i64) (.pr (.int .i64) (.int .i64))))]⟩
def Hspec_DrawBothOf : List Sh := [.tup [(true, [(.own (.pr (.int .i64) (.pr (.int .i64) (.int .i64)))), .any]), (true, [(.own (.pr (.int .i64) (.pr (.int .i64) (.int .i64)))), .any])], .skip]
def Kspec_DrawBothOf (g : ∀ {R : Type}, Nat → (List Int) → (Int → Int → (List (Int × Int × Int)) → (List (Int × Int × Int)) → Option R) → Option R) (n : Nat) : KPs := fun R p k => match (PkS.un Sspec_DrawBothOf p : Option ((List Int) × Unit)) with
  | some (x0, _) => g n x0 (fun r0 r1 r2 r3 => k (PkS.pack Tspec_DrawBothOf (r0, r1, r2, r3, ())))
  | none => none
theorem espec_DrawBothOf (spec_l1Cur_diagram : ∀ {R : Type}, Nat → (List Int) → Int → Int → (Int → (List (Int × Int × Int)) → (List Int) → Int → Int → Option R) → Option R) {R : Type} (n : Nat) (x0 : List Int) (k : Pk → Option R) : evF tt sig (mkK [(56, Kspec_l1Cur_diagram @spec_l1Cur_diagram n)] R) (mkL (mkK [(56, Kspec_l1Cur_diagram @spec_l1Cur_diagram n)]) [] R) Try.f31 Hspec_DrawBothOf (PkS.pack Sspec_DrawBothOf (x0, ())) k = (fun (k : Int → Int → (List (Int × Int × Int)) → (List (Int × Int × Int)) → Option R) => (spec_l1Cur_diagram n x0 0 0 fun r1 r2 r3 r4 r5 => (spec_l1Cur_diagram n r3 r4 r5 fun r6 r7 r8 r9 r10 => k r1 r6 r2 r7))) (fun r0 r1 r2 r3 => k (PkS.pack Tspec_DrawBothOf (r0, r1, r2, r3, ()))) := by kernel_rfl
theorem okspec_DrawBothOf (n : Nat) : FnOk Try.prog 31 (Kspec_DrawBothOf @spec_DrawBothOf n) := by
  refine fn_ok (sig := sig) mixed ttok (mkK_nat (cspec_DrawBothOf n)) (mkK_ok (cspec_DrawBothOf n)) (mkL_nat (mkK_nat (cspec_DrawBothOf n)) (l := []) trivial) (fn := Try.f31) (c := bodyOf Try.f31) (by kernel_rfl) (by kernel_rfl) (by kernel_rfl) (.eq (l := []) (by kernel_rfl) trivial) (shs := Hspec_DrawBothOf) (S := Sspec_DrawBothOf) (h1 := by kernel_rfl) fun R p k => ?_
  unfold Kspec_DrawBothOf
  cases h : (PkS.un Sspec_DrawBothOf p) with
  | none => rfl
  | some d =>
    obtain ⟨x0, u⟩ := (d : (List Int) × Unit)
    have hp := PkS.un_pack h
    subst hp
    exact (espec_DrawBothOf @spec_l1Cur_diagram n x0 k).symm

/-! ### loop.example/g00269/impl.in -/
theorem cimpl_in (n : Nat) : AllOk Try.prog [] := trivial
@[reducible] def Simpl_in : PkS := ⟨[.one (.int .i64), .one (.int .i64), .one (.int .i64)], []⟩
@[reducible] def Timpl_in : PkS := ⟨[.one (.bool), .one (.dead), .one (.dead), .one (.dead)], []⟩
def Himpl_in : List Sh := [.one .any, .skip, .skip, .skip]
def Kimpl_in (g : ∀ {R : Type}, Nat → Int → Int → Int → (Bool → Option R) → Option R) (n : Nat) : KPs := fun R p k => match (PkS.un Simpl_in p : Option (Int × Int × Int × Unit)) with
  | some (x0, x1, x2, _) => g n x0 x1 x2 (fun r0 => k (PkS.pack Timpl_in (r0, ())))
  | none => none
theorem eimpl_in  {R : Type} (n : Nat) (x0 : Int) (x1 : Int) (x2 : Int) (k : Pk → Option R) : evF tt sig (mkK [] R) (mkL (mkK []) [] R) Try.f45 Himpl_in (PkS.pack Simpl_in (x0, x1, x2, ())) k = (fun (k : Bool → Option R) => (bif (decide (x0 ≥ x1)) then k (decide (x0 ≤ x2)) else k false)) (fun r0 => k (PkS.pack Timpl_in (r0, ()))) := by kernel_rfl
theorem okimpl_in (n : Nat) : FnOk Try.prog 45 (Kimpl_in @impl_in n) := by
  refine fn_ok (sig := sig) mixed ttok (mkK_nat (cimpl_in n)) (mkK_ok (cimpl_in n)) (mkL_nat (mkK_nat (cimpl_in n)) (l := []) trivial) (fn := Try.f45) (c := bodyOf Try.f45) (by kernel_rfl) (by kernel_rfl) (by kernel_rfl) (.eq (l := []) (by kernel_rfl) trivial) (shs := Himpl_in) (S := Simpl_in) (h1 := by kernel_rfl) fun R p k => ?_
  unfold Kimpl_in
  cases h : (PkS.un Simpl_in p) with
  | none => rfl
  | some d =>
    obtain ⟨x0, x1, x2, u⟩ := (d : Int × Int × Int × Unit)
    have hp := PkS.un_pack h
    subst hp
    exact (eimpl_in  n x0 x1 x2 k).symm

/-! ### loop.example/g00269/impl.varTruth -/
theorem cimpl_varTruth (n : Nat) : AllOk Try.prog [] := trivial
@[reducible] def Simpl_varTruth_l3 : PkS := ⟨[.one (.int .i64), .one (.int .u64), .one (.int .i64), .one (.dead)], []⟩
@[reducible] def Timpl_varTruth_l3_0 : PkS := ⟨[.one (.int .u64), .one (.dead)], []⟩
def Dimpl_varTruth_l3 : LoopD := ⟨19, [0, 3, 5], [.one .any, .one .any, .one .any, .skip], fun x => match x with
  | .exit 0 => some ([3], [.one .any, .skip])
  | _ => none⟩
def Pimpl_varTruth_l3 (g : ∀ {R : Type}, Nat → Int → Int → Int → (Int → Option R) → Option R) (n : Nat) : LPs := fun R q kk => match (PkS.un Simpl_varTruth_l3 q : Option (Int × Int × Int × Unit)) with
  | some (y3_0, y3_1, y3_2, _) => g n y3_0 y3_1 y3_2 (fun r0 => kk (.exit 0) (PkS.pack Timpl_varTruth_l3_0 (r0, ())))
  | none => none
theorem eimpl_varTruth_l3 (impl_varTruth_l3 : ∀ {R : Type}, Nat → Int → Int → Int → (Int → Option R) → Option R) {R : Type} (n : Nat) (y3_0 : Int) (y3_1 : Int) (y3_2 : Int) (kk : Ex → Pk → Option R) : Dimpl_varTruth_l3.step tt sig (mkK [] R) (mkL (mkK []) [] R) (loopIn 3 (bodyOf Try.f61)) (fun q' => Pimpl_varTruth_l3 @impl_varTruth_l3 n R q' kk) (PkS.pack Simpl_varTruth_l3 (y3_0, y3_1, y3_2, ())) kk = (fun (kexit0 : Int → Option R) => (bif (decide (y3_2 < 64)) then (bif decide (0 ≤ y3_0) then (bif ((IntKind.wrap .i64 (Int.ofNat (BitVec.toNat (BitVec.ofInt (IntKind.bits .i64) (Int.fdiv y3_2 (2 ^ (min (Int.toNat y3_0) (IntKind.bits .i64)))) &&& BitVec.ofInt (IntKind.bits .i64) 1)))) == 1) then (bif decide (0 ≤ y3_2) then impl_varTruth_l3 n y3_0 (IntKind.wrap .u64 (Int.ofNat (BitVec.toNat (BitVec.ofInt (IntKind.bits .u64) y3_1 ||| BitVec.ofInt (IntKind.bits .u64) (IntKind.wrap .u64 (1 * 2 ^ (min (Int.toNat y3_2) (IntKind.bits .u64)))))))) (IntKind.wrap .i64 (y3_2 + 1)) kexit0 else none) else impl_varTruth_l3 n y3_0 y3_1 (IntKind.wrap .i64 (y3_2 + 1)) kexit0) else none) else kexit0 y3_1)) (fun r0 => kk (.exit 0) (PkS.pack Timpl_varTruth_l3_0 (r0, ()))) := by kernel_rfl
theorem leimpl_varTruth_l3 : LoopEq tt sig (fun n => mkK []) (fun n => mkL (mkK []) []) Dimpl_varTruth_l3 Simpl_varTruth_l3 (loopIn 3 (bodyOf Try.f61)) (Pimpl_varTruth_l3 @impl_varTruth_l3) where
  zero R q kk := by unfold Pimpl_varTruth_l3; cases (PkS.un Simpl_varTruth_l3 q) <;> rfl
  succ n R q kk := by
    unfold Pimpl_varTruth_l3
    cases h : (PkS.un Simpl_varTruth_l3 q) with
    | none => rfl
    | some d =>
      obtain ⟨y3_0, y3_1, y3_2, u⟩ := (d : Int × Int × Int × Unit)
      have hp := PkS.un_pack h
      subst hp
      exact (eimpl_varTruth_l3 @impl_varTruth_l3 n y3_0 y3_1 y3_2 kk).symm
theorem nlimpl_varTruth_l3 : ∀ n, NatLP (Pimpl_varTruth_l3 @impl_varTruth_l3 n) := leimpl_varTruth_l3.nat (fun n => mkK_nat (cimpl_varTruth n)) fun n => mkL_nat (mkK_nat (cimpl_varTruth n)) (l := []) trivial
theorem inimpl_varTruth_l3 (n : Nat) (R : Type) : LoopsOk Try.prog (mkL (mkK []) [] R) (loopIn 3 (bodyOf Try.f61)) := .eq (l := []) (by kernel_rfl) trivial
theorem lkimpl_varTruth_l3 (n : Nat) (R : Type) (L0 : LK R) (h0 : ∀ id, firstRegion (loopIn 3 (bodyOf Try.f61)) = some id → L0 id = Dimpl_varTruth_l3.oracle (mkK [] R) (Pimpl_varTruth_l3 @impl_varTruth_l3 n R)) : LoopOk Try.prog L0 (loopIn 3 (bodyOf Try.f61)) :=
  leimpl_varTruth_l3.ok mixed ttok (fun n => mkK_nat (cimpl_varTruth n)) (fun n => mkK_ok (cimpl_varTruth n)) (fun n => inimpl_varTruth_l3 n R) (mkK_nat (cimpl_varTruth n)) h0
@[reducible] def Simpl_varTruth : PkS := ⟨[.one (.int .i64)], []⟩
@[reducible] def Timpl_varTruth : PkS := ⟨[.one (.int .u64), .one (.dead)], []⟩
def Himpl_varTruth : List Sh := [.one .any, .skip]
def Kimpl_varTruth (g : ∀ {R : Type}, Nat → Int → (Int → Option R) → Option R) (n : Nat) : KPs := fun R p k => match (PkS.un Simpl_varTruth p : Option (Int × Unit)) with
  | some (x0, _) => g n x0 (fun r0 => k (PkS.pack Timpl_varTruth (r0, ())))
  | none => none
theorem eimpl_varTruth (impl_varTruth_l3 : ∀ {R : Type}, Nat → Int → Int → Int → (Int → Option R) → Option R) {R : Type} (n : Nat) (x0 : Int) (k : Pk → Option R) : evF tt sig (mkK [] R) (mkL (mkK []) [(3, Dimpl_varTruth_l3, Pimpl_varTruth_l3 @impl_varTruth_l3 n)] R) Try.f61 Himpl_varTruth (PkS.pack Simpl_varTruth (x0, ())) k = (fun (k : Int → Option R) => (impl_varTruth_l3 n x0 0 0 (fun r1 => k r1))) (fun r0 => k (PkS.pack Timpl_varTruth (r0, ()))) := by kernel_rfl
theorem okimpl_varTruth (n : Nat) : FnOk Try.prog 61 (Kimpl_varTruth @impl_varTruth n) := by
  refine fn_ok (sig := sig) mixed ttok (mkK_nat (cimpl_varTruth n)) (mkK_ok (cimpl_varTruth n)) (mkL_nat (mkK_nat (cimpl_varTruth n)) (l := [(3, Dimpl_varTruth_l3, Pimpl_varTruth_l3 @impl_varTruth_l3 n)]) ⟨nlimpl_varTruth_l3 n, trivial⟩) (fn := Try.f61) (c := bodyOf Try.f61) (by kernel_rfl) (by kernel_rfl) (by kernel_rfl) (.eq (l := [.lo (loopIn 3 (bodyOf Try.f61))]) (by kernel_rfl) ⟨(lkimpl_varTruth_l3 n _ _ (at_id (i := 3) (by kernel_rfl) rfl)), trivial⟩) (shs := Himpl_varTruth) (S := Simpl_varTruth) (h1 := by kernel_rfl) fun R p k => ?_
  unfold Kimpl_varTruth
  cases h : (PkS.un Simpl_varTruth p) with
  | none => rfl
  | some d =>
    obtain ⟨x0, u⟩ := (d : Int × Unit)
    have hp := PkS.un_pack h
    subst hp
    exact (eimpl_varTruth @impl_varTruth_l3 n x0 k).symm

/-! ### loop.example/g00269/impl.truthOf$1 -/
theorem cimpl_truthOf_c1 (n : Nat) : AllOk Try.prog [] := trivial
@[reducible] def Simpl_truthOf_c1 : PkS := ⟨[.one (.int .i64), .one (.relt (.sl (.int .u64)))], []⟩
@[reducible] def Timpl_truthOf_c1 : PkS := ⟨[.one (.int .u64), .one (.dead), .one (.dead)], []⟩
def Himpl_truthOf_c1 : List Sh := [.one .any, .skip, .skip]
def Kimpl_truthOf_c1 (g : ∀ {R : Type}, Nat → Int → (List Int) → (Int → Option R) → Option R) (n : Nat) : KPs := fun R p k => match (PkS.un Simpl_truthOf_c1 p : Option (Int × (List Int) × Unit)) with
  | some (x0, x1, _) => g n x0 x1 (fun r0 => k (PkS.pack Timpl_truthOf_c1 (r0, ())))
  | none => none
theorem eimpl_truthOf_c1  {R : Type} (n : Nat) (x0 : Int) (x1 : List Int) (k : Pk → Option R) : evF tt sig (mkK [] R) (mkL (mkK []) [] R) Try.f60 Himpl_truthOf_c1 (PkS.pack Simpl_truthOf_c1 (x0, x1, ())) k = (fun (k : Int → Option R) => (bif (x0 == (-2)) then k 0 else (bif (x0 == (-1)) then k 18446744073709551615 else (bif decide (0 ≤ x0) then (bif decide (x0 < (x1.length : Int)) then k (x1.getD (Int.toNat x0) 0) else none) else none)))) (fun r0 => k (PkS.pack Timpl_truthOf_c1 (r0, ()))) := by kernel_rfl
theorem okimpl_truthOf_c1 (n : Nat) : FnOk Try.prog 60 (Kimpl_truthOf_c1 @impl_truthOf_c1 n) := by
  refine fn_ok (sig := sig) mixed ttok (mkK_nat (cimpl_truthOf_c1 n)) (mkK_ok (cimpl_truthOf_c1 n)) (mkL_nat (mkK_nat (cimpl_truthOf_c1 n)) (l := []) trivial) (fn := Try.f60) (c := bodyOf Try.f60) (by kernel_rfl) (by kernel_rfl) (by kernel_rfl) (.eq (l := []) (by kernel_rfl) trivial) (shs := Himpl_truthOf_c1) (S := Simpl_truthOf_c1) (h1 := by kernel_rfl) fun R p k => ?_
  unfold Kimpl_truthOf_c1
  cases h : (PkS.un Simpl_truthOf_c1 p) with
  | none => rfl
  | some d =>
    obtain ⟨x0, x1, u⟩ := (d : Int × (List Int) × Unit)
    have hp := PkS.un_pack h
    subst hp
    exact (eimpl_truthOf_c1  n x0 x1 k).symm

/-! ### (loop.example/g00269/impl.truth).with -/
theorem cimpl_truth_with (n : Nat) : AllOk Try.prog [(61, Kimpl_varTruth @impl_varTruth n)] := ⟨okimpl_varTruth n, trivial⟩
@[reducible] def Simpl_truth_with : PkS := ⟨[.one (.int .u64), .one (.int .i64), .one (.bool)], []⟩
@[reducible] def Timpl_truth_with : PkS := ⟨[.one (.int .u64), .one (.dead), .one (.dead), .one (.dead)], []⟩
def Himpl_truth_with : List Sh := [.one .any, .skip, .skip, .skip]
def Kimpl_truth_with (g : ∀ {R : Type}, Nat → Int → Int → Bool → (Int → Option R) → Option R) (n : Nat) : KPs := fun R p k => match (PkS.un Simpl_truth_with p : Option (Int × Int × Bool × Unit)) with
  | some (x0, x1, x2, _) => g n x0 x1 x2 (fun r0 => k (PkS.pack Timpl_truth_with (r0, ())))
  | none => none
theorem eimpl_truth_with (impl_varTruth : ∀ {R : Type}, Nat → Int → (Int → Option R) → Option R) {R : Type} (n : Nat) (x0 : Int) (x1 : Int) (x2 : Bool) (k : Pk → Option R) : evF tt sig (mkK [(61, Kimpl_varTruth @impl_varTruth n)] R) (mkL (mkK [(61, Kimpl_varTruth @impl_varTruth n)]) [] R) Try.f55 Himpl_truth_with (PkS.pack Simpl_truth_with (x0, x1, x2, ())) k = (fun (k : Int → Option R) => (impl_varTruth n x1 fun r1 => (bif decide (0 ≤ x1) then (bif x2 then (bif decide (0 ≤ (IntKind.wrap .i64 (1 * 2 ^ (min (Int.toNat x1) (IntKind.bits .i64))))) then k (IntKind.wrap .u64 (Int.ofNat (BitVec.toNat (BitVec.ofInt (IntKind.bits .u64) (IntKind.wrap .u64 (Int.ofNat (BitVec.toNat (BitVec.ofInt (IntKind.bits .u64) x0 &&& BitVec.ofInt (IntKind.bits .u64) r1)))) ||| BitVec.ofInt (IntKind.bits .u64) (Int.fdiv (IntKind.wrap .u64 (Int.ofNat (BitVec.toNat (BitVec.ofInt (IntKind.bits .u64) x0 &&& BitVec.ofInt (IntKind.bits .u64) r1)))) (2 ^ (min (Int.toNat (IntKind.wrap .i64 (1 * 2 ^ (min (Int.toNat x1) (IntKind.bits .i64))))) (IntKind.bits .u64)))))))) else none) else (bif decide (0 ≤ (IntKind.wrap .i64 (1 * 2 ^ (min (Int.toNat x1) (IntKind.bits .i64))))) then k (IntKind.wrap .u64 (Int.ofNat (BitVec.toNat (BitVec.ofInt (IntKind.bits .u64) (IntKind.wrap .u64 (Int.ofNat (BitVec.toNat (BitVec.ofInt (IntKind.bits .u64) x0 &&& ~~~ BitVec.ofInt (IntKind.bits .u64) r1)))) ||| BitVec.ofInt (IntKind.bits .u64) (IntKind.wrap .u64 ((IntKind.wrap .u64 (Int.ofNat (BitVec.toNat (BitVec.ofInt (IntKind.bits .u64) x0 &&& ~~~ BitVec.ofInt (IntKind.bits .u64) r1)))) * 2 ^ (min (Int.toNat (IntKind.wrap .i64 (1 * 2 ^ (min (Int.toNat x1) (IntKind.bits .i64))))) (IntKind.bits .u64)))))))) else none)) else none))) (fun r0 => k (PkS.pack Timpl_truth_with (r0, ()))) := by kernel_rfl
theorem okimpl_truth_with (n : Nat) : FnOk Try.prog 55 (Kimpl_truth_with @impl_truth_with n) := by
  refine fn_ok (sig := sig) mixed ttok (mkK_nat (cimpl_truth_with n)) (mkK_ok (cimpl_truth_with n)) (mkL_nat (mkK_nat (cimpl_truth_with n)) (l := []) trivial) (fn := Try.f55) (c := bodyOf Try.f55) (by kernel_rfl) (by kernel_rfl) (by kernel_rfl) (.eq (l := []) (by kernel_rfl) trivial) (shs := Himpl_truth_with) (S := Simpl_truth_with) (h1 := by kernel_rfl) fun R p k => ?_
  unfold Kimpl_truth_with
  cases h : (PkS.un Simpl_truth_with p) with
  | none => rfl
  | some d =>
    obtain ⟨x0, x1, x2, u⟩ := (d : Int × Int × Bool × Unit)
    have hp := PkS.un_pack h
    subst hp
    exact (eimpl_truth_with @impl_varTruth n x0 x1 x2 k).symm

/-! ### (*loop.example/g00269/impl.builder).node -/
theorem cimpl_builder_node (n : Nat) : AllOk Try.prog [(55, Kimpl_truth_with @impl_truth_with n)] := ⟨okimpl_truth_with n, trivial⟩
@[reducible] def Simpl_builder_node_l10 : PkS := ⟨[.one (.box (100000, 2) 0), .one (.int .u64), .one (.int .i64), .one (.box (100000, 2) 0), .one (.dead)], [((100000, 0), .arr (.pr (.int .i64) (.pr (.int .i64) (.int .i64)))), ((100000, 1), .map), ((100000, 2), .box [.whole (100000, 0), .mp (100000, 1)])]⟩
@[reducible] def Timpl_builder_node_l10_0 : PkS := ⟨[.one (.box (100000, 2) 0), .one (.int .u64), .one (.int .i64), .one (.box (100000, 2) 0), .one (.dead)], [((100000, 0), .arr (.pr (.int .i64) (.pr (.int .i64) (.int .i64)))), ((100000, 1), .map), ((100000, 2), .box [.whole (100000, 0), .mp (100000, 1)])]⟩
def Dimpl_builder_node_l10 : LoopD := ⟨75, [0, 1, 7], [.box [(.own (.pr (.int .i64) (.pr (.int .i64) (.int .i64)))), .map], .one .any, .one .any, .box [(.own (.pr (.int .i64) (.pr (.int .i64) (.int .i64)))), .map], .skip], fun x => match x with
  | .exit 1 => some ([0, 1, 7], [.box [(.own (.pr (.int .i64) (.pr (.int .i64) (.int .i64)))), .map], .one .any, .one .any, .box [(.own (.pr (.int .i64) (.pr (.int .i64) (.int .i64)))), .map], .skip])
  | _ => none⟩
def Pimpl_builder_node_l10 (g : ∀ {R : Type}, Nat → Int → Int → (List (Int × Int × Int)) → (List (Int × Int)) → (Int → Int → (List (Int × Int × Int)) → (List (Int × Int)) → Option R) → Option R) (n : Nat) : LPs := fun R q kk => match (PkS.un Simpl_builder_node_l10 q : Option (Int × Int × (List (Int × Int × Int)) × (List (Int × Int)) × Unit)) with
  | some (y10_0, y10_1, y10_2, y10_3, _) => g n y10_0 y10_1 y10_2 y10_3 (fun r0 r1 r2 r3 => kk (.exit 1) (PkS.pack Timpl_builder_node_l10_0 (r0, r1, r2, r3, ())))
  | none => none
theorem eimpl_builder_node_l10 (impl_truth_with : ∀ {R : Type}, Nat → Int → Int → Bool → (Int → Option R) → Option R) (impl_builder_node_l10 : ∀ {R : Type}, Nat → Int → Int → (List (Int × Int × Int)) → (List (Int × Int)) → (Int → Int → (List (Int × Int × Int)) → (List (Int × Int)) → Option R) → Option R) {R : Type} (n : Nat) (y10_0 : Int) (y10_1 : Int) (y10_2 : List (Int × Int × Int)) (y10_3 : List (Int × Int)) (kk : Ex → Pk → Option R) : Dimpl_builder_node_l10.step tt sig (mkK [(55, Kimpl_truth_with @impl_truth_with n)] R) (mkL (mkK [(55, Kimpl_truth_with @impl_truth_with n)]) [] R) (loopIn 10 (bodyOf Try.f67)) (fun q' => Pimpl_builder_node_l10 @impl_builder_node_l10 n R q' kk) (PkS.pack Simpl_builder_node_l10 (y10_0, y10_1, y10_2, y10_3, ())) kk = (fun (kexit1 : Int → Int → (List (Int × Int × Int)) → (List (Int × Int)) → Option R) => (impl_truth_with n y10_0 y10_1 false fun r1 => (impl_truth_with n y10_0 y10_1 true fun r2 => (bif (r1 == r2) then impl_builder_node_l10 n y10_0 (IntKind.wrap .i64 (y10_1 + 1)) y10_2 y10_3 kexit1 else kexit1 y10_0 y10_1 y10_2 y10_3)))) (fun r0 r1 r2 r3 => kk (.exit 1) (PkS.pack Timpl_builder_node_l10_0 (r0, r1, r2, r3, ()))) := by kernel_rfl
theorem leimpl_builder_node_l10 : LoopEq tt sig (fun n => mkK [(55, Kimpl_truth_with @impl_truth_with n)]) (fun n => mkL (mkK [(55, Kimpl_truth_with @impl_truth_with n)]) []) Dimpl_builder_node_l10 Simpl_builder_node_l10 (loopIn 10 (bodyOf Try.f67)) (Pimpl_builder_node_l10 @impl_builder_node_l10) where
  zero R q kk := by unfold Pimpl_builder_node_l10; cases (PkS.un Simpl_builder_node_l10 q) <;> rfl
  succ n R q kk := by
    unfold Pimpl_builder_node_l10
    cases h : (PkS.un Simpl_builder_node_l10 q) with
    | none => rfl
    | some d =>
      obtain ⟨y10_0, y10_1, y10_2, y10_3, u⟩ := (d : Int × Int × (List (Int × Int × Int)) × (List (Int × Int)) × Unit)
      have hp := PkS.un_pack h
      subst hp
      exact (eimpl_builder_node_l10 @impl_truth_with @impl_builder_node_l10 n y10_0 y10_1 y10_2 y10_3 kk).symm
theorem nlimpl_builder_node_l10 : ∀ n, NatLP (Pimpl_builder_node_l10 @impl_builder_node_l10 n) := leimpl_builder_node_l10.nat (fun n => mkK_nat (cimpl_builder_node n)) fun n => mkL_nat (mkK_nat (cimpl_builder_node n)) (l := []) trivial
theorem inimpl_builder_node_l10 (n : Nat) (R : Type) : LoopsOk Try.prog (mkL (mkK [(55, Kimpl_truth_with @impl_truth_with n)]) [] R) (loopIn 10 (bodyOf Try.f67)) := .eq (l := []) (by kernel_rfl) trivial
theorem lkimpl_builder_node_l10 (n : Nat) (R : Type) (L0 : LK R) (h0 : ∀ id, firstRegion (loopIn 10 (bodyOf Try.f67)) = some id → L0 id = Dimpl_builder_node_l10.oracle (mkK [(55, Kimpl_truth_with @impl_truth_with n)] R) (Pimpl_builder_node_l10 @impl_builder_node_l10 n R)) : LoopOk Try.prog L0 (loopIn 10 (bodyOf Try.f67)) :=
  leimpl_builder_node_l10.ok mixed ttok (fun n => mkK_nat (cimpl_builder_node n)) (fun n => mkK_ok (cimpl_builder_node n)) (fun n => inimpl_builder_node_l10 n R) (mkK_nat (cimpl_builder_node n)) h0
@[reducible] def Simpl_builder_node : PkS := ⟨[.one (.box (200000, 2) 0), .one (.int .u64)], [((200000, 0), .arr (.pr (.int .i64) (.pr (.int .i64) (.int .i64)))), ((200000, 1), .map), ((200000, 2), .box [.whole (200000, 0), .mp (200000, 1)])]⟩
@[reducible] def Timpl_builder_node : PkS := ⟨[.one (.int .i64), .one (.box (300000, 2) 0), .one (.dead)], [((300000, 0), .arr (.pr (.int .i64) (.pr (.int .i64) (.int .i64)))), ((300000, 1), .map), ((300000, 2), .box [.whole (300000, 0), .mp (300000, 1)])]⟩
def Himpl_builder_node : List Sh := [.one .any, .box [(.own (.pr (.int .i64) (.pr (.int .i64) (.int .i64)))), .map], .skip]
def Kimpl_builder_node (g : ∀ {R : Type}, Nat → Int → (List (Int × Int × Int)) → (List (Int × Int)) → (Int → (List (Int × Int × Int)) → (List (Int × Int)) → Option R) → Option R) (n : Nat) : KPs := fun R p k => match (PkS.un Simpl_builder_node p : Option (Int × (List (Int × Int × Int)) × (List (Int × Int)) × Unit)) with
  | some (x0, x1, x2, _) => g n x0 x1 x2 (fun r0 r1 r2 => k (PkS.pack Timpl_builder_node (r0, r1, r2, ())))
  | none => none
theorem dimpl_builder_node (n : Nat) (ih : FnOk Try.prog 67 (Kimpl_builder_node @impl_builder_node n)) : AllOk Try.prog [(55, Kimpl_truth_with @impl_truth_with n), (67, Kimpl_builder_node @impl_builder_node n)] := ⟨okimpl_truth_with n, ⟨ih, trivial⟩⟩
theorem eimpl_builder_node (impl_truth_with : ∀ {R : Type}, Nat → Int → Int → Bool → (Int → Option R) → Option R) (impl_builder_node : ∀ {R : Type}, Nat → Int → (List (Int × Int × Int)) → (List (Int × Int)) → (Int → (List (Int × Int × Int)) → (List (Int × Int)) → Option R) → Option R) (impl_builder_node_l10 : ∀ {R : Type}, Nat → Int → Int → (List (Int × Int × Int)) → (List (Int × Int)) → (Int → Int → (List (Int × Int × Int)) → (List (Int × Int)) → Option R) → Option R) {R : Type} (n : Nat) (x0 : Int) (x1 : List (Int × Int × Int)) (x2 : List (Int × Int)) (k : Pk → Option R) : evF tt sig (mkK [(55, Kimpl_truth_with @impl_truth_with n), (67, Kimpl_builder_node @impl_builder_node n)] R) (mkL (mkK [(55, Kimpl_truth_with @impl_truth_with n)]) [(10, Dimpl_builder_node_l10, Pimpl_builder_node_l10 @impl_builder_node_l10 n)] R) Try.f67 Himpl_builder_node (PkS.pack Simpl_builder_node (x0, x1, x2, ())) k = (fun (k : Int → (List (Int × Int × Int)) → (List (Int × Int)) → Option R) => (bif (x0 == 0) then k (-2) x1 x2 else (bif (x0 == 18446744073709551615) then k (-1) x1 x2 else (bif (List.lookup x0 x2).isSome then k ((List.lookup x0 x2).getD 0) x1 x2 else (impl_builder_node_l10 n x0 0 x1 x2 (fun r3 r4 r5 r6 => (impl_truth_with n r3 r4 false fun r7 => (impl_builder_node n r7 r5 r6 fun r8 r9 r10 => (impl_truth_with n r3 r4 true fun r11 => (impl_builder_node n r11 r9 r10 fun r12 r13 r14 => (bif decide (r13.length + ([(r4, (r8, r12))]).length ≤ LIM) then k (IntKind.wrap .i64 (((r13 ++ [(r4, (r8, r12))]).length : Int) - 1)) (r13 ++ [(r4, (r8, r12))]) ((r3, (IntKind.wrap .i64 (((r13 ++ [(r4, (r8, r12))]).length : Int) - 1))) :: r14) else none))))))))))) (fun r0 r1 r2 => k (PkS.pack Timpl_builder_node (r0, r1, r2, ()))) := by kernel_rfl
theorem okimpl_builder_node : ∀ n, FnOk Try.prog 67 (Kimpl_builder_node @impl_builder_node n)
  | 0 => fn_none fun R p k => by unfold Kimpl_builder_node; cases (PkS.un Simpl_builder_node p : Option (Int × (List (Int × Int × Int)) × (List (Int × Int)) × Unit)) <;> rfl
  | n + 1 => by
    refine fn_ok (sig := sig) mixed ttok (mkK_nat (dimpl_builder_node n (okimpl_builder_node n))) (mkK_ok (dimpl_builder_node n (okimpl_builder_node n))) (mkL_nat (mkK_nat (cimpl_builder_node n)) (l := [(10, Dimpl_builder_node_l10, Pimpl_builder_node_l10 @impl_builder_node_l10 n)]) ⟨nlimpl_builder_node_l10 n, trivial⟩) (fn := Try.f67) (c := bodyOf Try.f67) (by kernel_rfl) (by kernel_rfl) (by kernel_rfl) (.eq (l := [.lo (loopIn 10 (bodyOf Try.f67))]) (by kernel_rfl) ⟨(lkimpl_builder_node_l10 n _ _ (at_id (i := 10) (by kernel_rfl) rfl)), trivial⟩) (shs := Himpl_builder_node) (S := Simpl_builder_node) (h1 := by kernel_rfl) fun R p k => ?_
    unfold Kimpl_builder_node
    cases h : (PkS.un Simpl_builder_node p) with
    | none => rfl
    | some d =>
      obtain ⟨x0, x1, x2, u⟩ := (d : Int × (List (Int × Int × Int)) × (List (Int × Int)) × Unit)
      have hp := PkS.un_pack h
      subst hp
      exact (eimpl_builder_node @impl_truth_with @impl_builder_node @impl_builder_node_l10 n x0 x1 x2 k).symm

/-! ### loop.example/g00269/impl.diagramOf -/
theorem cimpl_diagramOf (n : Nat) : AllOk Try.prog [(67, Kimpl_builder_node @impl_builder_node n)] := ⟨okimpl_builder_node n, trivial⟩
@[reducible] def Simpl_diagramOf : PkS := ⟨[.one (.int .u64)], []⟩
@[reducible] def Timpl_diagramOf : PkS := ⟨[.tup [(true, [.whole (300000, 0), .int .i64]), (false, [.bool])], .one (.dead)], [((300000, 0), .arr (.pr (.int .i64) (.pr (.int .i64) (.int .i64))))]⟩
def Himpl_diagramOf : List Sh := [.tup [(true, [(.own (.pr (.int .i64) (.pr (.int .i64) (.int .i64)))), .any]), (false, [.any])], .skip]
def Kimpl_diagramOf (g : ∀ {R : Type}, Nat → Int → (Int → Bool → (List (Int × Int × Int)) → Option R) → Option R) (n : Nat) : KPs := fun R p k => match (PkS.un Simpl_diagramOf p : Option (Int × Unit)) with
  | some (x0, _) => g n x0 (fun r0 r1 r2 => k (PkS.pack Timpl_diagramOf (r0, r1, r2, ())))
  | none => none
theorem eimpl_diagramOf (impl_builder_node : ∀ {R : Type}, Nat → Int → (List (Int × Int × Int)) → (List (Int × Int)) → (Int → (List (Int × Int × Int)) → (List (Int × Int)) → Option R) → Option R) {R : Type} (n : Nat) (x0 : Int) (k : Pk → Option R) : evF tt sig (mkK [(67, Kimpl_builder_node @impl_builder_node n)] R) (mkL (mkK [(67, Kimpl_builder_node @impl_builder_node n)]) [] R) Try.f49 Himpl_diagramOf (PkS.pack Simpl_diagramOf (x0, ())) k = (fun (k : Int → Bool → (List (Int × Int × Int)) → Option R) => (impl_builder_node n x0 ([] : List (Int × Int × Int)) ([] : List (Int × Int)) fun r1 r2 r3 => (bif (decide ((r2.length : Int) > 70)) then k 0 false ([] : List (Int × Int × Int)) else k r1 true r2))) (fun r0 r1 r2 => k (PkS.pack Timpl_diagramOf (r0, r1, r2, ()))) := by kernel_rfl
theorem okimpl_diagramOf (n : Nat) : FnOk Try.prog 49 (Kimpl_diagramOf @impl_diagramOf n) := by
  refine fn_ok (sig := sig) mixed ttok (mkK_nat (cimpl_diagramOf n)) (mkK_ok (cimpl_diagramOf n)) (mkL_nat (mkK_nat (cimpl_diagramOf n)) (l := []) trivial) (fn := Try.f49) (c := bodyOf Try.f49) (by kernel_rfl) (by kernel_rfl) (by kernel_rfl) (.eq (l := []) (by kernel_rfl) trivial) (shs := Himpl_diagramOf) (S := Simpl_diagramOf) (h1 := by kernel_rfl) fun R p k => ?_
  unfold Kimpl_diagramOf
  cases h : (PkS.un Simpl_diagramOf p) with
  | none => rfl
  | some d =>
    obtain ⟨x0, u⟩ := (d : Int × Unit)
    have hp := PkS.un_pack h
    subst hp
    exact (eimpl_diagramOf @impl_builder_node n x0 k).symm

/-! ### slices.Equal[[]loop.example/g00269/impl.Choice,loop.example/g00269/impl.Choice] -/
theorem cslices_Equal_impl_Choice (n : Nat) : AllOk Try.prog [] := trivial
@[reducible] def Sslices_Equal_impl_Choice_l4 : PkS := ⟨[.one (.ro (.pr (.int .i64) (.pr (.int .i64) (.int .i64)))), .one (.ro (.pr (.int .i64) (.pr (.int .i64) (.int .i64)))), .one (.int .i64), .one (.int .i64), .one (.dead), .one (.dead)], []⟩
@[reducible] def Tslices_Equal_impl_Choice_l4_0 : PkS := ⟨[.one (.bool), .one (.dead), .one (.dead)], []⟩
@[reducible] def Tslices_Equal_impl_Choice_l4_1 : PkS := ⟨[.one (.dead), .one (.dead)], []⟩
def Dslices_Equal_impl_Choice_l4 : LoopD := ⟨26, [0, 1, 12, 13], [.one (.ro (.pr (.int .i64) (.pr (.int .i64) (.int .i64)))), .one (.ro (.pr (.int .i64) (.pr (.int .i64) (.int .i64)))), .one .any, .one .any, .skip, .skip], fun x => match x with
  | .ret => some ([4], [.one .any, .skip, .skip])
  | .exit 0 => some ([], [.skip, .skip])
  | _ => none⟩
def Pslices_Equal_impl_Choice_l4 (g : ∀ {R : Type}, Nat → (List (Int × Int × Int)) → (List (Int × Int × Int)) → Int → Int → (Bool → Option R) → (Option R) → Option R) (n : Nat) : LPs := fun R q kk => match (PkS.un Sslices_Equal_impl_Choice_l4 q : Option ((List (Int × Int × Int)) × (List (Int × Int × Int)) × Int × Int × Unit)) with
  | some (y4_0, y4_1, y4_2, y4_3, _) => g n y4_0 y4_1 y4_2 y4_3 (fun r0 => kk .ret (PkS.pack Tslices_Equal_impl_Choice_l4_0 (r0, ()))) (kk (.exit 0) (PkS.pack Tslices_Equal_impl_Choice_l4_1 ()))
  | none => none
theorem eslices_Equal_impl_Choice_l4 (slices_Equal_impl_Choice_l4 : ∀ {R : Type}, Nat → (List (Int × Int × Int)) → (List (Int × Int × Int)) → Int → Int → (Bool → Option R) → (Option R) → Option R) {R : Type} (n : Nat) (y4_0 : List (Int × Int × Int)) (y4_1 : List (Int × Int × Int)) (y4_2 : Int) (y4_3 : Int) (kk : Ex → Pk → Option R) : Dslices_Equal_impl_Choice_l4.step tt sig (mkK [] R) (mkL (mkK []) [] R) (loopIn 4 (bodyOf Try.f62)) (fun q' => Pslices_Equal_impl_Choice_l4 @slices_Equal_impl_Choice_l4 n R q' kk) (PkS.pack Sslices_Equal_impl_Choice_l4 (y4_0, y4_1, y4_2, y4_3, ())) kk = (fun (kret : Bool → Option R) (kexit0 : Option R) => (bif (decide (y4_3 < y4_2)) then (bif decide (0 ≤ y4_3) then (bif decide (y4_3 < (y4_0.length : Int)) then (bif decide (0 ≤ y4_3) then (bif decide (y4_3 < (y4_1.length : Int)) then (bif (!(((y4_0.getD (Int.toNat y4_3) (0, (0, 0))).1 == (y4_1.getD (Int.toNat y4_3) (0, (0, 0))).1) && (((y4_0.getD (Int.toNat y4_3) (0, (0, 0))).2.1 == (y4_1.getD (Int.toNat y4_3) (0, (0, 0))).2.1) && (((y4_0.getD (Int.toNat y4_3) (0, (0, 0))).2.2 == (y4_1.getD (Int.toNat y4_3) (0, (0, 0))).2.2) && true)))) then kret false else slices_Equal_impl_Choice_l4 n y4_0 y4_1 y4_2 (IntKind.wrap .i64 (y4_3 + 1)) kret kexit0) else none) else none) else none) else none) else kexit0)) (fun r0 => kk .ret (PkS.pack Tslices_Equal_impl_Choice_l4_0 (r0, ()))) (kk (.exit 0) (PkS.pack Tslices_Equal_impl_Choice_l4_1 ())) := by kernel_rfl
theorem leslices_Equal_impl_Choice_l4 : LoopEq tt sig (fun n => mkK []) (fun n => mkL (mkK []) []) Dslices_Equal_impl_Choice_l4 Sslices_Equal_impl_Choice_l4 (loopIn 4 (bodyOf Try.f62)) (Pslices_Equal_impl_Choice_l4 @slices_Equal_impl_Choice_l4) where
  zero R q kk := by unfold Pslices_Equal_impl_Choice_l4; cases (PkS.un Sslices_Equal_impl_Choice_l4 q) <;> rfl
  succ n R q kk := by
    unfold Pslices_Equal_impl_Choice_l4
    cases h : (PkS.un Sslices_Equal_impl_Choice_l4 q) with
    | none => rfl
    | some d =>
      obtain ⟨y4_0, y4_1, y4_2, y4_3, u⟩ := (d : (List (Int × Int × Int)) × (List (Int × Int × Int)) × Int × Int × Unit)
      have hp := PkS.un_pack h
      subst hp
      exact (eslices_Equal_impl_Choice_l4 @slices_Equal_impl_Choice_l4 n y4_0 y4_1 y4_2 y4_3 kk).symm
theorem nlslices_Equal_impl_Choice_l4 : ∀ n, NatLP (Pslices_Equal_impl_Choice_l4 @slices_Equal_impl_Choice_l4 n) := leslices_Equal_impl_Choice_l4.nat (fun n => mkK_nat (cslices_Equal_impl_Choice n)) fun n => mkL_nat (mkK_nat (cslices_Equal_impl_Choice n)) (l := []) trivial
theorem inslices_Equal_impl_Choice_l4 (n : Nat) (R : Type) : LoopsOk Try.prog (mkL (mkK []) [] R) (loopIn 4 (bodyOf Try.f62)) := .eq (l := []) (by kernel_rfl) trivial
theorem lkslices_Equal_impl_Choice_l4 (n : Nat) (R : Type) (L0 : LK R) (h0 : ∀ id, firstRegion (loopIn 4 (bodyOf Try.f62)) = some id → L0 id = Dslices_Equal_impl_Choice_l4.oracle (mkK [] R) (Pslices_Equal_impl_Choice_l4 @slices_Equal_impl_Choice_l4 n R)) : LoopOk Try.prog L0 (loopIn 4 (bodyOf Try.f62)) :=
  leslices_Equal_impl_Choice_l4.ok mixed ttok (fun n => mkK_nat (cslices_Equal_impl_Choice n)) (fun n => mkK_ok (cslices_Equal_impl_Choice n)) (fun n => inslices_Equal_impl_Choice_l4 n R) (mkK_nat (cslices_Equal_impl_Choice n)) h0
@[reducible] def Sslices_Equal_impl_Choice : PkS := ⟨[.one (.ro (.pr (.int .i64) (.pr (.int .i64) (.int .i64)))), .one (.ro (.pr (.int .i64) (.pr (.int .i64) (.int .i64))))], []⟩
@[reducible] def Tslices_Equal_impl_Choice : PkS := ⟨[.one (.bool), .one (.dead), .one (.dead)], []⟩
def Hslices_Equal_impl_Choice : List Sh := [.one .any, .skip, .skip]
def Kslices_Equal_impl_Choice (g : ∀ {R : Type}, Nat → (List (Int × Int × Int)) → (List (Int × Int × Int)) → (Bool → Option R) → Option R) (n : Nat) : KPs := fun R p k => match (PkS.un Sslices_Equal_impl_Choice p : Option ((List (Int × Int × Int)) × (List (Int × Int × Int)) × Unit)) with
  | some (x0, x1, _) => g n x0 x1 (fun r0 => k (PkS.pack Tslices_Equal_impl_Choice (r0, ())))
  | none => none
theorem eslices_Equal_impl_Choice (slices_Equal_impl_Choice_l4 : ∀ {R : Type}, Nat → (List (Int × Int × Int)) → (List (Int × Int × Int)) → Int → Int → (Bool → Option R) → (Option R) → Option R) {R : Type} (n : Nat) (x0 : List (Int × Int × Int)) (x1 : List (Int × Int × Int)) (k : Pk → Option R) : evF tt sig (mkK [] R) (mkL (mkK []) [(4, Dslices_Equal_impl_Choice_l4, Pslices_Equal_impl_Choice_l4 @slices_Equal_impl_Choice_l4 n)] R) Try.f62 Hslices_Equal_impl_Choice (PkS.pack Sslices_Equal_impl_Choice (x0, x1, ())) k = (fun (k : Bool → Option R) => (bif ((x0.length : Int) != (x1.length : Int)) then k false else (slices_Equal_impl_Choice_l4 n x0 x1 (x0.length : Int) 0 (fun r1 => k r1) (k true)))) (fun r0 => k (PkS.pack Tslices_Equal_impl_Choice (r0, ()))) := by kernel_rfl
theorem okslices_Equal_impl_Choice (n : Nat) : FnOk Try.prog 62 (Kslices_Equal_impl_Choice @slices_Equal_impl_Choice n) := by
  refine fn_ok (sig := sig) mixed ttok (mkK_nat (cslices_Equal_impl_Choice n)) (mkK_ok (cslices_Equal_impl_Choice n)) (mkL_nat (mkK_nat (cslices_Equal_impl_Choice n)) (l := [(4, Dslices_Equal_impl_Choice_l4, Pslices_Equal_impl_Choice_l4 @slices_Equal_impl_Choice_l4 n)]) ⟨nlslices_Equal_impl_Choice_l4 n, trivial⟩) (fn := Try.f62) (c := bodyOf Try.f62) (by kernel_rfl) (by kernel_rfl) (by kernel_rfl) (.eq (l := [.lo (loopIn 4 (bodyOf Try.f62))]) (by kernel_rfl) ⟨(lkslices_Equal_impl_Choice_l4 n _ _ (at_id (i := 4) (by kernel_rfl) rfl)), trivial⟩) (shs := Hslices_Equal_impl_Choice) (S := Sslices_Equal_impl_Choice) (h1 := by kernel_rfl) fun R p k => ?_
  unfold Kslices_Equal_impl_Choice
  cases h : (PkS.un Sslices_Equal_impl_Choice p) with
  | none => rfl
  | some d =>
    obtain ⟨x0, x1, u⟩ := (d : (List (Int × Int × Int)) × (List (Int × Int × Int)) × Unit)
    have hp := PkS.un_pack h
    subst hp
    exact (eslices_Equal_impl_Choice @slices_Equal_impl_Choice_l4 n x0 x1 k).symm

/-! ### loop.example/g00269/impl.truthOf -/
theorem cimpl_truthOf (n : Nat) : AllOk Try.prog [(45, Kimpl_in @impl_in n), (61, Kimpl_varTruth @impl_varTruth n), (60, Kimpl_truthOf_c1 @impl_truthOf_c1 n), (49, Kimpl_diagramOf @impl_diagramOf n), (62, Kslices_Equal_impl_Choice @slices_Equal_impl_Choice n)] := ⟨okimpl_in n, ⟨okimpl_varTruth n, ⟨okimpl_truthOf_c1 n, ⟨okimpl_diagramOf n, ⟨okslices_Equal_impl_Choice n, trivial⟩⟩⟩⟩⟩
@[reducible] def Simpl_truthOf_l6 : PkS := ⟨[.one (.box (100000, 0) 0), .one (.box (100000, 2) 0), .one (.fn 60 [((100000, 2), 0)]), .one (.ro (.pr (.int .i64) (.pr (.int .i64) (.int .i64)))), .one (.int .i64), .one (.int .i64), .one (.dead)], [((100000, 0), .box [.ro (.pr (.int .i64) (.pr (.int .i64) (.int .i64))), .int .i64]), ((100000, 1), .arr (.int .u64)), ((100000, 2), .box [.whole (100000, 1)])]⟩
@[reducible] def Timpl_truthOf_l6_0 : PkS := ⟨[.one (.int .u64), .one (.bool), .one (.dead)], []⟩
@[reducible] def Timpl_truthOf_l6_1 : PkS := ⟨[.one (.box (100000, 0) 0), .one (.fn 60 [((100000, 2), 0)]), .one (.dead)], [((100000, 0), .box [.ro (.pr (.int .i64) (.pr (.int .i64) (.int .i64))), .int .i64]), ((100000, 1), .arr (.int .u64)), ((100000, 2), .box [.whole (100000, 1)])]⟩
def Dimpl_truthOf_l6 : LoopD := ⟨101, [1, 4, 5, 29, 30, 31], [.box [(.ro (.pr (.int .i64) (.pr (.int .i64) (.int .i64)))), .any], .box [(.own (.int .u64))], .fn 60 [[(.own (.int .u64))]], .one (.ro (.pr (.int .i64) (.pr (.int .i64) (.int .i64)))), .one .any, .one .any, .skip], fun x => match x with
  | .ret => some ([2, 3], [.one .any, .one .any, .skip])
  | .exit 0 => some ([1, 5], [.box [(.ro (.pr (.int .i64) (.pr (.int .i64) (.int .i64)))), .any], .fn 60 [[(.own (.int .u64))]], .skip])
  | _ => none⟩
def Pimpl_truthOf_l6 (g : ∀ {R : Type}, Nat → (List (Int × Int × Int)) → Int → Int → (List (Int × Int × Int)) → Int → (List Int) → (Int → Bool → Option R) → ((List (Int × Int × Int)) → Int → (List Int) → Option R) → Option R) (n : Nat) : LPs := fun R q kk => match (PkS.un Simpl_truthOf_l6 q : Option ((List (Int × Int × Int)) × Int × Int × (List (Int × Int × Int)) × Int × (List Int) × Unit)) with
  | some (y6_0, y6_1, y6_2, y6_3, y6_4, y6_5, _) => g n y6_0 y6_1 y6_2 y6_3 y6_4 y6_5 (fun r0 r1 => kk .ret (PkS.pack Timpl_truthOf_l6_0 (r0, r1, ()))) (fun r0 r1 r2 => kk (.exit 0) (PkS.pack Timpl_truthOf_l6_1 (r0, r1, r2, ())))
  | none => none
theorem eimpl_truthOf_l6 (impl_in : ∀ {R : Type}, Nat → Int → Int → Int → (Bool → Option R) → Option R) (impl_varTruth : ∀ {R : Type}, Nat → Int → (Int → Option R) → Option R) (impl_truthOf_c1 : ∀ {R : Type}, Nat → Int → (List Int) → (Int → Option R) → Option R) (impl_diagramOf : ∀ {R : Type}, Nat → Int → (Int → Bool → (List (Int × Int × Int)) → Option R) → Option R) (slices_Equal_impl_Choice : ∀ {R : Type}, Nat → (List (Int × Int × Int)) → (List (Int × Int × Int)) → (Bool → Option R) → Option R) (impl_truthOf_l6 : ∀ {R : Type}, Nat → (List (Int × Int × Int)) → Int → Int → (List (Int × Int × Int)) → Int → (List Int) → (Int → Bool → Option R) → ((List (Int × Int × Int)) → Int → (List Int) → Option R) → Option R) {R : Type} (n : Nat) (y6_0 : List (Int × Int × Int)) (y6_1 : Int) (y6_2 : Int) (y6_3 : List (Int × Int × Int)) (y6_4 : Int) (y6_5 : List Int) (kk : Ex → Pk → Option R) : Dimpl_truthOf_l6.step tt sig (mkK [(45, Kimpl_in @impl_in n), (61, Kimpl_varTruth @impl_varTruth n), (60, Kimpl_truthOf_c1 @impl_truthOf_c1 n), (49, Kimpl_diagramOf @impl_diagramOf n), (62, Kslices_Equal_impl_Choice @slices_Equal_impl_Choice n)] R) (mkL (mkK [(45, Kimpl_in @impl_in n), (61, Kimpl_varTruth @impl_varTruth n), (60, Kimpl_truthOf_c1 @impl_truthOf_c1 n), (49, Kimpl_diagramOf @impl_diagramOf n), (62, Kslices_Equal_impl_Choice @slices_Equal_impl_Choice n)]) [] R) (loopIn 6 (bodyOf Try.f42)) (fun q' => Pimpl_truthOf_l6 @impl_truthOf_l6 n R q' kk) (PkS.pack Simpl_truthOf_l6 (y6_0, y6_1, y6_2, y6_3, y6_4, y6_5, ())) kk = (fun (kret : Int → Bool → Option R) (kexit0 : (List (Int × Int × Int)) → Int → (List Int) → Option R) => (bif (decide (y6_2 < y6_1)) then (bif decide (0 ≤ y6_2) then (bif decide (y6_2 < (y6_0.length : Int)) then (impl_in n ((y6_0.getD (Int.toNat y6_2) (0, (0, 0))).1) 0 5 fun r2 => (bif (!r2) then kret 0 false else (impl_in n ((y6_0.getD (Int.toNat y6_2) (0, (0, 0))).2.1) (-2) (IntKind.wrap .i64 (y6_2 - 1)) fun r3 => (bif (!r3) then kret 0 false else (impl_in n ((y6_0.getD (Int.toNat y6_2) (0, (0, 0))).2.2) (-2) (IntKind.wrap .i64 (y6_2 - 1)) fun r4 => (bif (!r4) then kret 0 false else (impl_varTruth n ((y6_0.getD (Int.toNat y6_2) (0, (0, 0))).1) fun r5 => (impl_truthOf_c1 n ((y6_0.getD (Int.toNat y6_2) (0, (0, 0))).2.1) y6_5 fun r6 => (impl_truthOf_c1 n ((y6_0.getD (Int.toNat y6_2) (0, (0, 0))).2.2) y6_5 fun r7 => (bif decide (y6_5.length + ([(IntKind.wrap .u64 (Int.ofNat (BitVec.toNat (BitVec.ofInt (IntKind.bits .u64) (IntKind.wrap .u64 (Int.ofNat (BitVec.toNat (BitVec.ofInt (IntKind.bits .u64) r6 &&& ~~~ BitVec.ofInt (IntKind.bits .u64) r5)))) ||| BitVec.ofInt (IntKind.bits .u64) (IntKind.wrap .u64 (Int.ofNat (BitVec.toNat (BitVec.ofInt (IntKind.bits .u64) r7 &&& BitVec.ofInt (IntKind.bits .u64) r5))))))))]).length ≤ LIM) then impl_truthOf_l6 n y6_0 y6_1 (IntKind.wrap .i64 (y6_2 + 1)) y6_3 y6_4 (y6_5 ++ [(IntKind.wrap .u64 (Int.ofNat (BitVec.toNat (BitVec.ofInt (IntKind.bits .u64) (IntKind.wrap .u64 (Int.ofNat (BitVec.toNat (BitVec.ofInt (IntKind.bits .u64) r6 &&& ~~~ BitVec.ofInt (IntKind.bits .u64) r5)))) ||| BitVec.ofInt (IntKind.bits .u64) (IntKind.wrap .u64 (Int.ofNat (BitVec.toNat (BitVec.ofInt (IntKind.bits .u64) r7 &&& BitVec.ofInt (IntKind.bits .u64) r5))))))))]) kret kexit0 else none)))))))))) else none) else none) else kexit0 y6_3 y6_4 y6_5)) (fun r0 r1 => kk .ret (PkS.pack Timpl_truthOf_l6_0 (r0, r1, ()))) (fun r0 r1 r2 => kk (.exit 0) (PkS.pack Timpl_truthOf_l6_1 (r0, r1, r2, ()))) := by kernel_rfl
theorem leimpl_truthOf_l6 : LoopEq tt sig (fun n => mkK [(45, Kimpl_in @impl_in n), (61, Kimpl_varTruth @impl_varTruth n), (60, Kimpl_truthOf_c1 @impl_truthOf_c1 n), (49, Kimpl_diagramOf @impl_diagramOf n), (62, Kslices_Equal_impl_Choice @slices_Equal_impl_Choice n)]) (fun n => mkL (mkK [(45, Kimpl_in @impl_in n), (61, Kimpl_varTruth @impl_varTruth n), (60, Kimpl_truthOf_c1 @impl_truthOf_c1 n), (49, Kimpl_diagramOf @impl_diagramOf n), (62, Kslices_Equal_impl_Choice @slices_Equal_impl_Choice n)]) []) Dimpl_truthOf_l6 Simpl_truthOf_l6 (loopIn 6 (bodyOf Try.f42)) (Pimpl_truthOf_l6 @impl_truthOf_l6) where
  zero R q kk := by unfold Pimpl_truthOf_l6; cases (PkS.un Simpl_truthOf_l6 q) <;> rfl
  succ n R q kk := by
    unfold Pimpl_truthOf_l6
    cases h : (PkS.un Simpl_truthOf_l6 q) with
    | none => rfl
    | some d =>
      obtain ⟨y6_0, y6_1, y6_2, y6_3, y6_4, y6_5, u⟩ := (d : (List (Int × Int × Int)) × Int × Int × (List (Int × Int × Int)) × Int × (List Int) × Unit)
      have hp := PkS.un_pack h
      subst hp
      exact (eimpl_truthOf_l6 @impl_in @impl_varTruth @impl_truthOf_c1 @impl_diagramOf @slices_Equal_impl_Choice @impl_truthOf_l6 n y6_0 y6_1 y6_2 y6_3 y6_4 y6_5 kk).symm
theorem nlimpl_truthOf_l6 : ∀ n, NatLP (Pimpl_truthOf_l6 @impl_truthOf_l6 n) := leimpl_truthOf_l6.nat (fun n => mkK_nat (cimpl_truthOf n)) fun n => mkL_nat (mkK_nat (cimpl_truthOf n)) (l := []) trivial
theorem inimpl_truthOf_l6 (n : Nat) (R : Type) : LoopsOk Try.prog (mkL (mkK [(45, Kimpl_in @impl_in n), (61, Kimpl_varTruth @impl_varTruth n), (60, Kimpl_truthOf_c1 @impl_truthOf_c1 n), (49, Kimpl_diagramOf @impl_diagramOf n), (62, Kslices_Equal_impl_Choice @slices_Equal_impl_Choice n)]) [] R) (loopIn 6 (bodyOf Try.f42)) := .eq (l := []) (by kernel_rfl) trivial
theorem lkimpl_truthOf_l6 (n : Nat) (R : Type) (L0 : LK R) (h0 : ∀ id, firstRegion (loopIn 6 (bodyOf Try.f42)) = some id → L0 id = Dimpl_truthOf_l6.oracle (mkK [(45, Kimpl_in @impl_in n), (61, Kimpl_varTruth @impl_varTruth n), (60, Kimpl_truthOf_c1 @impl_truthOf_c1 n), (49, Kimpl_diagramOf @impl_diagramOf n), (62, Kslices_Equal_impl_Choice @slices_Equal_impl_Choice n)] R) (Pimpl_truthOf_l6 @impl_truthOf_l6 n R)) : LoopOk Try.prog L0 (loopIn 6 (bodyOf Try.f42)) :=
  leimpl_truthOf_l6.ok mixed ttok (fun n => mkK_nat (cimpl_truthOf n)) (fun n => mkK_ok (cimpl_truthOf n)) (fun n => inimpl_truthOf_l6 n R) (mkK_nat (cimpl_truthOf n)) h0
@[reducible] def Simpl_truthOf : PkS := ⟨[.agg [.ro (.pr (.int .i64) (.pr (.int .i64) (.int .i64))), .int .i64]], []⟩
@[reducible] def Timpl_truthOf : PkS := ⟨[.tup [(false, [.int .u64]), (false, [.bool])], .one (.dead)], []⟩
def Himpl_truthOf : List Sh := [.tup [(false, [.any]), (false, [.any])], .skip]
def Kimpl_truthOf (g : ∀ {R : Type}, Nat → (List (Int × Int × Int)) → Int → (Int → Bool → Option R) → Option R) (n : Nat) : KPs := fun R p k => match (PkS.un Simpl_truthOf p : Option ((List (Int × Int × Int)) × Int × Unit)) with
  | some (x0, x1, _) => g n x0 x1 (fun r0 r1 => k (PkS.pack Timpl_truthOf (r0, r1, ())))
  | none => none
theorem eimpl_truthOf (impl_in : ∀ {R : Type}, Nat → Int → Int → Int → (Bool → Option R) → Option R) (impl_varTruth : ∀ {R : Type}, Nat → Int → (Int → Option R) → Option R) (impl_truthOf_c1 : ∀ {R : Type}, Nat → Int → (List Int) → (Int → Option R) → Option R) (impl_diagramOf : ∀ {R : Type}, Nat → Int → (Int → Bool → (List (Int × Int × Int)) → Option R) → Option R) (slices_Equal_impl_Choice : ∀ {R : Type}, Nat → (List (Int × Int × Int)) → (List (Int × Int × Int)) → (Bool → Option R) → Option R) (impl_truthOf_l6 : ∀ {R : Type}, Nat → (List (Int × Int × Int)) → Int → Int → (List (Int × Int × Int)) → Int → (List Int) → (Int → Bool → Option R) → ((List (Int × Int × Int)) → Int → (List Int) → Option R) → Option R) {R : Type} (n : Nat) (x0 : List (Int × Int × Int)) (x1 : Int) (k : Pk → Option R) : evF tt sig (mkK [(45, Kimpl_in @impl_in n), (61, Kimpl_varTruth @impl_varTruth n), (60, Kimpl_truthOf_c1 @impl_truthOf_c1 n), (49, Kimpl_diagramOf @impl_diagramOf n), (62, Kslices_Equal_impl_Choice @slices_Equal_impl_Choice n)] R) (mkL (mkK [(45, Kimpl_in @impl_in n), (61, Kimpl_varTruth @impl_varTruth n), (60, Kimpl_truthOf_c1 @impl_truthOf_c1 n), (49, Kimpl_diagramOf @impl_diagramOf n), (62, Kslices_Equal_impl_Choice @slices_Equal_impl_Choice n)]) [(6, Dimpl_truthOf_l6, Pimpl_truthOf_l6 @impl_truthOf_l6 n)] R) Try.f42 Himpl_truthOf (PkS.pack Simpl_truthOf (x0, x1, ())) k = (fun (k : Int → Bool → Option R) => (bif (decide ((x0.length : Int) > 70)) then k 0 false else (impl_in n x1 (-2) (IntKind.wrap .i64 ((x0.length : Int) - 1)) fun r1 => (bif (!r1) then k 0 false else (impl_truthOf_l6 n x0 (x0.length : Int) 0 x0 x1 ([] : List Int) (fun r8 r9 => k r8 r9) (fun r10 r11 r12 => (impl_truthOf_c1 n r11 r12 fun r13 => (impl_diagramOf n r13 fun r14 r15 r16 => (bif r15 then (bif (r14 == r11) then (slices_Equal_impl_Choice n r16 r10 fun r17 => k r13 r17) else k r13 false) else k r13 false))))))))) (fun r0 r1 => k (PkS.pack Timpl_truthOf (r0, r1, ()))) := by kernel_rfl
theorem okimpl_truthOf (n : Nat) : FnOk Try.prog 42 (Kimpl_truthOf @impl_truthOf n) := by
  refine fn_ok (sig := sig) mixed ttok (mkK_nat (cimpl_truthOf n)) (mkK_ok (cimpl_truthOf n)) (mkL_nat (mkK_nat (cimpl_truthOf n)) (l := [(6, Dimpl_truthOf_l6, Pimpl_truthOf_l6 @impl_truthOf_l6 n)]) ⟨nlimpl_truthOf_l6 n, trivial⟩) (fn := Try.f42) (c := bodyOf Try.f42) (by kernel_rfl) (by kernel_rfl) (by kernel_rfl) (.eq (l := [.lo (loopIn 6 (bodyOf Try.f42))]) (by kernel_rfl) ⟨(lkimpl_truthOf_l6 n _ _ (at_id (i := 6) (by kernel_rfl) rfl)), trivial⟩) (shs := Himpl_truthOf) (S := Simpl_truthOf) (h1 := by kernel_rfl) fun R p k => ?_
  unfold Kimpl_truthOf
  cases h : (PkS.un Simpl_truthOf p) with
  | none => rfl
  | some d =>
    obtain ⟨x0, x1, u⟩ := (d : (List (Int × Int × Int)) × Int × Unit)
    have hp := PkS.un_pack h
    subst hp
    exact (eimpl_truthOf @impl_in @impl_varTruth @impl_truthOf_c1 @impl_diagramOf @slices_Equal_impl_Choice @impl_truthOf_l6 n x0 x1 k).symm

/-! ### loop.example/g00269/impl.BothOf -/
theorem cimpl_BothOf (n : Nat) : AllOk Try.prog [(42, Kimpl_truthOf @impl_truthOf n), (49, Kimpl_diagramOf @impl_diagramOf n)] := ⟨okimpl_truthOf n, ⟨okimpl_diagramOf n, trivial⟩⟩
@[reducible] def Simpl_BothOf : PkS := ⟨[.agg [.ro (.pr (.int .i64) (.pr (.int .i64) (.int .i64))), .int .i64], .agg [.ro (.pr (.int .i64) (.pr (.int .i64) (.int .i64))), .int .i64]], []⟩
@[reducible] def Timpl_BothOf : PkS := ⟨[.tup [(true, [.whole (300000, 0), .int .i64]), (false, [.bool])], .one (.dead), .one (.dead)], [((300000, 0), .arr (.pr (.int .i64) (.pr (.int .i64) (.int .i64))))]⟩
def Himpl_BothOf : List Sh := [.tup [(true, [(.own (.pr (.int .i64) (.pr (.int .i64) (.int .i64)))), .any]), (false, [.any])], .skip, .skip]
def Kimpl_BothOf (g : ∀ {R : Type}, Nat → (List (Int × Int × Int)) → Int → (List (Int × Int × Int)) → Int → (Int → Bool → (List (Int × Int × Int)) → Option R) → Option R) (n : Nat) : KPs := fun R p k => match (PkS.un Simpl_BothOf p : Option ((List (Int × Int × Int)) × Int × (List (Int × Int × Int)) × Int × Unit)) with
  | some (x0, x1, x2, x3, _) => g n x0 x1 x2 x3 (fun r0 r1 r2 => k (PkS.pack Timpl_BothOf (r0, r1, r2, ())))
  | none => none
theorem eimpl_BothOf (impl_truthOf : ∀ {R : Type}, Nat → (List (Int × Int × Int)) → Int → (Int → Bool → Option R) → Option R) (impl_diagramOf : ∀ {R : Type}, Nat → Int → (Int → Bool → (List (Int × Int × Int)) → Option R) → Option R) {R : Type} (n : Nat) (x0 : List (Int × Int × Int)) (x1 : Int) (x2 : List (Int × Int × Int)) (x3 : Int) (k : Pk → Option R) : evF tt sig (mkK [(42, Kimpl_truthOf @impl_truthOf n), (49, Kimpl_diagramOf @impl_diagramOf n)] R) (mkL (mkK [(42, Kimpl_truthOf @impl_truthOf n), (49, Kimpl_diagramOf @impl_diagramOf n)]) [] R) Try.f30 Himpl_BothOf (PkS.pack Simpl_BothOf (x0, x1, x2, x3, ())) k = (fun (k : Int → Bool → (List (Int × Int × Int)) → Option R) => (impl_truthOf n x0 x1 fun r1 r2 => (impl_truthOf n x2 x3 fun r3 r4 => (bif (!r2) then k 0 false ([] : List (Int × Int × Int)) else (bif (!r4) then k 0 false ([] : List (Int × Int × Int)) else (impl_diagramOf n (IntKind.wrap .u64 (Int.ofNat (BitVec.toNat (BitVec.ofInt (IntKind.bits .u64) r1 &&& BitVec.ofInt (IntKind.bits .u64) r3)))) fun r5 r6 r7 => k r5 r6 r7)))))) (fun r0 r1 r2 => k (PkS.pack Timpl_BothOf (r0, r1, r2, ()))) := by kernel_rfl
theorem okimpl_BothOf (n : Nat) : FnOk Try.prog 30 (Kimpl_BothOf @impl_BothOf n) := by
  refine fn_ok (sig := sig) mixed ttok (mkK_nat (cimpl_BothOf n)) (mkK_ok (cimpl_BothOf n)) (mkL_nat (mkK_nat (cimpl_BothOf n)) (l := []) trivial) (fn := Try.f30) (c := bodyOf Try.f30) (by kernel_rfl) (by kernel_rfl) (by kernel_rfl) (.eq (l := []) (by kernel_rfl) trivial) (shs := Himpl_BothOf) (S := Simpl_BothOf) (h1 := by kernel_rfl) fun R p k => ?_
  unfold Kimpl_BothOf
  cases h : (PkS.un Simpl_BothOf p) with
  | none => rfl
  | some d =>
    obtain ⟨x0, x1, x2, x3, u⟩ := (d : (List (Int × Int × Int)) × Int × (List (Int × Int × Int)) × Int × Unit)
    have hp := PkS.un_pack h
    subst hp
    exact (eimpl_BothOf @impl_truthOf @impl_diagramOf n x0 x1 x2 x3 k).symm

/-! ### loop.example/g00269/spec.l1In -/
theorem cspec_l1In (n : Nat) : AllOk Try.prog [] := trivial
@[reducible] def Sspec_l1In : PkS := ⟨[.one (.int .i64), .one (.int .i64), .one (.int .i64)], []⟩
@[reducible] def Tspec_l1In : PkS := ⟨[.one (.bool), .one (.dead), .one (.dead), .one (.dead)], []⟩
def Hspec_l1In : List Sh := [.one .any, .skip, .skip, .skip]
def Kspec_l1In (g : ∀ {R : Type}, Nat → Int → Int → Int → (Bool → Option R) → Option R) (n : Nat) : KPs := fun R p k => match (PkS.un Sspec_l1In p : Option (Int × Int × Int × Unit)) with
  | some (x0, x1, x2, _) => g n x0 x1 x2 (fun r0 => k (PkS.pack Tspec_l1In (r0, ())))
  | none => none
theorem espec_l1In  {R : Type} (n : Nat) (x0 : Int) (x1 : Int) (x2 : Int) (k : Pk → Option R) : evF tt sig (mkK [] R) (mkL (mkK []) [] R) Try.f44 Hspec_l1In (PkS.pack Sspec_l1In (x0, x1, x2, ())) k = (fun (k : Bool → Option R) => (bif (decide (x0 ≥ x1)) then k (decide (x0 ≤ x2)) else k false)) (fun r0 => k (PkS.pack Tspec_l1In (r0, ()))) := by kernel_rfl
theorem okspec_l1In (n : Nat) : FnOk Try.prog 44 (Kspec_l1In @spec_l1In n) := by
  refine fn_ok (sig := sig) mixed ttok (mkK_nat (cspec_l1In n)) (mkK_ok (cspec_l1In n)) (mkL_nat (mkK_nat (cspec_l1In n)) (l := []) trivial) (fn := Try.f44) (c := bodyOf Try.f44) (by kernel_rfl) (by kernel_rfl) (by kernel_rfl) (.eq (l := []) (by kernel_rfl) trivial) (shs := Hspec_l1In) (S := Sspec_l1In) (h1 := by kernel_rfl) fun R p k => ?_
  unfold Kspec_l1In
  cases h : (PkS.un Sspec_l1In p) with
  | none => rfl
  | some d =>
    obtain ⟨x0, x1, x2, u⟩ := (d : Int × Int × Int × Unit)
    have hp := PkS.un_pack h
    subst hp
    exact (espec_l1In  n x0 x1 x2 k).symm

/-! ### loop.example/g00269/spec.l7Of -/
theorem cspec_l7Of (n : Nat) : AllOk Try.prog [(44, Kspec_l1In @spec_l1In n), (68, Kspec_l7Var @spec_l7Var n)] := ⟨okspec_l1In n, ⟨okspec_l7Var n, trivial⟩⟩
@[reducible] def Sspec_l7Of_l11 : PkS := ⟨[.one (.box (100000, 0) 0), .one (.whole (100000, 1)), .one (.box (100000, 2) 0), .one (.int .u64), .one (.ro (.pr (.int .i64) (.pr (.int .i64) (.int .i64)))), .one (.int .i64), .one (.int .i64), .one (.whole (100000, 3)), .one (.int .i64), .one (.int .i64), .one (.dead)], [((100000, 0), .box [.ro (.pr (.int .i64) (.pr (.int .i64) (.int .i64))), .int .i64]), ((100000, 1), .arr (.int .u64)), ((100000, 2), .box [.int .i64, .int .i64, .int .i64]), ((100000, 3), .arr .bool)]⟩
@[reducible] def Tspec_l7Of_l11_0 : PkS := ⟨[.one (.int .u64), .one (.bool), .one (.dead)], []⟩
@[reducible] def Tspec_l7Of_l11_1 : PkS := ⟨[.one (.box (100000, 0) 0), .one (.whole (100000, 1)), .one (.int .u64), .one (.ro (.pr (.int .i64) (.pr (.int .i64) (.int .i64)))), .one (.int .i64), .one (.int .i64), .one (.dead)], [((100000, 0), .box [.ro (.pr (.int .i64) (.pr (.int .i64) (.int .i64))), .int .i64]), ((100000, 1), .arr (.int .u64))]⟩
def Dspec_l7Of_l11 : LoopD := ⟨127, [1, 4, 6, 7, 17, 18, 19, 51, 52, 53], [.box [(.ro (.pr (.int .i64) (.pr (.int .i64) (.int .i64)))), .any], .one (.own (.int .u64)), .box [.any, .any, .any], .one .any, .one (.ro (.pr (.int .i64) (.pr (.int .i64) (.int .i64)))), .one .any, .one .any, .one (.own .bool), .one .any, .one .any, .skip], fun x => match x with
  | .ret => some ([2, 3], [.one .any, .one .any, .skip])
  | .exit 2 => some ([1, 4, 7, 17, 18, 19], [.box [(.ro (.pr (.int .i64) (.pr (.int .i64) (.int .i64)))), .any], .one (.own (.int .u64)), .one .any, .one (.ro (.pr (.int .i64) (.pr (.int .i64) (.int .i64)))), .one .any, .one .any, .skip])
  | _ => none⟩
def Pspec_l7Of_l11 (g : ∀ {R : Type}, Nat → Int → (List (Int × Int × Int)) → Int → Int → Int → Int → (List (Int × Int × Int)) → Int → (List Int) → Int → Int → Int → (List Bool) → (Int → Bool → Option R) → (Int → (List (Int × Int × Int)) → Int → Int → (List (Int × Int × Int)) → Int → (List Int) → Option R) → Option R) (n : Nat) : LPs := fun R q kk => match (PkS.un Sspec_l7Of_l11 q : Option (Int × (List (Int × Int × Int)) × Int × Int × Int × Int × (List (Int × Int × Int)) × Int × (List Int) × Int × Int × Int × (List Bool) × Unit)) with
  | some (y11_0, y11_1, y11_2, y11_3, y11_4, y11_5, y11_6, y11_7, y11_8, y11_9, y11_10, y11_11, y11_12, _) => g n y11_0 y11_1 y11_2 y11_3 y11_4 y11_5 y11_6 y11_7 y11_8 y11_9 y11_10 y11_11 y11_12 (fun r0 r1 => kk .ret (PkS.pack Tspec_l7Of_l11_0 (r0, r1, ()))) (fun r0 r1 r2 r3 r4 r5 r6 => kk (.exit 2) (PkS.pack Tspec_l7Of_l11_1 (r0, r1, r2, r3, r4, r5, r6, ())))
  | none => none
theorem espec_l7Of_l11 (spec_l1In : ∀ {R : Type}, Nat → Int → Int → Int → (Bool → Option R) → Option R) (spec_l7Var : ∀ {R : Type}, Nat → Int → (Int → Option R) → Option R) (spec_l7Of_l11 : ∀ {R : Type}, Nat → Int → (List (Int × Int × Int)) → Int → Int → Int → Int → (List (Int × Int × Int)) → Int → (List Int) → Int → Int → Int → (List Bool) → (Int → Bool → Option R) → (Int → (List (Int × Int × Int)) → Int → Int → (List (Int × Int × Int)) → Int → (List Int) → Option R) → Option R) {R : Type} (n : Nat) (y11_0 : Int) (y11_1 : List (Int × Int × Int)) (y11_2 : Int) (y11_3 : Int) (y11_4 : Int) (y11_5 : Int) (y11_6 : List (Int × Int × Int)) (y11_7 : Int) (y11_8 : List Int) (y11_9 : Int) (y11_10 : Int) (y11_11 : Int) (y11_12 : List Bool) (kk : Ex → Pk → Option R) : Dspec_l7Of_l11.step tt sig (mkK [(44, Kspec_l1In @spec_l1In n), (68, Kspec_l7Var @spec_l7Var n)] R) (mkL (mkK [(44, Kspec_l1In @spec_l1In n), (68, Kspec_l7Var @spec_l7Var n)]) [] R) (loopIn 11 (bodyOf Try.f58)) (fun q' => Pspec_l7Of_l11 @spec_l7Of_l11 n R q' kk) (PkS.pack Sspec_l7Of_l11 (y11_0, y11_1, y11_2, y11_3, y11_4, y11_5, y11_6, y11_7, y11_8, y11_9, y11_10, y11_11, y11_12, ())) kk = (fun (kret : Int → Bool → Option R) (kexit2 : Int → (List (Int × Int × Int)) → Int → Int → (List (Int × Int × Int)) → Int → (List Int) → Option R) => (bif (decide (y11_5 < y11_4)) then (bif decide (0 ≤ y11_5) then (bif decide (y11_5 < (y11_12.length : Int)) then (spec_l7Var n y11_9 fun r4 => (bif (y11_12.getD (Int.toNat y11_5) false) then (spec_l7Var n y11_9 fun r5 => (bif (y11_11 == (-1)) then spec_l7Of_l11 n (IntKind.wrap .u64 (Int.ofNat (BitVec.toNat (BitVec.ofInt (IntKind.bits .u64) y11_0 ||| BitVec.ofInt (IntKind.bits .u64) r5)))) y11_1 y11_2 y11_3 y11_4 (IntKind.wrap .i64 (y11_5 + 1)) y11_6 y11_7 y11_8 y11_9 y11_10 y11_11 y11_12 kret kexit2 else (bif (decide (y11_11 ≥ 0)) then (bif decide (0 ≤ y11_11) then (bif decide (y11_11 < (y11_6.length : Int)) then (bif (decide ((y11_6.getD (Int.toNat y11_11) (0, (0, 0))).1 ≤ y11_9)) then kret 0 false else (bif decide (0 ≤ y11_11) then (bif decide (y11_11 < (y11_8.length : Int)) then spec_l7Of_l11 n (IntKind.wrap .u64 (Int.ofNat (BitVec.toNat (BitVec.ofInt (IntKind.bits .u64) y11_0 ||| BitVec.ofInt (IntKind.bits .u64) (IntKind.wrap .u64 (Int.ofNat (BitVec.toNat (BitVec.ofInt (IntKind.bits .u64) r5 &&& BitVec.ofInt (IntKind.bits .u64) (y11_8.getD (Int.toNat y11_11) 0))))))))) y11_1 y11_2 y11_3 y11_4 (IntKind.wrap .i64 (y11_5 + 1)) y11_6 y11_7 y11_8 y11_9 y11_10 y11_11 y11_12 kret kexit2 else none) else none)) else none) else none) else spec_l7Of_l11 n y11_0 y11_1 y11_2 y11_3 y11_4 (IntKind.wrap .i64 (y11_5 + 1)) y11_6 y11_7 y11_8 y11_9 y11_10 y11_11 y11_12 kret kexit2))) else (bif (y11_10 == (-1)) then spec_l7Of_l11 n (IntKind.wrap .u64 (Int.ofNat (BitVec.toNat (BitVec.ofInt (IntKind.bits .u64) y11_0 ||| BitVec.ofInt (IntKind.bits .u64) (IntKind.wrap .u64 (BitVec.toNat (BitVec.ofInt (IntKind.bits .u64) (18446744073709551615) ^^^ BitVec.ofInt (IntKind.bits .u64) r4))))))) y11_1 y11_2 y11_3 y11_4 (IntKind.wrap .i64 (y11_5 + 1)) y11_6 y11_7 y11_8 y11_9 y11_10 y11_11 y11_12 kret kexit2 else (bif (decide (y11_10 ≥ 0)) then (bif decide (0 ≤ y11_10) then (bif decide (y11_10 < (y11_6.length : Int)) then (bif (decide ((y11_6.getD (Int.toNat y11_10) (0, (0, 0))).1 ≤ y11_9)) then kret 0 false else (bif decide (0 ≤ y11_10) then (bif decide (y11_10 < (y11_8.length : Int)) then spec_l7Of_l11 n (IntKind.wrap .u64 (Int.ofNat (BitVec.toNat (BitVec.ofInt (IntKind.bits .u64) y11_0 ||| BitVec.ofInt (IntKind.bits .u64) (IntKind.wrap .u64 (Int.ofNat (BitVec.toNat (BitVec.ofInt (IntKind.bits .u64) (IntKind.wrap .u64 (BitVec.toNat (BitVec.ofInt (IntKind.bits .u64) (18446744073709551615) ^^^ BitVec.ofInt (IntKind.bits .u64) r4))) &&& BitVec.ofInt (IntKind.bits .u64) (y11_8.getD (Int.toNat y11_10) 0))))))))) y11_1 y11_2 y11_3 y11_4 (IntKind.wrap .i64 (y11_5 + 1)) y11_6 y11_7 y11_8 y11_9 y11_10 y11_11 y11_12 kret kexit2 else none) else none)) else none) else none) else spec_l7Of_l11 n y11_0 y11_1 y11_2 y11_3 y11_4 (IntKind.wrap .i64 (y11_5 + 1)) y11_6 y11_7 y11_8 y11_9 y11_10 y11_11 y11_12 kret kexit2)))) else none) else none) else kexit2 y11_0 y11_1 y11_2 y11_3 y11_6 y11_7 y11_8)) (fun r0 r1 => kk .ret (PkS.pack Tspec_l7Of_l11_0 (r0, r1, ()))) (fun r0 r1 r2 r3 r4 r5 r6 => kk (.exit 2) (PkS.pack Tspec_l7Of_l11_1 (r0, r1, r2, r3, r4, r5, r6, ()))) := by kernel_rfl
theorem lespec_l7Of_l11 : LoopEq tt sig (fun n => mkK [(44, Kspec_l1In @spec_l1In n), (68, Kspec_l7Var @spec_l7Var n)]) (fun n => mkL (mkK [(44, Kspec_l1In @spec_l1In n), (68, Kspec_l7Var @spec_l7Var n)]) []) Dspec_l7Of_l11 Sspec_l7Of_l11 (loopIn 11 (bodyOf Try.f58)) (Pspec_l7Of_l11 @spec_l7Of_l11) where
  zero R q kk := by unfold Pspec_l7Of_l11; cases (PkS.un Sspec_l7Of_l11 q) <;> rfl
  succ n R q kk := by
    unfold Pspec_l7Of_l11
    cases h : (PkS.un Sspec_l7Of_l11 q) with
    | none => rfl
    | some d =>
      obtain ⟨y11_0, y11_1, y11_2, y11_3, y11_4, y11_5, y11_6, y11_7, y11_8, y11_9, y11_10, y11_11, y11_12, u⟩ := (d : Int × (List (Int × Int × Int)) × Int × Int × Int × Int × (List (Int × Int × Int)) × Int × (List Int) × Int × Int × Int × (List Bool) × Unit)
      have hp := PkS.un_pack h
      subst hp
      exact (espec_l7Of_l11 @spec_l1In @spec_l7Var @spec_l7Of_l11 n y11_0 y11_1 y11_2 y11_3 y11_4 y11_5 y11_6 y11_7 y11_8 y11_9 y11_10 y11_11 y11_12 kk).symm
theorem nlspec_l7Of_l11 : ∀ n, NatLP (Pspec_l7Of_l11 @spec_l7Of_l11 n) := lespec_l7Of_l11.nat (fun n => mkK_nat (cspec_l7Of n)) fun n => mkL_nat (mkK_nat (cspec_l7Of n)) (l := []) trivial
theorem inspec_l7Of_l11 (n : Nat) (R : Type) : LoopsOk Try.prog (mkL (mkK [(44, Kspec_l1In @spec_l1In n), (68, Kspec_l7Var @spec_l7Var n)]) [] R) (loopIn 11 (bodyOf Try.f58)) := .eq (l := []) (by kernel_rfl) trivial
theorem lkspec_l7Of_l11 (n : Nat) (R : Type) (L0 : LK R) (h0 : ∀ id, firstRegion (loopIn 11 (bodyOf Try.f58)) = some id → L0 id = Dspec_l7Of_l11.oracle (mkK [(44, Kspec_l1In @spec_l1In n), (68, Kspec_l7Var @spec_l7Var n)] R) (Pspec_l7Of_l11 @spec_l7Of_l11 n R)) : LoopOk Try.prog L0 (loopIn 11 (bodyOf Try.f58)) :=
  lespec_l7Of_l11.ok mixed ttok (fun n => mkK_nat (cspec_l7Of n)) (fun n => mkK_ok (cspec_l7Of n)) (fun n => inspec_l7Of_l11 n R) (mkK_nat (cspec_l7Of n)) h0
@[reducible] def Sspec_l7Of_l5 : PkS := ⟨[.one (.box (100000, 0) 0), .one (.whole (100000, 1)), .one (.ro (.pr (.int .i64) (.pr (.int .i64) (.int .i64)))), .one (.int .i64), .one (.int .i64), .one (.dead)], [((100000, 0), .box [.ro (.pr (.int .i64) (.pr (.int .i64) (.int .i64))), .int .i64]), ((100000, 1), .arr (.int .u64))]⟩
@[reducible] def Tspec_l7Of_l5_0 : PkS := ⟨[.one (.int .u64), .one (.bool), .one (.dead)], []⟩
@[reducible] def Tspec_l7Of_l5_1 : PkS := ⟨[.one (.box (100000, 0) 0), .one (.whole (100000, 1)), .one (.dead)], [((100000, 0), .box [.ro (.pr (.int .i64) (.pr (.int .i64) (.int .i64))), .int .i64]), ((100000, 1), .arr (.int .u64))]⟩
def Dspec_l7Of_l5 : LoopD := ⟨127, [1, 4, 17, 18, 19], [.box [(.ro (.pr (.int .i64) (.pr (.int .i64) (.int .i64)))), .any], .one (.own (.int .u64)), .one (.ro (.pr (.int .i64) (.pr (.int .i64) (.int .i64)))), .one .any, .one .any, .skip], fun x => match x with
  | .ret => some ([2, 3], [.one .any, .one .any, .skip])
  | .exit 0 => some ([1, 4], [.box [(.ro (.pr (.int .i64) (.pr (.int .i64) (.int .i64)))), .any], .one (.own (.int .u64)), .skip])
  | _ => none⟩
def Pspec_l7Of_l5 (g : ∀ {R : Type}, Nat → (List (Int × Int × Int)) → Int → Int → (List (Int × Int × Int)) → Int → (List Int) → (Int → Bool → Option R) → ((List (Int × Int × Int)) → Int → (List Int) → Option R) → Option R) (n : Nat) : LPs := fun R q kk => match (PkS.un Sspec_l7Of_l5 q : Option ((List (Int × Int × Int)) × Int × Int × (List (Int × Int × Int)) × Int × (List Int) × Unit)) with
  | some (y5_0, y5_1, y5_2, y5_3, y5_4, y5_5, _) => g n y5_0 y5_1 y5_2 y5_3 y5_4 y5_5 (fun r0 r1 => kk .ret (PkS.pack Tspec_l7Of_l5_0 (r0, r1, ()))) (fun r0 r1 r2 => kk (.exit 0) (PkS.pack Tspec_l7Of_l5_1 (r0, r1, r2, ())))
  | none => none
theorem espec_l7Of_l5 (spec_l1In : ∀ {R : Type}, Nat → Int → Int → Int → (Bool → Option R) → Option R) (spec_l7Var : ∀ {R : Type}, Nat → Int → (Int → Option R) → Option R) (spec_l7Of_l11 : ∀ {R : Type}, Nat → Int → (List (Int × Int × Int)) → Int → Int → Int → Int → (List (Int × Int × Int)) → Int → (List Int) → Int → Int → Int → (List Bool) → (Int → Bool → Option R) → (Int → (List (Int × Int × Int)) → Int → Int → (List (Int × Int × Int)) → Int → (List Int) → Option R) → Option R) (spec_l7Of_l5 : ∀ {R : Type}, Nat → (List (Int × Int × Int)) → Int → Int → (List (Int × Int × Int)) → Int → (List Int) → (Int → Bool → Option R) → ((List (Int × Int × Int)) → Int → (List Int) → Option R) → Option R) {R : Type} (n : Nat) (y5_0 : List (Int × Int × Int)) (y5_1 : Int) (y5_2 : Int) (y5_3 : List (Int × Int × Int)) (y5_4 : Int) (y5_5 : List Int) (kk : Ex → Pk → Option R) : Dspec_l7Of_l5.step tt sig (mkK [(44, Kspec_l1In @spec_l1In n), (68, Kspec_l7Var @spec_l7Var n)] R) (mkL (mkK [(44, Kspec_l1In @spec_l1In n), (68, Kspec_l7Var @spec_l7Var n)]) [(11, Dspec_l7Of_l11, Pspec_l7Of_l11 @spec_l7Of_l11 n)] R) (loopIn 5 (bodyOf Try.f58)) (fun q' => Pspec_l7Of_l5 @spec_l7Of_l5 n R q' kk) (PkS.pack Sspec_l7Of_l5 (y5_0, y5_1, y5_2, y5_3, y5_4, y5_5, ())) kk = (fun (kret : Int → Bool → Option R) (kexit0 : (List (Int × Int × Int)) → Int → (List Int) → Option R) => (bif (decide (y5_2 < y5_1)) then (bif decide (0 ≤ y5_2) then (bif decide (y5_2 < (y5_0.length : Int)) then (spec_l1In n ((y5_0.getD (Int.toNat y5_2) (0, (0, 0))).1) 0 5 fun r1 => (bif (!r1) then kret 0 false else (spec_l1In n ((y5_0.getD (Int.toNat y5_2) (0, (0, 0))).2.1) (-2) (IntKind.wrap .i64 (y5_2 - 1)) fun r2 => (bif (!r2) then kret 0 false else (spec_l1In n ((y5_0.getD (Int.toNat y5_2) (0, (0, 0))).2.2) (-2) (IntKind.wrap .i64 (y5_2 - 1)) fun r3 => (bif (!r3) then kret 0 false else (bif ((y5_0.getD (Int.toNat y5_2) (0, (0, 0))).2.1 == (y5_0.getD (Int.toNat y5_2) (0, (0, 0))).2.2) then kret 0 false else (spec_l7Of_l11 n 0 y5_0 y5_1 y5_2 (([false, true]).length : Int) 0 y5_3 y5_4 y5_5 ((y5_0.getD (Int.toNat y5_2) (0, (0, 0))).1) ((y5_0.getD (Int.toNat y5_2) (0, (0, 0))).2.1) ((y5_0.getD (Int.toNat y5_2) (0, (0, 0))).2.2) ([false, true]) (fun r6 r7 => kret r6 r7) (fun r8 r9 r10 r11 r12 r13 r14 => (bif decide (r14.length + [r8].length ≤ LIM) then spec_l7Of_l5 n r9 r10 (IntKind.wrap .i64 (r11 + 1)) r12 r13 (r14 ++ [r8]) kret kexit0 else none)))))))))) else none) else none) else kexit0 y5_3 y5_4 y5_5)) (fun r0 r1 => kk .ret (PkS.pack Tspec_l7Of_l5_0 (r0, r1, ()))) (fun r0 r1 r2 => kk (.exit 0) (PkS.pack Tspec_l7Of_l5_1 (r0, r1, r2, ()))) := by kernel_rfl
theorem lespec_l7Of_l5 : LoopEq tt sig (fun n => mkK [(44, Kspec_l1In @spec_l1In n), (68, Kspec_l7Var @spec_l7Var n)]) (fun n => mkL (mkK [(44, Kspec_l1In @spec_l1In n), (68, Kspec_l7Var @spec_l7Var n)]) [(11, Dspec_l7Of_l11, Pspec_l7Of_l11 @spec_l7Of_l11 n)]) Dspec_l7Of_l5 Sspec_l7Of_l5 (loopIn 5 (bodyOf Try.f58)) (Pspec_l7Of_l5 @spec_l7Of_l5) where
  zero R q kk := by unfold Pspec_l7Of_l5; cases (PkS.un Sspec_l7Of_l5 q) <;> rfl
  succ n R q kk := by
    unfold Pspec_l7Of_l5
    cases h : (PkS.un Sspec_l7Of_l5 q) with
    | none => rfl
    | some d =>
      obtain ⟨y5_0, y5_1, y5_2, y5_3, y5_4, y5_5, u⟩ := (d : (List (Int × Int × Int)) × Int × Int × (List (Int × Int × Int)) × Int × (List Int) × Unit)
      have hp := PkS.un_pack h
      subst hp
      exact (espec_l7Of_l5 @spec_l1In @spec_l7Var @spec_l7Of_l11 @spec_l7Of_l5 n y5_0 y5_1 y5_2 y5_3 y5_4 y5_5 kk).symm
theorem nlspec_l7Of_l5 : ∀ n, NatLP (Pspec_l7Of_l5 @spec_l7Of_l5 n) := lespec_l7Of_l5.nat (fun n => mkK_nat (cspec_l7Of n)) fun n => mkL_nat (mkK_nat (cspec_l7Of n)) (l := [(11, Dspec_l7Of_l11, Pspec_l7Of_l11 @spec_l7Of_l11 n)]) ⟨nlspec_l7Of_l11 n, trivial⟩
theorem inspec_l7Of_l5 (n : Nat) (R : Type) : LoopsOk Try.prog (mkL (mkK [(44, Kspec_l1In @spec_l1In n), (68, Kspec_l7Var @spec_l7Var n)]) [(11, Dspec_l7Of_l11, Pspec_l7Of_l11 @spec_l7Of_l11 n)] R) (loopIn 5 (bodyOf Try.f58)) := .eq (l := [.lo (loopIn 11 (bodyOf Try.f58))]) (by kernel_rfl) ⟨(lkspec_l7Of_l11 n R _ (at_id (i := 11) (by kernel_rfl) rfl)), trivial⟩
theorem lkspec_l7Of_l5 (n : Nat) (R : Type) (L0 : LK R) (h0 : ∀ id, firstRegion (loopIn 5 (bodyOf Try.f58)) = some id → L0 id = Dspec_l7Of_l5.oracle (mkK [(44, Kspec_l1In @spec_l1In n), (68, Kspec_l7Var @spec_l7Var n)] R) (Pspec_l7Of_l5 @spec_l7Of_l5 n R)) : LoopOk Try.prog L0 (loopIn 5 (bodyOf Try.f58)) :=
  lespec_l7Of_l5.ok mixed ttok (fun n => mkK_nat (cspec_l7Of n)) (fun n => mkK_ok (cspec_l7Of n)) (fun n => inspec_l7Of_l5 n R) (mkK_nat (cspec_l7Of n)) h0
@[reducible] def Sspec_l7Of : PkS := ⟨[.agg [.ro (.pr (.int .i64) (.pr (.int .i64) (.int .i64))), .int .i64]], []⟩
@[reducible] def Tspec_l7Of : PkS := ⟨[.tup [(false, [.int .u64]), (false, [.bool])], .one (.dead)], []⟩
def Hspec_l7Of : List Sh := [.tup [(false, [.any]), (false, [.any])], .skip]
def Kspec_l7Of (g : ∀ {R : Type}, Nat → (List (Int × Int × Int)) → Int → (Int → Bool → Option R) → Option R) (n : Nat) : KPs := fun R p k => match (PkS.un Sspec_l7Of p : Option ((List (Int × Int × Int)) × Int × Unit)) with
  | some (x0, x1, _) => g n x0 x1 (fun r0 r1 => k (PkS.pack Tspec_l7Of (r0, r1, ())))
  | none => none
theorem espec_l7Of (spec_l1In : ∀ {R : Type}, Nat → Int → Int → Int → (Bool → Option R) → Option R) (spec_l7Var : ∀ {R : Type}, Nat → Int → (Int → Option R) → Option R) (spec_l7Of_l11 : ∀ {R : Type}, Nat → Int → (List (Int × Int × Int)) → Int → Int → Int → Int → (List (Int × Int × Int)) → Int → (List Int) → Int → Int → Int → (List Bool) → (Int → Bool → Option R) → (Int → (List (Int × Int × Int)) → Int → Int → (List (Int × Int × Int)) → Int → (List Int) → Option R) → Option R) (spec_l7Of_l5 : ∀ {R : Type}, Nat → (List (Int × Int × Int)) → Int → Int → (List (Int × Int × Int)) → Int → (List Int) → (Int → Bool → Option R) → ((List (Int × Int × Int)) → Int → (List Int) → Option R) → Option R) {R : Type} (n : Nat) (x0 : List (Int × Int × Int)) (x1 : Int) (k : Pk → Option R) : evF tt sig (mkK [(44, Kspec_l1In @spec_l1In n), (68, Kspec_l7Var @spec_l7Var n)] R) (mkL (mkK [(44, Kspec_l1In @spec_l1In n), (68, Kspec_l7Var @spec_l7Var n)]) [(11, Dspec_l7Of_l11, Pspec_l7Of_l11 @spec_l7Of_l11 n), (5, Dspec_l7Of_l5, Pspec_l7Of_l5 @spec_l7Of_l5 n)] R) Try.f58 Hspec_l7Of (PkS.pack Sspec_l7Of (x0, x1, ())) k = (fun (k : Int → Bool → Option R) => (bif (decide ((x0.length : Int) > 70)) then k 0 false else (spec_l7Of_l5 n x0 (x0.length : Int) 0 x0 x1 ([] : List Int) (fun r15 r16 => k r15 r16) (fun r17 r18 r19 => (bif (r18 == (-2)) then k 0 ((r19.length : Int) == 0) else (bif (r18 == (-1)) then k 18446744073709551615 ((r19.length : Int) == 0) else (bif (r18 != (IntKind.wrap .i64 ((r19.length : Int) - 1))) then k 0 false else (bif decide (0 ≤ r18) then (bif decide (r18 < (r19.length : Int)) then k (r19.getD (Int.toNat r18) 0) true else none) else none)))))))) (fun r0 r1 => k (PkS.pack Tspec_l7Of (r0, r1, ()))) := by kernel_rfl
theorem okspec_l7Of (n : Nat) : FnOk Try.prog 58 (Kspec_l7Of @spec_l7Of n) := by
  refine fn_ok (sig := sig) mixed ttok (mkK_nat (cspec_l7Of n)) (mkK_ok (cspec_l7Of n)) (mkL_nat (mkK_nat (cspec_l7Of n)) (l := [(11, Dspec_l7Of_l11, Pspec_l7Of_l11 @spec_l7Of_l11 n), (5, Dspec_l7Of_l5, Pspec_l7Of_l5 @spec_l7Of_l5 n)]) ⟨nlspec_l7Of_l11 n, ⟨nlspec_l7Of_l5 n, trivial⟩⟩) (fn := Try.f58) (c := bodyOf Try.f58) (by kernel_rfl) (by kernel_rfl) (by kernel_rfl) (.eq (l := [.lo (loopIn 5 (bodyOf Try.f58))]) (by kernel_rfl) ⟨(lkspec_l7Of_l5 n _ _ (at_id (i := 5) (by kernel_rfl) rfl)), trivial⟩) (shs := Hspec_l7Of) (S := Sspec_l7Of) (h1 := by kernel_rfl) fun R p k => ?_
  unfold Kspec_l7Of
  cases h : (PkS.un Sspec_l7Of p) with
  | none => rfl
  | some d =>
    obtain ⟨x0, x1, u⟩ := (d : (List (Int × Int × Int)) × Int × Unit)
    have hp := PkS.un_pack h
    subst hp
    exact (espec_l7Of @spec_l1In @spec_l7Var @spec_l7Of_l11 @spec_l7Of_l5 n x0 x1 k).symm

/-! ### loop.example/g00269/spec.l7Good -/
theorem cspec_l7Good (n : Nat) : AllOk Try.prog [(58, Kspec_l7Of @spec_l7Of n), (47, Kspec_l7Diagram @spec_l7Diagram n)] := ⟨okspec_l7Of n, ⟨okspec_l7Diagram n, trivial⟩⟩
@[reducible] def Sspec_l7Good_l8 : PkS := ⟨[.one (.box (100000, 0) 0), .one (.int .u64), .one (.box (100000, 2) 0), .one (.int .i64), .one (.int .i64), .one (.dead)], [((100000, 0), .box [.ro (.pr (.int .i64) (.pr (.int .i64) (.int .i64))), .int .i64]), ((100000, 1), .arr (.pr (.int .i64) (.pr (.int .i64) (.int .i64)))), ((100000, 2), .box [.whole (100000, 1), .int .i64])]⟩
@[reducible] def Tspec_l7Good_l8_0 : PkS := ⟨[.one (.int .u64), .one (.bool), .one (.dead)], []⟩
@[reducible] def Tspec_l7Good_l8_1 : PkS := ⟨[.one (.int .u64), .one (.dead)], []⟩
def Dspec_l7Good_l8 : LoopD := ⟨54, [1, 4, 6, 37, 38], [.box [(.ro (.pr (.int .i64) (.pr (.int .i64) (.int .i64)))), .any], .one .any, .box [(.own (.pr (.int .i64) (.pr (.int .i64) (.int .i64)))), .any], .one .any, .one .any, .skip], fun x => match x with
  | .ret => some ([2, 3], [.one .any, .one .any, .skip])
  | .exit 0 => some ([4], [.one .any, .skip])
  | _ => none⟩
def Pspec_l7Good_l8 (g : ∀ {R : Type}, Nat → Int → Int → Int → (List (Int × Int × Int)) → Int → (List (Int × Int × Int)) → Int → (Int → Bool → Option R) → (Int → Option R) → Option R) (n : Nat) : LPs := fun R q kk => match (PkS.un Sspec_l7Good_l8 q : Option (Int × Int × Int × (List (Int × Int × Int)) × Int × (List (Int × Int × Int)) × Int × Unit)) with
  | some (y8_0, y8_1, y8_2, y8_3, y8_4, y8_5, y8_6, _) => g n y8_0 y8_1 y8_2 y8_3 y8_4 y8_5 y8_6 (fun r0 r1 => kk .ret (PkS.pack Tspec_l7Good_l8_0 (r0, r1, ()))) (fun r0 => kk (.exit 0) (PkS.pack Tspec_l7Good_l8_1 (r0, ())))
  | none => none
theorem espec_l7Good_l8 (spec_l7Of : ∀ {R : Type}, Nat → (List (Int × Int × Int)) → Int → (Int → Bool → Option R) → Option R) (spec_l7Diagram : ∀ {R : Type}, Nat → Int → (Int → Bool → (List (Int × Int × Int)) → Option R) → Option R) (spec_l7Good_l8 : ∀ {R : Type}, Nat → Int → Int → Int → (List (Int × Int × Int)) → Int → (List (Int × Int × Int)) → Int → (Int → Bool → Option R) → (Int → Option R) → Option R) {R : Type} (n : Nat) (y8_0 : Int) (y8_1 : Int) (y8_2 : Int) (y8_3 : List (Int × Int × Int)) (y8_4 : Int) (y8_5 : List (Int × Int × Int)) (y8_6 : Int) (kk : Ex → Pk → Option R) : Dspec_l7Good_l8.step tt sig (mkK [(58, Kspec_l7Of @spec_l7Of n), (47, Kspec_l7Diagram @spec_l7Diagram n)] R) (mkL (mkK [(58, Kspec_l7Of @spec_l7Of n), (47, Kspec_l7Diagram @spec_l7Diagram n)]) [] R) (loopIn 8 (bodyOf Try.f40)) (fun q' => Pspec_l7Good_l8 @spec_l7Good_l8 n R q' kk) (PkS.pack Sspec_l7Good_l8 (y8_0, y8_1, y8_2, y8_3, y8_4, y8_5, y8_6, ())) kk = (fun (kret : Int → Bool → Option R) (kexit0 : Int → Option R) => (bif (decide (y8_2 < y8_1)) then (bif decide (0 ≤ y8_2) then (bif decide (y8_2 < (y8_5.length : Int)) then (bif decide (0 ≤ y8_2) then (bif decide (y8_2 < (y8_3.length : Int)) then (bif (!(((y8_5.getD (Int.toNat y8_2) (0, (0, 0))).1 == (y8_3.getD (Int.toNat y8_2) (0, (0, 0))).1) && (((y8_5.getD (Int.toNat y8_2) (0, (0, 0))).2.1 == (y8_3.getD (Int.toNat y8_2) (0, (0, 0))).2.1) && (((y8_5.getD (Int.toNat y8_2) (0, (0, 0))).2.2 == (y8_3.getD (Int.toNat y8_2) (0, (0, 0))).2.2) && true)))) then kret 0 false else spec_l7Good_l8 n y8_0 y8_1 (IntKind.wrap .i64 (y8_2 + 1)) y8_3 y8_4 y8_5 y8_6 kret kexit0) else none) else none) else none) else none) else kexit0 y8_0)) (fun r0 r1 => kk .ret (PkS.pack Tspec_l7Good_l8_0 (r0, r1, ()))) (fun r0 => kk (.exit 0) (PkS.pack Tspec_l7Good_l8_1 (r0, ()))) := by kernel_rfl
theorem lespec_l7Good_l8 : LoopEq tt sig (fun n => mkK [(58, Kspec_l7Of @spec_l7Of n), (47, Kspec_l7Diagram @spec_l7Diagram n)]) (fun n => mkL (mkK [(58, Kspec_l7Of @spec_l7Of n), (47, Kspec_l7Diagram @spec_l7Diagram n)]) []) Dspec_l7Good_l8 Sspec_l7Good_l8 (loopIn 8 (bodyOf Try.f40)) (Pspec_l7Good_l8 @spec_l7Good_l8) where
  zero R q kk := by unfold Pspec_l7Good_l8; cases (PkS.un Sspec_l7Good_l8 q) <;> rfl
  succ n R q kk := by
    unfold Pspec_l7Good_l8
    cases h : (PkS.un Sspec_l7Good_l8 q) with
    | none => rfl
    | some d =>
      obtain ⟨y8_0, y8_1, y8_2, y8_3, y8_4, y8_5, y8_6, u⟩ := (d : Int × Int × Int × (List (Int × Int × Int)) × Int × (List (Int × Int × Int)) × Int × Unit)
      have hp := PkS.un_pack h
      subst hp
      exact (espec_l7Good_l8 @spec_l7Of @spec_l7Diagram @spec_l7Good_l8 n y8_0 y8_1 y8_2 y8_3 y8_4 y8_5 y8_6 kk).symm
theorem nlspec_l7Good_l8 : ∀ n, NatLP (Pspec_l7Good_l8 @spec_l7Good_l8 n) := lespec_l7Good_l8.nat (fun n => mkK_nat (cspec_l7Good n)) fun n => mkL_nat (mkK_nat (cspec_l7Good n)) (l := []) trivial
theorem inspec_l7Good_l8 (n : Nat) (R : Type) : LoopsOk Try.prog (mkL (mkK [(58, Kspec_l7Of @spec_l7Of n), (47, Kspec_l7Diagram @spec_l7Diagram n)]) [] R) (loopIn 8 (bodyOf Try.f40)) := .eq (l := []) (by kernel_rfl) trivial
theorem lkspec_l7Good_l8 (n : Nat) (R : Type) (L0 : LK R) (h0 : ∀ id, firstRegion (loopIn 8 (bodyOf Try.f40)) = some id → L0 id = Dspec_l7Good_l8.oracle (mkK [(58, Kspec_l7Of @spec_l7Of n), (47, Kspec_l7Diagram @spec_l7Diagram n)] R) (Pspec_l7Good_l8 @spec_l7Good_l8 n R)) : LoopOk Try.prog L0 (loopIn 8 (bodyOf Try.f40)) :=
  lespec_l7Good_l8.ok mixed ttok (fun n => mkK_nat (cspec_l7Good n)) (fun n => mkK_ok (cspec_l7Good n)) (fun n => inspec_l7Good_l8 n R) (mkK_nat (cspec_l7Good n)) h0
@[reducible] def Sspec_l7Good : PkS := ⟨[.agg [.ro (.pr (.int .i64) (.pr (.int .i64) (.int .i64))), .int .i64]], []⟩
@[reducible] def Tspec_l7Good : PkS := ⟨[.tup [(false, [.int .u64]), (false, [.bool])], .one (.dead)], []⟩
def Hspec_l7Good : List Sh := [.tup [(false, [.any]), (false, [.any])], .skip]
def Kspec_l7Good (g : ∀ {R : Type}, Nat → (List (Int × Int × Int)) → Int → (Int → Bool → Option R) → Option R) (n : Nat) : KPs := fun R p k => match (PkS.un Sspec_l7Good p : Option ((List (Int × Int × Int)) × Int × Unit)) with
  | some (x0, x1, _) => g n x0 x1 (fun r0 r1 => k (PkS.pack Tspec_l7Good (r0, r1, ())))
  | none => none
theorem espec_l7Good (spec_l7Of : ∀ {R : Type}, Nat → (List (Int × Int × Int)) → Int → (Int → Bool → Option R) → Option R) (spec_l7Diagram : ∀ {R : Type}, Nat → Int → (Int → Bool → (List (Int × Int × Int)) → Option R) → Option R) (spec_l7Good_l8 : ∀ {R : Type}, Nat → Int → Int → Int → (List (Int × Int × Int)) → Int → (List (Int × Int × Int)) → Int → (Int → Bool → Option R) → (Int → Option R) → Option R) {R : Type} (n : Nat) (x0 : List (Int × Int × Int)) (x1 : Int) (k : Pk → Option R) : evF tt sig (mkK [(58, Kspec_l7Of @spec_l7Of n), (47, Kspec_l7Diagram @spec_l7Diagram n)] R) (mkL (mkK [(58, Kspec_l7Of @spec_l7Of n), (47, Kspec_l7Diagram @spec_l7Diagram n)]) [(8, Dspec_l7Good_l8, Pspec_l7Good_l8 @spec_l7Good_l8 n)] R) Try.f40 Hspec_l7Good (PkS.pack Sspec_l7Good (x0, x1, ())) k = (fun (k : Int → Bool → Option R) => (spec_l7Of n x0 x1 fun r1 r2 => (bif (!r2) then k 0 false else (spec_l7Diagram n r1 fun r3 r4 r5 => (bif (r3 != x1) then k 0 false else (bif ((r5.length : Int) != (x0.length : Int)) then k 0 false else (spec_l7Good_l8 n r1 (r5.length : Int) 0 x0 x1 r5 r3 (fun r6 r7 => k r6 r7) (fun r8 => k r8 true)))))))) (fun r0 r1 => k (PkS.pack Tspec_l7Good (r0, r1, ()))) := by kernel_rfl
theorem okspec_l7Good (n : Nat) : FnOk Try.prog 40 (Kspec_l7Good @spec_l7Good n) := by
  refine fn_ok (sig := sig) mixed ttok (mkK_nat (cspec_l7Good n)) (mkK_ok (cspec_l7Good n)) (mkL_nat (mkK_nat (cspec_l7Good n)) (l := [(8, Dspec_l7Good_l8, Pspec_l7Good_l8 @spec_l7Good_l8 n)]) ⟨nlspec_l7Good_l8 n, trivial⟩) (fn := Try.f40) (c := bodyOf Try.f40) (by kernel_rfl) (by kernel_rfl) (by kernel_rfl) (.eq (l := [.lo (loopIn 8 (bodyOf Try.f40))]) (by kernel_rfl) ⟨(lkspec_l7Good_l8 n _ _ (at_id (i := 8) (by kernel_rfl) rfl)), trivial⟩) (shs := Hspec_l7Good) (S := Sspec_l7Good) (h1 := by kernel_rfl) fun R p k => ?_
  unfold Kspec_l7Good
  cases h : (PkS.un Sspec_l7Good p) with
  | none => rfl
  | some d =>
    obtain ⟨x0, x1, u⟩ := (d : (List (Int × Int × Int)) × Int × Unit)
    have hp := PkS.un_pack h
    subst hp
    exact (espec_l7Good @spec_l7Of @spec_l7Diagram @spec_l7Good_l8 n x0 x1 k).symm

/-! ### loop.example/g00269/spec.l7Tell -/
theorem cspec_l7Tell (n : Nat) : AllOk Try.prog [(47, Kspec_l7Diagram @spec_l7Diagram n)] := ⟨okspec_l7Diagram n, trivial⟩
@[reducible] def Sspec_l7Tell : PkS := ⟨[.one (.int .u64)], []⟩
@[reducible] def Tspec_l7Tell : PkS := ⟨[.tup [(true, [.whole (300000, 0), .int .i64]), (false, [.bool])], .one (.dead)], [((300000, 0), .arr (.pr (.int .i64) (.pr (.int .i64) (.int .i64))))]⟩
def Hspec_l7Tell : List Sh := [.tup [(true, [(.own (.pr (.int .i64) (.pr (.int .i64) (.int .i64)))), .any]), (false, [.any])], .skip]
def Kspec_l7Tell (g : ∀ {R : Type}, Nat → Int → (Int → Bool → (List (Int × Int × Int)) → Option R) → Option R) (n : Nat) : KPs := fun R p k => match (PkS.un Sspec_l7Tell p : Option (Int × Unit)) with
  | some (x0, _) => g n x0 (fun r0 r1 r2 => k (PkS.pack Tspec_l7Tell (r0, r1, r2, ())))
  | none => none
theorem espec_l7Tell (spec_l7Diagram : ∀ {R : Type}, Nat → Int → (Int → Bool → (List (Int × Int × Int)) → Option R) → Option R) {R : Type} (n : Nat) (x0 : Int) (k : Pk → Option R) : evF tt sig (mkK [(47, Kspec_l7Diagram @spec_l7Diagram n)] R) (mkL (mkK [(47, Kspec_l7Diagram @spec_l7Diagram n)]) [] R) Try.f53 Hspec_l7Tell (PkS.pack Sspec_l7Tell (x0, ())) k = (fun (k : Int → Bool → (List (Int × Int × Int)) → Option R) => (spec_l7Diagram n x0 fun r1 r2 r3 => (bif (!r2) then k 0 false ([] : List (Int × Int × Int)) else k r1 true r3))) (fun r0 r1 r2 => k (PkS.pack Tspec_l7Tell (r0, r1, r2, ()))) := by kernel_rfl
theorem okspec_l7Tell (n : Nat) : FnOk Try.prog 53 (Kspec_l7Tell @spec_l7Tell n) := by
  refine fn_ok (sig := sig) mixed ttok (mkK_nat (cspec_l7Tell n)) (mkK_ok (cspec_l7Tell n)) (mkL_nat (mkK_nat (cspec_l7Tell n)) (l := []) trivial) (fn := Try.f53) (c := bodyOf Try.f53) (by kernel_rfl) (by kernel_rfl) (by kernel_rfl) (.eq (l := []) (by kernel_rfl) trivial) (shs := Hspec_l7Tell) (S := Sspec_l7Tell) (h1 := by kernel_rfl) fun R p k => ?_
  unfold Kspec_l7Tell
  cases h : (PkS.un Sspec_l7Tell p) with
  | none => rfl
  | some d =>
    obtain ⟨x0, u⟩ := (d : Int × Unit)
    have hp := PkS.un_pack h
    subst hp
    exact (espec_l7Tell @spec_l7Diagram n x0 k).symm

/-! ### loop.example/g00269/spec.BothOf -/
theorem cspec_BothOf (n : Nat) : AllOk Try.prog [(40, Kspec_l7Good @spec_l7Good n), (53, Kspec_l7Tell @spec_l7Tell n)] := ⟨okspec_l7Good n, ⟨okspec_l7Tell n, trivial⟩⟩
@[reducible] def Sspec_BothOf : PkS := ⟨[.agg [.ro (.pr (.int .i64) (.pr (.int .i64) (.int .i64))), .int .i64], .agg [.ro (.pr (.int .i64) (.pr (.int .i64) (.int .i64))), .int .i64]], []⟩
@[reducible] def Tspec_BothOf : PkS := ⟨[.tup [(true, [.whole (300000, 0), .int .i64]), (false, [.bool])], .one (.dead), .one (.dead)], [((300000, 0), .arr (.pr (.int .i64) (.pr (.int .i64) (.int .i64))))]⟩
def Hspec_BothOf : List Sh := [.tup [(true, [(.own (.pr (.int .i64) (.pr (.int .i64) (.int .i64)))), .any]), (false, [.any])], .skip, .skip]
def Kspec_BothOf (g : ∀ {R : Type}, Nat → (List (Int × Int × Int)) → Int → (List (Int × Int × Int)) → Int → (Int → Bool → (List (Int × Int × Int)) → Option R) → Option R) (n : Nat) : KPs := fun R p k => match (PkS.un Sspec_BothOf p : Option ((List (Int × Int × Int)) × Int × (List (Int × Int × Int)) × Int × Unit)) with
  | some (x0, x1, x2, x3, _) => g n x0 x1 x2 x3 (fun r0 r1 r2 => k (PkS.pack Tspec_BothOf (r0, r1, r2, ())))
  | none => none
theorem espec_BothOf (spec_l7Good : ∀ {R : Type}, Nat → (List (Int × Int × Int)) → Int → (Int → Bool → Option R) → Option R) (spec_l7Tell : ∀ {R : Type}, Nat → Int → (Int → Bool → (List (Int × Int × Int)) → Option R) → Option R) {R : Type} (n : Nat) (x0 : List (Int × Int × Int)) (x1 : Int) (x2 : List (Int × Int × Int)) (x3 : Int) (k : Pk → Option R) : evF tt sig (mkK [(40, Kspec_l7Good @spec_l7Good n), (53, Kspec_l7Tell @spec_l7Tell n)] R) (mkL (mkK [(40, Kspec_l7Good @spec_l7Good n), (53, Kspec_l7Tell @spec_l7Tell n)]) [] R) Try.f29 Hspec_BothOf (PkS.pack Sspec_BothOf (x0, x1, x2, x3, ())) k = (fun (k : Int → Bool → (List (Int × Int × Int)) → Option R) => (spec_l7Good n x0 x1 fun r1 r2 => (spec_l7Good n x2 x3 fun r3 r4 => (bif (!r2) then k 0 false ([] : List (Int × Int × Int)) else (bif (!r4) then k 0 false ([] : List (Int × Int × Int)) else (spec_l7Tell n (IntKind.wrap .u64 (Int.ofNat (BitVec.toNat (BitVec.ofInt (IntKind.bits .u64) r1 &&& BitVec.ofInt (IntKind.bits .u64) r3)))) fun r5 r6 r7 => k r5 r6 r7)))))) (fun r0 r1 r2 => k (PkS.pack Tspec_BothOf (r0, r1, r2, ()))) := by kernel_rfl
theorem okspec_BothOf (n : Nat) : FnOk Try.prog 29 (Kspec_BothOf @spec_BothOf n) := by
  refine fn_ok (sig := sig) mixed ttok (mkK_nat (cspec_BothOf n)) (mkK_ok (cspec_BothOf n)) (mkL_nat (mkK_nat (cspec_BothOf n)) (l := []) trivial) (fn := Try.f29) (c := bodyOf Try.f29) (by kernel_rfl) (by kernel_rfl) (by kernel_rfl) (.eq (l := []) (by kernel_rfl) trivial) (shs := Hspec_BothOf) (S := Sspec_BothOf) (h1 := by kernel_rfl) fun R p k => ?_
  unfold Kspec_BothOf
  cases h : (PkS.un Sspec_BothOf p) with
  | none => rfl
  | some d =>
    obtain ⟨x0, x1, x2, x3, u⟩ := (d : (List (Int × Int × Int)) × Int × (List (Int × Int × Int)) × Int × Unit)
    have hp := PkS.un_pack h
    subst hp
    exact (espec_BothOf @spec_l7Good @spec_l7Tell n x0 x1 x2 x3 k).symm

/-! ### loop.example/g00269/laws.sameDiagrams -/
theorem claws_sameDiagrams (n : Nat) : AllOk Try.prog [] := trivial
@[reducible] def Slaws_sameDiagrams_l4 : PkS := ⟨[.one (.box (100000, 0) 0), .one (.box (100000, 1) 0), .one (.int .i64), .one (.int .i64), .one (.dead), .one (.dead)], [((100000, 0), .box [.ro (.pr (.int .i64) (.pr (.int .i64) (.int .i64))), .int .i64]), ((100000, 1), .box [.ro (.pr (.int .i64) (.pr (.int .i64) (.int .i64))), .int .i64])]⟩
@[reducible] def Tlaws_sameDiagrams_l4_0 : PkS := ⟨[.one (.bool), .one (.dead), .one (.dead)], []⟩
@[reducible] def Tlaws_sameDiagrams_l4_1 : PkS := ⟨[.one (.dead), .one (.dead)], []⟩
def Dlaws_sameDiagrams_l4 : LoopD := ⟨38, [2, 3, 22, 23], [.box [(.ro (.pr (.int .i64) (.pr (.int .i64) (.int .i64)))), .any], .box [(.ro (.pr (.int .i64) (.pr (.int .i64) (.int .i64)))), .any], .one .any, .one .any, .skip, .skip], fun x => match x with
  | .ret => some ([4], [.one .any, .skip, .skip])
  | .exit 0 => some ([], [.skip, .skip])
  | _ => none⟩
def Plaws_sameDiagrams_l4 (g : ∀ {R : Type}, Nat → Int → Int → (List (Int × Int × Int)) → Int → (List (Int × Int × Int)) → Int → (Bool → Option R) → (Option R) → Option R) (n : Nat) : LPs := fun R q kk => match (PkS.un Slaws_sameDiagrams_l4 q : Option (Int × Int × (List (Int × Int × Int)) × Int × (List (Int × Int × Int)) × Int × Unit)) with
  | some (y4_0, y4_1, y4_2, y4_3, y4_4, y4_5, _) => g n y4_0 y4_1 y4_2 y4_3 y4_4 y4_5 (fun r0 => kk .ret (PkS.pack Tlaws_sameDiagrams_l4_0 (r0, ()))) (kk (.exit 0) (PkS.pack Tlaws_sameDiagrams_l4_1 ()))
  | none => none
theorem elaws_sameDiagrams_l4 (laws_sameDiagrams_l4 : ∀ {R : Type}, Nat → Int → Int → (List (Int × Int × Int)) → Int → (List (Int × Int × Int)) → Int → (Bool → Option R) → (Option R) → Option R) {R : Type} (n : Nat) (y4_0 : Int) (y4_1 : Int) (y4_2 : List (Int × Int × Int)) (y4_3 : Int) (y4_4 : List (Int × Int × Int)) (y4_5 : Int) (kk : Ex → Pk → Option R) : Dlaws_sameDiagrams_l4.step tt sig (mkK [] R) (mkL (mkK []) [] R) (loopIn 4 (bodyOf Try.f32)) (fun q' => Plaws_sameDiagrams_l4 @laws_sameDiagrams_l4 n R q' kk) (PkS.pack Slaws_sameDiagrams_l4 (y4_0, y4_1, y4_2, y4_3, y4_4, y4_5, ())) kk = (fun (kret : Bool → Option R) (kexit0 : Option R) => (bif (decide (y4_1 < y4_0)) then (bif decide (0 ≤ y4_1) then (bif decide (y4_1 < (y4_2.length : Int)) then (bif decide (0 ≤ y4_1) then (bif decide (y4_1 < (y4_4.length : Int)) then (bif (!(((y4_2.getD (Int.toNat y4_1) (0, (0, 0))).1 == (y4_4.getD (Int.toNat y4_1) (0, (0, 0))).1) && (((y4_2.getD (Int.toNat y4_1) (0, (0, 0))).2.1 == (y4_4.getD (Int.toNat y4_1) (0, (0, 0))).2.1) && (((y4_2.getD (Int.toNat y4_1) (0, (0, 0))).2.2 == (y4_4.getD (Int.toNat y4_1) (0, (0, 0))).2.2) && true)))) then kret false else laws_sameDiagrams_l4 n y4_0 (IntKind.wrap .i64 (y4_1 + 1)) y4_2 y4_3 y4_4 y4_5 kret kexit0) else none) else none) else none) else none) else kexit0)) (fun r0 => kk .ret (PkS.pack Tlaws_sameDiagrams_l4_0 (r0, ()))) (kk (.exit 0) (PkS.pack Tlaws_sameDiagrams_l4_1 ())) := by kernel_rfl
theorem lelaws_sameDiagrams_l4 : LoopEq tt sig (fun n => mkK []) (fun n => mkL (mkK []) []) Dlaws_sameDiagrams_l4 Slaws_sameDiagrams_l4 (loopIn 4 (bodyOf Try.f32)) (Plaws_sameDiagrams_l4 @laws_sameDiagrams_l4) where
  zero R q kk := by unfold Plaws_sameDiagrams_l4; cases (PkS.un Slaws_sameDiagrams_l4 q) <;> rfl
  succ n R q kk := by
    unfold Plaws_sameDiagrams_l4
    cases h : (PkS.un Slaws_sameDiagrams_l4 q) with
    | none => rfl
    | some d =>
      obtain ⟨y4_0, y4_1, y4_2, y4_3, y4_4, y4_5, u⟩ := (d : Int × Int × (List (Int × Int × Int)) × Int × (List (Int × Int × Int)) × Int × Unit)
      have hp := PkS.un_pack h
      subst hp
      exact (elaws_sameDiagrams_l4 @laws_sameDiagrams_l4 n y4_0 y4_1 y4_2 y4_3 y4_4 y4_5 kk).symm
theorem nllaws_sameDiagrams_l4 : ∀ n, NatLP (Plaws_sameDiagrams_l4 @laws_sameDiagrams_l4 n) := lelaws_sameDiagrams_l4.nat (fun n => mkK_nat (claws_sameDiagrams n)) fun n => mkL_nat (mkK_nat (claws_sameDiagrams n)) (l := []) trivial
theorem inlaws_sameDiagrams_l4 (n : Nat) (R : Type) : LoopsOk Try.prog (mkL (mkK []) [] R) (loopIn 4 (bodyOf Try.f32)) := .eq (l := []) (by kernel_rfl) trivial
theorem lklaws_sameDiagrams_l4 (n : Nat) (R : Type) (L0 : LK R) (h0 : ∀ id, firstRegion (loopIn 4 (bodyOf Try.f32)) = some id → L0 id = Dlaws_sameDiagrams_l4.oracle (mkK [] R) (Plaws_sameDiagrams_l4 @laws_sameDiagrams_l4 n R)) : LoopOk Try.prog L0 (loopIn 4 (bodyOf Try.f32)) :=
  lelaws_sameDiagrams_l4.ok mixed ttok (fun n => mkK_nat (claws_sameDiagrams n)) (fun n => mkK_ok (claws_sameDiagrams n)) (fun n => inlaws_sameDiagrams_l4 n R) (mkK_nat (claws_sameDiagrams n)) h0
@[reducible] def Slaws_sameDiagrams : PkS := ⟨[.agg [.ro (.pr (.int .i64) (.pr (.int .i64) (.int .i64))), .int .i64], .agg [.ro (.pr (.int .i64) (.pr (.int .i64) (.int .i64))), .int .i64]], []⟩
@[reducible] def Tlaws_sameDiagrams : PkS := ⟨[.one (.bool), .one (.dead), .one (.dead)], []⟩
def Hlaws_sameDiagrams : List Sh := [.one .any, .skip, .skip]
def Klaws_sameDiagrams (g : ∀ {R : Type}, Nat → (List (Int × Int × Int)) → Int → (List (Int × Int × Int)) → Int → (Bool → Option R) → Option R) (n : Nat) : KPs := fun R p k => match (PkS.un Slaws_sameDiagrams p : Option ((List (Int × Int × Int)) × Int × (List (Int × Int × Int)) × Int × Unit)) with
  | some (x0, x1, x2, x3, _) => g n x0 x1 x2 x3 (fun r0 => k (PkS.pack Tlaws_sameDiagrams (r0, ())))
  | none => none
theorem elaws_sameDiagrams (laws_sameDiagrams_l4 : ∀ {R : Type}, Nat → Int → Int → (List (Int × Int × Int)) → Int → (List (Int × Int × Int)) → Int → (Bool → Option R) → (Option R) → Option R) {R : Type} (n : Nat) (x0 : List (Int × Int × Int)) (x1 : Int) (x2 : List (Int × Int × Int)) (x3 : Int) (k : Pk → Option R) : evF tt sig (mkK [] R) (mkL (mkK []) [(4, Dlaws_sameDiagrams_l4, Plaws_sameDiagrams_l4 @laws_sameDiagrams_l4 n)] R) Try.f32 Hlaws_sameDiagrams (PkS.pack Slaws_sameDiagrams (x0, x1, x2, x3, ())) k = (fun (k : Bool → Option R) => (bif (x1 != x3) then k false else (bif ((x0.length : Int) != (x2.length : Int)) then k false else (laws_sameDiagrams_l4 n (x0.length : Int) 0 x0 x1 x2 x3 (fun r1 => k r1) (k true))))) (fun r0 => k (PkS.pack Tlaws_sameDiagrams (r0, ()))) := by kernel_rfl
theorem oklaws_sameDiagrams (n : Nat) : FnOk Try.prog 32 (Klaws_sameDiagrams @laws_sameDiagrams n) := by
  refine fn_ok (sig := sig) mixed ttok (mkK_nat (claws_sameDiagrams n)) (mkK_ok (claws_sameDiagrams n)) (mkL_nat (mkK_nat (claws_sameDiagrams n)) (l := [(4, Dlaws_sameDiagrams_l4, Plaws_sameDiagrams_l4 @laws_sameDiagrams_l4 n)]) ⟨nllaws_sameDiagrams_l4 n, trivial⟩) (fn := Try.f32) (c := bodyOf Try.f32) (by kernel_rfl) (by kernel_rfl) (by kernel_rfl) (.eq (l := [.lo (loopIn 4 (bodyOf Try.f32))]) (by kernel_rfl) ⟨(lklaws_sameDiagrams_l4 n _ _ (at_id (i := 4) (by kernel_rfl) rfl)), trivial⟩) (shs := Hlaws_sameDiagrams) (S := Slaws_sameDiagrams) (h1 := by kernel_rfl) fun R p k => ?_
  unfold Klaws_sameDiagrams
  cases h : (PkS.un Slaws_sameDiagrams p) with
  | none => rfl
  | some d =>
    obtain ⟨x0, x1, x2, x3, u⟩ := (d : (List (Int × Int × Int)) × Int × (List (Int × Int × Int)) × Int × Unit)
    have hp := PkS.un_pack h
    subst hp
    exact (elaws_sameDiagrams @laws_sameDiagrams_l4 n x0 x1 x2 x3 k).symm

/-! ### loop.example/g00269/impl.GoodDiagram -/
theorem cimpl_GoodDiagram (n : Nat) : AllOk Try.prog [(42, Kimpl_truthOf @impl_truthOf n)] := ⟨okimpl_truthOf n, trivial⟩
@[reducible] def Simpl_GoodDiagram : PkS := ⟨[.agg [.ro (.pr (.int .i64) (.pr (.int .i64) (.int .i64))), .int .i64]], []⟩
@[reducible] def Timpl_GoodDiagram : PkS := ⟨[.one (.bool), .one (.dead)], []⟩
def Himpl_GoodDiagram : List Sh := [.one .any, .skip]
def Kimpl_GoodDiagram (g : ∀ {R : Type}, Nat → (List (Int × Int × Int)) → Int → (Bool → Option R) → Option R) (n : Nat) : KPs := fun R p k => match (PkS.un Simpl_GoodDiagram p : Option ((List (Int × Int × Int)) × Int × Unit)) with
  | some (x0, x1, _) => g n x0 x1 (fun r0 => k (PkS.pack Timpl_GoodDiagram (r0, ())))
  | none => none
theorem eimpl_GoodDiagram (impl_truthOf : ∀ {R : Type}, Nat → (List (Int × Int × Int)) → Int → (Int → Bool → Option R) → Option R) {R : Type} (n : Nat) (x0 : List (Int × Int × Int)) (x1 : Int) (k : Pk → Option R) : evF tt sig (mkK [(42, Kimpl_truthOf @impl_truthOf n)] R) (mkL (mkK [(42, Kimpl_truthOf @impl_truthOf n)]) [] R) Try.f15 Himpl_GoodDiagram (PkS.pack Simpl_GoodDiagram (x0, x1, ())) k = (fun (k : Bool → Option R) => (impl_truthOf n x0 x1 fun r1 r2 => k r2)) (fun r0 => k (PkS.pack Timpl_GoodDiagram (r0, ()))) := by kernel_rfl
theorem okimpl_GoodDiagram (n : Nat) : FnOk Try.prog 15 (Kimpl_GoodDiagram @impl_GoodDiagram n) := by
  refine fn_ok (sig := sig) mixed ttok (mkK_nat (cimpl_GoodDiagram n)) (mkK_ok (cimpl_GoodDiagram n)) (mkL_nat (mkK_nat (cimpl_GoodDiagram n)) (l := []) trivial) (fn := Try.f15) (c := bodyOf Try.f15) (by kernel_rfl) (by kernel_rfl) (by kernel_rfl) (.eq (l := []) (by kernel_rfl) trivial) (shs := Himpl_GoodDiagram) (S := Simpl_GoodDiagram) (h1 := by kernel_rfl) fun R p k => ?_
  unfold Kimpl_GoodDiagram
  cases h : (PkS.un Simpl_GoodDiagram p) with
  | none => rfl
  | some d =>
    obtain ⟨x0, x1, u⟩ := (d : (List (Int × Int × Int)) × Int × Unit)
    have hp := PkS.un_pack h
    subst hp
    exact (eimpl_GoodDiagram @impl_truthOf n x0 x1 k).symm

/-! ### loop.example/g00269/spec.GoodDiagram -/
theorem cspec_GoodDiagram (n : Nat) : AllOk Try.prog [(40, Kspec_l7Good @spec_l7Good n)] := ⟨okspec_l7Good n, trivial⟩
@[reducible] def Sspec_GoodDiagram : PkS := ⟨[.agg [.ro (.pr (.int .i64) (.pr (.int .i64) (.int .i64))), .int .i64]], []⟩
@[reducible] def Tspec_GoodDiagram : PkS := ⟨[.one (.bool), .one (.dead)], []⟩
def Hspec_GoodDiagram : List Sh := [.one .any, .skip]
def Kspec_GoodDiagram (g : ∀ {R : Type}, Nat → (List (Int × Int × Int)) → Int → (Bool → Option R) → Option R) (n : Nat) : KPs := fun R p k => match (PkS.un Sspec_GoodDiagram p : Option ((List (Int × Int × Int)) × Int × Unit)) with
  | some (x0, x1, _) => g n x0 x1 (fun r0 => k (PkS.pack Tspec_GoodDiagram (r0, ())))
  | none => none
theorem espec_GoodDiagram (spec_l7Good : ∀ {R : Type}, Nat → (List (Int × Int × Int)) → Int → (Int → Bool → Option R) → Option R) {R : Type} (n : Nat) (x0 : List (Int × Int × Int)) (x1 : Int) (k : Pk → Option R) : evF tt sig (mkK [(40, Kspec_l7Good @spec_l7Good n)] R) (mkL (mkK [(40, Kspec_l7Good @spec_l7Good n)]) [] R) Try.f13 Hspec_GoodDiagram (PkS.pack Sspec_GoodDiagram (x0, x1, ())) k = (fun (k : Bool → Option R) => (spec_l7Good n x0 x1 fun r1 r2 => k r2)) (fun r0 => k (PkS.pack Tspec_GoodDiagram (r0, ()))) := by kernel_rfl
theorem okspec_GoodDiagram (n : Nat) : FnOk Try.prog 13 (Kspec_GoodDiagram @spec_GoodDiagram n) := by
  refine fn_ok (sig := sig) mixed ttok (mkK_nat (cspec_GoodDiagram n)) (mkK_ok (cspec_GoodDiagram n)) (mkL_nat (mkK_nat (cspec_GoodDiagram n)) (l := []) trivial) (fn := Try.f13) (c := bodyOf Try.f13) (by kernel_rfl) (by kernel_rfl) (by kernel_rfl) (.eq (l := []) (by kernel_rfl) trivial) (shs := Hspec_GoodDiagram) (S := Sspec_GoodDiagram) (h1 := by kernel_rfl) fun R p k => ?_
  unfold Kspec_GoodDiagram
  cases h : (PkS.un Sspec_GoodDiagram p) with
  | none => rfl
  | some d =>
    obtain ⟨x0, x1, u⟩ := (d : (List (Int × Int × Int)) × Int × Unit)
    have hp := PkS.un_pack h
    subst hp
    exact (espec_GoodDiagram @spec_l7Good n x0 x1 k).symm

/-! ### loop.example/g00269/impl.NotOf -/
theorem cimpl_NotOf (n : Nat) : AllOk Try.prog [(42, Kimpl_truthOf @impl_truthOf n), (49, Kimpl_diagramOf @impl_diagramOf n)] := ⟨okimpl_truthOf n, ⟨okimpl_diagramOf n, trivial⟩⟩
@[reducible] def Simpl_NotOf : PkS := ⟨[.agg [.ro (.pr (.int .i64) (.pr (.int .i64) (.int .i64))), .int .i64]], []⟩
@[reducible] def Timpl_NotOf : PkS := ⟨[.tup [(true, [.whole (300000, 0), .int .i64]), (false, [.bool])], .one (.dead)], [((300000, 0), .arr (.pr (.int .i64) (.pr (.int .i64) (.int .i64))))]⟩
def Himpl_NotOf : List Sh := [.tup [(true, [(.own (.pr (.int .i64) (.pr (.int .i64) (.int .i64)))), .any]), (false, [.any])], .skip]
def Kimpl_NotOf (g : ∀ {R : Type}, Nat → (List (Int × Int × Int)) → Int → (Int → Bool → (List (Int × Int × Int)) → Option R) → Option R) (n : Nat) : KPs := fun R p k => match (PkS.un Simpl_NotOf p : Option ((List (Int × Int × Int)) × Int × Unit)) with
  | some (x0, x1, _) => g n x0 x1 (fun r0 r1 r2 => k (PkS.pack Timpl_NotOf (r0, r1, r2, ())))
  | none => none
theorem eimpl_NotOf (impl_truthOf : ∀ {R : Type}, Nat → (List (Int × Int × Int)) → Int → (Int → Bool → Option R) → Option R) (impl_diagramOf : ∀ {R : Type}, Nat → Int → (Int → Bool → (List (Int × Int × Int)) → Option R) → Option R) {R : Type} (n : Nat) (x0 : List (Int × Int × Int)) (x1 : Int) (k : Pk → Option R) : evF tt sig (mkK [(42, Kimpl_truthOf @impl_truthOf n), (49, Kimpl_diagramOf @impl_diagramOf n)] R) (mkL (mkK [(42, Kimpl_truthOf @impl_truthOf n), (49, Kimpl_diagramOf @impl_diagramOf n)]) [] R) Try.f26 Himpl_NotOf (PkS.pack Simpl_NotOf (x0, x1, ())) k = (fun (k : Int → Bool → (List (Int × Int × Int)) → Option R) => (impl_truthOf n x0 x1 fun r1 r2 => (bif (!r2) then k 0 false ([] : List (Int × Int × Int)) else (impl_diagramOf n (IntKind.wrap .u64 (BitVec.toNat (BitVec.ofInt (IntKind.bits .u64) (18446744073709551615) ^^^ BitVec.ofInt (IntKind.bits .u64) r1))) fun r3 r4 r5 => k r3 r4 r5)))) (fun r0 r1 r2 => k (PkS.pack Timpl_NotOf (r0, r1, r2, ()))) := by kernel_rfl
theorem okimpl_NotOf (n : Nat) : FnOk Try.prog 26 (Kimpl_NotOf @impl_NotOf n) := by
  refine fn_ok (sig := sig) mixed ttok (mkK_nat (cimpl_NotOf n)) (mkK_ok (cimpl_NotOf n)) (mkL_nat (mkK_nat (cimpl_NotOf n)) (l := []) trivial) (fn := Try.f26) (c := bodyOf Try.f26) (by kernel_rfl) (by kernel_rfl) (by kernel_rfl) (.eq (l := []) (by kernel_rfl) trivial) (shs := Himpl_NotOf) (S := Simpl_NotOf) (h1 := by kernel_rfl) fun R p k => ?_
  unfold Kimpl_NotOf
  cases h : (PkS.un Simpl_NotOf p) with
  | none => rfl
  | some d =>
    obtain ⟨x0, x1, u⟩ := (d : (List (Int × Int × Int)) × Int × Unit)
    have hp := PkS.un_pack h
    subst hp
    exact (eimpl_NotOf @impl_truthOf @impl_diagramOf n x0 x1 k).symm

/-! ### loop.example/g00269/laws.numberOf -/
theorem claws_numberOf (n : Nat) : AllOk Try.prog [] := trivial
@[reducible] def Slaws_numberOf_l3 : PkS := ⟨[.one (.int .i64), .one (.ro (.int .u8)), .one (.int .i64), .one (.int .i64), .one (.dead)], []⟩
@[reducible] def Tlaws_numberOf_l3_0 : PkS := ⟨[.one (.int .i64), .one (.dead)], []⟩
def Dlaws_numberOf_l3 : LoopD := ⟨20, [3, 6, 7, 8], [.one .any, .one (.ro (.int .u8)), .one .any, .one .any, .skip], fun x => match x with
  | .exit 0 => some ([3], [.one .any, .skip])
  | _ => none⟩
def Plaws_numberOf_l3 (g : ∀ {R : Type}, Nat → Int → (List Int) → Int → Int → (Int → Option R) → Option R) (n : Nat) : LPs := fun R q kk => match (PkS.un Slaws_numberOf_l3 q : Option (Int × (List Int) × Int × Int × Unit)) with
  | some (y3_0, y3_1, y3_2, y3_3, _) => g n y3_0 y3_1 y3_2 y3_3 (fun r0 => kk (.exit 0) (PkS.pack Tlaws_numberOf_l3_0 (r0, ())))
  | none => none
theorem elaws_numberOf_l3 (laws_numberOf_l3 : ∀ {R : Type}, Nat → Int → (List Int) → Int → Int → (Int → Option R) → Option R) {R : Type} (n : Nat) (y3_0 : Int) (y3_1 : List Int) (y3_2 : Int) (y3_3 : Int) (kk : Ex → Pk → Option R) : Dlaws_numberOf_l3.step tt sig (mkK [] R) (mkL (mkK []) [] R) (loopIn 3 (bodyOf Try.f33)) (fun q' => Plaws_numberOf_l3 @laws_numberOf_l3 n R q' kk) (PkS.pack Slaws_numberOf_l3 (y3_0, y3_1, y3_2, y3_3, ())) kk = (fun (kexit0 : Int → Option R) => (bif (decide (y3_3 < y3_2)) then (bif decide (0 ≤ y3_3) then (bif decide (y3_3 < (y3_1.length : Int)) then laws_numberOf_l3 n (Int.tmod (IntKind.wrap .i64 ((IntKind.wrap .i64 (31 * y3_0)) + (IntKind.wrap .i64 ((y3_1.getD (Int.toNat y3_3) 0))))) 1000003) y3_1 y3_2 (IntKind.wrap .i64 (y3_3 + 1)) kexit0 else none) else none) else kexit0 y3_0)) (fun r0 => kk (.exit 0) (PkS.pack Tlaws_numberOf_l3_0 (r0, ()))) := by kernel_rfl
theorem lelaws_numberOf_l3 : LoopEq tt sig (fun n => mkK []) (fun n => mkL (mkK []) []) Dlaws_numberOf_l3 Slaws_numberOf_l3 (loopIn 3 (bodyOf Try.f33)) (Plaws_numberOf_l3 @laws_numberOf_l3) where
  zero R q kk := by unfold Plaws_numberOf_l3; cases (PkS.un Slaws_numberOf_l3 q) <;> rfl
  succ n R q kk := by
    unfold Plaws_numberOf_l3
    cases h : (PkS.un Slaws_numberOf_l3 q) with
    | none => rfl
    | some d =>
      obtain ⟨y3_0, y3_1, y3_2, y3_3, u⟩ := (d : Int × (List Int) × Int × Int × Unit)
      have hp := PkS.un_pack h
      subst hp
      exact (elaws_numberOf_l3 @laws_numberOf_l3 n y3_0 y3_1 y3_2 y3_3 kk).symm
theorem nllaws_numberOf_l3 : ∀ n, NatLP (Plaws_numberOf_l3 @laws_numberOf_l3 n) := lelaws_numberOf_l3.nat (fun n => mkK_nat (claws_numberOf n)) fun n => mkL_nat (mkK_nat (claws_numberOf n)) (l := []) trivial
theorem inlaws_numberOf_l3 (n : Nat) (R : Type) : LoopsOk Try.prog (mkL (mkK []) [] R) (loopIn 3 (bodyOf Try.f33)) := .eq (l := []) (by kernel_rfl) trivial
theorem lklaws_numberOf_l3 (n : Nat) (R : Type) (L0 : LK R) (h0 : ∀ id, firstRegion (loopIn 3 (bodyOf Try.f33)) = some id → L0 id = Dlaws_numberOf_l3.oracle (mkK [] R) (Plaws_numberOf_l3 @laws_numberOf_l3 n R)) : LoopOk Try.prog L0 (loopIn 3 (bodyOf Try.f33)) :=
  lelaws_numberOf_l3.ok mixed ttok (fun n => mkK_nat (claws_numberOf n)) (fun n => mkK_ok (claws_numberOf n)) (fun n => inlaws_numberOf_l3 n R) (mkK_nat (claws_numberOf n)) h0
@[reducible] def Slaws_numberOf : PkS := ⟨[.one (.ro (.int .u8))], []⟩
@[reducible] def Tlaws_numberOf : PkS := ⟨[.one (.int .i64), .one (.dead)], []⟩
def Hlaws_numberOf : List Sh := [.one .any, .skip]
def Klaws_numberOf (g : ∀ {R : Type}, Nat → (List Int) → (Int → Option R) → Option R) (n : Nat) : KPs := fun R p k => match (PkS.un Slaws_numberOf p : Option ((List Int) × Unit)) with
  | some (x0, _) => g n x0 (fun r0 => k (PkS.pack Tlaws_numberOf (r0, ())))
  | none => none
theorem elaws_numberOf (laws_numberOf_l3 : ∀ {R : Type}, Nat → Int → (List Int) → Int → Int → (Int → Option R) → Option R) {R : Type} (n : Nat) (x0 : List Int) (k : Pk → Option R) : evF tt sig (mkK [] R) (mkL (mkK []) [(3, Dlaws_numberOf_l3, Plaws_numberOf_l3 @laws_numberOf_l3 n)] R) Try.f33 Hlaws_numberOf (PkS.pack Slaws_numberOf (x0, ())) k = (fun (k : Int → Option R) => (laws_numberOf_l3 n 0 x0 (x0.length : Int) 0 (fun r1 => k r1))) (fun r0 => k (PkS.pack Tlaws_numberOf (r0, ()))) := by kernel_rfl
theorem oklaws_numberOf (n : Nat) : FnOk Try.prog 33 (Klaws_numberOf @laws_numberOf n) := by
  refine fn_ok (sig := sig) mixed ttok (mkK_nat (claws_numberOf n)) (mkK_ok (claws_numberOf n)) (mkL_nat (mkK_nat (claws_numberOf n)) (l := [(3, Dlaws_numberOf_l3, Plaws_numberOf_l3 @laws_numberOf_l3 n)]) ⟨nllaws_numberOf_l3 n, trivial⟩) (fn := Try.f33) (c := bodyOf Try.f33) (by kernel_rfl) (by kernel_rfl) (by kernel_rfl) (.eq (l := [.lo (loopIn 3 (bodyOf Try.f33))]) (by kernel_rfl) ⟨(lklaws_numberOf_l3 n _ _ (at_id (i := 3) (by kernel_rfl) rfl)), trivial⟩) (shs := Hlaws_numberOf) (S := Slaws_numberOf) (h1 := by kernel_rfl) fun R p k => ?_
  unfold Klaws_numberOf
  cases h : (PkS.un Slaws_numberOf p) with
  | none => rfl
  | some d =>
    obtain ⟨x0, u⟩ := (d : (List Int) × Unit)
    have hp := PkS.un_pack h
    subst hp
    exact (elaws_numberOf @laws_numberOf_l3 n x0 k).symm

/-! ### loop.example/g00269/impl.Restrict -/
theorem cimpl_Restrict (n : Nat) : AllOk Try.prog [(42, Kimpl_truthOf @impl_truthOf n), (45, Kimpl_in @impl_in n), (55, Kimpl_truth_with @impl_truth_with n), (49, Kimpl_diagramOf @impl_diagramOf n)] := ⟨okimpl_truthOf n, ⟨okimpl_in n, ⟨okimpl_truth_with n, ⟨okimpl_diagramOf n, trivial⟩⟩⟩⟩
@[reducible] def Simpl_Restrict : PkS := ⟨[.agg [.ro (.pr (.int .i64) (.pr (.int .i64) (.int .i64))), .int .i64], .one (.int .i64), .one (.bool)], []⟩
@[reducible] def Timpl_Restrict : PkS := ⟨[.tup [(true, [.whole (300000, 0), .int .i64]), (false, [.bool])], .one (.dead), .one (.dead), .one (.dead)], [((300000, 0), .arr (.pr (.int .i64) (.pr (.int .i64) (.int .i64))))]⟩
def Himpl_Restrict : List Sh := [.tup [(true, [(.own (.pr (.int .i64) (.pr (.int .i64) (.int .i64)))), .any]), (false, [.any])], .skip, .skip, .skip]
def Kimpl_Restrict (g : ∀ {R : Type}, Nat → (List (Int × Int × Int)) → Int → Int → Bool → (Int → Bool → (List (Int × Int × Int)) → Option R) → Option R) (n : Nat) : KPs := fun R p k => match (PkS.un Simpl_Restrict p : Option ((List (Int × Int × Int)) × Int × Int × Bool × Unit)) with
  | some (x0, x1, x2, x3, _) => g n x0 x1 x2 x3 (fun r0 r1 r2 => k (PkS.pack Timpl_Restrict (r0, r1, r2, ())))
  | none => none
theorem eimpl_Restrict (impl_truthOf : ∀ {R : Type}, Nat → (List (Int × Int × Int)) → Int → (Int → Bool → Option R) → Option R) (impl_in : ∀ {R : Type}, Nat → Int → Int → Int → (Bool → Option R) → Option R) (impl_truth_with : ∀ {R : Type}, Nat → Int → Int → Bool → (Int → Option R) → Option R) (impl_diagramOf : ∀ {R : Type}, Nat → Int → (Int → Bool → (List (Int × Int × Int)) → Option R) → Option R) {R : Type} (n : Nat) (x0 : List (Int × Int × Int)) (x1 : Int) (x2 : Int) (x3 : Bool) (k : Pk → Option R) : evF tt sig (mkK [(42, Kimpl_truthOf @impl_truthOf n), (45, Kimpl_in @impl_in n), (55, Kimpl_truth_with @impl_truth_with n), (49, Kimpl_diagramOf @impl_diagramOf n)] R) (mkL (mkK [(42, Kimpl_truthOf @impl_truthOf n), (45, Kimpl_in @impl_in n), (55, Kimpl_truth_with @impl_truth_with n), (49, Kimpl_diagramOf @impl_diagramOf n)]) [] R) Try.f28 Himpl_Restrict (PkS.pack Simpl_Restrict (x0, x1, x2, x3, ())) k = (fun (k : Int → Bool → (List (Int × Int × Int)) → Option R) => (impl_truthOf n x0 x1 fun r1 r2 => (bif (!r2) then k 0 false ([] : List (Int × Int × Int)) else (impl_in n x2 0 5 fun r3 => (bif (!r3) then k 0 false ([] : List (Int × Int × Int)) else (impl_truth_with n r1 x2 x3 fun r4 => (impl_diagramOf n r4 fun r5 r6 r7 => k r5 r6 r7))))))) (fun r0 r1 r2 => k (PkS.pack Timpl_Restrict (r0, r1, r2, ()))) := by kernel_rfl
theorem okimpl_Restrict (n : Nat) : FnOk Try.prog 28 (Kimpl_Restrict @impl_Restrict n) := by
  refine fn_ok (sig := sig) mixed ttok (mkK_nat (cimpl_Restrict n)) (mkK_ok (cimpl_Restrict n)) (mkL_nat (mkK_nat (cimpl_Restrict n)) (l := []) trivial) (fn := Try.f28) (c := bodyOf Try.f28) (by kernel_rfl) (by kernel_rfl) (by kernel_rfl) (.eq (l := []) (by kernel_rfl) trivial) (shs := Himpl_Restrict) (S := Simpl_Restrict) (h1 := by kernel_rfl) fun R p k => ?_
  unfold Kimpl_Restrict
  cases h : (PkS.un Simpl_Restrict p) with
  | none => rfl
  | some d =>
    obtain ⟨x0, x1, x2, x3, u⟩ := (d : (List (Int × Int × Int)) × Int × Int × Bool × Unit)
    have hp := PkS.un_pack h
    subst hp
    exact (eimpl_Restrict @impl_truthOf @impl_in @impl_truth_with @impl_diagramOf n x0 x1 x2 x3 k).symm

/-! ### loop.example/g00269/impl.Decide -/
theorem cimpl_Decide (n : Nat) : AllOk Try.prog [(42, Kimpl_truthOf @impl_truthOf n), (45, Kimpl_in @impl_in n)] := ⟨okimpl_truthOf n, ⟨okimpl_in n, trivial⟩⟩
@[reducible] def Simpl_Decide : PkS := ⟨[.agg [.ro (.pr (.int .i64) (.pr (.int .i64) (.int .i64))), .int .i64], .one (.int .i64)], []⟩
@[reducible] def Timpl_Decide : PkS := ⟨[.tup [(false, [.bool]), (false, [.bool])], .one (.dead), .one (.dead)], []⟩
def Himpl_Decide : List Sh := [.tup [(false, [.any]), (false, [.any])], .skip, .skip]
def Kimpl_Decide (g : ∀ {R : Type}, Nat → (List (Int × Int × Int)) → Int → Int → (Bool → Bool → Option R) → Option R) (n : Nat) : KPs := fun R p k => match (PkS.un Simpl_Decide p : Option ((List (Int × Int × Int)) × Int × Int × Unit)) with
  | some (x0, x1, x2, _) => g n x0 x1 x2 (fun r0 r1 => k (PkS.pack Timpl_Decide (r0, r1, ())))
  | none => none
theorem eimpl_Decide (impl_truthOf : ∀ {R : Type}, Nat → (List (Int × Int × Int)) → Int → (Int → Bool → Option R) → Option R) (impl_in : ∀ {R : Type}, Nat → Int → Int → Int → (Bool → Option R) → Option R) {R : Type} (n : Nat) (x0 : List (Int × Int × Int)) (x1 : Int) (x2 : Int) (k : Pk → Option R) : evF tt sig (mkK [(42, Kimpl_truthOf @impl_truthOf n), (45, Kimpl_in @impl_in n)] R) (mkL (mkK [(42, Kimpl_truthOf @impl_truthOf n), (45, Kimpl_in @impl_in n)]) [] R) Try.f18 Himpl_Decide (PkS.pack Simpl_Decide (x0, x1, x2, ())) k = (fun (k : Bool → Bool → Option R) => (impl_truthOf n x0 x1 fun r1 r2 => (bif (!r2) then k false false else (impl_in n x2 0 63 fun r3 => (bif (!r3) then k false false else (bif decide (0 ≤ x2) then k ((IntKind.wrap .u64 (Int.ofNat (BitVec.toNat (BitVec.ofInt (IntKind.bits .u64) (Int.fdiv r1 (2 ^ (min (Int.toNat x2) (IntKind.bits .u64)))) &&& BitVec.ofInt (IntKind.bits .u64) 1)))) == 1) true else none)))))) (fun r0 r1 => k (PkS.pack Timpl_Decide (r0, r1, ()))) := by kernel_rfl
theorem okimpl_Decide (n : Nat) : FnOk Try.prog 18 (Kimpl_Decide @impl_Decide n) := by
  refine fn_ok (sig := sig) mixed ttok (mkK_nat (cimpl_Decide n)) (mkK_ok (cimpl_Decide n)) (mkL_nat (mkK_nat (cimpl_Decide n)) (l := []) trivial) (fn := Try.f18) (c := bodyOf Try.f18) (by kernel_rfl) (by kernel_rfl) (by kernel_rfl) (.eq (l := []) (by kernel_rfl) trivial) (shs := Himpl_Decide) (S := Simpl_Decide) (h1 := by kernel_rfl) fun R p k => ?_
  unfold Kimpl_Decide
  cases h : (PkS.un Simpl_Decide p) with
  | none => rfl
  | some d =>
    obtain ⟨x0, x1, x2, u⟩ := (d : (List (Int × Int × Int)) × Int × Int × Unit)
    have hp := PkS.un_pack h
    subst hp
    exact (eimpl_Decide @impl_truthOf @impl_in n x0 x1 x2 k).symm

/-! ### loop.example/g00269/laws.FnDiagrams -/
theorem claws_FnDiagrams (n : Nat) : AllOk Try.prog [(31, Kspec_DrawBothOf @spec_DrawBothOf n), (30, Kimpl_BothOf @impl_BothOf n), (29, Kspec_BothOf @spec_BothOf n), (32, Klaws_sameDiagrams @laws_sameDiagrams n), (15, Kimpl_GoodDiagram @impl_GoodDiagram n), (13, Kspec_GoodDiagram @spec_GoodDiagram n), (26, Kimpl_NotOf @impl_NotOf n), (33, Klaws_numberOf @laws_numberOf n), (28, Kimpl_Restrict @impl_Restrict n), (18, Kimpl_Decide @impl_Decide n)] := ⟨okspec_DrawBothOf n, ⟨okimpl_BothOf n, ⟨okspec_BothOf n, ⟨oklaws_sameDiagrams n, ⟨okimpl_GoodDiagram n, ⟨okspec_GoodDiagram n, ⟨okimpl_NotOf n, ⟨oklaws_numberOf n, ⟨okimpl_Restrict n, ⟨okimpl_Decide n, trivial⟩⟩⟩⟩⟩⟩⟩⟩⟩⟩
@[reducible] def Slaws_FnDiagrams_l18 : PkS := ⟨[.one (.box (100000, 1) 0), .one (.box (100000, 3) 0), .one (.box (100000, 5) 0), .one (.box (100000, 7) 0), .one (.int .i64), .one (.box (100000, 9) 0), .one (.box (100000, 11) 0), .one (.int .i64), .one (.dead), .one (.dead)], [((100000, 0), .arr (.pr (.int .i64) (.pr (.int .i64) (.int .i64)))), ((100000, 1), .box [.whole (100000, 0), .int .i64]), ((100000, 2), .arr (.pr (.int .i64) (.pr (.int .i64) (.int .i64)))), ((100000, 3), .box [.whole (100000, 2), .int .i64]), ((100000, 4), .arr (.pr (.int .i64) (.pr (.int .i64) (.int .i64)))), ((100000, 5), .box [.whole (100000, 4), .int .i64]), ((100000, 6), .arr (.pr (.int .i64) (.pr (.int .i64) (.int .i64)))), ((100000, 7), .box [.whole (100000, 6), .int .i64]), ((100000, 8), .arr (.pr (.int .i64) (.pr (.int .i64) (.int .i64)))), ((100000, 9), .box [.whole (100000, 8), .int .i64]), ((100000, 10), .arr (.pr (.int .i64) (.pr (.int .i64) (.int .i64)))), ((100000, 11), .box [.whole (100000, 10), .int .i64])]⟩
@[reducible] def Tlaws_FnDiagrams_l18_0 : PkS := ⟨[.one (.bool), .one (.dead), .one (.dead)], []⟩
@[reducible] def Tlaws_FnDiagrams_l18_1 : PkS := ⟨[.one (.box (100000, 1) 0), .one (.box (100000, 3) 0), .one (.dead), .one (.dead)], [((100000, 0), .arr (.pr (.int .i64) (.pr (.int .i64) (.int .i64)))), ((100000, 1), .box [.whole (100000, 0), .int .i64]), ((100000, 2), .arr (.pr (.int .i64) (.pr (.int .i64) (.int .i64)))), ((100000, 3), .box [.whole (100000, 2), .int .i64])]⟩
def Dlaws_FnDiagrams_l18 : LoopD := ⟨211, [5, 6, 7, 11, 15, 16, 18, 20], [.box [(.own (.pr (.int .i64) (.pr (.int .i64) (.int .i64)))), .any], .box [(.own (.pr (.int .i64) (.pr (.int .i64) (.int .i64)))), .any], .box [(.own (.pr (.int .i64) (.pr (.int .i64) (.int .i64)))), .any], .box [(.own (.pr (.int .i64) (.pr (.int .i64) (.int .i64)))), .any], .one .any, .box [(.own (.pr (.int .i64) (.pr (.int .i64) (.int .i64)))), .any], .box [(.own (.pr (.int .i64) (.pr (.int .i64) (.int .i64)))), .any], .one .any, .skip, .skip], fun x => match x with
  | .ret => some ([4], [.one .any, .skip, .skip])
  | .exit 0 => some ([5, 11], [.box [(.own (.pr (.int .i64) (.pr (.int .i64) (.int .i64)))), .any], .box [(.own (.pr (.int .i64) (.pr (.int .i64) (.int .i64)))), .any], .skip, .skip])
  | _ => none⟩
def Plaws_FnDiagrams_l18 (g : ∀ {R : Type}, Nat → Int → Int → (List (Int × Int × Int)) → Int → (List (Int × Int × Int)) → Int → (List (Int × Int × Int)) → Int → (List (Int × Int × Int)) → Int → (List (Int × Int × Int)) → Int → (List (Int × Int × Int)) → Int → (Bool → Option R) → ((List (Int × Int × Int)) → Int → (List (Int × Int × Int)) → Int → Option R) → Option R) (n : Nat) : LPs := fun R q kk => match (PkS.un Slaws_FnDiagrams_l18 q : Option (Int × Int × (List (Int × Int × Int)) × Int × (List (Int × Int × Int)) × Int × (List (Int × Int × Int)) × Int × (List (Int × Int × Int)) × Int × (List (Int × Int × Int)) × Int × (List (Int × Int × Int)) × Int × Unit)) with
  | some (y18_0, y18_1, y18_2, y18_3, y18_4, y18_5, y18_6, y18_7, y18_8, y18_9, y18_10, y18_11, y18_12, y18_13, _) => g n y18_0 y18_1 y18_2 y18_3 y18_4 y18_5 y18_6 y18_7 y18_8 y18_9 y18_10 y18_11 y18_12 y18_13 (fun r0 => kk .ret (PkS.pack Tlaws_FnDiagrams_l18_0 (r0, ()))) (fun r0 r1 r2 r3 => kk (.exit 0) (PkS.pack Tlaws_FnDiagrams_l18_1 (r0, r1, r2, r3, ())))
  | none => none
theorem elaws_FnDiagrams_l18 (spec_DrawBothOf : ∀ {R : Type}, Nat → (List Int) → (Int → Int → (List (Int × Int × Int)) → (List (Int × Int × Int)) → Option R) → Option R) (impl_BothOf : ∀ {R : Type}, Nat → (List (Int × Int × Int)) → Int → (List (Int × Int × Int)) → Int → (Int → Bool → (List (Int × Int × Int)) → Option R) → Option R) (spec_BothOf : ∀ {R : Type}, Nat → (List (Int × Int × Int)) → Int → (List (Int × Int × Int)) → Int → (Int → Bool → (List (Int × Int × Int)) → Option R) → Option R) (laws_sameDiagrams : ∀ {R : Type}, Nat → (List (Int × Int × Int)) → Int → (List (Int × Int × Int)) → Int → (Bool → Option R) → Option R) (impl_GoodDiagram : ∀ {R : Type}, Nat → (List (Int × Int × Int)) → Int → (Bool → Option R) → Option R) (spec_GoodDiagram : ∀ {R : Type}, Nat → (List (Int × Int × Int)) → Int → (Bool → Option R) → Option R) (impl_NotOf : ∀ {R : Type}, Nat → (List (Int × Int × Int)) → Int → (Int → Bool → (List (Int × Int × Int)) → Option R) → Option R) (laws_numberOf : ∀ {R : Type}, Nat → (List Int) → (Int → Option R) → Option R) (impl_Restrict : ∀ {R : Type}, Nat → (List (Int × Int × Int)) → Int → Int → Bool → (Int → Bool → (List (Int × Int × Int)) → Option R) → Option R) (impl_Decide : ∀ {R : Type}, Nat → (List (Int × Int × Int)) → Int → Int → (Bool → Bool → Option R) → Option R) (laws_FnDiagrams_l18 : ∀ {R : Type}, Nat → Int → Int → (List (Int × Int × Int)) → Int → (List (Int × Int × Int)) → Int → (List (Int × Int × Int)) → Int → (List (Int × Int × Int)) → Int → (List (Int × Int × Int)) → Int → (List (Int × Int × Int)) → Int → (Bool → Option R) → ((List (Int × Int × Int)) → Int → (List (Int × Int × Int)) → Int → Option R) → Option R) {R : Type} (n : Nat) (y18_0 : Int) (y18_1 : Int) (y18_2 : List (Int × Int × Int)) (y18_3 : Int) (y18_4 : List (Int × Int × Int)) (y18_5 : Int) (y18_6 : List (Int × Int × Int)) (y18_7 : Int) (y18_8 : List (Int × Int × Int)) (y18_9 : Int) (y18_10 : List (Int × Int × Int)) (y18_11 : Int) (y18_12 : List (Int × Int × Int)) (y18_13 : Int) (kk : Ex → Pk → Option R) : Dlaws_FnDiagrams_l18.step tt sig (mkK [(31, Kspec_DrawBothOf @spec_DrawBothOf n), (30, Kimpl_BothOf @impl_BothOf n), (29, Kspec_BothOf @spec_BothOf n), (32, Klaws_sameDiagrams @laws_sameDiagrams n), (15, Kimpl_GoodDiagram @impl_GoodDiagram n), (13, Kspec_GoodDiagram @spec_GoodDiagram n), (26, Kimpl_NotOf @impl_NotOf n), (33, Klaws_numberOf @laws_numberOf n), (28, Kimpl_Restrict @impl_Restrict n), (18, Kimpl_Decide @impl_Decide n)] R) (mkL (mkK [(31, Kspec_DrawBothOf @spec_DrawBothOf n), (30, Kimpl_BothOf @impl_BothOf n), (29, Kspec_BothOf @spec_BothOf n), (32, Klaws_sameDiagrams @laws_sameDiagrams n), (15, Kimpl_GoodDiagram @impl_GoodDiagram n), (13, Kspec_GoodDiagram @spec_GoodDiagram n), (26, Kimpl_NotOf @impl_NotOf n), (33, Klaws_numberOf @laws_numberOf n), (28, Kimpl_Restrict @impl_Restrict n), (18, Kimpl_Decide @impl_Decide n)]) [] R) (loopIn 18 (bodyOf Try.f10)) (fun q' => Plaws_FnDiagrams_l18 @laws_FnDiagrams_l18 n R q' kk) (PkS.pack Slaws_FnDiagrams_l18 (y18_0, y18_1, y18_2, y18_3, y18_4, y18_5, y18_6, y18_7, y18_8, y18_9, y18_10, y18_11, y18_12, y18_13, ())) kk = (fun (kret : Bool → Option R) (kexit0 : (List (Int × Int × Int)) → Int → (List (Int × Int × Int)) → Int → Option R) => (bif (decide (y18_1 < 64)) then (impl_Decide n y18_2 y18_3 y18_1 fun r28 r29 => (impl_Decide n y18_4 y18_5 y18_1 fun r30 r31 => (impl_Decide n y18_6 y18_7 y18_1 fun r32 r33 => (impl_Decide n y18_8 y18_9 y18_1 fun r34 r35 => (bif decide (0 ≤ (IntKind.wrap .u64 (y18_0))) then (bif ((IntKind.wrap .i64 (Int.ofNat (BitVec.toNat (BitVec.ofInt (IntKind.bits .i64) (Int.fdiv y18_1 (2 ^ (min (Int.toNat (IntKind.wrap .u64 (y18_0))) (IntKind.bits .i64)))) &&& BitVec.ofInt (IntKind.bits .i64) 1)))) == 1) then (impl_Decide n y18_12 y18_13 y18_1 fun r36 r37 => (bif (!r33) then kret false else (bif (!r35) then kret false else (bif (!r37) then kret false else (bif r28 then (bif (!(r32 == r30)) then kret false else (bif (r34 == r28) then kret false else (bif (!(r36 == r28)) then kret false else laws_FnDiagrams_l18 n y18_0 (IntKind.wrap .i64 (y18_1 + 1)) y18_2 y18_3 y18_4 y18_5 y18_6 y18_7 y18_8 y18_9 y18_10 y18_11 y18_12 y18_13 kret kexit0))) else (bif (!(r32 == false)) then kret false else (bif (r34 == r28) then kret false else (bif (!(r36 == r28)) then kret false else laws_FnDiagrams_l18 n y18_0 (IntKind.wrap .i64 (y18_1 + 1)) y18_2 y18_3 y18_4 y18_5 y18_6 y18_7 y18_8 y18_9 y18_10 y18_11 y18_12 y18_13 kret kexit0)))))))) else (impl_Decide n y18_10 y18_11 y18_1 fun r38 r39 => (bif (!r33) then kret false else (bif (!r35) then kret false else (bif (!r39) then kret false else (bif r28 then (bif (!(r32 == r30)) then kret false else (bif (r34 == r28) then kret false else (bif (!(r38 == r28)) then kret false else laws_FnDiagrams_l18 n y18_0 (IntKind.wrap .i64 (y18_1 + 1)) y18_2 y18_3 y18_4 y18_5 y18_6 y18_7 y18_8 y18_9 y18_10 y18_11 y18_12 y18_13 kret kexit0))) else (bif (!(r32 == false)) then kret false else (bif (r34 == r28) then kret false else (bif (!(r38 == r28)) then kret false else laws_FnDiagrams_l18 n y18_0 (IntKind.wrap .i64 (y18_1 + 1)) y18_2 y18_3 y18_4 y18_5 y18_6 y18_7 y18_8 y18_9 y18_10 y18_11 y18_12 y18_13 kret kexit0))))))))) else none))))) else kexit0 y18_2 y18_3 y18_8 y18_9)) (fun r0 => kk .ret (PkS.pack Tlaws_FnDiagrams_l18_0 (r0, ()))) (fun r0 r1 r2 r3 => kk (.exit 0) (PkS.pack Tlaws_FnDiagrams_l18_1 (r0, r1, r2, r3, ()))) := by kernel_rfl
theorem lelaws_FnDiagrams_l18 : LoopEq tt sig (fun n => mkK [(31, Kspec_DrawBothOf @spec_DrawBothOf n), (30, Kimpl_BothOf @impl_BothOf n), (29, Kspec_BothOf @spec_BothOf n), (32, Klaws_sameDiagrams @laws_sameDiagrams n), (15, Kimpl_GoodDiagram @impl_GoodDiagram n), (13, Kspec_GoodDiagram @spec_GoodDiagram n), (26, Kimpl_NotOf @impl_NotOf n), (33, Klaws_numberOf @laws_numberOf n), (28, Kimpl_Restrict @impl_Restrict n), (18, Kimpl_Decide @impl_Decide n)]) (fun n => mkL (mkK [(31, Kspec_DrawBothOf @spec_DrawBothOf n), (30, Kimpl_BothOf @impl_BothOf n), (29, Kspec_BothOf @spec_BothOf n), (32, Klaws_sameDiagrams @laws_sameDiagrams n), (15, Kimpl_GoodDiagram @impl_GoodDiagram n), (13, Kspec_GoodDiagram @spec_GoodDiagram n), (26, Kimpl_NotOf @impl_NotOf n), (33, Klaws_numberOf @laws_numberOf n), (28, Kimpl_Restrict @impl_Restrict n), (18, Kimpl_Decide @impl_Decide n)]) []) Dlaws_FnDiagrams_l18 Slaws_FnDiagrams_l18 (loopIn 18 (bodyOf Try.f10)) (Plaws_FnDiagrams_l18 @laws_FnDiagrams_l18) where
  zero R q kk := by unfold Plaws_FnDiagrams_l18; cases (PkS.un Slaws_FnDiagrams_l18 q) <;> rfl
  succ n R q kk := by
    unfold Plaws_FnDiagrams_l18
    cases h : (PkS.un Slaws_FnDiagrams_l18 q) with
    | none => rfl
    | some d =>
      obtain ⟨y18_0, y18_1, y18_2, y18_3, y18_4, y18_5, y18_6, y18_7, y18_8, y18_9, y18_10, y18_11, y18_12, y18_13, u⟩ := (d : Int × Int × (List (Int × Int × Int)) × Int × (List (Int × Int × Int)) × Int × (List (Int × Int × Int)) × Int × (List (Int × Int × Int)) × Int × (List (Int × Int × Int)) × Int × (List (Int × Int × Int)) × Int × Unit)
      have hp := PkS.un_pack h
      subst hp
      exact (elaws_FnDiagrams_l18 @spec_DrawBothOf @impl_BothOf @spec_BothOf @laws_sameDiagrams @impl_GoodDiagram @spec_GoodDiagram @impl_NotOf @laws_numberOf @impl_Restrict @impl_Decide @laws_FnDiagrams_l18 n y18_0 y18_1 y18_2 y18_3 y18_4 y18_5 y18_6 y18_7 y18_8 y18_9 y18_10 y18_11 y18_12 y18_13 kk).symm
theorem nllaws_FnDiagrams_l18 : ∀ n, NatLP (Plaws_FnDiagrams_l18 @laws_FnDiagrams_l18 n) := lelaws_FnDiagrams_l18.nat (fun n => mkK_nat (claws_FnDiagrams n)) fun n => mkL_nat (mkK_nat (claws_FnDiagrams n)) (l := []) trivial
theorem inlaws_FnDiagrams_l18 (n : Nat) (R : Type) : LoopsOk Try.prog (mkL (mkK [(31, Kspec_DrawBothOf @spec_DrawBothOf n), (30, Kimpl_BothOf @impl_BothOf n), (29, Kspec_BothOf @spec_BothOf n), (32, Klaws_sameDiagrams @laws_sameDiagrams n), (15, Kimpl_GoodDiagram @impl_GoodDiagram n), (13, Kspec_GoodDiagram @spec_GoodDiagram n), (26, Kimpl_NotOf @impl_NotOf n), (33, Klaws_numberOf @laws_numberOf n), (28, Kimpl_Restrict @impl_Restrict n), (18, Kimpl_Decide @impl_Decide n)]) [] R) (loopIn 18 (bodyOf Try.f10)) := .eq (l := []) (by kernel_rfl) trivial
theorem lklaws_FnDiagrams_l18 (n : Nat) (R : Type) (L0 : LK R) (h0 : ∀ id, firstRegion (loopIn 18 (bodyOf Try.f10)) = some id → L0 id = Dlaws_FnDiagrams_l18.oracle (mkK [(31, Kspec_DrawBothOf @spec_DrawBothOf n), (30, Kimpl_BothOf @impl_BothOf n), (29, Kspec_BothOf @spec_BothOf n), (32, Klaws_sameDiagrams @laws_sameDiagrams n), (15, Kimpl_GoodDiagram @impl_GoodDiagram n), (13, Kspec_GoodDiagram @spec_GoodDiagram n), (26, Kimpl_NotOf @impl_NotOf n), (33, Klaws_numberOf @laws_numberOf n), (28, Kimpl_Restrict @impl_Restrict n), (18, Kimpl_Decide @impl_Decide n)] R) (Plaws_FnDiagrams_l18 @laws_FnDiagrams_l18 n R)) : LoopOk Try.prog L0 (loopIn 18 (bodyOf Try.f10)) :=
  lelaws_FnDiagrams_l18.ok mixed ttok (fun n => mkK_nat (claws_FnDiagrams n)) (fun n => mkK_ok (claws_FnDiagrams n)) (fun n => inlaws_FnDiagrams_l18 n R) (mkK_nat (claws_FnDiagrams n)) h0
@[reducible] def Slaws_FnDiagrams : PkS := ⟨[.one (.ro (.int .u8)), .one (.ro (.int .u8))], []⟩
@[reducible] def Tlaws_FnDiagrams : PkS := ⟨[.one (.bool), .one (.dead), .one (.dead)], []⟩
def Hlaws_FnDiagrams : List Sh := [.one .any, .skip, .skip]
def Klaws_FnDiagrams (g : ∀ {R : Type}, Nat → (List Int) → (List Int) → (Bool → Option R) → Option R) (n : Nat) : KPs := fun R p k => match (PkS.un Slaws_FnDiagrams p : Option ((List Int) × (List Int) × Unit)) with
  | some (x0, x1, _) => g n x0 x1 (fun r0 => k (PkS.pack Tlaws_FnDiagrams (r0, ())))
  | none => none
theorem elaws_FnDiagrams (spec_DrawBothOf : ∀ {R : Type}, Nat → (List Int) → (Int → Int → (List (Int × Int × Int)) → (List (Int × Int × Int)) → Option R) → Option R) (impl_BothOf : ∀ {R : Type}, Nat → (List (Int × Int × Int)) → Int → (List (Int × Int × Int)) → Int → (Int → Bool → (List (Int × Int × Int)) → Option R) → Option R) (spec_BothOf : ∀ {R : Type}, Nat → (List (Int × Int × Int)) → Int → (List (Int × Int × Int)) → Int → (Int → Bool → (List (Int × Int × Int)) → Option R) → Option R) (laws_sameDiagrams : ∀ {R : Type}, Nat → (List (Int × Int × Int)) → Int → (List (Int × Int × Int)) → Int → (Bool → Option R) → Option R) (impl_GoodDiagram : ∀ {R : Type}, Nat → (List (Int × Int × Int)) → Int → (Bool → Option R) → Option R) (spec_GoodDiagram : ∀ {R : Type}, Nat → (List (Int × Int × Int)) → Int → (Bool → Option R) → Option R) (impl_NotOf : ∀ {R : Type}, Nat → (List (Int × Int × Int)) → Int → (Int → Bool → (List (Int × Int × Int)) → Option R) → Option R) (laws_numberOf : ∀ {R : Type}, Nat → (List Int) → (Int → Option R) → Option R) (impl_Restrict : ∀ {R : Type}, Nat → (List (Int × Int × Int)) → Int → Int → Bool → (Int → Bool → (List (Int × Int × Int)) → Option R) → Option R) (impl_Decide : ∀ {R : Type}, Nat → (List (Int × Int × Int)) → Int → Int → (Bool → Bool → Option R) → Option R) (laws_FnDiagrams_l18 : ∀ {R : Type}, Nat → Int → Int → (List (Int × Int × Int)) → Int → (List (Int × Int × Int)) → Int → (List (Int × Int × Int)) → Int → (List (Int × Int × Int)) → Int → (List (Int × Int × Int)) → Int → (List (Int × Int × Int)) → Int → (Bool → Option R) → ((List (Int × Int × Int)) → Int → (List (Int × Int × Int)) → Int → Option R) → Option R) {R : Type} (n : Nat) (x0 : List Int) (x1 : List Int) (k : Pk → Option R) : evF tt sig (mkK [(31, Kspec_DrawBothOf @spec_DrawBothOf n), (30, Kimpl_BothOf @impl_BothOf n), (29, Kspec_BothOf @spec_BothOf n), (32, Klaws_sameDiagrams @laws_sameDiagrams n), (15, Kimpl_GoodDiagram @impl_GoodDiagram n), (13, Kspec_GoodDiagram @spec_GoodDiagram n), (26, Kimpl_NotOf @impl_NotOf n), (33, Klaws_numberOf @laws_numberOf n), (28, Kimpl_Restrict @impl_Restrict n), (18, Kimpl_Decide @impl_Decide n)] R) (mkL (mkK [(31, Kspec_DrawBothOf @spec_DrawBothOf n), (30, Kimpl_BothOf @impl_BothOf n), (29, Kspec_BothOf @spec_BothOf n), (32, Klaws_sameDiagrams @laws_sameDiagrams n), (15, Kimpl_GoodDiagram @impl_GoodDiagram n), (13, Kspec_GoodDiagram @spec_GoodDiagram n), (26, Kimpl_NotOf @impl_NotOf n), (33, Klaws_numberOf @laws_numberOf n), (28, Kimpl_Restrict @impl_Restrict n), (18, Kimpl_Decide @impl_Decide n)]) [(18, Dlaws_FnDiagrams_l18, Plaws_FnDiagrams_l18 @laws_FnDiagrams_l18 n)] R) Try.f10 Hlaws_FnDiagrams (PkS.pack Slaws_FnDiagrams (x0, x1, ())) k = (fun (k : Bool → Option R) => (bif (decide ((IntKind.wrap .i64 ((x0.length : Int) + (x1.length : Int))) > 1048576)) then k true else (spec_DrawBothOf n x0 fun r1 r2 r3 r4 => (impl_BothOf n r3 r1 r4 r2 fun r5 r6 r7 => (spec_BothOf n r3 r1 r4 r2 fun r8 r9 r10 => (bif (!(r6 == r9)) then k false else (laws_sameDiagrams n r7 r5 r10 r8 fun r11 => (bif (!r11) then k false else (impl_GoodDiagram n r3 r1 fun r12 => (spec_GoodDiagram n r3 r1 fun r13 => (bif (!(r12 == r13)) then k false else (bif (!r6) then (bif (r5 == 0) then k ((r7.length : Int) == 0) else k false) else (impl_NotOf n r3 r1 fun r14 r15 r16 => (impl_NotOf n r16 r14 fun r17 r18 r19 => (laws_numberOf n x1 fun r20 => (impl_Restrict n r3 r1 (Int.tmod r20 6) false fun r21 r22 r23 => (impl_Restrict n r3 r1 (Int.tmod r20 6) true fun r24 r25 r26 => (bif (!r15) then k false else (bif (!r18) then k false else (bif (!r22) then k false else (bif (!r25) then k false else (laws_sameDiagrams n r19 r17 r3 r1 fun r27 => (bif (!r27) then k false else (laws_FnDiagrams_l18 n (Int.tmod r20 6) 0 r3 r1 r4 r2 r7 r5 r16 r14 r23 r21 r26 r24 (fun r40 => k r40) (fun r41 r42 r43 r44 => (impl_BothOf n r41 r42 r43 r44 fun r45 r46 r47 => (bif r46 then k (r45 == (-2)) else k false))))))))))))))))))))))))))) (fun r0 => k (PkS.pack Tlaws_FnDiagrams (r0, ()))) := by kernel_rfl
theorem oklaws_FnDiagrams (n : Nat) : FnOk Try.prog 10 (Klaws_FnDiagrams @laws_FnDiagrams n) := by
  refine fn_ok (sig := sig) mixed ttok (mkK_nat (claws_FnDiagrams n)) (mkK_ok (claws_FnDiagrams n)) (mkL_nat (mkK_nat (claws_FnDiagrams n)) (l := [(18, Dlaws_FnDiagrams_l18, Plaws_FnDiagrams_l18 @laws_FnDiagrams_l18 n)]) ⟨nllaws_FnDiagrams_l18 n, trivial⟩) (fn := Try.f10) (c := bodyOf Try.f10) (by kernel_rfl) (by kernel_rfl) (by kernel_rfl) (.eq (l := [.lo (loopIn 18 (bodyOf Try.f10))]) (by kernel_rfl) ⟨(lklaws_FnDiagrams_l18 n _ _ (at_id (i := 18) (by kernel_rfl) rfl)), trivial⟩) (shs := Hlaws_FnDiagrams) (S := Slaws_FnDiagrams) (h1 := by kernel_rfl) fun R p k => ?_
  unfold Klaws_FnDiagrams
  cases h : (PkS.un Slaws_FnDiagrams p) with
  | none => rfl
  | some d =>
    obtain ⟨x0, x1, u⟩ := (d : (List Int) × (List Int) × Unit)
    have hp := PkS.un_pack h
    subst hp
    exact (elaws_FnDiagrams @spec_DrawBothOf @impl_BothOf @spec_BothOf @laws_sameDiagrams @impl_GoodDiagram @spec_GoodDiagram @impl_NotOf @laws_numberOf @impl_Restrict @impl_Decide @laws_FnDiagrams_l18 n x0 x1 k).symm
end Go.Am.G
