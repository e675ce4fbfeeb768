/- The code of the functions that the law reaches does what the plain functions say. -/
import Derived.Test.YtclmflfhhdcipaaF11
import Derived.Test.YtclmflfhhdcipaaAmC
import Derived.KernelRfl
import Derived.Test.YtclmflfhhdcipaaProg
set_option linter.unusedVariables false
set_option maxRecDepth 100000
namespace Go.Am.G
open Go Go.Am
open Go.Proofs
def tt : TT := [(3, ⟨1, false, (.int .i64), 0, [], [.int .i64 0], 8, true, false, [], none⟩), (4, ⟨1, false, .bool, 0, [], [.bool false], 1, true, false, [], none⟩), (5, ⟨1, false, (.int .u8), 0, [], [.int .u8 0], 1, true, false, [], none⟩), (9, ⟨1, false, .str, 0, [], [.str ByteArray.empty], 16, true, false, [], none⟩), (27, ⟨1, false, (.sl (.pr (.int .i64) (.pr (.int .i64) (.int .i64)))), 79, [], [.nil], 24, true, true, [], none⟩), (29, ⟨2, true, (.pr (.sl (.pr (.int .i64) (.pr (.int .i64) (.int .i64)))) (.int .i64)), 0, [(0, 1, false), (1, 1, false)], [.nil, .int .i64 0], 32, true, false, [], none⟩), (47, ⟨1, false, (.sl (.int .u8)), 5, [], [.nil], 24, true, true, [], none⟩), (51, ⟨1, false, (.int .u64), 0, [], [.int .u64 0], 8, true, false, [], none⟩), (57, ⟨1, false, (.int .u64), 0, [], [.int .u64 0], 8, true, false, [], none⟩), (61, ⟨1, false, (.int .u64), 0, [], [.int .u64 0], 8, true, false, [], none⟩), (76, ⟨3, true, (.pr (.sl (.int .u8)) (.pr (.int .i64) (.int .u64))), 0, [(0, 1, false), (1, 1, false), (2, 1, false)], [.nil, .int .i64 0, .int .u64 0], 40, true, false, [], none⟩), (79, ⟨3, true, (.pr (.int .i64) (.pr (.int .i64) (.int .i64))), 0, [(0, 1, false), (1, 1, false), (2, 1, false)], [.int .i64 0, .int .i64 0, .int .i64 0], 24, true, false, [(.int .i64), (.int .i64), (.int .i64)], none⟩), (82, ⟨1, false, (.sl (.int .u64)), 61, [], [.nil], 24, true, true, [], none⟩), (87, ⟨3, true, (.pr .str (.pr (.int .i64) .bool)), 0, [(0, 1, false), (1, 1, false), (2, 1, false)], [.str ByteArray.empty, .int .i64 0, .bool false], 32, true, false, [.str, (.int .i64), .bool], none⟩), (93, ⟨2, true, (.pr .str .bool), 0, [(0, 1, false), (1, 1, false)], [.str ByteArray.empty, .bool false], 24, true, false, [.str, .bool], none⟩), (96, ⟨1, false, .bool, 0, [], [.dead], 8, false, false, [], some (61, 3)⟩), (98, ⟨2, true, .bool, 0, [(0, 1, false), (1, 1, false)], [.nil, .dead], 32, false, false, [], none⟩), (111, ⟨1, false, (.sl .str), 9, [], [.nil], 24, true, true, [], none⟩)]
def sig : Sig := sigOf [(11, [.one (.ro (.int .u8)), .one (.ro (.int .u8))]), (15, [.agg [(.ro (.pr (.int .i64) (.pr (.int .i64) (.int .i64)))), .any]]), (18, [.agg [(.ro (.pr (.int .i64) (.pr (.int .i64) (.int .i64)))), .any], .one .any]), (19, [.one .any]), (20, [.one .any]), (24, [.agg [(.ro (.pr (.int .i64) (.pr (.int .i64) (.int .i64)))), .any]]), (32, [.agg [(.ro (.pr (.int .i64) (.pr (.int .i64) (.int .i64)))), .any], .agg [(.ro (.pr (.int .i64) (.pr (.int .i64) (.int .i64)))), .any]]), (34, [.one (.ro (.int .u8))]), (35, [.one (.ro (.int .u8))]), (36, [.one .any]), (37, [.one .any]), (38, [.one .any]), (42, [.agg [(.ro (.pr (.int .i64) (.pr (.int .i64) (.int .i64)))), .any]]), (45, [.one .any, .one .any, .one .any]), (46, [.one .any]), (47, [.one .any]), (48, [.one .any]), (49, [.one .any]), (52, [.one .any]), (54, [.one .any, .one .any, .one .any]), (55, [.one .any, .one .any, .one .any]), (57, [.one (.ro (.int .u8))]), (60, [.one .any, .one (.ro (.int .u64))]), (61, [.one .any]), (62, [.one (.ro (.pr (.int .i64) (.pr (.int .i64) (.int .i64)))), .one (.ro (.pr (.int .i64) (.pr (.int .i64) (.int .i64))))]), (64, [.box [.any, .any, .any]]), (65, [.one .any, .one .any, .one (.own (.pr (.int .i64) (.pr (.int .i64) (.int .i64))))]), (66, [.box [.any, .any]]), (67, [.box [(.own (.pr (.int .i64) (.pr (.int .i64) (.int .i64)))), .map], .one .any]), (68, [.one .any]), (69, [.box [(.ro (.int .u8)), .any, .any], .one .any]), (70, [.box [(.ro (.int .u8)), .any, .any], .one .any]), (71, [.box [(.ro (.int .u8)), .any, .any], .one .any]), (72, [.box [(.ro (.int .u8)), .any, .any], .one .any, .one .any]), (73, [.box [.any, .any, .any]]), (74, [.box [.any, .any, .any], .one .any]), (75, [.box [.any, .any]]), (76, [.one .any, .one .any]), (77, [.box [(.ro (.int .u8)), .any, .any], .one (.ro .str)]), (78, [.box [(.ro (.int .u8)), .any, .any]]), (79, [.one .any, .one .any]), (80, [.one .any, .one .any])]
theorem ttok : TTok Try.prog tt := .of_chk (by kernel_rfl)
theorem mixed : Try.prog.follows .mixedOrders = true := by kernel_rfl

/-! ### (*loop.example/g00269/spec.l1Cur).next -/
theorem cspec_l1Cur_next (n : Nat) : AllOk Try.prog [] := trivial
@[reducible] def Sspec_l1Cur_next : PkS := ⟨[.one (.box (200000, 0) 0)], [((200000, 0), .box [.ro (.int .u8), .int .i64, .int .u64])]⟩
@[reducible] def Tspec_l1Cur_next : PkS := ⟨[.one (.int .i64), .one (.box (300000, 0) 0)], [((300000, 0), .box [.ro (.int .u8), .int .i64, .int .u64])]⟩
def Hspec_l1Cur_next : List Sh := [.one .any, .box [(.ro (.int .u8)), .any, .any]]
def Kspec_l1Cur_next (g : ∀ {R : Type}, Nat → (List Int) → Int → Int → (Int → (List Int) → Int → Int → Option R) → Option R) (n : Nat) : KPs := fun R p k => match (PkS.un Sspec_l1Cur_next p : Option ((List Int) × Int × Int × Unit)) with
  | some (x0, x1, x2, _) => g n x0 x1 x2 (fun r0 r1 r2 r3 => k (PkS.pack Tspec_l1Cur_next (r0, r1, r2, r3, ())))
  | none => none
theorem espec_l1Cur_next  {R : Type} (n : Nat) (x0 : List Int) (x1 : Int) (x2 : Int) (k : Pk → Option R) : evF tt sig (mkK [] R) (mkL (mkK []) [] R) Try.f78 Hspec_l1Cur_next (PkS.pack Sspec_l1Cur_next (x0, x1, x2, ())) k = (fun (k : Int → (List Int) → Int → Int → Option R) => (bif (decide (x1 < (x0.length : Int))) then (bif decide (0 ≤ x1) then (bif decide (x1 < (x0.length : Int)) then (bif (decide ((IntKind.wrap .i64 (x1 + 1)) ≤ (x0.length : Int))) then k (IntKind.wrap .i64 ((x0.getD (Int.toNat x1) 0))) x0 (IntKind.wrap .i64 (x1 + 1)) (IntKind.wrap .u64 ((IntKind.wrap .u64 ((IntKind.wrap .u64 (x2 * 6364136223846793005)) + (IntKind.wrap .u64 ((IntKind.wrap .i64 ((x0.getD (Int.toNat x1) 0))))))) + 1442695040888963407)) else k (IntKind.wrap .i64 ((IntKind.wrap .u64 (Int.ofNat (BitVec.toNat (BitVec.ofInt (IntKind.bits .u64) (Int.fdiv (IntKind.wrap .u64 ((IntKind.wrap .u64 ((IntKind.wrap .u64 (x2 * 6364136223846793005)) + (IntKind.wrap .u64 ((IntKind.wrap .i64 ((x0.getD (Int.toNat x1) 0))))))) + 1442695040888963407)) (2 ^ (min (Int.toNat 40) (IntKind.bits .u64)))) &&& BitVec.ofInt (IntKind.bits .u64) 255)))))) x0 (IntKind.wrap .i64 (x1 + 1)) (IntKind.wrap .u64 ((IntKind.wrap .u64 ((IntKind.wrap .u64 (x2 * 6364136223846793005)) + (IntKind.wrap .u64 ((IntKind.wrap .i64 ((x0.getD (Int.toNat x1) 0))))))) + 1442695040888963407))) else none) else none) else (bif (decide ((IntKind.wrap .i64 (x1 + 1)) ≤ (x0.length : Int))) then k 0 x0 (IntKind.wrap .i64 (x1 + 1)) (IntKind.wrap .u64 ((IntKind.wrap .u64 ((IntKind.wrap .u64 (x2 * 6364136223846793005)) + 0)) + 1442695040888963407)) else k (IntKind.wrap .i64 ((IntKind.wrap .u64 (Int.ofNat (BitVec.toNat (BitVec.ofInt (IntKind.bits .u64) (Int.fdiv (IntKind.wrap .u64 ((IntKind.wrap .u64 ((IntKind.wrap .u64 (x2 * 6364136223846793005)) + 0)) + 1442695040888963407)) (2 ^ (min (Int.toNat 40) (IntKind.bits .u64)))) &&& BitVec.ofInt (IntKind.bits .u64) 255)))))) x0 (IntKind.wrap .i64 (x1 + 1)) (IntKind.wrap .u64 ((IntKind.wrap .u64 ((IntKind.wrap .u64 (x2 * 6364136223846793005)) + 0)) + 1442695040888963407))))) (fun r0 r1 r2 r3 => k (PkS.pack Tspec_l1Cur_next (r0, r1, r2, r3, ()))) := by kernel_rfl
theorem okspec_l1Cur_next (n : Nat) : FnOk Try.prog 78 (Kspec_l1Cur_next @spec_l1Cur_next n) := by
  refine fn_ok (sig := sig) mixed ttok (mkK_nat (cspec_l1Cur_next n)) (mkK_ok (cspec_l1Cur_next n)) (mkL_nat (mkK_nat (cspec_l1Cur_next n)) (l := []) trivial) (fn := Try.f78) (c := bodyOf Try.f78) (by kernel_rfl) (by kernel_rfl) (by kernel_rfl) (.eq (l := []) (by kernel_rfl) trivial) (shs := Hspec_l1Cur_next) (S := Sspec_l1Cur_next) (h1 := by kernel_rfl) fun R p k => ?_
  unfold Kspec_l1Cur_next
  cases h : (PkS.un Sspec_l1Cur_next p) with
  | none => rfl
  | some d =>
    obtain ⟨x0, x1, x2, u⟩ := (d : (List Int) × Int × Int × Unit)
    have hp := PkS.un_pack h
    subst hp
    exact (espec_l1Cur_next  n x0 x1 x2 k).symm

/-! ### (*loop.example/g00269/spec.l1Cur).pick -/
theorem cspec_l1Cur_pick (n : Nat) : AllOk Try.prog [(78, Kspec_l1Cur_next @spec_l1Cur_next n)] := ⟨okspec_l1Cur_next n, trivial⟩
@[reducible] def Sspec_l1Cur_pick : PkS := ⟨[.one (.box (200000, 0) 0), .one (.int .i64)], [((200000, 0), .box [.ro (.int .u8), .int .i64, .int .u64])]⟩
@[reducible] def Tspec_l1Cur_pick : PkS := ⟨[.one (.int .i64), .one (.box (300000, 0) 0), .one (.dead)], [((300000, 0), .box [.ro (.int .u8), .int .i64, .int .u64])]⟩
def Hspec_l1Cur_pick : List Sh := [.one .any, .box [(.ro (.int .u8)), .any, .any], .skip]
def Kspec_l1Cur_pick (g : ∀ {R : Type}, Nat → Int → (List Int) → Int → Int → (Int → (List Int) → Int → Int → Option R) → Option R) (n : Nat) : KPs := fun R p k => match (PkS.un Sspec_l1Cur_pick p : Option (Int × (List Int) × Int × Int × Unit)) with
  | some (x0, x1, x2, x3, _) => g n x0 x1 x2 x3 (fun r0 r1 r2 r3 => k (PkS.pack Tspec_l1Cur_pick (r0, r1, r2, r3, ())))
  | none => none
theorem espec_l1Cur_pick (spec_l1Cur_next : ∀ {R : Type}, Nat → (List Int) → Int → Int → (Int → (List Int) → Int → Int → Option R) → Option R) {R : Type} (n : Nat) (x0 : Int) (x1 : List Int) (x2 : Int) (x3 : Int) (k : Pk → Option R) : evF tt sig (mkK [(78, Kspec_l1Cur_next @spec_l1Cur_next n)] R) (mkL (mkK [(78, Kspec_l1Cur_next @spec_l1Cur_next n)]) [] R) Try.f70 Hspec_l1Cur_pick (PkS.pack Sspec_l1Cur_pick (x0, x1, x2, x3, ())) k = (fun (k : Int → (List Int) → Int → Int → Option R) => (bif (decide (x0 ≤ 1)) then k 0 x1 x2 x3 else (spec_l1Cur_next n x1 x2 x3 fun r1 r2 r3 r4 => (bif (decide (x0 > 200)) then (spec_l1Cur_next n r2 r3 r4 fun r5 r6 r7 r8 => (bif decide (x0 ≠ 0) then k (Int.tmod (IntKind.wrap .i64 ((IntKind.wrap .i64 (r1 * 256)) + r5)) x0) r6 r7 r8 else none)) else (bif decide (x0 ≠ 0) then k (Int.tmod r1 x0) r2 r3 r4 else none))))) (fun r0 r1 r2 r3 => k (PkS.pack Tspec_l1Cur_pick (r0, r1, r2, r3, ()))) := by kernel_rfl
theorem okspec_l1Cur_pick (n : Nat) : FnOk Try.prog 70 (Kspec_l1Cur_pick @spec_l1Cur_pick n) := by
  refine fn_ok (sig := sig) mixed ttok (mkK_nat (cspec_l1Cur_pick n)) (mkK_ok (cspec_l1Cur_pick n)) (mkL_nat (mkK_nat (cspec_l1Cur_pick n)) (l := []) trivial) (fn := Try.f70) (c := bodyOf Try.f70) (by kernel_rfl) (by kernel_rfl) (by kernel_rfl) (.eq (l := []) (by kernel_rfl) trivial) (shs := Hspec_l1Cur_pick) (S := Sspec_l1Cur_pick) (h1 := by kernel_rfl) fun R p k => ?_
  unfold Kspec_l1Cur_pick
  cases h : (PkS.un Sspec_l1Cur_pick p) with
  | none => rfl
  | some d =>
    obtain ⟨x0, x1, x2, x3, u⟩ := (d : Int × (List Int) × Int × Int × Unit)
    have hp := PkS.un_pack h
    subst hp
    exact (espec_l1Cur_pick @spec_l1Cur_next n x0 x1 x2 x3 k).symm

/-! ### (*loop.example/g00269/spec.l1Cur).of -/
theorem cspec_l1Cur_of (n : Nat) : AllOk Try.prog [(70, Kspec_l1Cur_pick @spec_l1Cur_pick n)] := ⟨okspec_l1Cur_pick n, trivial⟩
@[reducible] def Sspec_l1Cur_of : PkS := ⟨[.one (.box (200000, 0) 0), .one (.ro .str)], [((200000, 0), .box [.ro (.int .u8), .int .i64, .int .u64])]⟩
@[reducible] def Tspec_l1Cur_of : PkS := ⟨[.one (.str), .one (.box (300000, 0) 0), .one (.dead)], [((300000, 0), .box [.ro (.int .u8), .int .i64, .int .u64])]⟩
def Hspec_l1Cur_of : List Sh := [.one .any, .box [(.ro (.int .u8)), .any, .any], .skip]
def Kspec_l1Cur_of (g : ∀ {R : Type}, Nat → (List ByteArray) → (List Int) → Int → Int → (ByteArray → (List Int) → Int → Int → Option R) → Option R) (n : Nat) : KPs := fun R p k => match (PkS.un Sspec_l1Cur_of p : Option ((List ByteArray) × (List Int) × Int × Int × Unit)) with
  | some (x0, x1, x2, x3, _) => g n x0 x1 x2 x3 (fun r0 r1 r2 r3 => k (PkS.pack Tspec_l1Cur_of (r0, r1, r2, r3, ())))
  | none => none
theorem espec_l1Cur_of (spec_l1Cur_pick : ∀ {R : Type}, Nat → Int → (List Int) → Int → Int → (Int → (List Int) → Int → Int → Option R) → Option R) {R : Type} (n : Nat) (x0 : List ByteArray) (x1 : List Int) (x2 : Int) (x3 : Int) (k : Pk → Option R) : evF tt sig (mkK [(70, Kspec_l1Cur_pick @spec_l1Cur_pick n)] R) (mkL (mkK [(70, Kspec_l1Cur_pick @spec_l1Cur_pick n)]) [] R) Try.f77 Hspec_l1Cur_of (PkS.pack Sspec_l1Cur_of (x0, x1, x2, x3, ())) k = (fun (k : ByteArray → (List Int) → Int → Int → Option R) => (spec_l1Cur_pick n (x0.length : Int) x1 x2 x3 fun r1 r2 r3 r4 => (bif decide (0 ≤ r1) then (bif decide (r1 < (x0.length : Int)) then k (x0.getD (Int.toNat r1) ByteArray.empty) r2 r3 r4 else none) else none))) (fun r0 r1 r2 r3 => k (PkS.pack Tspec_l1Cur_of (r0, r1, r2, r3, ()))) := by kernel_rfl
theorem okspec_l1Cur_of (n : Nat) : FnOk Try.prog 77 (Kspec_l1Cur_of @spec_l1Cur_of n) := by
  refine fn_ok (sig := sig) mixed ttok (mkK_nat (cspec_l1Cur_of n)) (mkK_ok (cspec_l1Cur_of n)) (mkL_nat (mkK_nat (cspec_l1Cur_of n)) (l := []) trivial) (fn := Try.f77) (c := bodyOf Try.f77) (by kernel_rfl) (by kernel_rfl) (by kernel_rfl) (.eq (l := []) (by kernel_rfl) trivial) (shs := Hspec_l1Cur_of) (S := Sspec_l1Cur_of) (h1 := by kernel_rfl) fun R p k => ?_
  unfold Kspec_l1Cur_of
  cases h : (PkS.un Sspec_l1Cur_of p) with
  | none => rfl
  | some d =>
    obtain ⟨x0, x1, x2, x3, u⟩ := (d : (List ByteArray) × (List Int) × Int × Int × Unit)
    have hp := PkS.un_pack h
    subst hp
    exact (espec_l1Cur_of @spec_l1Cur_pick n x0 x1 x2 x3 k).symm

/-! ### (*loop.example/g00269/spec.l1Cur).one -/
theorem cspec_l1Cur_one (n : Nat) : AllOk Try.prog [(70, Kspec_l1Cur_pick @spec_l1Cur_pick n)] := ⟨okspec_l1Cur_pick n, trivial⟩
@[reducible] def Sspec_l1Cur_one : PkS := ⟨[.one (.box (200000, 0) 0), .one (.int .i64)], [((200000, 0), .box [.ro (.int .u8), .int .i64, .int .u64])]⟩
@[reducible] def Tspec_l1Cur_one : PkS := ⟨[.one (.bool), .one (.box (300000, 0) 0), .one (.dead)], [((300000, 0), .box [.ro (.int .u8), .int .i64, .int .u64])]⟩
def Hspec_l1Cur_one : List Sh := [.one .any, .box [(.ro (.int .u8)), .any, .any], .skip]
def Kspec_l1Cur_one (g : ∀ {R : Type}, Nat → Int → (List Int) → Int → Int → (Bool → (List Int) → Int → Int → Option R) → Option R) (n : Nat) : KPs := fun R p k => match (PkS.un Sspec_l1Cur_one p : Option (Int × (List Int) × Int × Int × Unit)) with
  | some (x0, x1, x2, x3, _) => g n x0 x1 x2 x3 (fun r0 r1 r2 r3 => k (PkS.pack Tspec_l1Cur_one (r0, r1, r2, r3, ())))
  | none => none
theorem espec_l1Cur_one (spec_l1Cur_pick : ∀ {R : Type}, Nat → Int → (List Int) → Int → Int → (Int → (List Int) → Int → Int → Option R) → Option R) {R : Type} (n : Nat) (x0 : Int) (x1 : List Int) (x2 : Int) (x3 : Int) (k : Pk → Option R) : evF tt sig (mkK [(70, Kspec_l1Cur_pick @spec_l1Cur_pick n)] R) (mkL (mkK [(70, Kspec_l1Cur_pick @spec_l1Cur_pick n)]) [] R) Try.f71 Hspec_l1Cur_one (PkS.pack Sspec_l1Cur_one (x0, x1, x2, x3, ())) k = (fun (k : Bool → (List Int) → Int → Int → Option R) => (spec_l1Cur_pick n x0 x1 x2 x3 fun r1 r2 r3 r4 => k (r1 == 0) r2 r3 r4)) (fun r0 r1 r2 r3 => k (PkS.pack Tspec_l1Cur_one (r0, r1, r2, r3, ()))) := by kernel_rfl
theorem okspec_l1Cur_one (n : Nat) : FnOk Try.prog 71 (Kspec_l1Cur_one @spec_l1Cur_one n) := by
  refine fn_ok (sig := sig) mixed ttok (mkK_nat (cspec_l1Cur_one n)) (mkK_ok (cspec_l1Cur_one n)) (mkL_nat (mkK_nat (cspec_l1Cur_one n)) (l := []) trivial) (fn := Try.f71) (c := bodyOf Try.f71) (by kernel_rfl) (by kernel_rfl) (by kernel_rfl) (.eq (l := []) (by kernel_rfl) trivial) (shs := Hspec_l1Cur_one) (S := Sspec_l1Cur_one) (h1 := by kernel_rfl) fun R p k => ?_
  unfold Kspec_l1Cur_one
  cases h : (PkS.un Sspec_l1Cur_one p) with
  | none => rfl
  | some d =>
    obtain ⟨x0, x1, x2, x3, u⟩ := (d : Int × (List Int) × Int × Int × Unit)
    have hp := PkS.un_pack h
    subst hp
    exact (espec_l1Cur_one @spec_l1Cur_pick n x0 x1 x2 x3 k).symm

/-! ### (*loop.example/g00269/spec.l1Cur).form -/
theorem cspec_l1Cur_form (n : Nat) : AllOk Try.prog [(77, Kspec_l1Cur_of @spec_l1Cur_of n), (71, Kspec_l1Cur_one @spec_l1Cur_one n)] := ⟨okspec_l1Cur_of n, ⟨okspec_l1Cur_one n, trivial⟩⟩
@[reducible] def Sspec_l1Cur_form : PkS := ⟨[.one (.box (200000, 0) 0), .one (.int .i64)], [((200000, 0), .box [.ro (.int .u8), .int .i64, .int .u64])]⟩
@[reducible] def Tspec_l1Cur_form : PkS := ⟨[.one (.str), .one (.box (300000, 0) 0), .one (.dead)], [((300000, 0), .box [.ro (.int .u8), .int .i64, .int .u64])]⟩
def Hspec_l1Cur_form : List Sh := [.one .any, .box [(.ro (.int .u8)), .any, .any], .skip]
def Kspec_l1Cur_form (g : ∀ {R : Type}, Nat → Int → (List Int) → Int → Int → (ByteArray → (List Int) → Int → Int → Option R) → Option R) (n : Nat) : KPs := fun R p k => match (PkS.un Sspec_l1Cur_form p : Option (Int × (List Int) × Int × Int × Unit)) with
  | some (x0, x1, x2, x3, _) => g n x0 x1 x2 x3 (fun r0 r1 r2 r3 => k (PkS.pack Tspec_l1Cur_form (r0, r1, r2, r3, ())))
  | none => none
theorem dspec_l1Cur_form (n : Nat) (ih : FnOk Try.prog 69 (Kspec_l1Cur_form @spec_l1Cur_form n)) : AllOk Try.prog [(77, Kspec_l1Cur_of @spec_l1Cur_of n), (71, Kspec_l1Cur_one @spec_l1Cur_one n), (69, Kspec_l1Cur_form @spec_l1Cur_form n)] := ⟨okspec_l1Cur_of n, ⟨okspec_l1Cur_one n, ⟨ih, trivial⟩⟩⟩
theorem espec_l1Cur_form (spec_l1Cur_of : ∀ {R : Type}, Nat → (List ByteArray) → (List Int) → Int → Int → (ByteArray → (List Int) → Int → Int → Option R) → Option R) (spec_l1Cur_one : ∀ {R : Type}, Nat → Int → (List Int) → Int → Int → (Bool → (List Int) → Int → Int → Option R) → Option R) (spec_l1Cur_form : ∀ {R : Type}, Nat → Int → (List Int) → Int → Int → (ByteArray → (List Int) → Int → Int → Option R) → Option R) {R : Type} (n : Nat) (x0 : Int) (x1 : List Int) (x2 : Int) (x3 : Int) (k : Pk → Option R) : evF tt sig (mkK [(77, Kspec_l1Cur_of @spec_l1Cur_of n), (71, Kspec_l1Cur_one @spec_l1Cur_one n), (69, Kspec_l1Cur_form @spec_l1Cur_form n)] R) (mkL (mkK [(77, Kspec_l1Cur_of @spec_l1Cur_of n), (71, Kspec_l1Cur_one @spec_l1Cur_one n)]) [] R) Try.f69 Hspec_l1Cur_form (PkS.pack Sspec_l1Cur_form (x0, x1, x2, x3, ())) k = (fun (k : ByteArray → (List Int) → Int → Int → Option R) => (bif (decide (x0 ≤ 0)) then (spec_l1Cur_of n ([(ByteArray.mk #[97]), (ByteArray.mk #[98]), (ByteArray.mk #[99]), (ByteArray.mk #[100]), (ByteArray.mk #[101]), (ByteArray.mk #[102]), (ByteArray.mk #[48]), (ByteArray.mk #[49]), (ByteArray.mk #[97]), (ByteArray.mk #[98])]) x1 x2 x3 fun r1 r2 r3 r4 => k r1 r2 r3 r4) else (spec_l1Cur_one n 6 x1 x2 x3 fun r5 r6 r7 r8 => (bif r5 then (spec_l1Cur_of n ([(ByteArray.mk #[97]), (ByteArray.mk #[98]), (ByteArray.mk #[99]), (ByteArray.mk #[100]), (ByteArray.mk #[101]), (ByteArray.mk #[102]), (ByteArray.mk #[48]), (ByteArray.mk #[49]), (ByteArray.mk #[97]), (ByteArray.mk #[98])]) r6 r7 r8 fun r9 r10 r11 r12 => k r9 r10 r11 r12) else (spec_l1Cur_one n 4 r6 r7 r8 fun r13 r14 r15 r16 => (bif r13 then (spec_l1Cur_form n (IntKind.wrap .i64 (x0 - 1)) r14 r15 r16 fun r17 r18 r19 r20 => (bif decide ((ByteArray.mk #[33]).size + r17.size ≤ STR) then k ((ByteArray.mk #[33]) ++ r17) r18 r19 r20 else none)) else (spec_l1Cur_form n (IntKind.wrap .i64 (x0 - 1)) r14 r15 r16 fun r21 r22 r23 r24 => (bif decide ((ByteArray.mk #[40]).size + r21.size ≤ STR) then (spec_l1Cur_of n ([(ByteArray.mk #[38]), (ByteArray.mk #[124]), (ByteArray.mk #[94])]) r22 r23 r24 fun r25 r26 r27 r28 => (bif decide (((ByteArray.mk #[40]) ++ r21).size + r25.size ≤ STR) then (spec_l1Cur_form n (IntKind.wrap .i64 (x0 - 1)) r26 r27 r28 fun r29 r30 r31 r32 => (bif decide ((((ByteArray.mk #[40]) ++ r21) ++ r25).size + r29.size ≤ STR) then (bif decide (((((ByteArray.mk #[40]) ++ r21) ++ r25) ++ r29).size + (ByteArray.mk #[41]).size ≤ STR) then k (((((ByteArray.mk #[40]) ++ r21) ++ r25) ++ r29) ++ (ByteArray.mk #[41])) r30 r31 r32 else none) else none)) else none)) else none)))))))) (fun r0 r1 r2 r3 => k (PkS.pack Tspec_l1Cur_form (r0, r1, r2, r3, ()))) := by kernel_rfl
theorem okspec_l1Cur_form : ∀ n, FnOk Try.prog 69 (Kspec_l1Cur_form @spec_l1Cur_form n)
  | 0 => fn_none fun R p k => by unfold Kspec_l1Cur_form; cases (PkS.un Sspec_l1Cur_form p : Option (Int × (List Int) × Int × Int × Unit)) <;> rfl
  | n + 1 => by
    refine fn_ok (sig := sig) mixed ttok (mkK_nat (dspec_l1Cur_form n (okspec_l1Cur_form n))) (mkK_ok (dspec_l1Cur_form n (okspec_l1Cur_form n))) (mkL_nat (mkK_nat (cspec_l1Cur_form n)) (l := []) trivial) (fn := Try.f69) (c := bodyOf Try.f69) (by kernel_rfl) (by kernel_rfl) (by kernel_rfl) (.eq (l := []) (by kernel_rfl) trivial) (shs := Hspec_l1Cur_form) (S := Sspec_l1Cur_form) (h1 := by kernel_rfl) fun R p k => ?_
    unfold Kspec_l1Cur_form
    cases h : (PkS.un Sspec_l1Cur_form p) with
    | none => rfl
    | some d =>
      obtain ⟨x0, x1, x2, x3, u⟩ := (d : Int × (List Int) × Int × Int × Unit)
      have hp := PkS.un_pack h
      subst hp
      exact (espec_l1Cur_form @spec_l1Cur_of @spec_l1Cur_one @spec_l1Cur_form n x0 x1 x2 x3 k).symm

/-! ### (*loop.example/g00269/spec.l1Cur).spoilt -/
theorem cspec_l1Cur_spoilt (n : Nat) : AllOk Try.prog [(70, Kspec_l1Cur_pick @spec_l1Cur_pick n)] := ⟨okspec_l1Cur_pick n, trivial⟩
@[reducible] def Sspec_l1Cur_spoilt_l2 : PkS := ⟨[.one (.box (100000, 0) 0), .one (.str), .one (.str), .one (.int .i64), .one (.box (100000, 0) 0), .one (.dead), .one (.dead)], [((100000, 0), .box [.ro (.int .u8), .int .i64, .int .u64])]⟩
@[reducible] def Tspec_l1Cur_spoilt_l2_0 : PkS := ⟨[.one (.str), .one (.box (100000, 0) 0), .one (.dead), .one (.dead)], [((100000, 0), .box [.ro (.int .u8), .int .i64, .int .u64])]⟩
def Dspec_l1Cur_spoilt_l2 : LoopD := ⟨67, [0, 1, 2, 7], [.box [(.ro (.int .u8)), .any, .any], .one .any, .one .any, .one .any, .box [(.ro (.int .u8)), .any, .any], .skip, .skip], fun x => match x with
  | .exit 0 => some ([1], [.one .any, .box [(.ro (.int .u8)), .any, .any], .skip, .skip])
  | _ => none⟩
def Pspec_l1Cur_spoilt_l2 (g : ∀ {R : Type}, Nat → ByteArray → ByteArray → Int → (List Int) → Int → Int → (ByteArray → (List Int) → Int → Int → Option R) → Option R) (n : Nat) : LPs := fun R q kk => match (PkS.un Sspec_l1Cur_spoilt_l2 q : Option (ByteArray × ByteArray × Int × (List Int) × Int × Int × Unit)) with
  | some (y2_0, y2_1, y2_2, y2_3, y2_4, y2_5, _) => g n y2_0 y2_1 y2_2 y2_3 y2_4 y2_5 (fun r0 r1 r2 r3 => kk (.exit 0) (PkS.pack Tspec_l1Cur_spoilt_l2_0 (r0, r1, r2, r3, ())))
  | none => none
theorem espec_l1Cur_spoilt_l2 (spec_l1Cur_pick : ∀ {R : Type}, Nat → Int → (List Int) → Int → Int → (Int → (List Int) → Int → Int → Option R) → Option R) (spec_l1Cur_spoilt_l2 : ∀ {R : Type}, Nat → ByteArray → ByteArray → Int → (List Int) → Int → Int → (ByteArray → (List Int) → Int → Int → Option R) → Option R) {R : Type} (n : Nat) (y2_0 : ByteArray) (y2_1 : ByteArray) (y2_2 : Int) (y2_3 : List Int) (y2_4 : Int) (y2_5 : Int) (kk : Ex → Pk → Option R) : Dspec_l1Cur_spoilt_l2.step tt sig (mkK [(70, Kspec_l1Cur_pick @spec_l1Cur_pick n)] R) (mkL (mkK [(70, Kspec_l1Cur_pick @spec_l1Cur_pick n)]) [] R) (loopIn 2 (bodyOf Try.f72)) (fun q' => Pspec_l1Cur_spoilt_l2 @spec_l1Cur_spoilt_l2 n R q' kk) (PkS.pack Sspec_l1Cur_spoilt_l2 (y2_0, y2_1, y2_2, y2_3, y2_4, y2_5, ())) kk = (fun (kexit0 : ByteArray → (List Int) → Int → Int → Option R) => (bif (decide (y2_2 > 0)) then (bif (decide ((y2_0.size : Int) > 0)) then (spec_l1Cur_pick n (y2_0.size : Int) y2_3 y2_4 y2_5 fun r5 r6 r7 r8 => (spec_l1Cur_pick n (y2_1.size : Int) r6 r7 r8 fun r9 r10 r11 r12 => (bif decide (0 ≤ r9) then (bif decide (r9 < (y2_1.size : Int)) then (spec_l1Cur_pick n 3 r10 r11 r12 fun r13 r14 r15 r16 => (bif (r13 == 0) then (bif decide (0 ≤ r5) then (bif decide (r5 ≤ (y2_0.size : Int)) then (bif decide ((ByteArray.extract y2_0 0 (Int.toNat r5)).size + (bytesOf ([((y2_1.data.getD (Int.toNat r9) 0).toNat : Int)])).size ≤ STR) then (bif decide (0 ≤ r5) then (bif decide (r5 ≤ (y2_0.size : Int)) then (bif decide ((y2_0.size : Int) ≤ (y2_0.size : Int)) then (bif decide (((ByteArray.extract y2_0 0 (Int.toNat r5)) ++ (bytesOf ([((y2_1.data.getD (Int.toNat r9) 0).toNat : Int)]))).size + (ByteArray.extract y2_0 (Int.toNat r5) (Int.toNat (y2_0.size : Int))).size ≤ STR) then spec_l1Cur_spoilt_l2 n (((ByteArray.extract y2_0 0 (Int.toNat r5)) ++ (bytesOf ([((y2_1.data.getD (Int.toNat r9) 0).toNat : Int)]))) ++ (ByteArray.extract y2_0 (Int.toNat r5) (Int.toNat (y2_0.size : Int)))) y2_1 (IntKind.wrap .i64 (y2_2 - 1)) r14 r15 r16 kexit0 else none) else none) else none) else none) else none) else none) else none) else (bif (r13 == 1) then (bif decide (0 ≤ r5) then (bif decide (r5 ≤ (y2_0.size : Int)) then (bif decide ((ByteArray.extract y2_0 0 (Int.toNat r5)).size + (bytesOf ([((y2_1.data.getD (Int.toNat r9) 0).toNat : Int)])).size ≤ STR) then (bif decide (0 ≤ (IntKind.wrap .i64 (r5 + 1))) then (bif decide ((IntKind.wrap .i64 (r5 + 1)) ≤ (y2_0.size : Int)) then (bif decide ((y2_0.size : Int) ≤ (y2_0.size : Int)) then (bif decide (((ByteArray.extract y2_0 0 (Int.toNat r5)) ++ (bytesOf ([((y2_1.data.getD (Int.toNat r9) 0).toNat : Int)]))).size + (ByteArray.extract y2_0 (Int.toNat (IntKind.wrap .i64 (r5 + 1))) (Int.toNat (y2_0.size : Int))).size ≤ STR) then spec_l1Cur_spoilt_l2 n (((ByteArray.extract y2_0 0 (Int.toNat r5)) ++ (bytesOf ([((y2_1.data.getD (Int.toNat r9) 0).toNat : Int)]))) ++ (ByteArray.extract y2_0 (Int.toNat (IntKind.wrap .i64 (r5 + 1))) (Int.toNat (y2_0.size : Int)))) y2_1 (IntKind.wrap .i64 (y2_2 - 1)) r14 r15 r16 kexit0 else none) else none) else none) else none) else none) else none) else none) else (bif decide (0 ≤ r5) then (bif decide (r5 ≤ (y2_0.size : Int)) then (bif decide (0 ≤ (IntKind.wrap .i64 (r5 + 1))) then (bif decide ((IntKind.wrap .i64 (r5 + 1)) ≤ (y2_0.size : Int)) then (bif decide ((y2_0.size : Int) ≤ (y2_0.size : Int)) then (bif decide ((ByteArray.extract y2_0 0 (Int.toNat r5)).size + (ByteArray.extract y2_0 (Int.toNat (IntKind.wrap .i64 (r5 + 1))) (Int.toNat (y2_0.size : Int))).size ≤ STR) then spec_l1Cur_spoilt_l2 n ((ByteArray.extract y2_0 0 (Int.toNat r5)) ++ (ByteArray.extract y2_0 (Int.toNat (IntKind.wrap .i64 (r5 + 1))) (Int.toNat (y2_0.size : Int)))) y2_1 (IntKind.wrap .i64 (y2_2 - 1)) r14 r15 r16 kexit0 else none) else none) else none) else none) else none) else none)))) else none) else none))) else kexit0 y2_0 y2_3 y2_4 y2_5) else kexit0 y2_0 y2_3 y2_4 y2_5)) (fun r0 r1 r2 r3 => kk (.exit 0) (PkS.pack Tspec_l1Cur_spoilt_l2_0 (r0, r1, r2, r3, ()))) := by kernel_rfl
theorem lespec_l1Cur_spoilt_l2 : LoopEq tt sig (fun n => mkK [(70, Kspec_l1Cur_pick @spec_l1Cur_pick n)]) (fun n => mkL (mkK [(70, Kspec_l1Cur_pick @spec_l1Cur_pick n)]) []) Dspec_l1Cur_spoilt_l2 Sspec_l1Cur_spoilt_l2 (loopIn 2 (bodyOf Try.f72)) (Pspec_l1Cur_spoilt_l2 @spec_l1Cur_spoilt_l2) where
  zero R q kk := by unfold Pspec_l1Cur_spoilt_l2; cases (PkS.un Sspec_l1Cur_spoilt_l2 q) <;> rfl
  succ n R q kk := by
    unfold Pspec_l1Cur_spoilt_l2
    cases h : (PkS.un Sspec_l1Cur_spoilt_l2 q) with
    | none => rfl
    | some d =>
      obtain ⟨y2_0, y2_1, y2_2, y2_3, y2_4, y2_5, u⟩ := (d : ByteArray × ByteArray × Int × (List Int) × Int × Int × Unit)
      have hp := PkS.un_pack h
      subst hp
      exact (espec_l1Cur_spoilt_l2 @spec_l1Cur_pick @spec_l1Cur_spoilt_l2 n y2_0 y2_1 y2_2 y2_3 y2_4 y2_5 kk).symm
theorem nlspec_l1Cur_spoilt_l2 : ∀ n, NatLP (Pspec_l1Cur_spoilt_l2 @spec_l1Cur_spoilt_l2 n) := lespec_l1Cur_spoilt_l2.nat (fun n => mkK_nat (cspec_l1Cur_spoilt n)) fun n => mkL_nat (mkK_nat (cspec_l1Cur_spoilt n)) (l := []) trivial
theorem inspec_l1Cur_spoilt_l2 (n : Nat) (R : Type) : LoopsOk Try.prog (mkL (mkK [(70, Kspec_l1Cur_pick @spec_l1Cur_pick n)]) [] R) (loopIn 2 (bodyOf Try.f72)) := .eq (l := []) (by kernel_rfl) trivial
theorem lkspec_l1Cur_spoilt_l2 (n : Nat) (R : Type) (L0 : LK R) (h0 : ∀ id, firstRegion (loopIn 2 (bodyOf Try.f72)) = some id → L0 id = Dspec_l1Cur_spoilt_l2.oracle (mkK [(70, Kspec_l1Cur_pick @spec_l1Cur_pick n)] R) (Pspec_l1Cur_spoilt_l2 @spec_l1Cur_spoilt_l2 n R)) : LoopOk Try.prog L0 (loopIn 2 (bodyOf Try.f72)) :=
  lespec_l1Cur_spoilt_l2.ok mixed ttok (fun n => mkK_nat (cspec_l1Cur_spoilt n)) (fun n => mkK_ok (cspec_l1Cur_spoilt n)) (fun n => inspec_l1Cur_spoilt_l2 n R) (mkK_nat (cspec_l1Cur_spoilt n)) h0
@[reducible] def Sspec_l1Cur_spoilt : PkS := ⟨[.one (.box (200000, 0) 0), .one (.str), .one (.str)], [((200000, 0), .box [.ro (.int .u8), .int .i64, .int .u64])]⟩
@[reducible] def Tspec_l1Cur_spoilt : PkS := ⟨[.one (.str), .one (.box (300000, 0) 0), .one (.dead), .one (.dead)], [((300000, 0), .box [.ro (.int .u8), .int .i64, .int .u64])]⟩
def Hspec_l1Cur_spoilt : List Sh := [.one .any, .box [(.ro (.int .u8)), .any, .any], .skip, .skip]
def Kspec_l1Cur_spoilt (g : ∀ {R : Type}, Nat → ByteArray → ByteArray → (List Int) → Int → Int → (ByteArray → (List Int) → Int → Int → Option R) → Option R) (n : Nat) : KPs := fun R p k => match (PkS.un Sspec_l1Cur_spoilt p : Option (ByteArray × ByteArray × (List Int) × Int × Int × Unit)) with
  | some (x0, x1, x2, x3, x4, _) => g n x0 x1 x2 x3 x4 (fun r0 r1 r2 r3 => k (PkS.pack Tspec_l1Cur_spoilt (r0, r1, r2, r3, ())))
  | none => none
theorem espec_l1Cur_spoilt (spec_l1Cur_pick : ∀ {R : Type}, Nat → Int → (List Int) → Int → Int → (Int → (List Int) → Int → Int → Option R) → Option R) (spec_l1Cur_spoilt_l2 : ∀ {R : Type}, Nat → ByteArray → ByteArray → Int → (List Int) → Int → Int → (ByteArray → (List Int) → Int → Int → Option R) → Option R) {R : Type} (n : Nat) (x0 : ByteArray) (x1 : ByteArray) (x2 : List Int) (x3 : Int) (x4 : Int) (k : Pk → Option R) : evF tt sig (mkK [(70, Kspec_l1Cur_pick @spec_l1Cur_pick n)] R) (mkL (mkK [(70, Kspec_l1Cur_pick @spec_l1Cur_pick n)]) [(2, Dspec_l1Cur_spoilt_l2, Pspec_l1Cur_spoilt_l2 @spec_l1Cur_spoilt_l2 n)] R) Try.f72 Hspec_l1Cur_spoilt (PkS.pack Sspec_l1Cur_spoilt (x0, x1, x2, x3, x4, ())) k = (fun (k : ByteArray → (List Int) → Int → Int → Option R) => (spec_l1Cur_pick n 3 x2 x3 x4 fun r1 r2 r3 r4 => (spec_l1Cur_spoilt_l2 n x0 x1 r1 r2 r3 r4 (fun r17 r18 r19 r20 => k r17 r18 r19 r20)))) (fun r0 r1 r2 r3 => k (PkS.pack Tspec_l1Cur_spoilt (r0, r1, r2, r3, ()))) := by kernel_rfl
theorem okspec_l1Cur_spoilt (n : Nat) : FnOk Try.prog 72 (Kspec_l1Cur_spoilt @spec_l1Cur_spoilt n) := by
  refine fn_ok (sig := sig) mixed ttok (mkK_nat (cspec_l1Cur_spoilt n)) (mkK_ok (cspec_l1Cur_spoilt n)) (mkL_nat (mkK_nat (cspec_l1Cur_spoilt n)) (l := [(2, Dspec_l1Cur_spoilt_l2, Pspec_l1Cur_spoilt_l2 @spec_l1Cur_spoilt_l2 n)]) ⟨nlspec_l1Cur_spoilt_l2 n, trivial⟩) (fn := Try.f72) (c := bodyOf Try.f72) (by kernel_rfl) (by kernel_rfl) (by kernel_rfl) (.eq (l := [.lo (loopIn 2 (bodyOf Try.f72))]) (by kernel_rfl) ⟨(lkspec_l1Cur_spoilt_l2 n _ _ (at_id (i := 2) (by kernel_rfl) rfl)), trivial⟩) (shs := Hspec_l1Cur_spoilt) (S := Sspec_l1Cur_spoilt) (h1 := by kernel_rfl) fun R p k => ?_
  unfold Kspec_l1Cur_spoilt
  cases h : (PkS.un Sspec_l1Cur_spoilt p) with
  | none => rfl
  | some d =>
    obtain ⟨x0, x1, x2, x3, x4, u⟩ := (d : ByteArray × ByteArray × (List Int) × Int × Int × Unit)
    have hp := PkS.un_pack h
    subst hp
    exact (espec_l1Cur_spoilt @spec_l1Cur_pick @spec_l1Cur_spoilt_l2 n x0 x1 x2 x3 x4 k).symm

/-! ### loop.example/g00269/spec.DrawGoodForm -/
theorem cspec_DrawGoodForm (n : Nat) : AllOk Try.prog [(70, Kspec_l1Cur_pick @spec_l1Cur_pick n), (69, Kspec_l1Cur_form @spec_l1Cur_form n), (71, Kspec_l1Cur_one @spec_l1Cur_one n), (72, Kspec_l1Cur_spoilt @spec_l1Cur_spoilt n)] := ⟨okspec_l1Cur_pick n, ⟨okspec_l1Cur_form n, ⟨okspec_l1Cur_one n, ⟨okspec_l1Cur_spoilt n, trivial⟩⟩⟩⟩
@[reducible] def Sspec_DrawGoodForm : PkS := ⟨[.one (.ro (.int .u8))], []⟩
@[reducible] def Tspec_DrawGoodForm : PkS := ⟨[.one (.str), .one (.dead)], []⟩
def Hspec_DrawGoodForm : List Sh := [.one .any, .skip]
def Kspec_DrawGoodForm (g : ∀ {R : Type}, Nat → (List Int) → (ByteArray → Option R) → Option R) (n : Nat) : KPs := fun R p k => match (PkS.un Sspec_DrawGoodForm p : Option ((List Int) × Unit)) with
  | some (x0, _) => g n x0 (fun r0 => k (PkS.pack Tspec_DrawGoodForm (r0, ())))
  | none => none
theorem espec_DrawGoodForm (spec_l1Cur_pick : ∀ {R : Type}, Nat → Int → (List Int) → Int → Int → (Int → (List Int) → Int → Int → Option R) → Option R) (spec_l1Cur_form : ∀ {R : Type}, Nat → Int → (List Int) → Int → Int → (ByteArray → (List Int) → Int → Int → Option R) → Option R) (spec_l1Cur_one : ∀ {R : Type}, Nat → Int → (List Int) → Int → Int → (Bool → (List Int) → Int → Int → Option R) → Option R) (spec_l1Cur_spoilt : ∀ {R : Type}, Nat → ByteArray → ByteArray → (List Int) → Int → Int → (ByteArray → (List Int) → Int → Int → Option R) → Option R) {R : Type} (n : Nat) (x0 : List Int) (k : Pk → Option R) : evF tt sig (mkK [(70, Kspec_l1Cur_pick @spec_l1Cur_pick n), (69, Kspec_l1Cur_form @spec_l1Cur_form n), (71, Kspec_l1Cur_one @spec_l1Cur_one n), (72, Kspec_l1Cur_spoilt @spec_l1Cur_spoilt n)] R) (mkL (mkK [(70, Kspec_l1Cur_pick @spec_l1Cur_pick n), (69, Kspec_l1Cur_form @spec_l1Cur_form n), (71, Kspec_l1Cur_one @spec_l1Cur_one n), (72, Kspec_l1Cur_spoilt @spec_l1Cur_spoilt n)]) [] R) Try.f57 Hspec_DrawGoodForm (PkS.pack Sspec_DrawGoodForm (x0, ())) k = (fun (k : ByteArray → Option R) => (spec_l1Cur_pick n 5 x0 0 0 fun r1 r2 r3 r4 => (spec_l1Cur_form n r1 r2 r3 r4 fun r5 r6 r7 r8 => (spec_l1Cur_one n 12 r6 r7 r8 fun r9 r10 r11 r12 => (bif r9 then (spec_l1Cur_spoilt n r5 (ByteArray.mk #[33, 40, 38, 41, 97]) r10 r11 r12 fun r13 r14 r15 r16 => k r13) else k r5))))) (fun r0 => k (PkS.pack Tspec_DrawGoodForm (r0, ()))) := by kernel_rfl
theorem okspec_DrawGoodForm (n : Nat) : FnOk Try.prog 57 (Kspec_DrawGoodForm @spec_DrawGoodForm n) := by
  refine fn_ok (sig := sig) mixed ttok (mkK_nat (cspec_DrawGoodForm n)) (mkK_ok (cspec_DrawGoodForm n)) (mkL_nat (mkK_nat (cspec_DrawGoodForm n)) (l := []) trivial) (fn := Try.f57) (c := bodyOf Try.f57) (by kernel_rfl) (by kernel_rfl) (by kernel_rfl) (.eq (l := []) (by kernel_rfl) trivial) (shs := Hspec_DrawGoodForm) (S := Sspec_DrawGoodForm) (h1 := by kernel_rfl) fun R p k => ?_
  unfold Kspec_DrawGoodForm
  cases h : (PkS.un Sspec_DrawGoodForm p) with
  | none => rfl
  | some d =>
    obtain ⟨x0, u⟩ := (d : (List Int) × Unit)
    have hp := PkS.un_pack h
    subst hp
    exact (espec_DrawGoodForm @spec_l1Cur_pick @spec_l1Cur_form @spec_l1Cur_one @spec_l1Cur_spoilt n x0 k).symm

/-! ### loop.example/g00269/spec.DrawDiagramOf -/
theorem cspec_DrawDiagramOf (n : Nat) : AllOk Try.prog [(57, Kspec_DrawGoodForm @spec_DrawGoodForm n)] := ⟨okspec_DrawGoodForm n, trivial⟩
@[reducible] def Sspec_DrawDiagramOf : PkS := ⟨[.one (.ro (.int .u8))], []⟩
@[reducible] def Tspec_DrawDiagramOf : PkS := ⟨[.one (.str), .one (.dead)], []⟩
def Hspec_DrawDiagramOf : List Sh := [.one .any, .skip]
def Kspec_DrawDiagramOf (g : ∀ {R : Type}, Nat → (List Int) → (ByteArray → Option R) → Option R) (n : Nat) : KPs := fun R p k => match (PkS.un Sspec_DrawDiagramOf p : Option ((List Int) × Unit)) with
  | some (x0, _) => g n x0 (fun r0 => k (PkS.pack Tspec_DrawDiagramOf (r0, ())))
  | none => none
theorem espec_DrawDiagramOf (spec_DrawGoodForm : ∀ {R : Type}, Nat → (List Int) → (ByteArray → Option R) → Option R) {R : Type} (n : Nat) (x0 : List Int) (k : Pk → Option R) : evF tt sig (mkK [(57, Kspec_DrawGoodForm @spec_DrawGoodForm n)] R) (mkL (mkK [(57, Kspec_DrawGoodForm @spec_DrawGoodForm n)]) [] R) Try.f34 Hspec_DrawDiagramOf (PkS.pack Sspec_DrawDiagramOf (x0, ())) k = (fun (k : ByteArray → Option R) => (spec_DrawGoodForm n x0 fun r1 => k r1)) (fun r0 => k (PkS.pack Tspec_DrawDiagramOf (r0, ()))) := by kernel_rfl
theorem okspec_DrawDiagramOf (n : Nat) : FnOk Try.prog 34 (Kspec_DrawDiagramOf @spec_DrawDiagramOf n) := by
  refine fn_ok (sig := sig) mixed ttok (mkK_nat (cspec_DrawDiagramOf n)) (mkK_ok (cspec_DrawDiagramOf n)) (mkL_nat (mkK_nat (cspec_DrawDiagramOf n)) (l := []) trivial) (fn := Try.f34) (c := bodyOf Try.f34) (by kernel_rfl) (by kernel_rfl) (by kernel_rfl) (.eq (l := []) (by kernel_rfl) trivial) (shs := Hspec_DrawDiagramOf) (S := Sspec_DrawDiagramOf) (h1 := by kernel_rfl) fun R p k => ?_
  unfold Kspec_DrawDiagramOf
  cases h : (PkS.un Sspec_DrawDiagramOf p) with
  | none => rfl
  | some d =>
    obtain ⟨x0, u⟩ := (d : (List Int) × Unit)
    have hp := PkS.un_pack h
    subst hp
    exact (espec_DrawDiagramOf @spec_DrawGoodForm n x0 k).symm

/-! ### loop.example/g00269/spec.DrawTableOf -/
theorem cspec_DrawTableOf (n : Nat) : AllOk Try.prog [(57, Kspec_DrawGoodForm @spec_DrawGoodForm n)] := ⟨okspec_DrawGoodForm n, trivial⟩
@[reducible] def Sspec_DrawTableOf : PkS := ⟨[.one (.ro (.int .u8))], []⟩
@[reducible] def Tspec_DrawTableOf : PkS := ⟨[.one (.str), .one (.dead)], []⟩
def Hspec_DrawTableOf : List Sh := [.one .any, .skip]
def Kspec_DrawTableOf (g : ∀ {R : Type}, Nat → (List Int) → (ByteArray → Option R) → Option R) (n : Nat) : KPs := fun R p k => match (PkS.un Sspec_DrawTableOf p : Option ((List Int) × Unit)) with
  | some (x0, _) => g n x0 (fun r0 => k (PkS.pack Tspec_DrawTableOf (r0, ())))
  | none => none
theorem espec_DrawTableOf (spec_DrawGoodForm : ∀ {R : Type}, Nat → (List Int) → (ByteArray → Option R) → Option R) {R : Type} (n : Nat) (x0 : List Int) (k : Pk → Option R) : evF tt sig (mkK [(57, Kspec_DrawGoodForm @spec_DrawGoodForm n)] R) (mkL (mkK [(57, Kspec_DrawGoodForm @spec_DrawGoodForm n)]) [] R) Try.f35 Hspec_DrawTableOf (PkS.pack Sspec_DrawTableOf (x0, ())) k = (fun (k : ByteArray → Option R) => (spec_DrawGoodForm n x0 fun r1 => k r1)) (fun r0 => k (PkS.pack Tspec_DrawTableOf (r0, ()))) := by kernel_rfl
theorem okspec_DrawTableOf (n : Nat) : FnOk Try.prog 35 (Kspec_DrawTableOf @spec_DrawTableOf n) := by
  refine fn_ok (sig := sig) mixed ttok (mkK_nat (cspec_DrawTableOf n)) (mkK_ok (cspec_DrawTableOf n)) (mkL_nat (mkK_nat (cspec_DrawTableOf n)) (l := []) trivial) (fn := Try.f35) (c := bodyOf Try.f35) (by kernel_rfl) (by kernel_rfl) (by kernel_rfl) (.eq (l := []) (by kernel_rfl) trivial) (shs := Hspec_DrawTableOf) (S := Sspec_DrawTableOf) (h1 := by kernel_rfl) fun R p k => ?_
  unfold Kspec_DrawTableOf
  cases h : (PkS.un Sspec_DrawTableOf p) with
  | none => rfl
  | some d =>
    obtain ⟨x0, u⟩ := (d : (List Int) × Unit)
    have hp := PkS.un_pack h
    subst hp
    exact (espec_DrawTableOf @spec_DrawGoodForm n x0 k).symm

/-! ### (*loop.example/g00269/impl.formReader).next -/
theorem cimpl_formReader_next (n : Nat) : AllOk Try.prog [] := trivial
@[reducible] def Simpl_formReader_next : PkS := ⟨[.one (.box (200000, 0) 0)], [((200000, 0), .box [.str, .bool])]⟩
@[reducible] def Timpl_formReader_next : PkS := ⟨[.one (.int .u8), .one (.box (300000, 0) 0)], [((300000, 0), .box [.str, .bool])]⟩
def Himpl_formReader_next : List Sh := [.one .any, .box [.any, .any]]
def Kimpl_formReader_next (g : ∀ {R : Type}, Nat → ByteArray → Bool → (Int → ByteArray → Bool → Option R) → Option R) (n : Nat) : KPs := fun R p k => match (PkS.un Simpl_formReader_next p : Option (ByteArray × Bool × Unit)) with
  | some (x0, x1, _) => g n x0 x1 (fun r0 r1 r2 => k (PkS.pack Timpl_formReader_next (r0, r1, r2, ())))
  | none => none
theorem eimpl_formReader_next  {R : Type} (n : Nat) (x0 : ByteArray) (x1 : Bool) (k : Pk → Option R) : evF tt sig (mkK [] R) (mkL (mkK []) [] R) Try.f75 Himpl_formReader_next (PkS.pack Simpl_formReader_next (x0, x1, ())) k = (fun (k : Int → ByteArray → Bool → Option R) => (bif ((ByteArray.toList x0) == (ByteArray.toList (ByteArray.mk #[]))) then k 0 x0 true else (bif decide (0 < (x0.size : Int)) then (bif decide (1 ≤ (x0.size : Int)) then (bif decide ((x0.size : Int) ≤ (x0.size : Int)) then k ((x0.data.getD 0 0).toNat : Int) (ByteArray.extract x0 1 (Int.toNat (x0.size : Int))) x1 else none) else none) else none))) (fun r0 r1 r2 => k (PkS.pack Timpl_formReader_next (r0, r1, r2, ()))) := by kernel_rfl
theorem okimpl_formReader_next (n : Nat) : FnOk Try.prog 75 (Kimpl_formReader_next @impl_formReader_next n) := by
  refine fn_ok (sig := sig) mixed ttok (mkK_nat (cimpl_formReader_next n)) (mkK_ok (cimpl_formReader_next n)) (mkL_nat (mkK_nat (cimpl_formReader_next n)) (l := []) trivial) (fn := Try.f75) (c := bodyOf Try.f75) (by kernel_rfl) (by kernel_rfl) (by kernel_rfl) (.eq (l := []) (by kernel_rfl) trivial) (shs := Himpl_formReader_next) (S := Simpl_formReader_next) (h1 := by kernel_rfl) fun R p k => ?_
  unfold Kimpl_formReader_next
  cases h : (PkS.un Simpl_formReader_next p) with
  | none => rfl
  | some d =>
    obtain ⟨x0, x1, u⟩ := (d : ByteArray × Bool × Unit)
    have hp := PkS.un_pack h
    subst hp
    exact (eimpl_formReader_next  n x0 x1 k).symm

/-! ### internal/bytealg.IndexByteString -/
theorem cbytealg_IndexByteString (n : Nat) : AllOk Try.prog [] := trivial
@[reducible] def Sbytealg_IndexByteString : PkS := ⟨[.one (.str), .one (.int .u8)], []⟩
@[reducible] def Tbytealg_IndexByteString : PkS := ⟨[.one (.int .i64), .one (.dead), .one (.dead)], []⟩
def Kbytealg_IndexByteString (g : ∀ {R : Type}, Nat → ByteArray → Int → (Int → Option R) → Option R) (n : Nat) : KPs := fun R p k => match (PkS.un Sbytealg_IndexByteString p : Option (ByteArray × Int × Unit)) with
  | some (x0, x1, _) => g n x0 x1 (fun r0 => k (PkS.pack Tbytealg_IndexByteString (r0, ())))
  | none => none
theorem idxF_eq : ∀ (l : List UInt8) (c : UInt8), idxF l c = Go.Lib.indexByte l c
  | [], _ => rfl
  | b :: l, c => by rw [idxF, Go.Lib.indexByte, idxF_eq l c]
theorem okbytealg_IndexByteString (n : Nat) : FnOk Try.prog 80 (Kbytealg_IndexByteString @bytealg_IndexByteString n) := by
  have e : Kbytealg_IndexByteString @bytealg_IndexByteString n = idxK := by
    funext R p k
    unfold Kbytealg_IndexByteString bytealg_IndexByteString idxK
    simp only [idxF_eq]
    rfl
  rw [e]
  exact idx_ok (fn := Try.f80) (by kernel_rfl) (by kernel_rfl) (by kernel_rfl) (by kernel_rfl) (by kernel_rfl)

/-! ### internal/stringslite.IndexByte -/
theorem cstringslite_IndexByte (n : Nat) : AllOk Try.prog [(80, Kbytealg_IndexByteString @bytealg_IndexByteString n)] := ⟨okbytealg_IndexByteString n, trivial⟩
@[reducible] def Sstringslite_IndexByte : PkS := ⟨[.one (.str), .one (.int .u8)], []⟩
@[reducible] def Tstringslite_IndexByte : PkS := ⟨[.one (.int .i64), .one (.dead), .one (.dead)], []⟩
def Hstringslite_IndexByte : List Sh := [.one .any, .skip, .skip]
def Kstringslite_IndexByte (g : ∀ {R : Type}, Nat → ByteArray → Int → (Int → Option R) → Option R) (n : Nat) : KPs := fun R p k => match (PkS.un Sstringslite_IndexByte p : Option (ByteArray × Int × Unit)) with
  | some (x0, x1, _) => g n x0 x1 (fun r0 => k (PkS.pack Tstringslite_IndexByte (r0, ())))
  | none => none
theorem estringslite_IndexByte (bytealg_IndexByteString : ∀ {R : Type}, Nat → ByteArray → Int → (Int → Option R) → Option R) {R : Type} (n : Nat) (x0 : ByteArray) (x1 : Int) (k : Pk → Option R) : evF tt sig (mkK [(80, Kbytealg_IndexByteString @bytealg_IndexByteString n)] R) (mkL (mkK [(80, Kbytealg_IndexByteString @bytealg_IndexByteString n)]) [] R) Try.f79 Hstringslite_IndexByte (PkS.pack Sstringslite_IndexByte (x0, x1, ())) k = (fun (k : Int → Option R) => (bytealg_IndexByteString n x0 x1 fun r1 => k r1)) (fun r0 => k (PkS.pack Tstringslite_IndexByte (r0, ()))) := by kernel_rfl
theorem okstringslite_IndexByte (n : Nat) : FnOk Try.prog 79 (Kstringslite_IndexByte @stringslite_IndexByte n) := by
  refine fn_ok (sig := sig) mixed ttok (mkK_nat (cstringslite_IndexByte n)) (mkK_ok (cstringslite_IndexByte n)) (mkL_nat (mkK_nat (cstringslite_IndexByte n)) (l := []) trivial) (fn := Try.f79) (c := bodyOf Try.f79) (by kernel_rfl) (by kernel_rfl) (by kernel_rfl) (.eq (l := []) (by kernel_rfl) trivial) (shs := Hstringslite_IndexByte) (S := Sstringslite_IndexByte) (h1 := by kernel_rfl) fun R p k => ?_
  unfold Kstringslite_IndexByte
  cases h : (PkS.un Sstringslite_IndexByte p) with
  | none => rfl
  | some d =>
    obtain ⟨x0, x1, u⟩ := (d : ByteArray × Int × Unit)
    have hp := PkS.un_pack h
    subst hp
    exact (estringslite_IndexByte @bytealg_IndexByteString n x0 x1 k).symm

/-! ### strings.IndexByte -/
theorem cstrings_IndexByte (n : Nat) : AllOk Try.prog [(79, Kstringslite_IndexByte @stringslite_IndexByte n)] := ⟨okstringslite_IndexByte n, trivial⟩
@[reducible] def Sstrings_IndexByte : PkS := ⟨[.one (.str), .one (.int .u8)], []⟩
@[reducible] def Tstrings_IndexByte : PkS := ⟨[.one (.int .i64), .one (.dead), .one (.dead)], []⟩
def Hstrings_IndexByte : List Sh := [.one .any, .skip, .skip]
def Kstrings_IndexByte (g : ∀ {R : Type}, Nat → ByteArray → Int → (Int → Option R) → Option R) (n : Nat) : KPs := fun R p k => match (PkS.un Sstrings_IndexByte p : Option (ByteArray × Int × Unit)) with
  | some (x0, x1, _) => g n x0 x1 (fun r0 => k (PkS.pack Tstrings_IndexByte (r0, ())))
  | none => none
theorem estrings_IndexByte (stringslite_IndexByte : ∀ {R : Type}, Nat → ByteArray → Int → (Int → Option R) → Option R) {R : Type} (n : Nat) (x0 : ByteArray) (x1 : Int) (k : Pk → Option R) : evF tt sig (mkK [(79, Kstringslite_IndexByte @stringslite_IndexByte n)] R) (mkL (mkK [(79, Kstringslite_IndexByte @stringslite_IndexByte n)]) [] R) Try.f76 Hstrings_IndexByte (PkS.pack Sstrings_IndexByte (x0, x1, ())) k = (fun (k : Int → Option R) => (stringslite_IndexByte n x0 x1 fun r1 => k r1)) (fun r0 => k (PkS.pack Tstrings_IndexByte (r0, ()))) := by kernel_rfl
theorem okstrings_IndexByte (n : Nat) : FnOk Try.prog 76 (Kstrings_IndexByte @strings_IndexByte n) := by
  refine fn_ok (sig := sig) mixed ttok (mkK_nat (cstrings_IndexByte n)) (mkK_ok (cstrings_IndexByte n)) (mkL_nat (mkK_nat (cstrings_IndexByte n)) (l := []) trivial) (fn := Try.f76) (c := bodyOf Try.f76) (by kernel_rfl) (by kernel_rfl) (by kernel_rfl) (.eq (l := []) (by kernel_rfl) trivial) (shs := Hstrings_IndexByte) (S := Sstrings_IndexByte) (h1 := by kernel_rfl) fun R p k => ?_
  unfold Kstrings_IndexByte
  cases h : (PkS.un Sstrings_IndexByte p) with
  | none => rfl
  | some d =>
    obtain ⟨x0, x1, u⟩ := (d : ByteArray × Int × Unit)
    have hp := PkS.un_pack h
    subst hp
    exact (estrings_IndexByte @stringslite_IndexByte n x0 x1 k).symm

/-! ### loop.example/g00269/impl.varTruth -/
theorem cimpl_varTruth (n : Nat) : AllOk Try.prog [] := trivial
@[reducible] def Simpl_varTruth_l3 : PkS := ⟨[.one (.int .i64), .one (.int .u64), .one (.int .i64), .one (.dead)], []⟩
@[reducible] def Timpl_varTruth_l3_0 : PkS := ⟨[.one (.int .u64), .one (.dead)], []⟩
def Dimpl_varTruth_l3 : LoopD := ⟨19, [0, 3, 5], [.one .any, .one .any, .one .any, .skip], fun x => match x with
  | .exit 0 => some ([3], [.one .any, .skip])
  | _ => none⟩
def Pimpl_varTruth_l3 (g : ∀ {R : Type}, Nat → Int → Int → Int → (Int → Option R) → Option R) (n : Nat) : LPs := fun R q kk => match (PkS.un Simpl_varTruth_l3 q : Option (Int × Int × Int × Unit)) with
  | some (y3_0, y3_1, y3_2, _) => g n y3_0 y3_1 y3_2 (fun r0 => kk (.exit 0) (PkS.pack Timpl_varTruth_l3_0 (r0, ())))
  | none => none
theorem eimpl_varTruth_l3 (impl_varTruth_l3 : ∀ {R : Type}, Nat → Int → Int → Int → (Int → Option R) → Option R) {R : Type} (n : Nat) (y3_0 : Int) (y3_1 : Int) (y3_2 : Int) (kk : Ex → Pk → Option R) : Dimpl_varTruth_l3.step tt sig (mkK [] R) (mkL (mkK []) [] R) (loopIn 3 (bodyOf Try.f61)) (fun q' => Pimpl_varTruth_l3 @impl_varTruth_l3 n R q' kk) (PkS.pack Simpl_varTruth_l3 (y3_0, y3_1, y3_2, ())) kk = (fun (kexit0 : Int → Option R) => (bif (decide (y3_2 < 64)) then (bif decide (0 ≤ y3_0) then (bif ((IntKind.wrap .i64 (Int.ofNat (BitVec.toNat (BitVec.ofInt (IntKind.bits .i64) (Int.fdiv y3_2 (2 ^ (min (Int.toNat y3_0) (IntKind.bits .i64)))) &&& BitVec.ofInt (IntKind.bits .i64) 1)))) == 1) then (bif decide (0 ≤ y3_2) then impl_varTruth_l3 n y3_0 (IntKind.wrap .u64 (Int.ofNat (BitVec.toNat (BitVec.ofInt (IntKind.bits .u64) y3_1 ||| BitVec.ofInt (IntKind.bits .u64) (IntKind.wrap .u64 (1 * 2 ^ (min (Int.toNat y3_2) (IntKind.bits .u64)))))))) (IntKind.wrap .i64 (y3_2 + 1)) kexit0 else none) else impl_varTruth_l3 n y3_0 y3_1 (IntKind.wrap .i64 (y3_2 + 1)) kexit0) else none) else kexit0 y3_1)) (fun r0 => kk (.exit 0) (PkS.pack Timpl_varTruth_l3_0 (r0, ()))) := by kernel_rfl
theorem leimpl_varTruth_l3 : LoopEq tt sig (fun n => mkK []) (fun n => mkL (mkK []) []) Dimpl_varTruth_l3 Simpl_varTruth_l3 (loopIn 3 (bodyOf Try.f61)) (Pimpl_varTruth_l3 @impl_varTruth_l3) where
  zero R q kk := by unfold Pimpl_varTruth_l3; cases (PkS.un Simpl_varTruth_l3 q) <;> rfl
  succ n R q kk := by
    unfold Pimpl_varTruth_l3
    cases h : (PkS.un Simpl_varTruth_l3 q) with
    | none => rfl
    | some d =>
      obtain ⟨y3_0, y3_1, y3_2, u⟩ := (d : Int × Int × Int × Unit)
      have hp := PkS.un_pack h
      subst hp
      exact (eimpl_varTruth_l3 @impl_varTruth_l3 n y3_0 y3_1 y3_2 kk).symm
theorem nlimpl_varTruth_l3 : ∀ n, NatLP (Pimpl_varTruth_l3 @impl_varTruth_l3 n) := leimpl_varTruth_l3.nat (fun n => mkK_nat (cimpl_varTruth n)) fun n => mkL_nat (mkK_nat (cimpl_varTruth n)) (l := []) trivial
theorem inimpl_varTruth_l3 (n : Nat) (R : Type) : LoopsOk Try.prog (mkL (mkK []) [] R) (loopIn 3 (bodyOf Try.f61)) := .eq (l := []) (by kernel_rfl) trivial
theorem lkimpl_varTruth_l3 (n : Nat) (R : Type) (L0 : LK R) (h0 : ∀ id, firstRegion (loopIn 3 (bodyOf Try.f61)) = some id → L0 id = Dimpl_varTruth_l3.oracle (mkK [] R) (Pimpl_varTruth_l3 @impl_varTruth_l3 n R)) : LoopOk Try.prog L0 (loopIn 3 (bodyOf Try.f61)) :=
  leimpl_varTruth_l3.ok mixed ttok (fun n => mkK_nat (cimpl_varTruth n)) (fun n => mkK_ok (cimpl_varTruth n)) (fun n => inimpl_varTruth_l3 n R) (mkK_nat (cimpl_varTruth n)) h0
@[reducible] def Simpl_varTruth : PkS := ⟨[.one (.int .i64)], []⟩
@[reducible] def Timpl_varTruth : PkS := ⟨[.one (.int .u64), .one (.dead)], []⟩
def Himpl_varTruth : List Sh := [.one .any, .skip]
def Kimpl_varTruth (g : ∀ {R : Type}, Nat → Int → (Int → Option R) → Option R) (n : Nat) : KPs := fun R p k => match (PkS.un Simpl_varTruth p : Option (Int × Unit)) with
  | some (x0, _) => g n x0 (fun r0 => k (PkS.pack Timpl_varTruth (r0, ())))
  | none => none
theorem eimpl_varTruth (impl_varTruth_l3 : ∀ {R : Type}, Nat → Int → Int → Int → (Int → Option R) → Option R) {R : Type} (n : Nat) (x0 : Int) (k : Pk → Option R) : evF tt sig (mkK [] R) (mkL (mkK []) [(3, Dimpl_varTruth_l3, Pimpl_varTruth_l3 @impl_varTruth_l3 n)] R) Try.f61 Himpl_varTruth (PkS.pack Simpl_varTruth (x0, ())) k = (fun (k : Int → Option R) => (impl_varTruth_l3 n x0 0 0 (fun r1 => k r1))) (fun r0 => k (PkS.pack Timpl_varTruth (r0, ()))) := by kernel_rfl
theorem okimpl_varTruth (n : Nat) : FnOk Try.prog 61 (Kimpl_varTruth @impl_varTruth n) := by
  refine fn_ok (sig := sig) mixed ttok (mkK_nat (cimpl_varTruth n)) (mkK_ok (cimpl_varTruth n)) (mkL_nat (mkK_nat (cimpl_varTruth n)) (l := [(3, Dimpl_varTruth_l3, Pimpl_varTruth_l3 @impl_varTruth_l3 n)]) ⟨nlimpl_varTruth_l3 n, trivial⟩) (fn := Try.f61) (c := bodyOf Try.f61) (by kernel_rfl) (by kernel_rfl) (by kernel_rfl) (.eq (l := [.lo (loopIn 3 (bodyOf Try.f61))]) (by kernel_rfl) ⟨(lkimpl_varTruth_l3 n _ _ (at_id (i := 3) (by kernel_rfl) rfl)), trivial⟩) (shs := Himpl_varTruth) (S := Simpl_varTruth) (h1 := by kernel_rfl) fun R p k => ?_
  unfold Kimpl_varTruth
  cases h : (PkS.un Simpl_varTruth p) with
  | none => rfl
  | some d =>
    obtain ⟨x0, u⟩ := (d : Int × Unit)
    have hp := PkS.un_pack h
    subst hp
    exact (eimpl_varTruth @impl_varTruth_l3 n x0 k).symm

/-! ### (*loop.example/g00269/impl.formReader).form -/
theorem cimpl_formReader_form (n : Nat) : AllOk Try.prog [(75, Kimpl_formReader_next @impl_formReader_next n), (76, Kstrings_IndexByte @strings_IndexByte n), (61, Kimpl_varTruth @impl_varTruth n)] := ⟨okimpl_formReader_next n, ⟨okstrings_IndexByte n, ⟨okimpl_varTruth n, trivial⟩⟩⟩
@[reducible] def Simpl_formReader_form : PkS := ⟨[.one (.box (200000, 0) 0)], [((200000, 0), .box [.str, .bool])]⟩
@[reducible] def Timpl_formReader_form : PkS := ⟨[.one (.int .u64), .one (.box (300000, 0) 0)], [((300000, 0), .box [.str, .bool])]⟩
def Himpl_formReader_form : List Sh := [.one .any, .box [.any, .any]]
def Kimpl_formReader_form (g : ∀ {R : Type}, Nat → ByteArray → Bool → (Int → ByteArray → Bool → Option R) → Option R) (n : Nat) : KPs := fun R p k => match (PkS.un Simpl_formReader_form p : Option (ByteArray × Bool × Unit)) with
  | some (x0, x1, _) => g n x0 x1 (fun r0 r1 r2 => k (PkS.pack Timpl_formReader_form (r0, r1, r2, ())))
  | none => none
theorem dimpl_formReader_form (n : Nat) (ih : FnOk Try.prog 66 (Kimpl_formReader_form @impl_formReader_form n)) : AllOk Try.prog [(75, Kimpl_formReader_next @impl_formReader_next n), (76, Kstrings_IndexByte @strings_IndexByte n), (61, Kimpl_varTruth @impl_varTruth n), (66, Kimpl_formReader_form @impl_formReader_form n)] := ⟨okimpl_formReader_next n, ⟨okstrings_IndexByte n, ⟨okimpl_varTruth n, ⟨ih, trivial⟩⟩⟩⟩
theorem eimpl_formReader_form (impl_formReader_next : ∀ {R : Type}, Nat → ByteArray → Bool → (Int → ByteArray → Bool → Option R) → Option R) (strings_IndexByte : ∀ {R : Type}, Nat → ByteArray → Int → (Int → Option R) → Option R) (impl_varTruth : ∀ {R : Type}, Nat → Int → (Int → Option R) → Option R) (impl_formReader_form : ∀ {R : Type}, Nat → ByteArray → Bool → (Int → ByteArray → Bool → Option R) → Option R) {R : Type} (n : Nat) (x0 : ByteArray) (x1 : Bool) (k : Pk → Option R) : evF tt sig (mkK [(75, Kimpl_formReader_next @impl_formReader_next n), (76, Kstrings_IndexByte @strings_IndexByte n), (61, Kimpl_varTruth @impl_varTruth n), (66, Kimpl_formReader_form @impl_formReader_form n)] R) (mkL (mkK [(75, Kimpl_formReader_next @impl_formReader_next n), (76, Kstrings_IndexByte @strings_IndexByte n), (61, Kimpl_varTruth @impl_varTruth n)]) [] R) Try.f66 Himpl_formReader_form (PkS.pack Simpl_formReader_form (x0, x1, ())) k = (fun (k : Int → ByteArray → Bool → Option R) => (impl_formReader_next n x0 x1 fun r1 r2 r3 => (bif r3 then k 0 r2 r3 else (strings_IndexByte n (ByteArray.mk #[97, 98, 99, 100, 101, 102]) r1 fun r4 => (bif (r1 == 48) then k 0 r2 r3 else (bif (r1 == 49) then k 18446744073709551615 r2 r3 else (bif (decide (r4 ≥ 0)) then (impl_varTruth n r4 fun r5 => k r5 r2 r3) else (bif (r1 == 33) then (impl_formReader_form n r2 r3 fun r6 r7 r8 => k (IntKind.wrap .u64 (BitVec.toNat (BitVec.ofInt (IntKind.bits .u64) (18446744073709551615) ^^^ BitVec.ofInt (IntKind.bits .u64) r6))) r7 r8) else (bif (r1 != 40) then k 0 r2 true else (impl_formReader_form n r2 r3 fun r9 r10 r11 => (impl_formReader_next n r10 r11 fun r12 r13 r14 => (impl_formReader_form n r13 r14 fun r15 r16 r17 => (bif r17 then (bif (r12 == 38) then k (IntKind.wrap .u64 (Int.ofNat (BitVec.toNat (BitVec.ofInt (IntKind.bits .u64) r9 &&& BitVec.ofInt (IntKind.bits .u64) r15)))) r16 true else (bif (r12 == 124) then k (IntKind.wrap .u64 (Int.ofNat (BitVec.toNat (BitVec.ofInt (IntKind.bits .u64) r9 ||| BitVec.ofInt (IntKind.bits .u64) r15)))) r16 true else (bif (r12 == 94) then k (IntKind.wrap .u64 (Int.ofNat (BitVec.toNat (BitVec.ofInt (IntKind.bits .u64) r9 ^^^ BitVec.ofInt (IntKind.bits .u64) r15)))) r16 true else k 0 r16 true))) else (impl_formReader_next n r16 r17 fun r18 r19 r20 => (bif (r12 == 38) then k (IntKind.wrap .u64 (Int.ofNat (BitVec.toNat (BitVec.ofInt (IntKind.bits .u64) r9 &&& BitVec.ofInt (IntKind.bits .u64) r15)))) r19 (r18 != 41) else (bif (r12 == 124) then k (IntKind.wrap .u64 (Int.ofNat (BitVec.toNat (BitVec.ofInt (IntKind.bits .u64) r9 ||| BitVec.ofInt (IntKind.bits .u64) r15)))) r19 (r18 != 41) else (bif (r12 == 94) then k (IntKind.wrap .u64 (Int.ofNat (BitVec.toNat (BitVec.ofInt (IntKind.bits .u64) r9 ^^^ BitVec.ofInt (IntKind.bits .u64) r15)))) r19 (r18 != 41) else k 0 r19 true))))))))))))))))) (fun r0 r1 r2 => k (PkS.pack Timpl_formReader_form (r0, r1, r2, ()))) := by kernel_rfl
theorem okimpl_formReader_form : ∀ n, FnOk Try.prog 66 (Kimpl_formReader_form @impl_formReader_form n)
  | 0 => fn_none fun R p k => by unfold Kimpl_formReader_form; cases (PkS.un Simpl_formReader_form p : Option (ByteArray × Bool × Unit)) <;> rfl
  | n + 1 => by
    refine fn_ok (sig := sig) mixed ttok (mkK_nat (dimpl_formReader_form n (okimpl_formReader_form n))) (mkK_ok (dimpl_formReader_form n (okimpl_formReader_form n))) (mkL_nat (mkK_nat (cimpl_formReader_form n)) (l := []) trivial) (fn := Try.f66) (c := bodyOf Try.f66) (by kernel_rfl) (by kernel_rfl) (by kernel_rfl) (.eq (l := []) (by kernel_rfl) trivial) (shs := Himpl_formReader_form) (S := Simpl_formReader_form) (h1 := by kernel_rfl) fun R p k => ?_
    unfold Kimpl_formReader_form
    cases h : (PkS.un Simpl_formReader_form p) with
    | none => rfl
    | some d =>
      obtain ⟨x0, x1, u⟩ := (d : ByteArray × Bool × Unit)
      have hp := PkS.un_pack h
      subst hp
      exact (eimpl_formReader_form @impl_formReader_next @strings_IndexByte @impl_varTruth @impl_formReader_form n x0 x1 k).symm

/-! ### loop.example/g00269/impl.readForm -/
theorem cimpl_readForm (n : Nat) : AllOk Try.prog [(66, Kimpl_formReader_form @impl_formReader_form n)] := ⟨okimpl_formReader_form n, trivial⟩
@[reducible] def Simpl_readForm : PkS := ⟨[.one (.str)], []⟩
@[reducible] def Timpl_readForm : PkS := ⟨[.tup [(false, [.int .u64]), (false, [.bool])], .one (.dead)], []⟩
def Himpl_readForm : List Sh := [.tup [(false, [.any]), (false, [.any])], .skip]
def Kimpl_readForm (g : ∀ {R : Type}, Nat → ByteArray → (Int → Bool → Option R) → Option R) (n : Nat) : KPs := fun R p k => match (PkS.un Simpl_readForm p : Option (ByteArray × Unit)) with
  | some (x0, _) => g n x0 (fun r0 r1 => k (PkS.pack Timpl_readForm (r0, r1, ())))
  | none => none
theorem eimpl_readForm (impl_formReader_form : ∀ {R : Type}, Nat → ByteArray → Bool → (Int → ByteArray → Bool → Option R) → Option R) {R : Type} (n : Nat) (x0 : ByteArray) (k : Pk → Option R) : evF tt sig (mkK [(66, Kimpl_formReader_form @impl_formReader_form n)] R) (mkL (mkK [(66, Kimpl_formReader_form @impl_formReader_form n)]) [] R) Try.f48 Himpl_readForm (PkS.pack Simpl_readForm (x0, ())) k = (fun (k : Int → Bool → Option R) => (bif (decide ((x0.size : Int) > 60)) then k 0 false else (impl_formReader_form n x0 false fun r1 r2 r3 => (bif (!r3) then k r1 ((ByteArray.toList r2) == (ByteArray.toList (ByteArray.mk #[]))) else k r1 false)))) (fun r0 r1 => k (PkS.pack Timpl_readForm (r0, r1, ()))) := by kernel_rfl
theorem okimpl_readForm (n : Nat) : FnOk Try.prog 48 (Kimpl_readForm @impl_readForm n) := by
  refine fn_ok (sig := sig) mixed ttok (mkK_nat (cimpl_readForm n)) (mkK_ok (cimpl_readForm n)) (mkL_nat (mkK_nat (cimpl_readForm n)) (l := []) trivial) (fn := Try.f48) (c := bodyOf Try.f48) (by kernel_rfl) (by kernel_rfl) (by kernel_rfl) (.eq (l := []) (by kernel_rfl) trivial) (shs := Himpl_readForm) (S := Simpl_readForm) (h1 := by kernel_rfl) fun R p k => ?_
  unfold Kimpl_readForm
  cases h : (PkS.un Simpl_readForm p) with
  | none => rfl
  | some d =>
    obtain ⟨x0, u⟩ := (d : ByteArray × Unit)
    have hp := PkS.un_pack h
    subst hp
    exact (eimpl_readForm @impl_formReader_form n x0 k).symm

/-! ### (loop.example/g00269/impl.truth).with -/
theorem cimpl_truth_with (n : Nat) : AllOk Try.prog [(61, Kimpl_varTruth @impl_varTruth n)] := ⟨okimpl_varTruth n, trivial⟩
@[reducible] def Simpl_truth_with : PkS := ⟨[.one (.int .u64), .one (.int .i64), .one (.bool)], []⟩
@[reducible] def Timpl_truth_with : PkS := ⟨[.one (.int .u64), .one (.dead), .one (.dead), .one (.dead)], []⟩
def Himpl_truth_with : List Sh := [.one .any, .skip, .skip, .skip]
def Kimpl_truth_with (g : ∀ {R : Type}, Nat → Int → Int → Bool → (Int → Option R) → Option R) (n : Nat) : KPs := fun R p k => match (PkS.un Simpl_truth_with p : Option (Int × Int × Bool × Unit)) with
  | some (x0, x1, x2, _) => g n x0 x1 x2 (fun r0 => k (PkS.pack Timpl_truth_with (r0, ())))
  | none => none
theorem eimpl_truth_with (impl_varTruth : ∀ {R : Type}, Nat → Int → (Int → Option R) → Option R) {R : Type} (n : Nat) (x0 : Int) (x1 : Int) (x2 : Bool) (k : Pk → Option R) : evF tt sig (mkK [(61, Kimpl_varTruth @impl_varTruth n)] R) (mkL (mkK [(61, Kimpl_varTruth @impl_varTruth n)]) [] R) Try.f55 Himpl_truth_with (PkS.pack Simpl_truth_with (x0, x1, x2, ())) k = (fun (k : Int → Option R) => (impl_varTruth n x1 fun r1 => (bif decide (0 ≤ x1) then (bif x2 then (bif decide (0 ≤ (IntKind.wrap .i64 (1 * 2 ^ (min (Int.toNat x1) (IntKind.bits .i64))))) then k (IntKind.wrap .u64 (Int.ofNat (BitVec.toNat (BitVec.ofInt (IntKind.bits .u64) (IntKind.wrap .u64 (Int.ofNat (BitVec.toNat (BitVec.ofInt (IntKind.bits .u64) x0 &&& BitVec.ofInt (IntKind.bits .u64) r1)))) ||| BitVec.ofInt (IntKind.bits .u64) (Int.fdiv (IntKind.wrap .u64 (Int.ofNat (BitVec.toNat (BitVec.ofInt (IntKind.bits .u64) x0 &&& BitVec.ofInt (IntKind.bits .u64) r1)))) (2 ^ (min (Int.toNat (IntKind.wrap .i64 (1 * 2 ^ (min (Int.toNat x1) (IntKind.bits .i64))))) (IntKind.bits .u64)))))))) else none) else (bif decide (0 ≤ (IntKind.wrap .i64 (1 * 2 ^ (min (Int.toNat x1) (IntKind.bits .i64))))) then k (IntKind.wrap .u64 (Int.ofNat (BitVec.toNat (BitVec.ofInt (IntKind.bits .u64) (IntKind.wrap .u64 (Int.ofNat (BitVec.toNat (BitVec.ofInt (IntKind.bits .u64) x0 &&& ~~~ BitVec.ofInt (IntKind.bits .u64) r1)))) ||| BitVec.ofInt (IntKind.bits .u64) (IntKind.wrap .u64 ((IntKind.wrap .u64 (Int.ofNat (BitVec.toNat (BitVec.ofInt (IntKind.bits .u64) x0 &&& ~~~ BitVec.ofInt (IntKind.bits .u64) r1)))) * 2 ^ (min (Int.toNat (IntKind.wrap .i64 (1 * 2 ^ (min (Int.toNat x1) (IntKind.bits .i64))))) (IntKind.bits .u64)))))))) else none)) else none))) (fun r0 => k (PkS.pack Timpl_truth_with (r0, ()))) := by kernel_rfl
theorem okimpl_truth_with (n : Nat) : FnOk Try.prog 55 (Kimpl_truth_with @impl_truth_with n) := by
  refine fn_ok (sig := sig) mixed ttok (mkK_nat (cimpl_truth_with n)) (mkK_ok (cimpl_truth_with n)) (mkL_nat (mkK_nat (cimpl_truth_with n)) (l := []) trivial) (fn := Try.f55) (c := bodyOf Try.f55) (by kernel_rfl) (by kernel_rfl) (by kernel_rfl) (.eq (l := []) (by kernel_rfl) trivial) (shs := Himpl_truth_with) (S := Simpl_truth_with) (h1 := by kernel_rfl) fun R p k => ?_
  unfold Kimpl_truth_with
  cases h : (PkS.un Simpl_truth_with p) with
  | none => rfl
  | some d =>
    obtain ⟨x0, x1, x2, u⟩ := (d : Int × Int × Bool × Unit)
    have hp := PkS.un_pack h
    subst hp
    exact (eimpl_truth_with @impl_varTruth n x0 x1 x2 k).symm

/-! ### (*loop.example/g00269/impl.builder).node -/
theorem cimpl_builder_node (n : Nat) : AllOk Try.prog [(55, Kimpl_truth_with @impl_truth_with n)] := ⟨okimpl_truth_with n, trivial⟩
@[reducible] def Simpl_builder_node_l10 : PkS := ⟨[.one (.box (100000, 2) 0), .one (.int .u64), .one (.int .i64), .one (.box (100000, 2) 0), .one (.dead)], [((100000, 0), .arr (.pr (.int .i64) (.pr (.int .i64) (.int .i64)))), ((100000, 1), .map), ((100000, 2), .box [.whole (100000, 0), .mp (100000, 1)])]⟩
@[reducible] def Timpl_builder_node_l10_0 : PkS := ⟨[.one (.box (100000, 2) 0), .one (.int .u64), .one (.int .i64), .one (.box (100000, 2) 0), .one (.dead)], [((100000, 0), .arr (.pr (.int .i64) (.pr (.int .i64) (.int .i64)))), ((100000, 1), .map), ((100000, 2), .box [.whole (100000, 0), .mp (100000, 1)])]⟩
def Dimpl_builder_node_l10 : LoopD := ⟨75, [0, 1, 7], [.box [(.own (.pr (.int .i64) (.pr (.int .i64) (.int .i64)))), .map], .one .any, .one .any, .box [(.own (.pr (.int .i64) (.pr (.int .i64) (.int .i64)))), .map], .skip], fun x => match x with
  | .exit 1 => some ([0, 1, 7], [.box [(.own (.pr (.int .i64) (.pr (.int .i64) (.int .i64)))), .map], .one .any, .one .any, .box [(.own (.pr (.int .i64) (.pr (.int .i64) (.int .i64)))), .map], .skip])
  | _ => none⟩
def Pimpl_builder_node_l10 (g : ∀ {R : Type}, Nat → Int → Int → (List (Int × Int × Int)) → (List (Int × Int)) → (Int → Int → (List (Int × Int × Int)) → (List (Int × Int)) → Option R) → Option R) (n : Nat) : LPs := fun R q kk => match (PkS.un Simpl_builder_node_l10 q : Option (Int × Int × (List (Int × Int × Int)) × (List (Int × Int)) × Unit)) with
  | some (y10_0, y10_1, y10_2, y10_3, _) => g n y10_0 y10_1 y10_2 y10_3 (fun r0 r1 r2 r3 => kk (.exit 1) (PkS.pack Timpl_builder_node_l10_0 (r0, r1, r2, r3, ())))
  | none => none
theorem eimpl_builder_node_l10 (impl_truth_with : ∀ {R : Type}, Nat → Int → Int → Bool → (Int → Option R) → Option R) (impl_builder_node_l10 : ∀ {R : Type}, Nat → Int → Int → (List (Int × Int × Int)) → (List (Int × Int)) → (Int → Int → (List (Int × Int × Int)) → (List (Int × Int)) → Option R) → Option R) {R : Type} (n : Nat) (y10_0 : Int) (y10_1 : Int) (y10_2 : List (Int × Int × Int)) (y10_3 : List (Int × Int)) (kk : Ex → Pk → Option R) : Dimpl_builder_node_l10.step tt sig (mkK [(55, Kimpl_truth_with @impl_truth_with n)] R) (mkL (mkK [(55, Kimpl_truth_with @impl_truth_with n)]) [] R) (loopIn 10 (bodyOf Try.f67)) (fun q' => Pimpl_builder_node_l10 @impl_builder_node_l10 n R q' kk) (PkS.pack Simpl_builder_node_l10 (y10_0, y10_1, y10_2, y10_3, ())) kk = (fun (kexit1 : Int → Int → (List (Int × Int × Int)) → (List (Int × Int)) → Option R) => (impl_truth_with n y10_0 y10_1 false fun r1 => (impl_truth_with n y10_0 y10_1 true fun r2 => (bif (r1 == r2) then impl_builder_node_l10 n y10_0 (IntKind.wrap .i64 (y10_1 + 1)) y10_2 y10_3 kexit1 else kexit1 y10_0 y10_1 y10_2 y10_3)))) (fun r0 r1 r2 r3 => kk (.exit 1) (PkS.pack Timpl_builder_node_l10_0 (r0, r1, r2, r3, ()))) := by kernel_rfl
theorem leimpl_builder_node_l10 : LoopEq tt sig (fun n => mkK [(55, Kimpl_truth_with @impl_truth_with n)]) (fun n => mkL (mkK [(55, Kimpl_truth_with @impl_truth_with n)]) []) Dimpl_builder_node_l10 Simpl_builder_node_l10 (loopIn 10 (bodyOf Try.f67)) (Pimpl_builder_node_l10 @impl_builder_node_l10) where
  zero R q kk := by unfold Pimpl_builder_node_l10; cases (PkS.un Simpl_builder_node_l10 q) <;> rfl
  succ n R q kk := by
    unfold Pimpl_builder_node_l10
    cases h : (PkS.un Simpl_builder_node_l10 q) with
    | none => rfl
    | some d =>
      obtain ⟨y10_0, y10_1, y10_2, y10_3, u⟩ := (d : Int × Int × (List (Int × Int × Int)) × (List (Int × Int)) × Unit)
      have hp := PkS.un_pack h
      subst hp
      exact (eimpl_builder_node_l10 @impl_truth_with @impl_builder_node_l10 n y10_0 y10_1 y10_2 y10_3 kk).symm
theorem nlimpl_builder_node_l10 : ∀ n, NatLP (Pimpl_builder_node_l10 @impl_builder_node_l10 n) := leimpl_builder_node_l10.nat (fun n => mkK_nat (cimpl_builder_node n)) fun n => mkL_nat (mkK_nat (cimpl_builder_node n)) (l := []) trivial
theorem inimpl_builder_node_l10 (n : Nat) (R : Type) : LoopsOk Try.prog (mkL (mkK [(55, Kimpl_truth_with @impl_truth_with n)]) [] R) (loopIn 10 (bodyOf Try.f67)) := .eq (l := []) (by kernel_rfl) trivial
theorem lkimpl_builder_node_l10 (n : Nat) (R : Type) (L0 : LK R) (h0 : ∀ id, firstRegion (loopIn 10 (bodyOf Try.f67)) = some id → L0 id = Dimpl_builder_node_l10.oracle (mkK [(55, Kimpl_truth_with @impl_truth_with n)] R) (Pimpl_builder_node_l10 @impl_builder_node_l10 n R)) : LoopOk Try.prog L0 (loopIn 10 (bodyOf Try.f67)) :=
  leimpl_builder_node_l10.ok mixed ttok (fun n => mkK_nat (cimpl_builder_node n)) (fun n => mkK_ok (cimpl_builder_node n)) (fun n => inimpl_builder_node_l10 n R) (mkK_nat (cimpl_builder_node n)) h0
@[reducible] def Simpl_builder_node : PkS := ⟨[.one (.box (200000, 2) 0), .one (.int .u64)], [((200000, 0), .arr (.pr (.int .i64) (.pr (.int .i64) (.int .i64)))), ((200000, 1), .map), ((200000, 2), .box [.whole (200000, 0), .mp (200000, 1)])]⟩
@[reducible] def Timpl_builder_node : PkS := ⟨[.one (.int .i64), .one (.box (300000, 2) 0), .one (.dead)], [((300000, 0), .arr (.pr (.int .i64) (.pr (.int .i64) (.int .i64)))), ((300000, 1), .map), ((300000, 2), .box [.whole (300000, 0), .mp (300000, 1)])]⟩
def Himpl_builder_node : List Sh := [.one .any, .box [(.own (.pr (.int .i64) (.pr (.int .i64) (.int .i64)))), .map], .skip]
def Kimpl_builder_node (g : ∀ {R : Type}, Nat → Int → (List (Int × Int × Int)) → (List (Int × Int)) → (Int → (List (Int × Int × Int)) → (List (Int × Int)) → Option R) → Option R) (n : Nat) : KPs := fun R p k => match (PkS.un Simpl_builder_node p : Option (Int × (List (Int × Int × Int)) × (List (Int × Int)) × Unit)) with
  | some (x0, x1, x2, _) => g n x0 x1 x2 (fun r0 r1 r2 => k (PkS.pack Timpl_builder_node (r0, r1, r2, ())))
  | none => none
theorem dimpl_builder_node (n : Nat) (ih : FnOk Try.prog 67 (Kimpl_builder_node @impl_builder_node n)) : AllOk Try.prog [(55, Kimpl_truth_with @impl_truth_with n), (67, Kimpl_builder_node @impl_builder_node n)] := ⟨okimpl_truth_with n, ⟨ih, trivial⟩⟩
theorem eimpl_builder_node (impl_truth_with : ∀ {R : Type}, Nat → Int → Int → Bool → (Int → Option R) → Option R) (impl_builder_node : ∀ {R : Type}, Nat → Int → (List (Int × Int × Int)) → (List (Int × Int)) → (Int → (List (Int × Int × Int)) → (List (Int × Int)) → Option R) → Option R) (impl_builder_node_l10 : ∀ {R : Type}, Nat → Int → Int → (List (Int × Int × Int)) → (List (Int × Int)) → (Int → Int → (List (Int × Int × Int)) → (List (Int × Int)) → Option R) → Option R) {R : Type} (n : Nat) (x0 : Int) (x1 : List (Int × Int × Int)) (x2 : List (Int × Int)) (k : Pk → Option R) : evF tt sig (mkK [(55, Kimpl_truth_with @impl_truth_with n), (67, Kimpl_builder_node @impl_builder_node n)] R) (mkL (mkK [(55, Kimpl_truth_with @impl_truth_with n)]) [(10, Dimpl_builder_node_l10, Pimpl_builder_node_l10 @impl_builder_node_l10 n)] R) Try.f67 Himpl_builder_node (PkS.pack Simpl_builder_node (x0, x1, x2, ())) k = (fun (k : Int → (List (Int × Int × Int)) → (List (Int × Int)) → Option R) => (bif (x0 == 0) then k (-2) x1 x2 else (bif (x0 == 18446744073709551615) then k (-1) x1 x2 else (bif (List.lookup x0 x2).isSome then k ((List.lookup x0 x2).getD 0) x1 x2 else (impl_builder_node_l10 n x0 0 x1 x2 (fun r3 r4 r5 r6 => (impl_truth_with n r3 r4 false fun r7 => (impl_builder_node n r7 r5 r6 fun r8 r9 r10 => (impl_truth_with n r3 r4 true fun r11 => (impl_builder_node n r11 r9 r10 fun r12 r13 r14 => (bif decide (r13.length + ([(r4, (r8, r12))]).length ≤ LIM) then k (IntKind.wrap .i64 (((r13 ++ [(r4, (r8, r12))]).length : Int) - 1)) (r13 ++ [(r4, (r8, r12))]) ((r3, (IntKind.wrap .i64 (((r13 ++ [(r4, (r8, r12))]).length : Int) - 1))) :: r14) else none))))))))))) (fun r0 r1 r2 => k (PkS.pack Timpl_builder_node (r0, r1, r2, ()))) := by kernel_rfl
theorem okimpl_builder_node : ∀ n, FnOk Try.prog 67 (Kimpl_builder_node @impl_builder_node n)
  | 0 => fn_none fun R p k => by unfold Kimpl_builder_node; cases (PkS.un Simpl_builder_node p : Option (Int × (List (Int × Int × Int)) × (List (Int × Int)) × Unit)) <;> rfl
  | n + 1 => by
    refine fn_ok (sig := sig) mixed ttok (mkK_nat (dimpl_builder_node n (okimpl_builder_node n))) (mkK_ok (dimpl_builder_node n (okimpl_builder_node n))) (mkL_nat (mkK_nat (cimpl_builder_node n)) (l := [(10, Dimpl_builder_node_l10, Pimpl_builder_node_l10 @impl_builder_node_l10 n)]) ⟨nlimpl_builder_node_l10 n, trivial⟩) (fn := Try.f67) (c := bodyOf Try.f67) (by kernel_rfl) (by kernel_rfl) (by kernel_rfl) (.eq (l := [.lo (loopIn 10 (bodyOf Try.f67))]) (by kernel_rfl) ⟨(lkimpl_builder_node_l10 n _ _ (at_id (i := 10) (by kernel_rfl) rfl)), trivial⟩) (shs := Himpl_builder_node) (S := Simpl_builder_node) (h1 := by kernel_rfl) fun R p k => ?_
    unfold Kimpl_builder_node
    cases h : (PkS.un Simpl_builder_node p) with
    | none => rfl
    | some d =>
      obtain ⟨x0, x1, x2, u⟩ := (d : Int × (List (Int × Int × Int)) × (List (Int × Int)) × Unit)
      have hp := PkS.un_pack h
      subst hp
      exact (eimpl_builder_node @impl_truth_with @impl_builder_node @impl_builder_node_l10 n x0 x1 x2 k).symm

/-! ### loop.example/g00269/impl.diagramOf -/
theorem cimpl_diagramOf (n : Nat) : AllOk Try.prog [(67, Kimpl_builder_node @impl_builder_node n)] := ⟨okimpl_builder_node n, trivial⟩
@[reducible] def Simpl_diagramOf : PkS := ⟨[.one (.int .u64)], []⟩
@[reducible] def Timpl_diagramOf : PkS := ⟨[.tup [(true, [.whole (300000, 0), .int .i64]), (false, [.bool])], .one (.dead)], [((300000, 0), .arr (.pr (.int .i64) (.pr (.int .i64) (.int .i64))))]⟩
def Himpl_diagramOf : List Sh := [.tup [(true, [(.own (.pr (.int .i64) (.pr (.int .i64) (.int .i64)))), .any]), (false, [.any])], .skip]
def Kimpl_diagramOf (g : ∀ {R : Type}, Nat → Int → (Int → Bool → (List (Int × Int × Int)) → Option R) → Option R) (n : Nat) : KPs := fun R p k => match (PkS.un Simpl_diagramOf p : Option (Int × Unit)) with
  | some (x0, _) => g n x0 (fun r0 r1 r2 => k (PkS.pack Timpl_diagramOf (r0, r1, r2, ())))
  | none => none
theorem eimpl_diagramOf (impl_builder_node : ∀ {R : Type}, Nat → Int → (List (Int × Int × Int)) → (List (Int × Int)) → (Int → (List (Int × Int × Int)) → (List (Int × Int)) → Option R) → Option R) {R : Type} (n : Nat) (x0 : Int) (k : Pk → Option R) : evF tt sig (mkK [(67, Kimpl_builder_node @impl_builder_node n)] R) (mkL (mkK [(67, Kimpl_builder_node @impl_builder_node n)]) [] R) Try.f49 Himpl_diagramOf (PkS.pack Simpl_diagramOf (x0, ())) k = (fun (k : Int → Bool → (List (Int × Int × Int)) → Option R) => (impl_builder_node n x0 ([] : List (Int × Int × Int)) ([] : List (Int × Int)) fun r1 r2 r3 => (bif (decide ((r2.length : Int) > 70)) then k 0 false ([] : List (Int × Int × Int)) else k r1 true r2))) (fun r0 r1 r2 => k (PkS.pack Timpl_diagramOf (r0, r1, r2, ()))) := by kernel_rfl
theorem okimpl_diagramOf (n : Nat) : FnOk Try.prog 49 (Kimpl_diagramOf @impl_diagramOf n) := by
  refine fn_ok (sig := sig) mixed ttok (mkK_nat (cimpl_diagramOf n)) (mkK_ok (cimpl_diagramOf n)) (mkL_nat (mkK_nat (cimpl_diagramOf n)) (l := []) trivial) (fn := Try.f49) (c := bodyOf Try.f49) (by kernel_rfl) (by kernel_rfl) (by kernel_rfl) (.eq (l := []) (by kernel_rfl) trivial) (shs := Himpl_diagramOf) (S := Simpl_diagramOf) (h1 := by kernel_rfl) fun R p k => ?_
  unfold Kimpl_diagramOf
  cases h : (PkS.un Simpl_diagramOf p) with
  | none => rfl
  | some d =>
    obtain ⟨x0, u⟩ := (d : Int × Unit)
    have hp := PkS.un_pack h
    subst hp
    exact (eimpl_diagramOf @impl_builder_node n x0 k).symm

/-! ### loop.example/g00269/impl.DiagramOf -/
theorem cimpl_DiagramOf (n : Nat) : AllOk Try.prog [(48, Kimpl_readForm @impl_readForm n), (49, Kimpl_diagramOf @impl_diagramOf n)] := ⟨okimpl_readForm n, ⟨okimpl_diagramOf n, trivial⟩⟩
@[reducible] def Simpl_DiagramOf : PkS := ⟨[.one (.str)], []⟩
@[reducible] def Timpl_DiagramOf : PkS := ⟨[.tup [(true, [.whole (300000, 0), .int .i64]), (false, [.bool])], .one (.dead)], [((300000, 0), .arr (.pr (.int .i64) (.pr (.int .i64) (.int .i64))))]⟩
def Himpl_DiagramOf : List Sh := [.tup [(true, [(.own (.pr (.int .i64) (.pr (.int .i64) (.int .i64)))), .any]), (false, [.any])], .skip]
def Kimpl_DiagramOf (g : ∀ {R : Type}, Nat → ByteArray → (Int → Bool → (List (Int × Int × Int)) → Option R) → Option R) (n : Nat) : KPs := fun R p k => match (PkS.un Simpl_DiagramOf p : Option (ByteArray × Unit)) with
  | some (x0, _) => g n x0 (fun r0 r1 r2 => k (PkS.pack Timpl_DiagramOf (r0, r1, r2, ())))
  | none => none
theorem eimpl_DiagramOf (impl_readForm : ∀ {R : Type}, Nat → ByteArray → (Int → Bool → Option R) → Option R) (impl_diagramOf : ∀ {R : Type}, Nat → Int → (Int → Bool → (List (Int × Int × Int)) → Option R) → Option R) {R : Type} (n : Nat) (x0 : ByteArray) (k : Pk → Option R) : evF tt sig (mkK [(48, Kimpl_readForm @impl_readForm n), (49, Kimpl_diagramOf @impl_diagramOf n)] R) (mkL (mkK [(48, Kimpl_readForm @impl_readForm n), (49, Kimpl_diagramOf @impl_diagramOf n)]) [] R) Try.f20 Himpl_DiagramOf (PkS.pack Simpl_DiagramOf (x0, ())) k = (fun (k : Int → Bool → (List (Int × Int × Int)) → Option R) => (impl_readForm n x0 fun r1 r2 => (bif (!r2) then k 0 false ([] : List (Int × Int × Int)) else (impl_diagramOf n r1 fun r3 r4 r5 => k r3 r4 r5)))) (fun r0 r1 r2 => k (PkS.pack Timpl_DiagramOf (r0, r1, r2, ()))) := by kernel_rfl
theorem okimpl_DiagramOf (n : Nat) : FnOk Try.prog 20 (Kimpl_DiagramOf @impl_DiagramOf n) := by
  refine fn_ok (sig := sig) mixed ttok (mkK_nat (cimpl_DiagramOf n)) (mkK_ok (cimpl_DiagramOf n)) (mkL_nat (mkK_nat (cimpl_DiagramOf n)) (l := []) trivial) (fn := Try.f20) (c := bodyOf Try.f20) (by kernel_rfl) (by kernel_rfl) (by kernel_rfl) (.eq (l := []) (by kernel_rfl) trivial) (shs := Himpl_DiagramOf) (S := Simpl_DiagramOf) (h1 := by kernel_rfl) fun R p k => ?_
  unfold Kimpl_DiagramOf
  cases h : (PkS.un Simpl_DiagramOf p) with
  | none => rfl
  | some d =>
    obtain ⟨x0, u⟩ := (d : ByteArray × Unit)
    have hp := PkS.un_pack h
    subst hp
    exact (eimpl_DiagramOf @impl_readForm @impl_diagramOf n x0 k).symm

/-! ### (*loop.example/g00269/spec.l7R).next -/
theorem cspec_l7R_next (n : Nat) : AllOk Try.prog [] := trivial
@[reducible] def Sspec_l7R_next : PkS := ⟨[.one (.box (200000, 0) 0)], [((200000, 0), .box [.str, .int .i64, .bool])]⟩
@[reducible] def Tspec_l7R_next : PkS := ⟨[.one (.int .u8), .one (.box (300000, 0) 0)], [((300000, 0), .box [.str, .int .i64, .bool])]⟩
def Hspec_l7R_next : List Sh := [.one .any, .box [.any, .any, .any]]
def Kspec_l7R_next (g : ∀ {R : Type}, Nat → ByteArray → Int → Bool → (Int → ByteArray → Int → Bool → Option R) → Option R) (n : Nat) : KPs := fun R p k => match (PkS.un Sspec_l7R_next p : Option (ByteArray × Int × Bool × Unit)) with
  | some (x0, x1, x2, _) => g n x0 x1 x2 (fun r0 r1 r2 r3 => k (PkS.pack Tspec_l7R_next (r0, r1, r2, r3, ())))
  | none => none
theorem espec_l7R_next  {R : Type} (n : Nat) (x0 : ByteArray) (x1 : Int) (x2 : Bool) (k : Pk → Option R) : evF tt sig (mkK [] R) (mkL (mkK []) [] R) Try.f73 Hspec_l7R_next (PkS.pack Sspec_l7R_next (x0, x1, x2, ())) k = (fun (k : Int → ByteArray → Int → Bool → Option R) => (bif (decide (x1 < (x0.size : Int))) then (bif decide (0 ≤ x1) then (bif decide (x1 < (x0.size : Int)) then k ((x0.data.getD (Int.toNat x1) 0).toNat : Int) x0 x1 x2 else none) else none) else k 0 x0 x1 x2)) (fun r0 r1 r2 r3 => k (PkS.pack Tspec_l7R_next (r0, r1, r2, r3, ()))) := by kernel_rfl
theorem okspec_l7R_next (n : Nat) : FnOk Try.prog 73 (Kspec_l7R_next @spec_l7R_next n) := by
  refine fn_ok (sig := sig) mixed ttok (mkK_nat (cspec_l7R_next n)) (mkK_ok (cspec_l7R_next n)) (mkL_nat (mkK_nat (cspec_l7R_next n)) (l := []) trivial) (fn := Try.f73) (c := bodyOf Try.f73) (by kernel_rfl) (by kernel_rfl) (by kernel_rfl) (.eq (l := []) (by kernel_rfl) trivial) (shs := Hspec_l7R_next) (S := Sspec_l7R_next) (h1 := by kernel_rfl) fun R p k => ?_
  unfold Kspec_l7R_next
  cases h : (PkS.un Sspec_l7R_next p) with
  | none => rfl
  | some d =>
    obtain ⟨x0, x1, x2, u⟩ := (d : ByteArray × Int × Bool × Unit)
    have hp := PkS.un_pack h
    subst hp
    exact (espec_l7R_next  n x0 x1 x2 k).symm

/-! ### loop.example/g00269/spec.l7Var -/
theorem cspec_l7Var (n : Nat) : AllOk Try.prog [] := trivial
@[reducible] def Sspec_l7Var_l3 : PkS := ⟨[.one (.int .i64), .one (.int .u64), .one (.int .i64), .one (.dead)], []⟩
@[reducible] def Tspec_l7Var_l3_0 : PkS := ⟨[.one (.int .u64), .one (.dead)], []⟩
def Dspec_l7Var_l3 : LoopD := ⟨21, [0, 3, 4], [.one .any, .one .any, .one .any, .skip], fun x => match x with
  | .exit 0 => some ([3], [.one .any, .skip])
  | _ => none⟩
def Pspec_l7Var_l3 (g : ∀ {R : Type}, Nat → Int → Int → Int → (Int → Option R) → Option R) (n : Nat) : LPs := fun R q kk => match (PkS.un Sspec_l7Var_l3 q : Option (Int × Int × Int × Unit)) with
  | some (y3_0, y3_1, y3_2, _) => g n y3_0 y3_1 y3_2 (fun r0 => kk (.exit 0) (PkS.pack Tspec_l7Var_l3_0 (r0, ())))
  | none => none
theorem espec_l7Var_l3 (spec_l7Var_l3 : ∀ {R : Type}, Nat → Int → Int → Int → (Int → Option R) → Option R) {R : Type} (n : Nat) (y3_0 : Int) (y3_1 : Int) (y3_2 : Int) (kk : Ex → Pk → Option R) : Dspec_l7Var_l3.step tt sig (mkK [] R) (mkL (mkK []) [] R) (loopIn 3 (bodyOf Try.f68)) (fun q' => Pspec_l7Var_l3 @spec_l7Var_l3 n R q' kk) (PkS.pack Sspec_l7Var_l3 (y3_0, y3_1, y3_2, ())) kk = (fun (kexit0 : Int → Option R) => (bif (decide (y3_2 < 64)) then (bif decide (0 ≤ (IntKind.wrap .u64 (y3_0))) then (bif ((IntKind.wrap .i64 (Int.ofNat (BitVec.toNat (BitVec.ofInt (IntKind.bits .i64) (Int.fdiv y3_2 (2 ^ (min (Int.toNat (IntKind.wrap .u64 (y3_0))) (IntKind.bits .i64)))) &&& BitVec.ofInt (IntKind.bits .i64) 1)))) == 1) then (bif decide (0 ≤ (IntKind.wrap .u64 (y3_2))) then spec_l7Var_l3 n y3_0 (IntKind.wrap .u64 (Int.ofNat (BitVec.toNat (BitVec.ofInt (IntKind.bits .u64) y3_1 ||| BitVec.ofInt (IntKind.bits .u64) (IntKind.wrap .u64 (1 * 2 ^ (min (Int.toNat (IntKind.wrap .u64 (y3_2))) (IntKind.bits .u64)))))))) (IntKind.wrap .i64 (y3_2 + 1)) kexit0 else none) else spec_l7Var_l3 n y3_0 y3_1 (IntKind.wrap .i64 (y3_2 + 1)) kexit0) else none) else kexit0 y3_1)) (fun r0 => kk (.exit 0) (PkS.pack Tspec_l7Var_l3_0 (r0, ()))) := by kernel_rfl
theorem lespec_l7Var_l3 : LoopEq tt sig (fun n => mkK []) (fun n => mkL (mkK []) []) Dspec_l7Var_l3 Sspec_l7Var_l3 (loopIn 3 (bodyOf Try.f68)) (Pspec_l7Var_l3 @spec_l7Var_l3) where
  zero R q kk := by unfold Pspec_l7Var_l3; cases (PkS.un Sspec_l7Var_l3 q) <;> rfl
  succ n R q kk := by
    unfold Pspec_l7Var_l3
    cases h : (PkS.un Sspec_l7Var_l3 q) with
    | none => rfl
    | some d =>
      obtain ⟨y3_0, y3_1, y3_2, u⟩ := (d : Int × Int × Int × Unit)
      have hp := PkS.un_pack h
      subst hp
      exact (espec_l7Var_l3 @spec_l7Var_l3 n y3_0 y3_1 y3_2 kk).symm
theorem nlspec_l7Var_l3 : ∀ n, NatLP (Pspec_l7Var_l3 @spec_l7Var_l3 n) := lespec_l7Var_l3.nat (fun n => mkK_nat (cspec_l7Var n)) fun n => mkL_nat (mkK_nat (cspec_l7Var n)) (l := []) trivial
theorem inspec_l7Var_l3 (n : Nat) (R : Type) : LoopsOk Try.prog (mkL (mkK []) [] R) (loopIn 3 (bodyOf Try.f68)) := .eq (l := []) (by kernel_rfl) trivial
theorem lkspec_l7Var_l3 (n : Nat) (R : Type) (L0 : LK R) (h0 : ∀ id, firstRegion (loopIn 3 (bodyOf Try.f68)) = some id → L0 id = Dspec_l7Var_l3.oracle (mkK [] R) (Pspec_l7Var_l3 @spec_l7Var_l3 n R)) : LoopOk Try.prog L0 (loopIn 3 (bodyOf Try.f68)) :=
  lespec_l7Var_l3.ok mixed ttok (fun n => mkK_nat (cspec_l7Var n)) (fun n => mkK_ok (cspec_l7Var n)) (fun n => inspec_l7Var_l3 n R) (mkK_nat (cspec_l7Var n)) h0
@[reducible] def Sspec_l7Var : PkS := ⟨[.one (.int .i64)], []⟩
@[reducible] def Tspec_l7Var : PkS := ⟨[.one (.int .u64), .one (.dead)], []⟩
def Hspec_l7Var : List Sh := [.one .any, .skip]
def Kspec_l7Var (g : ∀ {R : Type}, Nat → Int → (Int → Option R) → Option R) (n : Nat) : KPs := fun R p k => match (PkS.un Sspec_l7Var p : Option (Int × Unit)) with
  | some (x0, _) => g n x0 (fun r0 => k (PkS.pack Tspec_l7Var (r0, ())))
  | none => none
theorem espec_l7Var (spec_l7Var_l3 : ∀ {R : Type}, Nat → Int → Int → Int → (Int → Option R) → Option R) {R : Type} (n : Nat) (x0 : Int) (k : Pk → Option R) : evF tt sig (mkK [] R) (mkL (mkK []) [(3, Dspec_l7Var_l3, Pspec_l7Var_l3 @spec_l7Var_l3 n)] R) Try.f68 Hspec_l7Var (PkS.pack Sspec_l7Var (x0, ())) k = (fun (k : Int → Option R) => (spec_l7Var_l3 n x0 0 0 (fun r1 => k r1))) (fun r0 => k (PkS.pack Tspec_l7Var (r0, ()))) := by kernel_rfl
theorem okspec_l7Var (n : Nat) : FnOk Try.prog 68 (Kspec_l7Var @spec_l7Var n) := by
  refine fn_ok (sig := sig) mixed ttok (mkK_nat (cspec_l7Var n)) (mkK_ok (cspec_l7Var n)) (mkL_nat (mkK_nat (cspec_l7Var n)) (l := [(3, Dspec_l7Var_l3, Pspec_l7Var_l3 @spec_l7Var_l3 n)]) ⟨nlspec_l7Var_l3 n, trivial⟩) (fn := Try.f68) (c := bodyOf Try.f68) (by kernel_rfl) (by kernel_rfl) (by kernel_rfl) (.eq (l := [.lo (loopIn 3 (bodyOf Try.f68))]) (by kernel_rfl) ⟨(lkspec_l7Var_l3 n _ _ (at_id (i := 3) (by kernel_rfl) rfl)), trivial⟩) (shs := Hspec_l7Var) (S := Sspec_l7Var) (h1 := by kernel_rfl) fun R p k => ?_
  unfold Kspec_l7Var
  cases h : (PkS.un Sspec_l7Var p) with
  | none => rfl
  | some d =>
    obtain ⟨x0, u⟩ := (d : Int × Unit)
    have hp := PkS.un_pack h
    subst hp
    exact (espec_l7Var @spec_l7Var_l3 n x0 k).symm

/-! ### (*loop.example/g00269/spec.l7R).want -/
theorem cspec_l7R_want (n : Nat) : AllOk Try.prog [(73, Kspec_l7R_next @spec_l7R_next n)] := ⟨okspec_l7R_next n, trivial⟩
@[reducible] def Sspec_l7R_want : PkS := ⟨[.one (.box (200000, 0) 0), .one (.int .u8)], [((200000, 0), .box [.str, .int .i64, .bool])]⟩
@[reducible] def Tspec_l7R_want : PkS := ⟨[.tup [], .one (.box (300000, 0) 0), .one (.dead)], [((300000, 0), .box [.str, .int .i64, .bool])]⟩
def Hspec_l7R_want : List Sh := [.tup [], .box [.any, .any, .any], .skip]
def Kspec_l7R_want (g : ∀ {R : Type}, Nat → Int → ByteArray → Int → Bool → (ByteArray → Int → Bool → Option R) → Option R) (n : Nat) : KPs := fun R p k => match (PkS.un Sspec_l7R_want p : Option (Int × ByteArray × Int × Bool × Unit)) with
  | some (x0, x1, x2, x3, _) => g n x0 x1 x2 x3 (fun r0 r1 r2 => k (PkS.pack Tspec_l7R_want (r0, r1, r2, ())))
  | none => none
theorem espec_l7R_want (spec_l7R_next : ∀ {R : Type}, Nat → ByteArray → Int → Bool → (Int → ByteArray → Int → Bool → Option R) → Option R) {R : Type} (n : Nat) (x0 : Int) (x1 : ByteArray) (x2 : Int) (x3 : Bool) (k : Pk → Option R) : evF tt sig (mkK [(73, Kspec_l7R_next @spec_l7R_next n)] R) (mkL (mkK [(73, Kspec_l7R_next @spec_l7R_next n)]) [] R) Try.f74 Hspec_l7R_want (PkS.pack Sspec_l7R_want (x0, x1, x2, x3, ())) k = (fun (k : ByteArray → Int → Bool → Option R) => (spec_l7R_next n x1 x2 x3 fun r1 r2 r3 r4 => (bif (r1 != x0) then k r2 (IntKind.wrap .i64 (r3 + 1)) true else k r2 (IntKind.wrap .i64 (r3 + 1)) r4))) (fun r0 r1 r2 => k (PkS.pack Tspec_l7R_want (r0, r1, r2, ()))) := by kernel_rfl
theorem okspec_l7R_want (n : Nat) : FnOk Try.prog 74 (Kspec_l7R_want @spec_l7R_want n) := by
  refine fn_ok (sig := sig) mixed ttok (mkK_nat (cspec_l7R_want n)) (mkK_ok (cspec_l7R_want n)) (mkL_nat (mkK_nat (cspec_l7R_want n)) (l := []) trivial) (fn := Try.f74) (c := bodyOf Try.f74) (by kernel_rfl) (by kernel_rfl) (by kernel_rfl) (.eq (l := []) (by kernel_rfl) trivial) (shs := Hspec_l7R_want) (S := Sspec_l7R_want) (h1 := by kernel_rfl) fun R p k => ?_
  unfold Kspec_l7R_want
  cases h : (PkS.un Sspec_l7R_want p) with
  | none => rfl
  | some d =>
    obtain ⟨x0, x1, x2, x3, u⟩ := (d : Int × ByteArray × Int × Bool × Unit)
    have hp := PkS.un_pack h
    subst hp
    exact (espec_l7R_want @spec_l7R_next n x0 x1 x2 x3 k).symm

/-! ### (*loop.example/g00269/spec.l7R).form -/
theorem cspec_l7R_form (n : Nat) : AllOk Try.prog [(73, Kspec_l7R_next @spec_l7R_next n), (68, Kspec_l7Var @spec_l7Var n), (74, Kspec_l7R_want @spec_l7R_want n)] := ⟨okspec_l7R_next n, ⟨okspec_l7Var n, ⟨okspec_l7R_want n, trivial⟩⟩⟩
@[reducible] def Sspec_l7R_form : PkS := ⟨[.one (.box (200000, 0) 0)], [((200000, 0), .box [.str, .int .i64, .bool])]⟩
@[reducible] def Tspec_l7R_form : PkS := ⟨[.one (.int .u64), .one (.box (300000, 0) 0)], [((300000, 0), .box [.str, .int .i64, .bool])]⟩
def Hspec_l7R_form : List Sh := [.one .any, .box [.any, .any, .any]]
def Kspec_l7R_form (g : ∀ {R : Type}, Nat → ByteArray → Int → Bool → (Int → ByteArray → Int → Bool → Option R) → Option R) (n : Nat) : KPs := fun R p k => match (PkS.un Sspec_l7R_form p : Option (ByteArray × Int × Bool × Unit)) with
  | some (x0, x1, x2, _) => g n x0 x1 x2 (fun r0 r1 r2 r3 => k (PkS.pack Tspec_l7R_form (r0, r1, r2, r3, ())))
  | none => none
theorem dspec_l7R_form (n : Nat) (ih : FnOk Try.prog 64 (Kspec_l7R_form @spec_l7R_form n)) : AllOk Try.prog [(73, Kspec_l7R_next @spec_l7R_next n), (68, Kspec_l7Var @spec_l7Var n), (74, Kspec_l7R_want @spec_l7R_want n), (64, Kspec_l7R_form @spec_l7R_form n)] := ⟨okspec_l7R_next n, ⟨okspec_l7Var n, ⟨okspec_l7R_want n, ⟨ih, trivial⟩⟩⟩⟩
theorem espec_l7R_form (spec_l7R_next : ∀ {R : Type}, Nat → ByteArray → Int → Bool → (Int → ByteArray → Int → Bool → Option R) → Option R) (spec_l7Var : ∀ {R : Type}, Nat → Int → (Int → Option R) → Option R) (spec_l7R_want : ∀ {R : Type}, Nat → Int → ByteArray → Int → Bool → (ByteArray → Int → Bool → Option R) → Option R) (spec_l7R_form : ∀ {R : Type}, Nat → ByteArray → Int → Bool → (Int → ByteArray → Int → Bool → Option R) → Option R) {R : Type} (n : Nat) (x0 : ByteArray) (x1 : Int) (x2 : Bool) (k : Pk → Option R) : evF tt sig (mkK [(73, Kspec_l7R_next @spec_l7R_next n), (68, Kspec_l7Var @spec_l7Var n), (74, Kspec_l7R_want @spec_l7R_want n), (64, Kspec_l7R_form @spec_l7R_form n)] R) (mkL (mkK [(73, Kspec_l7R_next @spec_l7R_next n), (68, Kspec_l7Var @spec_l7Var n), (74, Kspec_l7R_want @spec_l7R_want n)]) [] R) Try.f64 Hspec_l7R_form (PkS.pack Sspec_l7R_form (x0, x1, x2, ())) k = (fun (k : Int → ByteArray → Int → Bool → Option R) => (spec_l7R_next n x0 x1 x2 fun r1 r2 r3 r4 => (bif r4 then k 0 r2 (IntKind.wrap .i64 (r3 + 1)) r4 else (bif (r1 == 48) then k 0 r2 (IntKind.wrap .i64 (r3 + 1)) r4 else (bif (r1 == 49) then k 18446744073709551615 r2 (IntKind.wrap .i64 (r3 + 1)) r4 else (bif (decide (r1 ≥ 97)) then (bif (decide (r1 ≤ 102)) then (spec_l7Var n (IntKind.wrap .i64 ((IntKind.wrap .u8 (r1 - 97)))) fun r5 => k r5 r2 (IntKind.wrap .i64 (r3 + 1)) r4) else (bif (r1 == 33) then (spec_l7R_form n r2 (IntKind.wrap .i64 (r3 + 1)) r4 fun r6 r7 r8 r9 => k (IntKind.wrap .u64 (BitVec.toNat (BitVec.ofInt (IntKind.bits .u64) (18446744073709551615) ^^^ BitVec.ofInt (IntKind.bits .u64) r6))) r7 r8 r9) else (bif (r1 == 40) then (spec_l7R_form n r2 (IntKind.wrap .i64 (r3 + 1)) r4 fun r10 r11 r12 r13 => (spec_l7R_next n r11 r12 r13 fun r14 r15 r16 r17 => (spec_l7R_form n r15 (IntKind.wrap .i64 (r16 + 1)) r17 fun r18 r19 r20 r21 => (spec_l7R_want n 41 r19 r20 r21 fun r22 r23 r24 => (bif (r14 == 38) then k (IntKind.wrap .u64 (Int.ofNat (BitVec.toNat (BitVec.ofInt (IntKind.bits .u64) r10 &&& BitVec.ofInt (IntKind.bits .u64) r18)))) r22 r23 r24 else (bif (r14 == 124) then k (IntKind.wrap .u64 (Int.ofNat (BitVec.toNat (BitVec.ofInt (IntKind.bits .u64) r10 ||| BitVec.ofInt (IntKind.bits .u64) r18)))) r22 r23 r24 else (bif (r14 == 94) then k (IntKind.wrap .u64 (Int.ofNat (BitVec.toNat (BitVec.ofInt (IntKind.bits .u64) r10 ^^^ BitVec.ofInt (IntKind.bits .u64) r18)))) r22 r23 r24 else k 0 r22 r23 true))))))) else k 0 r2 (IntKind.wrap .i64 (r3 + 1)) true))) else (bif (r1 == 33) then (spec_l7R_form n r2 (IntKind.wrap .i64 (r3 + 1)) r4 fun r25 r26 r27 r28 => k (IntKind.wrap .u64 (BitVec.toNat (BitVec.ofInt (IntKind.bits .u64) (18446744073709551615) ^^^ BitVec.ofInt (IntKind.bits .u64) r25))) r26 r27 r28) else (bif (r1 == 40) then (spec_l7R_form n r2 (IntKind.wrap .i64 (r3 + 1)) r4 fun r29 r30 r31 r32 => (spec_l7R_next n r30 r31 r32 fun r33 r34 r35 r36 => (spec_l7R_form n r34 (IntKind.wrap .i64 (r35 + 1)) r36 fun r37 r38 r39 r40 => (spec_l7R_want n 41 r38 r39 r40 fun r41 r42 r43 => (bif (r33 == 38) then k (IntKind.wrap .u64 (Int.ofNat (BitVec.toNat (BitVec.ofInt (IntKind.bits .u64) r29 &&& BitVec.ofInt (IntKind.bits .u64) r37)))) r41 r42 r43 else (bif (r33 == 124) then k (IntKind.wrap .u64 (Int.ofNat (BitVec.toNat (BitVec.ofInt (IntKind.bits .u64) r29 ||| BitVec.ofInt (IntKind.bits .u64) r37)))) r41 r42 r43 else (bif (r33 == 94) then k (IntKind.wrap .u64 (Int.ofNat (BitVec.toNat (BitVec.ofInt (IntKind.bits .u64) r29 ^^^ BitVec.ofInt (IntKind.bits .u64) r37)))) r41 r42 r43 else k 0 r41 r42 true))))))) else k 0 r2 (IntKind.wrap .i64 (r3 + 1)) true)))))))) (fun r0 r1 r2 r3 => k (PkS.pack Tspec_l7R_form (r0, r1, r2, r3, ()))) := by kernel_rfl
theorem okspec_l7R_form : ∀ n, FnOk Try.prog 64 (Kspec_l7R_form @spec_l7R_form n)
  | 0 => fn_none fun R p k => by unfold Kspec_l7R_form; cases (PkS.un Sspec_l7R_form p : Option (ByteArray × Int × Bool × Unit)) <;> rfl
  | n + 1 => by
    refine fn_ok (sig := sig) mixed ttok (mkK_nat (dspec_l7R_form n (okspec_l7R_form n))) (mkK_ok (dspec_l7R_form n (okspec_l7R_form n))) (mkL_nat (mkK_nat (cspec_l7R_form n)) (l := []) trivial) (fn := Try.f64) (c := bodyOf Try.f64) (by kernel_rfl) (by kernel_rfl) (by kernel_rfl) (.eq (l := []) (by kernel_rfl) trivial) (shs := Hspec_l7R_form) (S := Sspec_l7R_form) (h1 := by kernel_rfl) fun R p k => ?_
    unfold Kspec_l7R_form
    cases h : (PkS.un Sspec_l7R_form p) with
    | none => rfl
    | some d =>
      obtain ⟨x0, x1, x2, u⟩ := (d : ByteArray × Int × Bool × Unit)
      have hp := PkS.un_pack h
      subst hp
      exact (espec_l7R_form @spec_l7R_next @spec_l7Var @spec_l7R_want @spec_l7R_form n x0 x1 x2 k).symm

/-! ### loop.example/g00269/spec.l7Table -/
theorem cspec_l7Table (n : Nat) : AllOk Try.prog [(64, Kspec_l7R_form @spec_l7R_form n)] := ⟨okspec_l7R_form n, trivial⟩
@[reducible] def Sspec_l7Table : PkS := ⟨[.one (.str)], []⟩
@[reducible] def Tspec_l7Table : PkS := ⟨[.tup [(false, [.int .u64]), (false, [.bool])], .one (.dead)], []⟩
def Hspec_l7Table : List Sh := [.tup [(false, [.any]), (false, [.any])], .skip]
def Kspec_l7Table (g : ∀ {R : Type}, Nat → ByteArray → (Int → Bool → Option R) → Option R) (n : Nat) : KPs := fun R p k => match (PkS.un Sspec_l7Table p : Option (ByteArray × Unit)) with
  | some (x0, _) => g n x0 (fun r0 r1 => k (PkS.pack Tspec_l7Table (r0, r1, ())))
  | none => none
theorem espec_l7Table (spec_l7R_form : ∀ {R : Type}, Nat → ByteArray → Int → Bool → (Int → ByteArray → Int → Bool → Option R) → Option R) {R : Type} (n : Nat) (x0 : ByteArray) (k : Pk → Option R) : evF tt sig (mkK [(64, Kspec_l7R_form @spec_l7R_form n)] R) (mkL (mkK [(64, Kspec_l7R_form @spec_l7R_form n)]) [] R) Try.f46 Hspec_l7Table (PkS.pack Sspec_l7Table (x0, ())) k = (fun (k : Int → Bool → Option R) => (bif (decide ((x0.size : Int) > 60)) then k 0 false else (spec_l7R_form n x0 0 false fun r1 r2 r3 r4 => (bif (!r4) then k r1 (r3 == (x0.size : Int)) else k r1 false)))) (fun r0 r1 => k (PkS.pack Tspec_l7Table (r0, r1, ()))) := by kernel_rfl
theorem okspec_l7Table (n : Nat) : FnOk Try.prog 46 (Kspec_l7Table @spec_l7Table n) := by
  refine fn_ok (sig := sig) mixed ttok (mkK_nat (cspec_l7Table n)) (mkK_ok (cspec_l7Table n)) (mkL_nat (mkK_nat (cspec_l7Table n)) (l := []) trivial) (fn := Try.f46) (c := bodyOf Try.f46) (by kernel_rfl) (by kernel_rfl) (by kernel_rfl) (.eq (l := []) (by kernel_rfl) trivial) (shs := Hspec_l7Table) (S := Sspec_l7Table) (h1 := by kernel_rfl) fun R p k => ?_
  unfold Kspec_l7Table
  cases h : (PkS.un Sspec_l7Table p) with
  | none => rfl
  | some d =>
    obtain ⟨x0, u⟩ := (d : ByteArray × Unit)
    have hp := PkS.un_pack h
    subst hp
    exact (espec_l7Table @spec_l7R_form n x0 k).symm

/-! ### loop.example/g00269/spec.l7Half -/
theorem cspec_l7Half (n : Nat) : AllOk Try.prog [(68, Kspec_l7Var @spec_l7Var n)] := ⟨okspec_l7Var n, trivial⟩
@[reducible] def Sspec_l7Half : PkS := ⟨[.one (.int .u64), .one (.int .i64), .one (.bool)], []⟩
@[reducible] def Tspec_l7Half : PkS := ⟨[.one (.int .u64), .one (.dead), .one (.dead), .one (.dead)], []⟩
def Hspec_l7Half : List Sh := [.one .any, .skip, .skip, .skip]
def Kspec_l7Half (g : ∀ {R : Type}, Nat → Int → Int → Bool → (Int → Option R) → Option R) (n : Nat) : KPs := fun R p k => match (PkS.un Sspec_l7Half p : Option (Int × Int × Bool × Unit)) with
  | some (x0, x1, x2, _) => g n x0 x1 x2 (fun r0 => k (PkS.pack Tspec_l7Half (r0, ())))
  | none => none
theorem espec_l7Half (spec_l7Var : ∀ {R : Type}, Nat → Int → (Int → Option R) → Option R) {R : Type} (n : Nat) (x0 : Int) (x1 : Int) (x2 : Bool) (k : Pk → Option R) : evF tt sig (mkK [(68, Kspec_l7Var @spec_l7Var n)] R) (mkL (mkK [(68, Kspec_l7Var @spec_l7Var n)]) [] R) Try.f54 Hspec_l7Half (PkS.pack Sspec_l7Half (x0, x1, x2, ())) k = (fun (k : Int → Option R) => (spec_l7Var n x1 fun r1 => (bif decide (0 ≤ (IntKind.wrap .u64 (x1))) then (bif x2 then (bif decide (0 ≤ (IntKind.wrap .u64 (1 * 2 ^ (min (Int.toNat (IntKind.wrap .u64 (x1))) (IntKind.bits .u64))))) then k (IntKind.wrap .u64 (Int.ofNat (BitVec.toNat (BitVec.ofInt (IntKind.bits .u64) (IntKind.wrap .u64 (Int.ofNat (BitVec.toNat (BitVec.ofInt (IntKind.bits .u64) x0 &&& BitVec.ofInt (IntKind.bits .u64) r1)))) ||| BitVec.ofInt (IntKind.bits .u64) (Int.fdiv (IntKind.wrap .u64 (Int.ofNat (BitVec.toNat (BitVec.ofInt (IntKind.bits .u64) x0 &&& BitVec.ofInt (IntKind.bits .u64) r1)))) (2 ^ (min (Int.toNat (IntKind.wrap .u64 (1 * 2 ^ (min (Int.toNat (IntKind.wrap .u64 (x1))) (IntKind.bits .u64))))) (IntKind.bits .u64)))))))) else none) else (bif decide (0 ≤ (IntKind.wrap .u64 (1 * 2 ^ (min (Int.toNat (IntKind.wrap .u64 (x1))) (IntKind.bits .u64))))) then k (IntKind.wrap .u64 (Int.ofNat (BitVec.toNat (BitVec.ofInt (IntKind.bits .u64) (IntKind.wrap .u64 (Int.ofNat (BitVec.toNat (BitVec.ofInt (IntKind.bits .u64) x0 &&& ~~~ BitVec.ofInt (IntKind.bits .u64) r1)))) ||| BitVec.ofInt (IntKind.bits .u64) (IntKind.wrap .u64 ((IntKind.wrap .u64 (Int.ofNat (BitVec.toNat (BitVec.ofInt (IntKind.bits .u64) x0 &&& ~~~ BitVec.ofInt (IntKind.bits .u64) r1)))) * 2 ^ (min (Int.toNat (IntKind.wrap .u64 (1 * 2 ^ (min (Int.toNat (IntKind.wrap .u64 (x1))) (IntKind.bits .u64))))) (IntKind.bits .u64)))))))) else none)) else none))) (fun r0 => k (PkS.pack Tspec_l7Half (r0, ()))) := by kernel_rfl
theorem okspec_l7Half (n : Nat) : FnOk Try.prog 54 (Kspec_l7Half @spec_l7Half n) := by
  refine fn_ok (sig := sig) mixed ttok (mkK_nat (cspec_l7Half n)) (mkK_ok (cspec_l7Half n)) (mkL_nat (mkK_nat (cspec_l7Half n)) (l := []) trivial) (fn := Try.f54) (c := bodyOf Try.f54) (by kernel_rfl) (by kernel_rfl) (by kernel_rfl) (.eq (l := []) (by kernel_rfl) trivial) (shs := Hspec_l7Half) (S := Sspec_l7Half) (h1 := by kernel_rfl) fun R p k => ?_
  unfold Kspec_l7Half
  cases h : (PkS.un Sspec_l7Half p) with
  | none => rfl
  | some d =>
    obtain ⟨x0, x1, x2, u⟩ := (d : Int × Int × Bool × Unit)
    have hp := PkS.un_pack h
    subst hp
    exact (espec_l7Half @spec_l7Var n x0 x1 x2 k).symm

/-! ### loop.example/g00269/spec.l7Build -/
theorem cspec_l7Build (n : Nat) : AllOk Try.prog [(54, Kspec_l7Half @spec_l7Half n)] := ⟨okspec_l7Half n, trivial⟩
@[reducible] def Sspec_l7Build_l14 : PkS := ⟨[.one (.whole (100000, 0)), .one (.box (100000, 1) 0), .one (.whole (100000, 0)), .one (.int .i64), .one (.int .i64), .one (.dead), .one (.dead), .one (.dead)], [((100000, 0), .arr (.pr (.int .i64) (.pr (.int .i64) (.int .i64)))), ((100000, 1), .box [.int .i64, .int .i64, .int .i64])]⟩
@[reducible] def Tspec_l7Build_l14_0 : PkS := ⟨[.one (.int .i64), .one (.whole (100000, 0)), .one (.dead), .one (.dead), .one (.dead)], [((100000, 0), .arr (.pr (.int .i64) (.pr (.int .i64) (.int .i64))))]⟩
@[reducible] def Tspec_l7Build_l14_1 : PkS := ⟨[.one (.whole (100000, 0)), .one (.box (100000, 1) 0), .one (.dead), .one (.dead), .one (.dead)], [((100000, 0), .arr (.pr (.int .i64) (.pr (.int .i64) (.int .i64)))), ((100000, 1), .box [.int .i64, .int .i64, .int .i64])]⟩
def Dspec_l7Build_l14 : LoopD := ⟨77, [2, 12, 58, 59, 60], [.one (.own (.pr (.int .i64) (.pr (.int .i64) (.int .i64)))), .box [.any, .any, .any], .one (.own (.pr (.int .i64) (.pr (.int .i64) (.int .i64)))), .one .any, .one .any, .skip, .skip, .skip], fun x => match x with
  | .ret => some ([6, 7], [.one .any, .one (.own (.pr (.int .i64) (.pr (.int .i64) (.int .i64)))), .skip, .skip, .skip])
  | .exit 1 => some ([2, 12], [.one (.own (.pr (.int .i64) (.pr (.int .i64) (.int .i64)))), .box [.any, .any, .any], .skip, .skip, .skip])
  | _ => none⟩
def Pspec_l7Build_l14 (g : ∀ {R : Type}, Nat → Int → Int → (List (Int × Int × Int)) → Int → Int → Int → (Int → (List (Int × Int × Int)) → Option R) → ((List (Int × Int × Int)) → Int → Int → Int → Option R) → Option R) (n : Nat) : LPs := fun R q kk => match (PkS.un Sspec_l7Build_l14 q : Option (Int × Int × (List (Int × Int × Int)) × Int × Int × Int × Unit)) with
  | some (y14_0, y14_1, y14_2, y14_3, y14_4, y14_5, _) => g n y14_0 y14_1 y14_2 y14_3 y14_4 y14_5 (fun r0 r1 => kk .ret (PkS.pack Tspec_l7Build_l14_0 (r0, r1, ()))) (fun r0 r1 r2 r3 => kk (.exit 1) (PkS.pack Tspec_l7Build_l14_1 (r0, r1, r2, r3, ())))
  | none => none
theorem espec_l7Build_l14 (spec_l7Half : ∀ {R : Type}, Nat → Int → Int → Bool → (Int → Option R) → Option R) (spec_l7Build_l14 : ∀ {R : Type}, Nat → Int → Int → (List (Int × Int × Int)) → Int → Int → Int → (Int → (List (Int × Int × Int)) → Option R) → ((List (Int × Int × Int)) → Int → Int → Int → Option R) → Option R) {R : Type} (n : Nat) (y14_0 : Int) (y14_1 : Int) (y14_2 : List (Int × Int × Int)) (y14_3 : Int) (y14_4 : Int) (y14_5 : Int) (kk : Ex → Pk → Option R) : Dspec_l7Build_l14.step tt sig (mkK [(54, Kspec_l7Half @spec_l7Half n)] R) (mkL (mkK [(54, Kspec_l7Half @spec_l7Half n)]) [] R) (loopIn 14 (bodyOf Try.f65)) (fun q' => Pspec_l7Build_l14 @spec_l7Build_l14 n R q' kk) (PkS.pack Sspec_l7Build_l14 (y14_0, y14_1, y14_2, y14_3, y14_4, y14_5, ())) kk = (fun (kret : Int → (List (Int × Int × Int)) → Option R) (kexit1 : (List (Int × Int × Int)) → Int → Int → Int → Option R) => (bif (decide (y14_1 < y14_0)) then (bif decide (0 ≤ y14_1) then (bif decide (y14_1 < (y14_2.length : Int)) then (bif (((y14_2.getD (Int.toNat y14_1) (0, (0, 0))).1 == y14_3) && (((y14_2.getD (Int.toNat y14_1) (0, (0, 0))).2.1 == y14_4) && (((y14_2.getD (Int.toNat y14_1) (0, (0, 0))).2.2 == y14_5) && true))) then kret y14_1 y14_2 else spec_l7Build_l14 n y14_0 (IntKind.wrap .i64 (y14_1 + 1)) y14_2 y14_3 y14_4 y14_5 kret kexit1) else none) else none) else kexit1 y14_2 y14_3 y14_4 y14_5)) (fun r0 r1 => kk .ret (PkS.pack Tspec_l7Build_l14_0 (r0, r1, ()))) (fun r0 r1 r2 r3 => kk (.exit 1) (PkS.pack Tspec_l7Build_l14_1 (r0, r1, r2, r3, ()))) := by kernel_rfl
theorem lespec_l7Build_l14 : LoopEq tt sig (fun n => mkK [(54, Kspec_l7Half @spec_l7Half n)]) (fun n => mkL (mkK [(54, Kspec_l7Half @spec_l7Half n)]) []) Dspec_l7Build_l14 Sspec_l7Build_l14 (loopIn 14 (bodyOf Try.f65)) (Pspec_l7Build_l14 @spec_l7Build_l14) where
  zero R q kk := by unfold Pspec_l7Build_l14; cases (PkS.un Sspec_l7Build_l14 q) <;> rfl
  succ n R q kk := by
    unfold Pspec_l7Build_l14
    cases h : (PkS.un Sspec_l7Build_l14 q) with
    | none => rfl
    | some d =>
      obtain ⟨y14_0, y14_1, y14_2, y14_3, y14_4, y14_5, u⟩ := (d : Int × Int × (List (Int × Int × Int)) × Int × Int × Int × Unit)
      have hp := PkS.un_pack h
      subst hp
      exact (espec_l7Build_l14 @spec_l7Half @spec_l7Build_l14 n y14_0 y14_1 y14_2 y14_3 y14_4 y14_5 kk).symm
theorem nlspec_l7Build_l14 : ∀ n, NatLP (Pspec_l7Build_l14 @spec_l7Build_l14 n) := lespec_l7Build_l14.nat (fun n => mkK_nat (cspec_l7Build n)) fun n => mkL_nat (mkK_nat (cspec_l7Build n)) (l := []) trivial
theorem inspec_l7Build_l14 (n : Nat) (R : Type) : LoopsOk Try.prog (mkL (mkK [(54, Kspec_l7Half @spec_l7Half n)]) [] R) (loopIn 14 (bodyOf Try.f65)) := .eq (l := []) (by kernel_rfl) trivial
theorem lkspec_l7Build_l14 (n : Nat) (R : Type) (L0 : LK R) (h0 : ∀ id, firstRegion (loopIn 14 (bodyOf Try.f65)) = some id → L0 id = Dspec_l7Build_l14.oracle (mkK [(54, Kspec_l7Half @spec_l7Half n)] R) (Pspec_l7Build_l14 @spec_l7Build_l14 n R)) : LoopOk Try.prog L0 (loopIn 14 (bodyOf Try.f65)) :=
  lespec_l7Build_l14.ok mixed ttok (fun n => mkK_nat (cspec_l7Build n)) (fun n => mkK_ok (cspec_l7Build n)) (fun n => inspec_l7Build_l14 n R) (mkK_nat (cspec_l7Build n)) h0
@[reducible] def Sspec_l7Build : PkS := ⟨[.one (.int .u64), .one (.int .i64), .one (.whole (200000, 0))], [((200000, 0), .arr (.pr (.int .i64) (.pr (.int .i64) (.int .i64))))]⟩
@[reducible] def Tspec_l7Build : PkS := ⟨[.tup [(false, [.int .i64]), (false, [.whole (300000, 0)])], .one (.dead), .one (.dead), .one (.dead)], [((300000, 0), .arr (.pr (.int .i64) (.pr (.int .i64) (.int .i64))))]⟩
def Hspec_l7Build : List Sh := [.tup [(false, [.any]), (false, [(.own (.pr (.int .i64) (.pr (.int .i64) (.int .i64))))])], .skip, .skip, .skip]
def Kspec_l7Build (g : ∀ {R : Type}, Nat → Int → Int → (List (Int × Int × Int)) → (Int → (List (Int × Int × Int)) → Option R) → Option R) (n : Nat) : KPs := fun R p k => match (PkS.un Sspec_l7Build p : Option (Int × Int × (List (Int × Int × Int)) × Unit)) with
  | some (x0, x1, x2, _) => g n x0 x1 x2 (fun r0 r1 => k (PkS.pack Tspec_l7Build (r0, r1, ())))
  | none => none
theorem dspec_l7Build (n : Nat) (ih : FnOk Try.prog 65 (Kspec_l7Build @spec_l7Build n)) : AllOk Try.prog [(54, Kspec_l7Half @spec_l7Half n), (65, Kspec_l7Build @spec_l7Build n)] := ⟨okspec_l7Half n, ⟨ih, trivial⟩⟩
theorem espec_l7Build (spec_l7Half : ∀ {R : Type}, Nat → Int → Int → Bool → (Int → Option R) → Option R) (spec_l7Build : ∀ {R : Type}, Nat → Int → Int → (List (Int × Int × Int)) → (Int → (List (Int × Int × Int)) → Option R) → Option R) (spec_l7Build_l14 : ∀ {R : Type}, Nat → Int → Int → (List (Int × Int × Int)) → Int → Int → Int → (Int → (List (Int × Int × Int)) → Option R) → ((List (Int × Int × Int)) → Int → Int → Int → Option R) → Option R) {R : Type} (n : Nat) (x0 : Int) (x1 : Int) (x2 : List (Int × Int × Int)) (k : Pk → Option R) : evF tt sig (mkK [(54, Kspec_l7Half @spec_l7Half n), (65, Kspec_l7Build @spec_l7Build n)] R) (mkL (mkK [(54, Kspec_l7Half @spec_l7Half n)]) [(14, Dspec_l7Build_l14, Pspec_l7Build_l14 @spec_l7Build_l14 n)] R) Try.f65 Hspec_l7Build (PkS.pack Sspec_l7Build (x0, x1, x2, ())) k = (fun (k : Int → (List (Int × Int × Int)) → Option R) => (bif (x0 == 0) then k (-2) x2 else (bif (x0 == 18446744073709551615) then k (-1) x2 else (spec_l7Half n x0 x1 false fun r1 => (spec_l7Half n x0 x1 true fun r2 => (bif (r1 == r2) then (spec_l7Build n x0 (IntKind.wrap .i64 (x1 + 1)) x2 fun r3 r4 => k r3 r4) else (spec_l7Build n r1 (IntKind.wrap .i64 (x1 + 1)) x2 fun r5 r6 => (spec_l7Build n r2 (IntKind.wrap .i64 (x1 + 1)) r6 fun r7 r8 => (spec_l7Build_l14 n (r8.length : Int) 0 r8 x1 r5 r7 (fun r9 r10 => k r9 r10) (fun r11 r12 r13 r14 => (bif decide (r11.length + ([(r12, (r13, r14))]).length ≤ LIM) then k (r11.length : Int) (r11 ++ [(r12, (r13, r14))]) else none))))))))))) (fun r0 r1 => k (PkS.pack Tspec_l7Build (r0, r1, ()))) := by kernel_rfl
theorem okspec_l7Build : ∀ n, FnOk Try.prog 65 (Kspec_l7Build @spec_l7Build n)
  | 0 => fn_none fun R p k => by unfold Kspec_l7Build; cases (PkS.un Sspec_l7Build p : Option (Int × Int × (List (Int × Int × Int)) × Unit)) <;> rfl
  | n + 1 => by
    refine fn_ok (sig := sig) mixed ttok (mkK_nat (dspec_l7Build n (okspec_l7Build n))) (mkK_ok (dspec_l7Build n (okspec_l7Build n))) (mkL_nat (mkK_nat (cspec_l7Build n)) (l := [(14, Dspec_l7Build_l14, Pspec_l7Build_l14 @spec_l7Build_l14 n)]) ⟨nlspec_l7Build_l14 n, trivial⟩) (fn := Try.f65) (c := bodyOf Try.f65) (by kernel_rfl) (by kernel_rfl) (by kernel_rfl) (.eq (l := [.lo (loopIn 14 (bodyOf Try.f65))]) (by kernel_rfl) ⟨(lkspec_l7Build_l14 n _ _ (at_id (i := 14) (by kernel_rfl) rfl)), trivial⟩) (shs := Hspec_l7Build) (S := Sspec_l7Build) (h1 := by kernel_rfl) fun R p k => ?_
    unfold Kspec_l7Build
    cases h : (PkS.un Sspec_l7Build p) with
    | none => rfl
    | some d =>
      obtain ⟨x0, x1, x2, u⟩ := (d : Int × Int × (List (Int × Int × Int)) × Unit)
      have hp := PkS.un_pack h
      subst hp
      exact (espec_l7Build @spec_l7Half @spec_l7Build @spec_l7Build_l14 n x0 x1 x2 k).symm

/-! ### loop.example/g00269/spec.l7Diagram -/
theorem cspec_l7Diagram (n : Nat) : AllOk Try.prog [(65, Kspec_l7Build @spec_l7Build n)] := ⟨okspec_l7Build n, trivial⟩
@[reducible] def Sspec_l7Diagram : PkS := ⟨[.one (.int .u64)], []⟩
@[reducible] def Tspec_l7Diagram : PkS := ⟨[.tup [(true, [.whole (300000, 0), .int .i64]), (false, [.bool])], .one (.dead)], [((300000, 0), .arr (.pr (.int .i64) (.pr (.int .i64) (.int .i64))))]⟩
def Hspec_l7Diagram : List Sh := [.tup [(true, [(.own (.pr (.int .i64) (.pr (.int .i64) (.int .i64)))), .any]), (false, [.any])], .skip]
def Kspec_l7Diagram (g : ∀ {R : Type}, Nat → Int → (Int → Bool → (List (Int × Int × Int)) → Option R) → Option R) (n : Nat) : KPs := fun R p k => match (PkS.un Sspec_l7Diagram p : Option (Int × Unit)) with
  | some (x0, _) => g n x0 (fun r0 r1 r2 => k (PkS.pack Tspec_l7Diagram (r0, r1, r2, ())))
  | none => none
theorem espec_l7Diagram (spec_l7Build : ∀ {R : Type}, Nat → Int → Int → (List (Int × Int × Int)) → (Int → (List (Int × Int × Int)) → Option R) → Option R) {R : Type} (n : Nat) (x0 : Int) (k : Pk → Option R) : evF tt sig (mkK [(65, Kspec_l7Build @spec_l7Build n)] R) (mkL (mkK [(65, Kspec_l7Build @spec_l7Build n)]) [] R) Try.f47 Hspec_l7Diagram (PkS.pack Sspec_l7Diagram (x0, ())) k = (fun (k : Int → Bool → (List (Int × Int × Int)) → Option R) => (spec_l7Build n x0 0 ([] : List (Int × Int × Int)) fun r1 r2 => k r1 (decide ((r2.length : Int) ≤ 70)) r2)) (fun r0 r1 r2 => k (PkS.pack Tspec_l7Diagram (r0, r1, r2, ()))) := by kernel_rfl
theorem okspec_l7Diagram (n : Nat) : FnOk Try.prog 47 (Kspec_l7Diagram @spec_l7Diagram n) := by
  refine fn_ok (sig := sig) mixed ttok (mkK_nat (cspec_l7Diagram n)) (mkK_ok (cspec_l7Diagram n)) (mkL_nat (mkK_nat (cspec_l7Diagram n)) (l := []) trivial) (fn := Try.f47) (c := bodyOf Try.f47) (by kernel_rfl) (by kernel_rfl) (by kernel_rfl) (.eq (l := []) (by kernel_rfl) trivial) (shs := Hspec_l7Diagram) (S := Sspec_l7Diagram) (h1 := by kernel_rfl) fun R p k => ?_
  unfold Kspec_l7Diagram
  cases h : (PkS.un Sspec_l7Diagram p) with
  | none => rfl
  | some d =>
    obtain ⟨x0, u⟩ := (d : Int × Unit)
    have hp := PkS.un_pack h
    subst hp
    exact (espec_l7Diagram @spec_l7Build n x0 k).symm

/-! ### loop.example/g00269/spec.DiagramOf -/
theorem cspec_DiagramOf (n : Nat) : AllOk Try.prog [(46, Kspec_l7Table @spec_l7Table n), (47, Kspec_l7Diagram @spec_l7Diagram n)] := ⟨okspec_l7Table n, ⟨okspec_l7Diagram n, trivial⟩⟩
@[reducible] def Sspec_DiagramOf : PkS := ⟨[.one (.str)], []⟩
@[reducible] def Tspec_DiagramOf : PkS := ⟨[.tup [(true, [.whole (300000, 0), .int .i64]), (false, [.bool])], .one (.dead)], [((300000, 0), .arr (.pr (.int .i64) (.pr (.int .i64) (.int .i64))))]⟩
def Hspec_DiagramOf : List Sh := [.tup [(true, [(.own (.pr (.int .i64) (.pr (.int .i64) (.int .i64)))), .any]), (false, [.any])], .skip]
def Kspec_DiagramOf (g : ∀ {R : Type}, Nat → ByteArray → (Int → Bool → (List (Int × Int × Int)) → Option R) → Option R) (n : Nat) : KPs := fun R p k => match (PkS.un Sspec_DiagramOf p : Option (ByteArray × Unit)) with
  | some (x0, _) => g n x0 (fun r0 r1 r2 => k (PkS.pack Tspec_DiagramOf (r0, r1, r2, ())))
  | none => none
theorem espec_DiagramOf (spec_l7Table : ∀ {R : Type}, Nat → ByteArray → (Int → Bool → Option R) → Option R) (spec_l7Diagram : ∀ {R : Type}, Nat → Int → (Int → Bool → (List (Int × Int × Int)) → Option R) → Option R) {R : Type} (n : Nat) (x0 : ByteArray) (k : Pk → Option R) : evF tt sig (mkK [(46, Kspec_l7Table @spec_l7Table n), (47, Kspec_l7Diagram @spec_l7Diagram n)] R) (mkL (mkK [(46, Kspec_l7Table @spec_l7Table n), (47, Kspec_l7Diagram @spec_l7Diagram n)]) [] R) Try.f19 Hspec_DiagramOf (PkS.pack Sspec_DiagramOf (x0, ())) k = (fun (k : Int → Bool → (List (Int × Int × Int)) → Option R) => (spec_l7Table n x0 fun r1 r2 => (bif (!r2) then k 0 false ([] : List (Int × Int × Int)) else (spec_l7Diagram n r1 fun r3 r4 r5 => (bif (!r4) then k 0 false ([] : List (Int × Int × Int)) else k r3 true r5))))) (fun r0 r1 r2 => k (PkS.pack Tspec_DiagramOf (r0, r1, r2, ()))) := by kernel_rfl
theorem okspec_DiagramOf (n : Nat) : FnOk Try.prog 19 (Kspec_DiagramOf @spec_DiagramOf n) := by
  refine fn_ok (sig := sig) mixed ttok (mkK_nat (cspec_DiagramOf n)) (mkK_ok (cspec_DiagramOf n)) (mkL_nat (mkK_nat (cspec_DiagramOf n)) (l := []) trivial) (fn := Try.f19) (c := bodyOf Try.f19) (by kernel_rfl) (by kernel_rfl) (by kernel_rfl) (.eq (l := []) (by kernel_rfl) trivial) (shs := Hspec_DiagramOf) (S := Sspec_DiagramOf) (h1 := by kernel_rfl) fun R p k => ?_
  unfold Kspec_DiagramOf
  cases h : (PkS.un Sspec_DiagramOf p) with
  | none => rfl
  | some d =>
    obtain ⟨x0, u⟩ := (d : ByteArray × Unit)
    have hp := PkS.un_pack h
    subst hp
    exact (espec_DiagramOf @spec_l7Table @spec_l7Diagram n x0 k).symm

/-! ### loop.example/g00269/impl.TableOf -/
theorem cimpl_TableOf (n : Nat) : AllOk Try.prog [(48, Kimpl_readForm @impl_readForm n)] := ⟨okimpl_readForm n, trivial⟩
@[reducible] def Simpl_TableOf_l6 : PkS := ⟨[.one (.int .u64), .one (.whole (100000, 0)), .one (.int .i64), .one (.dead)], [((100000, 0), .arr (.int .u8))]⟩
@[reducible] def Timpl_TableOf_l6_0 : PkS := ⟨[.one (.whole (100000, 0)), .one (.dead)], [((100000, 0), .arr (.int .u8))]⟩
def Dimpl_TableOf_l6 : LoopD := ⟨31, [4, 6, 16], [.one .any, .one (.own (.int .u8)), .one .any, .skip], fun x => match x with
  | .exit 0 => some ([6], [.one (.own (.int .u8)), .skip])
  | _ => none⟩
def Pimpl_TableOf_l6 (g : ∀ {R : Type}, Nat → Int → Int → (List Int) → ((List Int) → Option R) → Option R) (n : Nat) : LPs := fun R q kk => match (PkS.un Simpl_TableOf_l6 q : Option (Int × Int × (List Int) × Unit)) with
  | some (y6_0, y6_1, y6_2, _) => g n y6_0 y6_1 y6_2 (fun r0 => kk (.exit 0) (PkS.pack Timpl_TableOf_l6_0 (r0, ())))
  | none => none
theorem eimpl_TableOf_l6 (impl_readForm : ∀ {R : Type}, Nat → ByteArray → (Int → Bool → Option R) → Option R) (impl_TableOf_l6 : ∀ {R : Type}, Nat → Int → Int → (List Int) → ((List Int) → Option R) → Option R) {R : Type} (n : Nat) (y6_0 : Int) (y6_1 : Int) (y6_2 : List Int) (kk : Ex → Pk → Option R) : Dimpl_TableOf_l6.step tt sig (mkK [(48, Kimpl_readForm @impl_readForm n)] R) (mkL (mkK [(48, Kimpl_readForm @impl_readForm n)]) [] R) (loopIn 6 (bodyOf Try.f36)) (fun q' => Pimpl_TableOf_l6 @impl_TableOf_l6 n R q' kk) (PkS.pack Simpl_TableOf_l6 (y6_0, y6_1, y6_2, ())) kk = (fun (kexit0 : (List Int) → Option R) => (bif (decide (y6_1 < 64)) then (bif decide (0 ≤ y6_1) then (bif decide (y6_2.length + ([(IntKind.wrap .u8 (48 + (IntKind.wrap .u8 ((IntKind.wrap .u64 (Int.ofNat (BitVec.toNat (BitVec.ofInt (IntKind.bits .u64) (Int.fdiv y6_0 (2 ^ (min (Int.toNat y6_1) (IntKind.bits .u64)))) &&& BitVec.ofInt (IntKind.bits .u64) 1))))))))]).length ≤ LIM) then impl_TableOf_l6 n y6_0 (IntKind.wrap .i64 (y6_1 + 1)) (y6_2 ++ [(IntKind.wrap .u8 (48 + (IntKind.wrap .u8 ((IntKind.wrap .u64 (Int.ofNat (BitVec.toNat (BitVec.ofInt (IntKind.bits .u64) (Int.fdiv y6_0 (2 ^ (min (Int.toNat y6_1) (IntKind.bits .u64)))) &&& BitVec.ofInt (IntKind.bits .u64) 1))))))))]) kexit0 else none) else none) else kexit0 y6_2)) (fun r0 => kk (.exit 0) (PkS.pack Timpl_TableOf_l6_0 (r0, ()))) := by kernel_rfl
theorem leimpl_TableOf_l6 : LoopEq tt sig (fun n => mkK [(48, Kimpl_readForm @impl_readForm n)]) (fun n => mkL (mkK [(48, Kimpl_readForm @impl_readForm n)]) []) Dimpl_TableOf_l6 Simpl_TableOf_l6 (loopIn 6 (bodyOf Try.f36)) (Pimpl_TableOf_l6 @impl_TableOf_l6) where
  zero R q kk := by unfold Pimpl_TableOf_l6; cases (PkS.un Simpl_TableOf_l6 q) <;> rfl
  succ n R q kk := by
    unfold Pimpl_TableOf_l6
    cases h : (PkS.un Simpl_TableOf_l6 q) with
    | none => rfl
    | some d =>
      obtain ⟨y6_0, y6_1, y6_2, u⟩ := (d : Int × Int × (List Int) × Unit)
      have hp := PkS.un_pack h
      subst hp
      exact (eimpl_TableOf_l6 @impl_readForm @impl_TableOf_l6 n y6_0 y6_1 y6_2 kk).symm
theorem nlimpl_TableOf_l6 : ∀ n, NatLP (Pimpl_TableOf_l6 @impl_TableOf_l6 n) := leimpl_TableOf_l6.nat (fun n => mkK_nat (cimpl_TableOf n)) fun n => mkL_nat (mkK_nat (cimpl_TableOf n)) (l := []) trivial
theorem inimpl_TableOf_l6 (n : Nat) (R : Type) : LoopsOk Try.prog (mkL (mkK [(48, Kimpl_readForm @impl_readForm n)]) [] R) (loopIn 6 (bodyOf Try.f36)) := .eq (l := []) (by kernel_rfl) trivial
theorem lkimpl_TableOf_l6 (n : Nat) (R : Type) (L0 : LK R) (h0 : ∀ id, firstRegion (loopIn 6 (bodyOf Try.f36)) = some id → L0 id = Dimpl_TableOf_l6.oracle (mkK [(48, Kimpl_readForm @impl_readForm n)] R) (Pimpl_TableOf_l6 @impl_TableOf_l6 n R)) : LoopOk Try.prog L0 (loopIn 6 (bodyOf Try.f36)) :=
  leimpl_TableOf_l6.ok mixed ttok (fun n => mkK_nat (cimpl_TableOf n)) (fun n => mkK_ok (cimpl_TableOf n)) (fun n => inimpl_TableOf_l6 n R) (mkK_nat (cimpl_TableOf n)) h0
@[reducible] def Simpl_TableOf : PkS := ⟨[.one (.str)], []⟩
@[reducible] def Timpl_TableOf : PkS := ⟨[.tup [(false, [.str]), (false, [.bool])], .one (.dead)], []⟩
def Himpl_TableOf : List Sh := [.tup [(false, [.any]), (false, [.any])], .skip]
def Kimpl_TableOf (g : ∀ {R : Type}, Nat → ByteArray → (ByteArray → Bool → Option R) → Option R) (n : Nat) : KPs := fun R p k => match (PkS.un Simpl_TableOf p : Option (ByteArray × Unit)) with
  | some (x0, _) => g n x0 (fun r0 r1 => k (PkS.pack Timpl_TableOf (r0, r1, ())))
  | none => none
theorem eimpl_TableOf (impl_readForm : ∀ {R : Type}, Nat → ByteArray → (Int → Bool → Option R) → Option R) (impl_TableOf_l6 : ∀ {R : Type}, Nat → Int → Int → (List Int) → ((List Int) → Option R) → Option R) {R : Type} (n : Nat) (x0 : ByteArray) (k : Pk → Option R) : evF tt sig (mkK [(48, Kimpl_readForm @impl_readForm n)] R) (mkL (mkK [(48, Kimpl_readForm @impl_readForm n)]) [(6, Dimpl_TableOf_l6, Pimpl_TableOf_l6 @impl_TableOf_l6 n)] R) Try.f36 Himpl_TableOf (PkS.pack Simpl_TableOf (x0, ())) k = (fun (k : ByteArray → Bool → Option R) => (impl_readForm n x0 fun r1 r2 => (bif (!r2) then k (ByteArray.mk #[]) false else (impl_TableOf_l6 n r1 0 ([] : List Int) (fun r3 => k (bytesOf r3) true))))) (fun r0 r1 => k (PkS.pack Timpl_TableOf (r0, r1, ()))) := by kernel_rfl
theorem okimpl_TableOf (n : Nat) : FnOk Try.prog 36 (Kimpl_TableOf @impl_TableOf n) := by
  refine fn_ok (sig := sig) mixed ttok (mkK_nat (cimpl_TableOf n)) (mkK_ok (cimpl_TableOf n)) (mkL_nat (mkK_nat (cimpl_TableOf n)) (l := [(6, Dimpl_TableOf_l6, Pimpl_TableOf_l6 @impl_TableOf_l6 n)]) ⟨nlimpl_TableOf_l6 n, trivial⟩) (fn := Try.f36) (c := bodyOf Try.f36) (by kernel_rfl) (by kernel_rfl) (by kernel_rfl) (.eq (l := [.lo (loopIn 6 (bodyOf Try.f36))]) (by kernel_rfl) ⟨(lkimpl_TableOf_l6 n _ _ (at_id (i := 6) (by kernel_rfl) rfl)), trivial⟩) (shs := Himpl_TableOf) (S := Simpl_TableOf) (h1 := by kernel_rfl) fun R p k => ?_
  unfold Kimpl_TableOf
  cases h : (PkS.un Simpl_TableOf p) with
  | none => rfl
  | some d =>
    obtain ⟨x0, u⟩ := (d : ByteArray × Unit)
    have hp := PkS.un_pack h
    subst hp
    exact (eimpl_TableOf @impl_readForm @impl_TableOf_l6 n x0 k).symm

/-! ### loop.example/g00269/spec.TableOf -/
theorem cspec_TableOf (n : Nat) : AllOk Try.prog [(46, Kspec_l7Table @spec_l7Table n)] := ⟨okspec_l7Table n, trivial⟩
@[reducible] def Sspec_TableOf_l6 : PkS := ⟨[.one (.int .u64), .one (.whole (100000, 0)), .one (.int .i64), .one (.int .i64), .one (.dead)], [((100000, 0), .arr (.int .u8))]⟩
@[reducible] def Tspec_TableOf_l6_0 : PkS := ⟨[.one (.whole (100000, 0)), .one (.dead)], [((100000, 0), .arr (.int .u8))]⟩
def Dspec_TableOf_l6 : LoopD := ⟨34, [4, 6, 17, 18], [.one .any, .one (.own (.int .u8)), .one .any, .one .any, .skip], fun x => match x with
  | .exit 0 => some ([6], [.one (.own (.int .u8)), .skip])
  | _ => none⟩
def Pspec_TableOf_l6 (g : ∀ {R : Type}, Nat → Int → Int → Int → (List Int) → ((List Int) → Option R) → Option R) (n : Nat) : LPs := fun R q kk => match (PkS.un Sspec_TableOf_l6 q : Option (Int × Int × Int × (List Int) × Unit)) with
  | some (y6_0, y6_1, y6_2, y6_3, _) => g n y6_0 y6_1 y6_2 y6_3 (fun r0 => kk (.exit 0) (PkS.pack Tspec_TableOf_l6_0 (r0, ())))
  | none => none
theorem espec_TableOf_l6 (spec_l7Table : ∀ {R : Type}, Nat → ByteArray → (Int → Bool → Option R) → Option R) (spec_TableOf_l6 : ∀ {R : Type}, Nat → Int → Int → Int → (List Int) → ((List Int) → Option R) → Option R) {R : Type} (n : Nat) (y6_0 : Int) (y6_1 : Int) (y6_2 : Int) (y6_3 : List Int) (kk : Ex → Pk → Option R) : Dspec_TableOf_l6.step tt sig (mkK [(46, Kspec_l7Table @spec_l7Table n)] R) (mkL (mkK [(46, Kspec_l7Table @spec_l7Table n)]) [] R) (loopIn 6 (bodyOf Try.f37)) (fun q' => Pspec_TableOf_l6 @spec_TableOf_l6 n R q' kk) (PkS.pack Sspec_TableOf_l6 (y6_0, y6_1, y6_2, y6_3, ())) kk = (fun (kexit0 : (List Int) → Option R) => (bif (decide (y6_2 < y6_1)) then (bif decide (0 ≤ (IntKind.wrap .u64 (y6_2))) then (bif decide (0 ≤ y6_2) then (bif decide (y6_2 < (y6_3.length : Int)) then spec_TableOf_l6 n y6_0 y6_1 (IntKind.wrap .i64 (y6_2 + 1)) (y6_3.set (Int.toNat y6_2) (IntKind.wrap .u8 (48 + (IntKind.wrap .u8 ((IntKind.wrap .u64 (Int.ofNat (BitVec.toNat (BitVec.ofInt (IntKind.bits .u64) (Int.fdiv y6_0 (2 ^ (min (Int.toNat (IntKind.wrap .u64 (y6_2))) (IntKind.bits .u64)))) &&& BitVec.ofInt (IntKind.bits .u64) 1))))))))) kexit0 else none) else none) else none) else kexit0 y6_3)) (fun r0 => kk (.exit 0) (PkS.pack Tspec_TableOf_l6_0 (r0, ()))) := by kernel_rfl
theorem lespec_TableOf_l6 : LoopEq tt sig (fun n => mkK [(46, Kspec_l7Table @spec_l7Table n)]) (fun n => mkL (mkK [(46, Kspec_l7Table @spec_l7Table n)]) []) Dspec_TableOf_l6 Sspec_TableOf_l6 (loopIn 6 (bodyOf Try.f37)) (Pspec_TableOf_l6 @spec_TableOf_l6) where
  zero R q kk := by unfold Pspec_TableOf_l6; cases (PkS.un Sspec_TableOf_l6 q) <;> rfl
  succ n R q kk := by
    unfold Pspec_TableOf_l6
    cases h : (PkS.un Sspec_TableOf_l6 q) with
    | none => rfl
    | some d =>
      obtain ⟨y6_0, y6_1, y6_2, y6_3, u⟩ := (d : Int × Int × Int × (List Int) × Unit)
      have hp := PkS.un_pack h
      subst hp
      exact (espec_TableOf_l6 @spec_l7Table @spec_TableOf_l6 n y6_0 y6_1 y6_2 y6_3 kk).symm
theorem nlspec_TableOf_l6 : ∀ n, NatLP (Pspec_TableOf_l6 @spec_TableOf_l6 n) := lespec_TableOf_l6.nat (fun n => mkK_nat (cspec_TableOf n)) fun n => mkL_nat (mkK_nat (cspec_TableOf n)) (l := []) trivial
theorem inspec_TableOf_l6 (n : Nat) (R : Type) : LoopsOk Try.prog (mkL (mkK [(46, Kspec_l7Table @spec_l7Table n)]) [] R) (loopIn 6 (bodyOf Try.f37)) := .eq (l := []) (by kernel_rfl) trivial
theorem lkspec_TableOf_l6 (n : Nat) (R : Type) (L0 : LK R) (h0 : ∀ id, firstRegion (loopIn 6 (bodyOf Try.f37)) = some id → L0 id = Dspec_TableOf_l6.oracle (mkK [(46, Kspec_l7Table @spec_l7Table n)] R) (Pspec_TableOf_l6 @spec_TableOf_l6 n R)) : LoopOk Try.prog L0 (loopIn 6 (bodyOf Try.f37)) :=
  lespec_TableOf_l6.ok mixed ttok (fun n => mkK_nat (cspec_TableOf n)) (fun n => mkK_ok (cspec_TableOf n)) (fun n => inspec_TableOf_l6 n R) (mkK_nat (cspec_TableOf n)) h0
@[reducible] def Sspec_TableOf : PkS := ⟨[.one (.str)], []⟩
@[reducible] def Tspec_TableOf : PkS := ⟨[.tup [(false, [.str]), (false, [.bool])], .one (.dead)], []⟩
def Hspec_TableOf : List Sh := [.tup [(false, [.any]), (false, [.any])], .skip]
def Kspec_TableOf (g : ∀ {R : Type}, Nat → ByteArray → (ByteArray → Bool → Option R) → Option R) (n : Nat) : KPs := fun R p k => match (PkS.un Sspec_TableOf p : Option (ByteArray × Unit)) with
  | some (x0, _) => g n x0 (fun r0 r1 => k (PkS.pack Tspec_TableOf (r0, r1, ())))
  | none => none
theorem espec_TableOf (spec_l7Table : ∀ {R : Type}, Nat → ByteArray → (Int → Bool → Option R) → Option R) (spec_TableOf_l6 : ∀ {R : Type}, Nat → Int → Int → Int → (List Int) → ((List Int) → Option R) → Option R) {R : Type} (n : Nat) (x0 : ByteArray) (k : Pk → Option R) : evF tt sig (mkK [(46, Kspec_l7Table @spec_l7Table n)] R) (mkL (mkK [(46, Kspec_l7Table @spec_l7Table n)]) [(6, Dspec_TableOf_l6, Pspec_TableOf_l6 @spec_TableOf_l6 n)] R) Try.f37 Hspec_TableOf (PkS.pack Sspec_TableOf (x0, ())) k = (fun (k : ByteArray → Bool → Option R) => (spec_l7Table n x0 fun r1 r2 => (bif (!r2) then k (ByteArray.mk #[]) false else (spec_TableOf_l6 n r1 ((List.replicate 64 (0 : Int)).length : Int) 0 (List.replicate 64 (0 : Int)) (fun r3 => k (bytesOf r3) true))))) (fun r0 r1 => k (PkS.pack Tspec_TableOf (r0, r1, ()))) := by kernel_rfl
theorem okspec_TableOf (n : Nat) : FnOk Try.prog 37 (Kspec_TableOf @spec_TableOf n) := by
  refine fn_ok (sig := sig) mixed ttok (mkK_nat (cspec_TableOf n)) (mkK_ok (cspec_TableOf n)) (mkL_nat (mkK_nat (cspec_TableOf n)) (l := [(6, Dspec_TableOf_l6, Pspec_TableOf_l6 @spec_TableOf_l6 n)]) ⟨nlspec_TableOf_l6 n, trivial⟩) (fn := Try.f37) (c := bodyOf Try.f37) (by kernel_rfl) (by kernel_rfl) (by kernel_rfl) (.eq (l := [.lo (loopIn 6 (bodyOf Try.f37))]) (by kernel_rfl) ⟨(lkspec_TableOf_l6 n _ _ (at_id (i := 6) (by kernel_rfl) rfl)), trivial⟩) (shs := Hspec_TableOf) (S := Sspec_TableOf) (h1 := by kernel_rfl) fun R p k => ?_
  unfold Kspec_TableOf
  cases h : (PkS.un Sspec_TableOf p) with
  | none => rfl
  | some d =>
    obtain ⟨x0, u⟩ := (d : ByteArray × Unit)
    have hp := PkS.un_pack h
    subst hp
    exact (espec_TableOf @spec_l7Table @spec_TableOf_l6 n x0 k).symm

/-! ### loop.example/g00269/laws.sameDiagrams -/
theorem claws_sameDiagrams (n : Nat) : AllOk Try.prog [] := trivial
@[reducible] def Slaws_sameDiagrams_l4 : PkS := ⟨[.one (.box (100000, 0) 0), .one (.box (100000, 1) 0), .one (.int .i64), .one (.int .i64), .one (.dead), .one (.dead)], [((100000, 0), .box [.ro (.pr (.int .i64) (.pr (.int .i64) (.int .i64))), .int .i64]), ((100000, 1), .box [.ro (.pr (.int .i64) (.pr (.int .i64) (.int .i64))), .int .i64])]⟩
@[reducible] def Tlaws_sameDiagrams_l4_0 : PkS := ⟨[.one (.bool), .one (.dead), .one (.dead)], []⟩
@[reducible] def Tlaws_sameDiagrams_l4_1 : PkS := ⟨[.one (.dead), .one (.dead)], []⟩
def Dlaws_sameDiagrams_l4 : LoopD := ⟨38, [2, 3, 22, 23], [.box [(.ro (.pr (.int .i64) (.pr (.int .i64) (.int .i64)))), .any], .box [(.ro (.pr (.int .i64) (.pr (.int .i64) (.int .i64)))), .any], .one .any, .one .any, .skip, .skip], fun x => match x with
  | .ret => some ([4], [.one .any, .skip, .skip])
  | .exit 0 => some ([], [.skip, .skip])
  | _ => none⟩
def Plaws_sameDiagrams_l4 (g : ∀ {R : Type}, Nat → Int → Int → (List (Int × Int × Int)) → Int → (List (Int × Int × Int)) → Int → (Bool → Option R) → (Option R) → Option R) (n : Nat) : LPs := fun R q kk => match (PkS.un Slaws_sameDiagrams_l4 q : Option (Int × Int × (List (Int × Int × Int)) × Int × (List (Int × Int × Int)) × Int × Unit)) with
  | some (y4_0, y4_1, y4_2, y4_3, y4_4, y4_5, _) => g n y4_0 y4_1 y4_2 y4_3 y4_4 y4_5 (fun r0 => kk .ret (PkS.pack Tlaws_sameDiagrams_l4_0 (r0, ()))) (kk (.exit 0) (PkS.pack Tlaws_sameDiagrams_l4_1 ()))
  | none => none
theorem elaws_sameDiagrams_l4 (laws_sameDiagrams_l4 : ∀ {R : Type}, Nat → Int → Int → (List (Int × Int × Int)) → Int → (List (Int × Int × Int)) → Int → (Bool → Option R) → (Option R) → Option R) {R : Type} (n : Nat) (y4_0 : Int) (y4_1 : Int) (y4_2 : List (Int × Int × Int)) (y4_3 : Int) (y4_4 : List (Int × Int × Int)) (y4_5 : Int) (kk : Ex → Pk → Option R) : Dlaws_sameDiagrams_l4.step tt sig (mkK [] R) (mkL (mkK []) [] R) (loopIn 4 (bodyOf Try.f32)) (fun q' => Plaws_sameDiagrams_l4 @laws_sameDiagrams_l4 n R q' kk) (PkS.pack Slaws_sameDiagrams_l4 (y4_0, y4_1, y4_2, y4_3, y4_4, y4_5, ())) kk = (fun (kret : Bool → Option R) (kexit0 : Option R) => (bif (decide (y4_1 < y4_0)) then (bif decide (0 ≤ y4_1) then (bif decide (y4_1 < (y4_2.length : Int)) then (bif decide (0 ≤ y4_1) then (bif decide (y4_1 < (y4_4.length : Int)) then (bif (!(((y4_2.getD (Int.toNat y4_1) (0, (0, 0))).1 == (y4_4.getD (Int.toNat y4_1) (0, (0, 0))).1) && (((y4_2.getD (Int.toNat y4_1) (0, (0, 0))).2.1 == (y4_4.getD (Int.toNat y4_1) (0, (0, 0))).2.1) && (((y4_2.getD (Int.toNat y4_1) (0, (0, 0))).2.2 == (y4_4.getD (Int.toNat y4_1) (0, (0, 0))).2.2) && true)))) then kret false else laws_sameDiagrams_l4 n y4_0 (IntKind.wrap .i64 (y4_1 + 1)) y4_2 y4_3 y4_4 y4_5 kret kexit0) else none) else none) else none) else none) else kexit0)) (fun r0 => kk .ret (PkS.pack Tlaws_sameDiagrams_l4_0 (r0, ()))) (kk (.exit 0) (PkS.pack Tlaws_sameDiagrams_l4_1 ())) := by kernel_rfl
theorem lelaws_sameDiagrams_l4 : LoopEq tt sig (fun n => mkK []) (fun n => mkL (mkK []) []) Dlaws_sameDiagrams_l4 Slaws_sameDiagrams_l4 (loopIn 4 (bodyOf Try.f32)) (Plaws_sameDiagrams_l4 @laws_sameDiagrams_l4) where
  zero R q kk := by unfold Plaws_sameDiagrams_l4; cases (PkS.un Slaws_sameDiagrams_l4 q) <;> rfl
  succ n R q kk := by
    unfold Plaws_sameDiagrams_l4
    cases h : (PkS.un Slaws_sameDiagrams_l4 q) with
    | none => rfl
    | some d =>
      obtain ⟨y4_0, y4_1, y4_2, y4_3, y4_4, y4_5, u⟩ := (d : Int × Int × (List (Int × Int × Int)) × Int × (List (Int × Int × Int)) × Int × Unit)
      have hp := PkS.un_pack h
      subst hp
      exact (elaws_sameDiagrams_l4 @laws_sameDiagrams_l4 n y4_0 y4_1 y4_2 y4_3 y4_4 y4_5 kk).symm
theorem nllaws_sameDiagrams_l4 : ∀ n, NatLP (Plaws_sameDiagrams_l4 @laws_sameDiagrams_l4 n) := lelaws_sameDiagrams_l4.nat (fun n => mkK_nat (claws_sameDiagrams n)) fun n => mkL_nat (mkK_nat (claws_sameDiagrams n)) (l := []) trivial
theorem inlaws_sameDiagrams_l4 (n : Nat) (R : Type) : LoopsOk Try.prog (mkL (mkK []) [] R) (loopIn 4 (bodyOf Try.f32)) := .eq (l := []) (by kernel_rfl) trivial
theorem lklaws_sameDiagrams_l4 (n : Nat) (R : Type) (L0 : LK R) (h0 : ∀ id, firstRegion (loopIn 4 (bodyOf Try.f32)) = some id → L0 id = Dlaws_sameDiagrams_l4.oracle (mkK [] R) (Plaws_sameDiagrams_l4 @laws_sameDiagrams_l4 n R)) : LoopOk Try.prog L0 (loopIn 4 (bodyOf Try.f32)) :=
  lelaws_sameDiagrams_l4.ok mixed ttok (fun n => mkK_nat (claws_sameDiagrams n)) (fun n => mkK_ok (claws_sameDiagrams n)) (fun n => inlaws_sameDiagrams_l4 n R) (mkK_nat (claws_sameDiagrams n)) h0
@[reducible] def Slaws_sameDiagrams : PkS := ⟨[.agg [.ro (.pr (.int .i64) (.pr (.int .i64) (.int .i64))), .int .i64], .agg [.ro (.pr (.int .i64) (.pr (.int .i64) (.int .i64))), .int .i64]], []⟩
@[reducible] def Tlaws_sameDiagrams : PkS := ⟨[.one (.bool), .one (.dead), .one (.dead)], []⟩
def Hlaws_sameDiagrams : List Sh := [.one .any, .skip, .skip]
def Klaws_sameDiagrams (g : ∀ {R : Type}, Nat → (List (Int × Int × Int)) → Int → (List (Int × Int × Int)) → Int → (Bool → Option R) → Option R) (n : Nat) : KPs := fun R p k => match (PkS.un Slaws_sameDiagrams p : Option ((List (Int × Int × Int)) × Int × (List (Int × Int × Int)) × Int × Unit)) with
  | some (x0, x1, x2, x3, _) => g n x0 x1 x2 x3 (fun r0 => k (PkS.pack Tlaws_sameDiagrams (r0, ())))
  | none => none
theorem elaws_sameDiagrams (laws_sameDiagrams_l4 : ∀ {R : Type}, Nat → Int → Int → (List (Int × Int × Int)) → Int → (List (Int × Int × Int)) → Int → (Bool → Option R) → (Option R) → Option R) {R : Type} (n : Nat) (x0 : List (Int × Int × Int)) (x1 : Int) (x2 : List (Int × Int × Int)) (x3 : Int) (k : Pk → Option R) : evF tt sig (mkK [] R) (mkL (mkK []) [(4, Dlaws_sameDiagrams_l4, Plaws_sameDiagrams_l4 @laws_sameDiagrams_l4 n)] R) Try.f32 Hlaws_sameDiagrams (PkS.pack Slaws_sameDiagrams (x0, x1, x2, x3, ())) k = (fun (k : Bool → Option R) => (bif (x1 != x3) then k false else (bif ((x0.length : Int) != (x2.length : Int)) then k false else (laws_sameDiagrams_l4 n (x0.length : Int) 0 x0 x1 x2 x3 (fun r1 => k r1) (k true))))) (fun r0 => k (PkS.pack Tlaws_sameDiagrams (r0, ()))) := by kernel_rfl
theorem oklaws_sameDiagrams (n : Nat) : FnOk Try.prog 32 (Klaws_sameDiagrams @laws_sameDiagrams n) := by
  refine fn_ok (sig := sig) mixed ttok (mkK_nat (claws_sameDiagrams n)) (mkK_ok (claws_sameDiagrams n)) (mkL_nat (mkK_nat (claws_sameDiagrams n)) (l := [(4, Dlaws_sameDiagrams_l4, Plaws_sameDiagrams_l4 @laws_sameDiagrams_l4 n)]) ⟨nllaws_sameDiagrams_l4 n, trivial⟩) (fn := Try.f32) (c := bodyOf Try.f32) (by kernel_rfl) (by kernel_rfl) (by kernel_rfl) (.eq (l := [.lo (loopIn 4 (bodyOf Try.f32))]) (by kernel_rfl) ⟨(lklaws_sameDiagrams_l4 n _ _ (at_id (i := 4) (by kernel_rfl) rfl)), trivial⟩) (shs := Hlaws_sameDiagrams) (S := Slaws_sameDiagrams) (h1 := by kernel_rfl) fun R p k => ?_
  unfold Klaws_sameDiagrams
  cases h : (PkS.un Slaws_sameDiagrams p) with
  | none => rfl
  | some d =>
    obtain ⟨x0, x1, x2, x3, u⟩ := (d : (List (Int × Int × Int)) × Int × (List (Int × Int × Int)) × Int × Unit)
    have hp := PkS.un_pack h
    subst hp
    exact (elaws_sameDiagrams @laws_sameDiagrams_l4 n x0 x1 x2 x3 k).symm

/-! ### loop.example/g00269/impl.GoodForm -/
theorem cimpl_GoodForm (n : Nat) : AllOk Try.prog [(48, Kimpl_readForm @impl_readForm n)] := ⟨okimpl_readForm n, trivial⟩
@[reducible] def Simpl_GoodForm : PkS := ⟨[.one (.str)], []⟩
@[reducible] def Timpl_GoodForm : PkS := ⟨[.one (.bool), .one (.dead)], []⟩
def Himpl_GoodForm : List Sh := [.one .any, .skip]
def Kimpl_GoodForm (g : ∀ {R : Type}, Nat → ByteArray → (Bool → Option R) → Option R) (n : Nat) : KPs := fun R p k => match (PkS.un Simpl_GoodForm p : Option (ByteArray × Unit)) with
  | some (x0, _) => g n x0 (fun r0 => k (PkS.pack Timpl_GoodForm (r0, ())))
  | none => none
theorem eimpl_GoodForm (impl_readForm : ∀ {R : Type}, Nat → ByteArray → (Int → Bool → Option R) → Option R) {R : Type} (n : Nat) (x0 : ByteArray) (k : Pk → Option R) : evF tt sig (mkK [(48, Kimpl_readForm @impl_readForm n)] R) (mkL (mkK [(48, Kimpl_readForm @impl_readForm n)]) [] R) Try.f38 Himpl_GoodForm (PkS.pack Simpl_GoodForm (x0, ())) k = (fun (k : Bool → Option R) => (impl_readForm n x0 fun r1 r2 => k r2)) (fun r0 => k (PkS.pack Timpl_GoodForm (r0, ()))) := by kernel_rfl
theorem okimpl_GoodForm (n : Nat) : FnOk Try.prog 38 (Kimpl_GoodForm @impl_GoodForm n) := by
  refine fn_ok (sig := sig) mixed ttok (mkK_nat (cimpl_GoodForm n)) (mkK_ok (cimpl_GoodForm n)) (mkL_nat (mkK_nat (cimpl_GoodForm n)) (l := []) trivial) (fn := Try.f38) (c := bodyOf Try.f38) (by kernel_rfl) (by kernel_rfl) (by kernel_rfl) (.eq (l := []) (by kernel_rfl) trivial) (shs := Himpl_GoodForm) (S := Simpl_GoodForm) (h1 := by kernel_rfl) fun R p k => ?_
  unfold Kimpl_GoodForm
  cases h : (PkS.un Simpl_GoodForm p) with
  | none => rfl
  | some d =>
    obtain ⟨x0, u⟩ := (d : ByteArray × Unit)
    have hp := PkS.un_pack h
    subst hp
    exact (eimpl_GoodForm @impl_readForm n x0 k).symm

/-! ### loop.example/g00269/impl.in -/
theorem cimpl_in (n : Nat) : AllOk Try.prog [] := trivial
@[reducible] def Simpl_in : PkS := ⟨[.one (.int .i64), .one (.int .i64), .one (.int .i64)], []⟩
@[reducible] def Timpl_in : PkS := ⟨[.one (.bool), .one (.dead), .one (.dead), .one (.dead)], []⟩
def Himpl_in : List Sh := [.one .any, .skip, .skip, .skip]
def Kimpl_in (g : ∀ {R : Type}, Nat → Int → Int → Int → (Bool → Option R) → Option R) (n : Nat) : KPs := fun R p k => match (PkS.un Simpl_in p : Option (Int × Int × Int × Unit)) with
  | some (x0, x1, x2, _) => g n x0 x1 x2 (fun r0 => k (PkS.pack Timpl_in (r0, ())))
  | none => none
theorem eimpl_in  {R : Type} (n : Nat) (x0 : Int) (x1 : Int) (x2 : Int) (k : Pk → Option R) : evF tt sig (mkK [] R) (mkL (mkK []) [] R) Try.f45 Himpl_in (PkS.pack Simpl_in (x0, x1, x2, ())) k = (fun (k : Bool → Option R) => (bif (decide (x0 ≥ x1)) then k (decide (x0 ≤ x2)) else k false)) (fun r0 => k (PkS.pack Timpl_in (r0, ()))) := by kernel_rfl
theorem okimpl_in (n : Nat) : FnOk Try.prog 45 (Kimpl_in @impl_in n) := by
  refine fn_ok (sig := sig) mixed ttok (mkK_nat (cimpl_in n)) (mkK_ok (cimpl_in n)) (mkL_nat (mkK_nat (cimpl_in n)) (l := []) trivial) (fn := Try.f45) (c := bodyOf Try.f45) (by kernel_rfl) (by kernel_rfl) (by kernel_rfl) (.eq (l := []) (by kernel_rfl) trivial) (shs := Himpl_in) (S := Simpl_in) (h1 := by kernel_rfl) fun R p k => ?_
  unfold Kimpl_in
  cases h : (PkS.un Simpl_in p) with
  | none => rfl
  | some d =>
    obtain ⟨x0, x1, x2, u⟩ := (d : Int × Int × Int × Unit)
    have hp := PkS.un_pack h
    subst hp
    exact (eimpl_in  n x0 x1 x2 k).symm

/-! ### loop.example/g00269/impl.truthOf$1 -/
theorem cimpl_truthOf_c1 (n : Nat) : AllOk Try.prog [] := trivial
@[reducible] def Simpl_truthOf_c1 : PkS := ⟨[.one (.int .i64), .one (.relt (.sl (.int .u64)))], []⟩
@[reducible] def Timpl_truthOf_c1 : PkS := ⟨[.one (.int .u64), .one (.dead), .one (.dead)], []⟩
def Himpl_truthOf_c1 : List Sh := [.one .any, .skip, .skip]
def Kimpl_truthOf_c1 (g : ∀ {R : Type}, Nat → Int → (List Int) → (Int → Option R) → Option R) (n : Nat) : KPs := fun R p k => match (PkS.un Simpl_truthOf_c1 p : Option (Int × (List Int) × Unit)) with
  | some (x0, x1, _) => g n x0 x1 (fun r0 => k (PkS.pack Timpl_truthOf_c1 (r0, ())))
  | none => none
theorem eimpl_truthOf_c1  {R : Type} (n : Nat) (x0 : Int) (x1 : List Int) (k : Pk → Option R) : evF tt sig (mkK [] R) (mkL (mkK []) [] R) Try.f60 Himpl_truthOf_c1 (PkS.pack Simpl_truthOf_c1 (x0, x1, ())) k = (fun (k : Int → Option R) => (bif (x0 == (-2)) then k 0 else (bif (x0 == (-1)) then k 18446744073709551615 else (bif decide (0 ≤ x0) then (bif decide (x0 < (x1.length : Int)) then k (x1.getD (Int.toNat x0) 0) else none) else none)))) (fun r0 => k (PkS.pack Timpl_truthOf_c1 (r0, ()))) := by kernel_rfl
theorem okimpl_truthOf_c1 (n : Nat) : FnOk Try.prog 60 (Kimpl_truthOf_c1 @impl_truthOf_c1 n) := by
  refine fn_ok (sig := sig) mixed ttok (mkK_nat (cimpl_truthOf_c1 n)) (mkK_ok (cimpl_truthOf_c1 n)) (mkL_nat (mkK_nat (cimpl_truthOf_c1 n)) (l := []) trivial) (fn := Try.f60) (c := bodyOf Try.f60) (by kernel_rfl) (by kernel_rfl) (by kernel_rfl) (.eq (l := []) (by kernel_rfl) trivial) (shs := Himpl_truthOf_c1) (S := Simpl_truthOf_c1) (h1 := by kernel_rfl) fun R p k => ?_
  unfold Kimpl_truthOf_c1
  cases h : (PkS.un Simpl_truthOf_c1 p) with
  | none => rfl
  | some d =>
    obtain ⟨x0, x1, u⟩ := (d : Int × (List Int) × Unit)
    have hp := PkS.un_pack h
    subst hp
    exact (eimpl_truthOf_c1  n x0 x1 k).symm

/-! ### slices.Equal[[]loop.example/g00269/impl.Choice,loop.example/g00269/impl.Choice] -/
theorem cslices_Equal_impl_Choice (n : Nat) : AllOk Try.prog [] := trivial
@[reducible] def Sslices_Equal_impl_Choice_l4 : PkS := ⟨[.one (.ro (.pr (.int .i64) (.pr (.int .i64) (.int .i64)))), .one (.ro (.pr (.int .i64) (.pr (.int .i64) (.int .i64)))), .one (.int .i64), .one (.int .i64), .one (.dead), .one (.dead)], []⟩
@[reducible] def Tslices_Equal_impl_Choice_l4_0 : PkS := ⟨[.one (.bool), .one (.dead), .one (.dead)], []⟩
@[reducible] def Tslices_Equal_impl_Choice_l4_1 : PkS := ⟨[.one (.dead), .one (.dead)], []⟩
def Dslices_Equal_impl_Choice_l4 : LoopD := ⟨26, [0, 1, 12, 13], [.one (.ro (.pr (.int .i64) (.pr (.int .i64) (.int .i64)))), .one (.ro (.pr (.int .i64) (.pr (.int .i64) (.int .i64)))), .one .any, .one .any, .skip, .skip], fun x => match x with
  | .ret => some ([4], [.one .any, .skip, .skip])
  | .exit 0 => some ([], [.skip, .skip])
  | _ => none⟩
def Pslices_Equal_impl_Choice_l4 (g : ∀ {R : Type}, Nat → (List (Int × Int × Int)) → (List (Int × Int × Int)) → Int → Int → (Bool → Option R) → (Option R) → Option R) (n : Nat) : LPs := fun R q kk => match (PkS.un Sslices_Equal_impl_Choice_l4 q : Option ((List (Int × Int × Int)) × (List (Int × Int × Int)) × Int × Int × Unit)) with
  | some (y4_0, y4_1, y4_2, y4_3, _) => g n y4_0 y4_1 y4_2 y4_3 (fun r0 => kk .ret (PkS.pack Tslices_Equal_impl_Choice_l4_0 (r0, ()))) (kk (.exit 0) (PkS.pack Tslices_Equal_impl_Choice_l4_1 ()))
  | none => none
theorem eslices_Equal_impl_Choice_l4 (slices_Equal_impl_Choice_l4 : ∀ {R : Type}, Nat → (List (Int × Int × Int)) → (List (Int × Int × Int)) → Int → Int → (Bool → Option R) → (Option R) → Option R) {R : Type} (n : Nat) (y4_0 : List (Int × Int × Int)) (y4_1 : List (Int × Int × Int)) (y4_2 : Int) (y4_3 : Int) (kk : Ex → Pk → Option R) : Dslices_Equal_impl_Choice_l4.step tt sig (mkK [] R) (mkL (mkK []) [] R) (loopIn 4 (bodyOf Try.f62)) (fun q' => Pslices_Equal_impl_Choice_l4 @slices_Equal_impl_Choice_l4 n R q' kk) (PkS.pack Sslices_Equal_impl_Choice_l4 (y4_0, y4_1, y4_2, y4_3, ())) kk = (fun (kret : Bool → Option R) (kexit0 : Option R) => (bif (decide (y4_3 < y4_2)) then (bif decide (0 ≤ y4_3) then (bif decide (y4_3 < (y4_0.length : Int)) then (bif decide (0 ≤ y4_3) then (bif decide (y4_3 < (y4_1.length : Int)) then (bif (!(((y4_0.getD (Int.toNat y4_3) (0, (0, 0))).1 == (y4_1.getD (Int.toNat y4_3) (0, (0, 0))).1) && (((y4_0.getD (Int.toNat y4_3) (0, (0, 0))).2.1 == (y4_1.getD (Int.toNat y4_3) (0, (0, 0))).2.1) && (((y4_0.getD (Int.toNat y4_3) (0, (0, 0))).2.2 == (y4_1.getD (Int.toNat y4_3) (0, (0, 0))).2.2) && true)))) then kret false else slices_Equal_impl_Choice_l4 n y4_0 y4_1 y4_2 (IntKind.wrap .i64 (y4_3 + 1)) kret kexit0) else none) else none) else none) else none) else kexit0)) (fun r0 => kk .ret (PkS.pack Tslices_Equal_impl_Choice_l4_0 (r0, ()))) (kk (.exit 0) (PkS.pack Tslices_Equal_impl_Choice_l4_1 ())) := by kernel_rfl
theorem leslices_Equal_impl_Choice_l4 : LoopEq tt sig (fun n => mkK []) (fun n => mkL (mkK []) []) Dslices_Equal_impl_Choice_l4 Sslices_Equal_impl_Choice_l4 (loopIn 4 (bodyOf Try.f62)) (Pslices_Equal_impl_Choice_l4 @slices_Equal_impl_Choice_l4) where
  zero R q kk := by unfold Pslices_Equal_impl_Choice_l4; cases (PkS.un Sslices_Equal_impl_Choice_l4 q) <;> rfl
  succ n R q kk := by
    unfold Pslices_Equal_impl_Choice_l4
    cases h : (PkS.un Sslices_Equal_impl_Choice_l4 q) with
    | none => rfl
    | some d =>
      obtain ⟨y4_0, y4_1, y4_2, y4_3, u⟩ := (d : (List (Int × Int × Int)) × (List (Int × Int × Int)) × Int × Int × Unit)
      have hp := PkS.un_pack h
      subst hp
      exact (eslices_Equal_impl_Choice_l4 @slices_Equal_impl_Choice_l4 n y4_0 y4_1 y4_2 y4_3 kk).symm
theorem nlslices_Equal_impl_Choice_l4 : ∀ n, NatLP (Pslices_Equal_impl_Choice_l4 @slices_Equal_impl_Choice_l4 n) := leslices_Equal_impl_Choice_l4.nat (fun n => mkK_nat (cslices_Equal_impl_Choice n)) fun n => mkL_nat (mkK_nat (cslices_Equal_impl_Choice n)) (l := []) trivial
theorem inslices_Equal_impl_Choice_l4 (n : Nat) (R : Type) : LoopsOk Try.prog (mkL (mkK []) [] R) (loopIn 4 (bodyOf Try.f62)) := .eq (l := []) (by kernel_rfl) trivial
theorem lkslices_Equal_impl_Choice_l4 (n : Nat) (R : Type) (L0 : LK R) (h0 : ∀ id, firstRegion (loopIn 4 (bodyOf Try.f62)) = some id → L0 id = Dslices_Equal_impl_Choice_l4.oracle (mkK [] R) (Pslices_Equal_impl_Choice_l4 @slices_Equal_impl_Choice_l4 n R)) : LoopOk Try.prog L0 (loopIn 4 (bodyOf Try.f62)) :=
  leslices_Equal_impl_Choice_l4.ok mixed ttok (fun n => mkK_nat (cslices_Equal_impl_Choice n)) (fun n => mkK_ok (cslices_Equal_impl_Choice n)) (fun n => inslices_Equal_impl_Choice_l4 n R) (mkK_nat (cslices_Equal_impl_Choice n)) h0
@[reducible] def Sslices_Equal_impl_Choice : PkS := ⟨[.one (.ro (.pr (.int .i64) (.pr (.int .i64) (.int .i64)))), .one (.ro (.pr (.int .i64) (.pr (.int .i64) (.int .i64))))], []⟩
@[reducible] def Tslices_Equal_impl_Choice : PkS := ⟨[.one (.bool), .one (.dead), .one (.dead)], []⟩
def Hslices_Equal_impl_Choice : List Sh := [.one .any, .skip, .skip]
def Kslices_Equal_impl_Choice (g : ∀ {R : Type}, Nat → (List (Int × Int × Int)) → (List (Int × Int × Int)) → (Bool → Option R) → Option R) (n : Nat) : KPs := fun R p k => match (PkS.un Sslices_Equal_impl_Choice p : Option ((List (Int × Int × Int)) × (List (Int × Int × Int)) × Unit)) with
  | some (x0, x1, _) => g n x0 x1 (fun r0 => k (PkS.pack Tslices_Equal_impl_Choice (r0, ())))
  | none => none
theorem eslices_Equal_impl_Choice (slices_Equal_impl_Choice_l4 : ∀ {R : Type}, Nat → (List (Int × Int × Int)) → (List (Int × Int × Int)) → Int → Int → (Bool → Option R) → (Option R) → Option R) {R : Type} (n : Nat) (x0 : List (Int × Int × Int)) (x1 : List (Int × Int × Int)) (k : Pk → Option R) : evF tt sig (mkK [] R) (mkL (mkK []) [(4, Dslices_Equal_impl_Choice_l4, Pslices_Equal_impl_Choice_l4 @slices_Equal_impl_Choice_l4 n)] R) Try.f62 Hslices_Equal_impl_Choice (PkS.pack Sslices_Equal_impl_Choice (x0, x1, ())) k = (fun (k : Bool → Option R) => (bif ((x0.length : Int) != (x1.length : Int)) then k false else (slices_Equal_impl_Choice_l4 n x0 x1 (x0.length : Int) 0 (fun r1 => k r1) (k true)))) (fun r0 => k (PkS.pack Tslices_Equal_impl_Choice (r0, ()))) := by kernel_rfl
theorem okslices_Equal_impl_Choice (n : Nat) : FnOk Try.prog 62 (Kslices_Equal_impl_Choice @slices_Equal_impl_Choice n) := by
  refine fn_ok (sig := sig) mixed ttok (mkK_nat (cslices_Equal_impl_Choice n)) (mkK_ok (cslices_Equal_impl_Choice n)) (mkL_nat (mkK_nat (cslices_Equal_impl_Choice n)) (l := [(4, Dslices_Equal_impl_Choice_l4, Pslices_Equal_impl_Choice_l4 @slices_Equal_impl_Choice_l4 n)]) ⟨nlslices_Equal_impl_Choice_l4 n, trivial⟩) (fn := Try.f62) (c := bodyOf Try.f62) (by kernel_rfl) (by kernel_rfl) (by kernel_rfl) (.eq (l := [.lo (loopIn 4 (bodyOf Try.f62))]) (by kernel_rfl) ⟨(lkslices_Equal_impl_Choice_l4 n _ _ (at_id (i := 4) (by kernel_rfl) rfl)), trivial⟩) (shs := Hslices_Equal_impl_Choice) (S := Sslices_Equal_impl_Choice) (h1 := by kernel_rfl) fun R p k => ?_
  unfold Kslices_Equal_impl_Choice
  cases h : (PkS.un Sslices_Equal_impl_Choice p) with
  | none => rfl
  | some d =>
    obtain ⟨x0, x1, u⟩ := (d : (List (Int × Int × Int)) × (List (Int × Int × Int)) × Unit)
    have hp := PkS.un_pack h
    subst hp
    exact (eslices_Equal_impl_Choice @slices_Equal_impl_Choice_l4 n x0 x1 k).symm

/-! ### loop.example/g00269/impl.truthOf -/
theorem cimpl_truthOf (n : Nat) : AllOk Try.prog [(45, Kimpl_in @impl_in n), (61, Kimpl_varTruth @impl_varTruth n), (60, Kimpl_truthOf_c1 @impl_truthOf_c1 n), (49, Kimpl_diagramOf @impl_diagramOf n), (62, Kslices_Equal_impl_Choice @slices_Equal_impl_Choice n)] := ⟨okimpl_in n, ⟨okimpl_varTruth n, ⟨okimpl_truthOf_c1 n, ⟨okimpl_diagramOf n, ⟨okslices_Equal_impl_Choice n, trivial⟩⟩⟩⟩⟩
@[reducible] def Simpl_truthOf_l6 : PkS := ⟨[.one (.box (100000, 0) 0), .one (.box (100000, 2) 0), .one (.fn 60 [((100000, 2), 0)]), .one (.ro (.pr (.int .i64) (.pr (.int .i64) (.int .i64)))), .one (.int .i64), .one (.int .i64), .one (.dead)], [((100000, 0), .box [.ro (.pr (.int .i64) (.pr (.int .i64) (.int .i64))), .int .i64]), ((100000, 1), .arr (.int .u64)), ((100000, 2), .box [.whole (100000, 1)])]⟩
@[reducible] def Timpl_truthOf_l6_0 : PkS := ⟨[.one (.int .u64), .one (.bool), .one (.dead)], []⟩
@[reducible] def Timpl_truthOf_l6_1 : PkS := ⟨[.one (.box (100000, 0) 0), .one (.fn 60 [((100000, 2), 0)]), .one (.dead)], [((100000, 0), .box [.ro (.pr (.int .i64) (.pr (.int .i64) (.int .i64))), .int .i64]), ((100000, 1), .arr (.int .u64)), ((100000, 2), .box [.whole (100000, 1)])]⟩
def Dimpl_truthOf_l6 : LoopD := ⟨101, [1, 4, 5, 29, 30, 31], [.box [(.ro (.pr (.int .i64) (.pr (.int .i64) (.int .i64)))), .any], .box [(.own (.int .u64))], .fn 60 [[(.own (.int .u64))]], .one (.ro (.pr (.int .i64) (.pr (.int .i64) (.int .i64)))), .one .any, .one .any, .skip], fun x => match x with
  | .ret => some ([2, 3], [.one .any, .one .any, .skip])
  | .exit 0 => some ([1, 5], [.box [(.ro (.pr (.int .i64) (.pr (.int .i64) (.int .i64)))), .any], .fn 60 [[(.own (.int .u64))]], .skip])
  | _ => none⟩
def Pimpl_truthOf_l6 (g : ∀ {R : Type}, Nat → (List (Int × Int × Int)) → Int → Int → (List (Int × Int × Int)) → Int → (List Int) → (Int → Bool → Option R) → ((List (Int × Int × Int)) → Int → (List Int) → Option R) → Option R) (n : Nat) : LPs := fun R q kk => match (PkS.un Simpl_truthOf_l6 q : Option ((List (Int × Int × Int)) × Int × Int × (List (Int × Int × Int)) × Int × (List Int) × Unit)) with
  | some (y6_0, y6_1, y6_2, y6_3, y6_4, y6_5, _) => g n y6_0 y6_1 y6_2 y6_3 y6_4 y6_5 (fun r0 r1 => kk .ret (PkS.pack Timpl_truthOf_l6_0 (r0, r1, ()))) (fun r0 r1 r2 => kk (.exit 0) (PkS.pack Timpl_truthOf_l6_1 (r0, r1, r2, ())))
  | none => none
theorem eimpl_truthOf_l6 (impl_in : ∀ {R : Type}, Nat → Int → Int → Int → (Bool → Option R) → Option R) (impl_varTruth : ∀ {R : Type}, Nat → Int → (Int → Option R) → Option R) (impl_truthOf_c1 : ∀ {R : Type}, Nat → Int → (List Int) → (Int → Option R) → Option R) (impl_diagramOf : ∀ {R : Type}, Nat → Int → (Int → Bool → (List (Int × Int × Int)) → Option R) → Option R) (slices_Equal_impl_Choice : ∀ {R : Type}, Nat → (List (Int × Int × Int)) → (List (Int × Int × Int)) → (Bool → Option R) → Option R) (impl_truthOf_l6 : ∀ {R : Type}, Nat → (List (Int × Int × Int)) → Int → Int → (List (Int × Int × Int)) → Int → (List Int) → (Int → Bool → Option R) → ((List (Int × Int × Int)) → Int → (List Int) → Option R) → Option R) {R : Type} (n : Nat) (y6_0 : List (Int × Int × Int)) (y6_1 : Int) (y6_2 : Int) (y6_3 : List (Int × Int × Int)) (y6_4 : Int) (y6_5 : List Int) (kk : Ex → Pk → Option R) : Dimpl_truthOf_l6.step tt sig (mkK [(45, Kimpl_in @impl_in n), (61, Kimpl_varTruth @impl_varTruth n), (60, Kimpl_truthOf_c1 @impl_truthOf_c1 n), (49, Kimpl_diagramOf @impl_diagramOf n), (62, Kslices_Equal_impl_Choice @slices_Equal_impl_Choice n)] R) (mkL (mkK [(45, Kimpl_in @impl_in n), (61, Kimpl_varTruth @impl_varTruth n), (60, Kimpl_truthOf_c1 @impl_truthOf_c1 n), (49, Kimpl_diagramOf @impl_diagramOf n), (62, Kslices_Equal_impl_Choice @slices_Equal_impl_Choice n)]) [] R) (loopIn 6 (bodyOf Try.f42)) (fun q' => Pimpl_truthOf_l6 @impl_truthOf_l6 n R q' kk) (PkS.pack Simpl_truthOf_l6 (y6_0, y6_1, y6_2, y6_3, y6_4, y6_5, ())) kk = (fun (kret : Int → Bool → Option R) (kexit0 : (List (Int × Int × Int)) → Int → (List Int) → Option R) => (bif (decide (y6_2 < y6_1)) then (bif decide (0 ≤ y6_2) then (bif decide (y6_2 < (y6_0.length : Int)) then (impl_in n ((y6_0.getD (Int.toNat y6_2) (0, (0, 0))).1) 0 5 fun r2 => (bif (!r2) then kret 0 false else (impl_in n ((y6_0.getD (Int.toNat y6_2) (0, (0, 0))).2.1) (-2) (IntKind.wrap .i64 (y6_2 - 1)) fun r3 => (bif (!r3) then kret 0 false else (impl_in n ((y6_0.getD (Int.toNat y6_2) (0, (0, 0))).2.2) (-2) (IntKind.wrap .i64 (y6_2 - 1)) fun r4 => (bif (!r4) then kret 0 false else (impl_varTruth n ((y6_0.getD (Int.toNat y6_2) (0, (0, 0))).1) fun r5 => (impl_truthOf_c1 n ((y6_0.getD (Int.toNat y6_2) (0, (0, 0))).2.1) y6_5 fun r6 => (impl_truthOf_c1 n ((y6_0.getD (Int.toNat y6_2) (0, (0, 0))).2.2) y6_5 fun r7 => (bif decide (y6_5.length + ([(IntKind.wrap .u64 (Int.ofNat (BitVec.toNat (BitVec.ofInt (IntKind.bits .u64) (IntKind.wrap .u64 (Int.ofNat (BitVec.toNat (BitVec.ofInt (IntKind.bits .u64) r6 &&& ~~~ BitVec.ofInt (IntKind.bits .u64) r5)))) ||| BitVec.ofInt (IntKind.bits .u64) (IntKind.wrap .u64 (Int.ofNat (BitVec.toNat (BitVec.ofInt (IntKind.bits .u64) r7 &&& BitVec.ofInt (IntKind.bits .u64) r5))))))))]).length ≤ LIM) then impl_truthOf_l6 n y6_0 y6_1 (IntKind.wrap .i64 (y6_2 + 1)) y6_3 y6_4 (y6_5 ++ [(IntKind.wrap .u64 (Int.ofNat (BitVec.toNat (BitVec.ofInt (IntKind.bits .u64) (IntKind.wrap .u64 (Int.ofNat (BitVec.toNat (BitVec.ofInt (IntKind.bits .u64) r6 &&& ~~~ BitVec.ofInt (IntKind.bits .u64) r5)))) ||| BitVec.ofInt (IntKind.bits .u64) (IntKind.wrap .u64 (Int.ofNat (BitVec.toNat (BitVec.ofInt (IntKind.bits .u64) r7 &&& BitVec.ofInt (IntKind.bits .u64) r5))))))))]) kret kexit0 else none)))))))))) else none) else none) else kexit0 y6_3 y6_4 y6_5)) (fun r0 r1 => kk .ret (PkS.pack Timpl_truthOf_l6_0 (r0, r1, ()))) (fun r0 r1 r2 => kk (.exit 0) (PkS.pack Timpl_truthOf_l6_1 (r0, r1, r2, ()))) := by kernel_rfl
theorem leimpl_truthOf_l6 : LoopEq tt sig (fun n => mkK [(45, Kimpl_in @impl_in n), (61, Kimpl_varTruth @impl_varTruth n), (60, Kimpl_truthOf_c1 @impl_truthOf_c1 n), (49, Kimpl_diagramOf @impl_diagramOf n), (62, Kslices_Equal_impl_Choice @slices_Equal_impl_Choice n)]) (fun n => mkL (mkK [(45, Kimpl_in @impl_in n), (61, Kimpl_varTruth @impl_varTruth n), (60, Kimpl_truthOf_c1 @impl_truthOf_c1 n), (49, Kimpl_diagramOf @impl_diagramOf n), (62, Kslices_Equal_impl_Choice @slices_Equal_impl_Choice n)]) []) Dimpl_truthOf_l6 Simpl_truthOf_l6 (loopIn 6 (bodyOf Try.f42)) (Pimpl_truthOf_l6 @impl_truthOf_l6) where
  zero R q kk := by unfold Pimpl_truthOf_l6; cases (PkS.un Simpl_truthOf_l6 q) <;> rfl
  succ n R q kk := by
    unfold Pimpl_truthOf_l6
    cases h : (PkS.un Simpl_truthOf_l6 q) with
    | none => rfl
    | some d =>
      obtain ⟨y6_0, y6_1, y6_2, y6_3, y6_4, y6_5, u⟩ := (d : (List (Int × Int × Int)) × Int × Int × (List (Int × Int × Int)) × Int × (List Int) × Unit)
      have hp := PkS.un_pack h
      subst hp
      exact (eimpl_truthOf_l6 @impl_in @impl_varTruth @impl_truthOf_c1 @impl_diagramOf @slices_Equal_impl_Choice @impl_truthOf_l6 n y6_0 y6_1 y6_2 y6_3 y6_4 y6_5 kk).symm
theorem nlimpl_truthOf_l6 : ∀ n, NatLP (Pimpl_truthOf_l6 @impl_truthOf_l6 n) := leimpl_truthOf_l6.nat (fun n => mkK_nat (cimpl_truthOf n)) fun n => mkL_nat (mkK_nat (cimpl_truthOf n)) (l := []) trivial
theorem inimpl_truthOf_l6 (n : Nat) (R : Type) : LoopsOk Try.prog (mkL (mkK [(45, Kimpl_in @impl_in n), (61, Kimpl_varTruth @impl_varTruth n), (60, Kimpl_truthOf_c1 @impl_truthOf_c1 n), (49, Kimpl_diagramOf @impl_diagramOf n), (62, Kslices_Equal_impl_Choice @slices_Equal_impl_Choice n)]) [] R) (loopIn 6 (bodyOf Try.f42)) := .eq (l := []) (by kernel_rfl) trivial
theorem lkimpl_truthOf_l6 (n : Nat) (R : Type) (L0 : LK R) (h0 : ∀ id, firstRegion (loopIn 6 (bodyOf Try.f42)) = some id → L0 id = Dimpl_truthOf_l6.oracle (mkK [(45, Kimpl_in @impl_in n), (61, Kimpl_varTruth @impl_varTruth n), (60, Kimpl_truthOf_c1 @impl_truthOf_c1 n), (49, Kimpl_diagramOf @impl_diagramOf n), (62, Kslices_Equal_impl_Choice @slices_Equal_impl_Choice n)] R) (Pimpl_truthOf_l6 @impl_truthOf_l6 n R)) : LoopOk Try.prog L0 (loopIn 6 (bodyOf Try.f42)) :=
  leimpl_truthOf_l6.ok mixed ttok (fun n => mkK_nat (cimpl_truthOf n)) (fun n => mkK_ok (cimpl_truthOf n)) (fun n => inimpl_truthOf_l6 n R) (mkK_nat (cimpl_truthOf n)) h0
@[reducible] def Simpl_truthOf : PkS := ⟨[.agg [.ro (.pr (.int .i64) (.pr (.int .i64) (.int .i64))), .int .i64]], []⟩
@[reducible] def Timpl_truthOf : PkS := ⟨[.tup [(false, [.int .u64]), (false, [.bool])], .one (.dead)], []⟩
def Himpl_truthOf : List Sh := [.tup [(false, [.any]), (false, [.any])], .skip]
def Kimpl_truthOf (g : ∀ {R : Type}, Nat → (List (Int × Int × Int)) → Int → (Int → Bool → Option R) → Option R) (n : Nat) : KPs := fun R p k => match (PkS.un Simpl_truthOf p : Option ((List (Int × Int × Int)) × Int × Unit)) with
  | some (x0, x1, _) => g n x0 x1 (fun r0 r1 => k (PkS.pack Timpl_truthOf (r0, r1, ())))
  | none => none
theorem eimpl_truthOf (impl_in : ∀ {R : Type}, Nat → Int → Int → Int → (Bool → Option R) → Option R) (impl_varTruth : ∀ {R : Type}, Nat → Int → (Int → Option R) → Option R) (impl_truthOf_c1 : ∀ {R : Type}, Nat → Int → (List Int) → (Int → Option R) → Option R) (impl_diagramOf : ∀ {R : Type}, Nat → Int → (Int → Bool → (List (Int × Int × Int)) → Option R) → Option R) (slices_Equal_impl_Choice : ∀ {R : Type}, Nat → (List (Int × Int × Int)) → (List (Int × Int × Int)) → (Bool → Option R) → Option R) (impl_truthOf_l6 : ∀ {R : Type}, Nat → (List (Int × Int × Int)) → Int → Int → (List (Int × Int × Int)) → Int → (List Int) → (Int → Bool → Option R) → ((List (Int × Int × Int)) → Int → (List Int) → Option R) → Option R) {R : Type} (n : Nat) (x0 : List (Int × Int × Int)) (x1 : Int) (k : Pk → Option R) : evF tt sig (mkK [(45, Kimpl_in @impl_in n), (61, Kimpl_varTruth @impl_varTruth n), (60, Kimpl_truthOf_c1 @impl_truthOf_c1 n), (49, Kimpl_diagramOf @impl_diagramOf n), (62, Kslices_Equal_impl_Choice @slices_Equal_impl_Choice n)] R) (mkL (mkK [(45, Kimpl_in @impl_in n), (61, Kimpl_varTruth @impl_varTruth n), (60, Kimpl_truthOf_c1 @impl_truthOf_c1 n), (49, Kimpl_diagramOf @impl_diagramOf n), (62, Kslices_Equal_impl_Choice @slices_Equal_impl_Choice n)]) [(6, Dimpl_truthOf_l6, Pimpl_truthOf_l6 @impl_truthOf_l6 n)] R) Try.f42 Himpl_truthOf (PkS.pack Simpl_truthOf (x0, x1, ())) k = (fun (k : Int → Bool → Option R) => (bif (decide ((x0.length : Int) > 70)) then k 0 false else (impl_in n x1 (-2) (IntKind.wrap .i64 ((x0.length : Int) - 1)) fun r1 => (bif (!r1) then k 0 false else (impl_truthOf_l6 n x0 (x0.length : Int) 0 x0 x1 ([] : List Int) (fun r8 r9 => k r8 r9) (fun r10 r11 r12 => (impl_truthOf_c1 n r11 r12 fun r13 => (impl_diagramOf n r13 fun r14 r15 r16 => (bif r15 then (bif (r14 == r11) then (slices_Equal_impl_Choice n r16 r10 fun r17 => k r13 r17) else k r13 false) else k r13 false))))))))) (fun r0 r1 => k (PkS.pack Timpl_truthOf (r0, r1, ()))) := by kernel_rfl
theorem okimpl_truthOf (n : Nat) : FnOk Try.prog 42 (Kimpl_truthOf @impl_truthOf n) := by
  refine fn_ok (sig := sig) mixed ttok (mkK_nat (cimpl_truthOf n)) (mkK_ok (cimpl_truthOf n)) (mkL_nat (mkK_nat (cimpl_truthOf n)) (l := [(6, Dimpl_truthOf_l6, Pimpl_truthOf_l6 @impl_truthOf_l6 n)]) ⟨nlimpl_truthOf_l6 n, trivial⟩) (fn := Try.f42) (c := bodyOf Try.f42) (by kernel_rfl) (by kernel_rfl) (by kernel_rfl) (.eq (l := [.lo (loopIn 6 (bodyOf Try.f42))]) (by kernel_rfl) ⟨(lkimpl_truthOf_l6 n _ _ (at_id (i := 6) (by kernel_rfl) rfl)), trivial⟩) (shs := Himpl_truthOf) (S := Simpl_truthOf) (h1 := by kernel_rfl) fun R p k => ?_
  unfold Kimpl_truthOf
  cases h : (PkS.un Simpl_truthOf p) with
  | none => rfl
  | some d =>
    obtain ⟨x0, x1, u⟩ := (d : (List (Int × Int × Int)) × Int × Unit)
    have hp := PkS.un_pack h
    subst hp
    exact (eimpl_truthOf @impl_in @impl_varTruth @impl_truthOf_c1 @impl_diagramOf @slices_Equal_impl_Choice @impl_truthOf_l6 n x0 x1 k).symm

/-! ### loop.example/g00269/impl.GoodDiagram -/
theorem cimpl_GoodDiagram (n : Nat) : AllOk Try.prog [(42, Kimpl_truthOf @impl_truthOf n)] := ⟨okimpl_truthOf n, trivial⟩
@[reducible] def Simpl_GoodDiagram : PkS := ⟨[.agg [.ro (.pr (.int .i64) (.pr (.int .i64) (.int .i64))), .int .i64]], []⟩
@[reducible] def Timpl_GoodDiagram : PkS := ⟨[.one (.bool), .one (.dead)], []⟩
def Himpl_GoodDiagram : List Sh := [.one .any, .skip]
def Kimpl_GoodDiagram (g : ∀ {R : Type}, Nat → (List (Int × Int × Int)) → Int → (Bool → Option R) → Option R) (n : Nat) : KPs := fun R p k => match (PkS.un Simpl_GoodDiagram p : Option ((List (Int × Int × Int)) × Int × Unit)) with
  | some (x0, x1, _) => g n x0 x1 (fun r0 => k (PkS.pack Timpl_GoodDiagram (r0, ())))
  | none => none
theorem eimpl_GoodDiagram (impl_truthOf : ∀ {R : Type}, Nat → (List (Int × Int × Int)) → Int → (Int → Bool → Option R) → Option R) {R : Type} (n : Nat) (x0 : List (Int × Int × Int)) (x1 : Int) (k : Pk → Option R) : evF tt sig (mkK [(42, Kimpl_truthOf @impl_truthOf n)] R) (mkL (mkK [(42, Kimpl_truthOf @impl_truthOf n)]) [] R) Try.f15 Himpl_GoodDiagram (PkS.pack Simpl_GoodDiagram (x0, x1, ())) k = (fun (k : Bool → Option R) => (impl_truthOf n x0 x1 fun r1 r2 => k r2)) (fun r0 => k (PkS.pack Timpl_GoodDiagram (r0, ()))) := by kernel_rfl
theorem okimpl_GoodDiagram (n : Nat) : FnOk Try.prog 15 (Kimpl_GoodDiagram @impl_GoodDiagram n) := by
  refine fn_ok (sig := sig) mixed ttok (mkK_nat (cimpl_GoodDiagram n)) (mkK_ok (cimpl_GoodDiagram n)) (mkL_nat (mkK_nat (cimpl_GoodDiagram n)) (l := []) trivial) (fn := Try.f15) (c := bodyOf Try.f15) (by kernel_rfl) (by kernel_rfl) (by kernel_rfl) (.eq (l := []) (by kernel_rfl) trivial) (shs := Himpl_GoodDiagram) (S := Simpl_GoodDiagram) (h1 := by kernel_rfl) fun R p k => ?_
  unfold Kimpl_GoodDiagram
  cases h : (PkS.un Simpl_GoodDiagram p) with
  | none => rfl
  | some d =>
    obtain ⟨x0, x1, u⟩ := (d : (List (Int × Int × Int)) × Int × Unit)
    have hp := PkS.un_pack h
    subst hp
    exact (eimpl_GoodDiagram @impl_truthOf n x0 x1 k).symm

/-! ### loop.example/g00269/impl.Decide -/
theorem cimpl_Decide (n : Nat) : AllOk Try.prog [(42, Kimpl_truthOf @impl_truthOf n), (45, Kimpl_in @impl_in n)] := ⟨okimpl_truthOf n, ⟨okimpl_in n, trivial⟩⟩
@[reducible] def Simpl_Decide : PkS := ⟨[.agg [.ro (.pr (.int .i64) (.pr (.int .i64) (.int .i64))), .int .i64], .one (.int .i64)], []⟩
@[reducible] def Timpl_Decide : PkS := ⟨[.tup [(false, [.bool]), (false, [.bool])], .one (.dead), .one (.dead)], []⟩
def Himpl_Decide : List Sh := [.tup [(false, [.any]), (false, [.any])], .skip, .skip]
def Kimpl_Decide (g : ∀ {R : Type}, Nat → (List (Int × Int × Int)) → Int → Int → (Bool → Bool → Option R) → Option R) (n : Nat) : KPs := fun R p k => match (PkS.un Simpl_Decide p : Option ((List (Int × Int × Int)) × Int × Int × Unit)) with
  | some (x0, x1, x2, _) => g n x0 x1 x2 (fun r0 r1 => k (PkS.pack Timpl_Decide (r0, r1, ())))
  | none => none
theorem eimpl_Decide (impl_truthOf : ∀ {R : Type}, Nat → (List (Int × Int × Int)) → Int → (Int → Bool → Option R) → Option R) (impl_in : ∀ {R : Type}, Nat → Int → Int → Int → (Bool → Option R) → Option R) {R : Type} (n : Nat) (x0 : List (Int × Int × Int)) (x1 : Int) (x2 : Int) (k : Pk → Option R) : evF tt sig (mkK [(42, Kimpl_truthOf @impl_truthOf n), (45, Kimpl_in @impl_in n)] R) (mkL (mkK [(42, Kimpl_truthOf @impl_truthOf n), (45, Kimpl_in @impl_in n)]) [] R) Try.f18 Himpl_Decide (PkS.pack Simpl_Decide (x0, x1, x2, ())) k = (fun (k : Bool → Bool → Option R) => (impl_truthOf n x0 x1 fun r1 r2 => (bif (!r2) then k false false else (impl_in n x2 0 63 fun r3 => (bif (!r3) then k false false else (bif decide (0 ≤ x2) then k ((IntKind.wrap .u64 (Int.ofNat (BitVec.toNat (BitVec.ofInt (IntKind.bits .u64) (Int.fdiv r1 (2 ^ (min (Int.toNat x2) (IntKind.bits .u64)))) &&& BitVec.ofInt (IntKind.bits .u64) 1)))) == 1) true else none)))))) (fun r0 r1 => k (PkS.pack Timpl_Decide (r0, r1, ()))) := by kernel_rfl
theorem okimpl_Decide (n : Nat) : FnOk Try.prog 18 (Kimpl_Decide @impl_Decide n) := by
  refine fn_ok (sig := sig) mixed ttok (mkK_nat (cimpl_Decide n)) (mkK_ok (cimpl_Decide n)) (mkL_nat (mkK_nat (cimpl_Decide n)) (l := []) trivial) (fn := Try.f18) (c := bodyOf Try.f18) (by kernel_rfl) (by kernel_rfl) (by kernel_rfl) (.eq (l := []) (by kernel_rfl) trivial) (shs := Himpl_Decide) (S := Simpl_Decide) (h1 := by kernel_rfl) fun R p k => ?_
  unfold Kimpl_Decide
  cases h : (PkS.un Simpl_Decide p) with
  | none => rfl
  | some d =>
    obtain ⟨x0, x1, x2, u⟩ := (d : (List (Int × Int × Int)) × Int × Int × Unit)
    have hp := PkS.un_pack h
    subst hp
    exact (eimpl_Decide @impl_truthOf @impl_in n x0 x1 x2 k).symm

/-! ### math/bits.OnesCount64 -/
theorem cbits_OnesCount64 (n : Nat) : AllOk Try.prog [] := trivial
@[reducible] def Sbits_OnesCount64 : PkS := ⟨[.one (.int .u64)], []⟩
@[reducible] def Tbits_OnesCount64 : PkS := ⟨[.one (.int .i64), .one (.dead)], []⟩
def Hbits_OnesCount64 : List Sh := [.one .any, .skip]
def Kbits_OnesCount64 (g : ∀ {R : Type}, Nat → Int → (Int → Option R) → Option R) (n : Nat) : KPs := fun R p k => match (PkS.un Sbits_OnesCount64 p : Option (Int × Unit)) with
  | some (x0, _) => g n x0 (fun r0 => k (PkS.pack Tbits_OnesCount64 (r0, ())))
  | none => none
theorem ebits_OnesCount64  {R : Type} (n : Nat) (x0 : Int) (k : Pk → Option R) : evF tt sig (mkK [] R) (mkL (mkK []) [] R) Try.f52 Hbits_OnesCount64 (PkS.pack Sbits_OnesCount64 (x0, ())) k = (fun (k : Int → Option R) => k (IntKind.wrap .i64 (Int.ofNat (BitVec.toNat (BitVec.ofInt (IntKind.bits .i64) (IntKind.wrap .i64 ((IntKind.wrap .u64 ((IntKind.wrap .u64 ((IntKind.wrap .u64 ((IntKind.wrap .u64 (Int.ofNat (BitVec.toNat (BitVec.ofInt (IntKind.bits .u64) (IntKind.wrap .u64 ((Int.fdiv (IntKind.wrap .u64 ((IntKind.wrap .u64 (Int.ofNat (BitVec.toNat (BitVec.ofInt (IntKind.bits .u64) (Int.fdiv (IntKind.wrap .u64 ((IntKind.wrap .u64 (Int.ofNat (BitVec.toNat (BitVec.ofInt (IntKind.bits .u64) (Int.fdiv x0 (2 ^ (min (Int.toNat 1) (IntKind.bits .u64)))) &&& BitVec.ofInt (IntKind.bits .u64) 6148914691236517205)))) + (IntKind.wrap .u64 (Int.ofNat (BitVec.toNat (BitVec.ofInt (IntKind.bits .u64) x0 &&& BitVec.ofInt (IntKind.bits .u64) 6148914691236517205)))))) (2 ^ (min (Int.toNat 2) (IntKind.bits .u64)))) &&& BitVec.ofInt (IntKind.bits .u64) 3689348814741910323)))) + (IntKind.wrap .u64 (Int.ofNat (BitVec.toNat (BitVec.ofInt (IntKind.bits .u64) (IntKind.wrap .u64 ((IntKind.wrap .u64 (Int.ofNat (BitVec.toNat (BitVec.ofInt (IntKind.bits .u64) (Int.fdiv x0 (2 ^ (min (Int.toNat 1) (IntKind.bits .u64)))) &&& BitVec.ofInt (IntKind.bits .u64) 6148914691236517205)))) + (IntKind.wrap .u64 (Int.ofNat (BitVec.toNat (BitVec.ofInt (IntKind.bits .u64) x0 &&& BitVec.ofInt (IntKind.bits .u64) 6148914691236517205)))))) &&& BitVec.ofInt (IntKind.bits .u64) 3689348814741910323)))))) (2 ^ (min (Int.toNat 4) (IntKind.bits .u64)))) + (IntKind.wrap .u64 ((IntKind.wrap .u64 (Int.ofNat (BitVec.toNat (BitVec.ofInt (IntKind.bits .u64) (Int.fdiv (IntKind.wrap .u64 ((IntKind.wrap .u64 (Int.ofNat (BitVec.toNat (BitVec.ofInt (IntKind.bits .u64) (Int.fdiv x0 (2 ^ (min (Int.toNat 1) (IntKind.bits .u64)))) &&& BitVec.ofInt (IntKind.bits .u64) 6148914691236517205)))) + (IntKind.wrap .u64 (Int.ofNat (BitVec.toNat (BitVec.ofInt (IntKind.bits .u64) x0 &&& BitVec.ofInt (IntKind.bits .u64) 6148914691236517205)))))) (2 ^ (min (Int.toNat 2) (IntKind.bits .u64)))) &&& BitVec.ofInt (IntKind.bits .u64) 3689348814741910323)))) + (IntKind.wrap .u64 (Int.ofNat (BitVec.toNat (BitVec.ofInt (IntKind.bits .u64) (IntKind.wrap .u64 ((IntKind.wrap .u64 (Int.ofNat (BitVec.toNat (BitVec.ofInt (IntKind.bits .u64) (Int.fdiv x0 (2 ^ (min (Int.toNat 1) (IntKind.bits .u64)))) &&& BitVec.ofInt (IntKind.bits .u64) 6148914691236517205)))) + (IntKind.wrap .u64 (Int.ofNat (BitVec.toNat (BitVec.ofInt (IntKind.bits .u64) x0 &&& BitVec.ofInt (IntKind.bits .u64) 6148914691236517205)))))) &&& BitVec.ofInt (IntKind.bits .u64) 3689348814741910323)))))))) &&& BitVec.ofInt (IntKind.bits .u64) 1085102592571150095)))) + (Int.fdiv (IntKind.wrap .u64 (Int.ofNat (BitVec.toNat (BitVec.ofInt (IntKind.bits .u64) (IntKind.wrap .u64 ((Int.fdiv (IntKind.wrap .u64 ((IntKind.wrap .u64 (Int.ofNat (BitVec.toNat (BitVec.ofInt (IntKind.bits .u64) (Int.fdiv (IntKind.wrap .u64 ((IntKind.wrap .u64 (Int.ofNat (BitVec.toNat (BitVec.ofInt (IntKind.bits .u64) (Int.fdiv x0 (2 ^ (min (Int.toNat 1) (IntKind.bits .u64)))) &&& BitVec.ofInt (IntKind.bits .u64) 6148914691236517205)))) + (IntKind.wrap .u64 (Int.ofNat (BitVec.toNat (BitVec.ofInt (IntKind.bits .u64) x0 &&& BitVec.ofInt (IntKind.bits .u64) 6148914691236517205)))))) (2 ^ (min (Int.toNat 2) (IntKind.bits .u64)))) &&& BitVec.ofInt (IntKind.bits .u64) 3689348814741910323)))) + (IntKind.wrap .u64 (Int.ofNat (BitVec.toNat (BitVec.ofInt (IntKind.bits .u64) (IntKind.wrap .u64 ((IntKind.wrap .u64 (Int.ofNat (BitVec.toNat (BitVec.ofInt (IntKind.bits .u64) (Int.fdiv x0 (2 ^ (min (Int.toNat 1) (IntKind.bits .u64)))) &&& BitVec.ofInt (IntKind.bits .u64) 6148914691236517205)))) + (IntKind.wrap .u64 (Int.ofNat (BitVec.toNat (BitVec.ofInt (IntKind.bits .u64) x0 &&& BitVec.ofInt (IntKind.bits .u64) 6148914691236517205)))))) &&& BitVec.ofInt (IntKind.bits .u64) 3689348814741910323)))))) (2 ^ (min (Int.toNat 4) (IntKind.bits .u64)))) + (IntKind.wrap .u64 ((IntKind.wrap .u64 (Int.ofNat (BitVec.toNat (BitVec.ofInt (IntKind.bits .u64) (Int.fdiv (IntKind.wrap .u64 ((IntKind.wrap .u64 (Int.ofNat (BitVec.toNat (BitVec.ofInt (IntKind.bits .u64) (Int.fdiv x0 (2 ^ (min (Int.toNat 1) (IntKind.bits .u64)))) &&& BitVec.ofInt (IntKind.bits .u64) 6148914691236517205)))) + (IntKind.wrap .u64 (Int.ofNat (BitVec.toNat (BitVec.ofInt (IntKind.bits .u64) x0 &&& BitVec.ofInt (IntKind.bits .u64) 6148914691236517205)))))) (2 ^ (min (Int.toNat 2) (IntKind.bits .u64)))) &&& BitVec.ofInt (IntKind.bits .u64) 3689348814741910323)))) + (IntKind.wrap .u64 (Int.ofNat (BitVec.toNat (BitVec.ofInt (IntKind.bits .u64) (IntKind.wrap .u64 ((IntKind.wrap .u64 (Int.ofNat (BitVec.toNat (BitVec.ofInt (IntKind.bits .u64) (Int.fdiv x0 (2 ^ (min (Int.toNat 1) (IntKind.bits .u64)))) &&& BitVec.ofInt (IntKind.bits .u64) 6148914691236517205)))) + (IntKind.wrap .u64 (Int.ofNat (BitVec.toNat (BitVec.ofInt (IntKind.bits .u64) x0 &&& BitVec.ofInt (IntKind.bits .u64) 6148914691236517205)))))) &&& BitVec.ofInt (IntKind.bits .u64) 3689348814741910323)))))))) &&& BitVec.ofInt (IntKind.bits .u64) 1085102592571150095)))) (2 ^ (min (Int.toNat 8) (IntKind.bits .u64)))))) + (Int.fdiv (IntKind.wrap .u64 ((IntKind.wrap .u64 (Int.ofNat (BitVec.toNat (BitVec.ofInt (IntKind.bits .u64) (IntKind.wrap .u64 ((Int.fdiv (IntKind.wrap .u64 ((IntKind.wrap .u64 (Int.ofNat (BitVec.toNat (BitVec.ofInt (IntKind.bits .u64) (Int.fdiv (IntKind.wrap .u64 ((IntKind.wrap .u64 (Int.ofNat (BitVec.toNat (BitVec.ofInt (IntKind.bits .u64) (Int.fdiv x0 (2 ^ (min (Int.toNat 1) (IntKind.bits .u64)))) &&& BitVec.ofInt (IntKind.bits .u64) 6148914691236517205)))) + (IntKind.wrap .u64 (Int.ofNat (BitVec.toNat (BitVec.ofInt (IntKind.bits .u64) x0 &&& BitVec.ofInt (IntKind.bits .u64) 6148914691236517205)))))) (2 ^ (min (Int.toNat 2) (IntKind.bits .u64)))) &&& BitVec.ofInt (IntKind.bits .u64) 3689348814741910323)))) + (IntKind.wrap .u64 (Int.ofNat (BitVec.toNat (BitVec.ofInt (IntKind.bits .u64) (IntKind.wrap .u64 ((IntKind.wrap .u64 (Int.ofNat (BitVec.toNat (BitVec.ofInt (IntKind.bits .u64) (Int.fdiv x0 (2 ^ (min (Int.toNat 1) (IntKind.bits .u64)))) &&& BitVec.ofInt (IntKind.bits .u64) 6148914691236517205)))) + (IntKind.wrap .u64 (Int.ofNat (BitVec.toNat (BitVec.ofInt (IntKind.bits .u64) x0 &&& BitVec.ofInt (IntKind.bits .u64) 6148914691236517205)))))) &&& BitVec.ofInt (IntKind.bits .u64) 3689348814741910323)))))) (2 ^ (min (Int.toNat 4) (IntKind.bits .u64)))) + (IntKind.wrap .u64 ((IntKind.wrap .u64 (Int.ofNat (BitVec.toNat (BitVec.ofInt (IntKind.bits .u64) (Int.fdiv (IntKind.wrap .u64 ((IntKind.wrap .u64 (Int.ofNat (BitVec.toNat (BitVec.ofInt (IntKind.bits .u64) (Int.fdiv x0 (2 ^ (min (Int.toNat 1) (IntKind.bits .u64)))) &&& BitVec.ofInt (IntKind.bits .u64) 6148914691236517205)))) + (IntKind.wrap .u64 (Int.ofNat (BitVec.toNat (BitVec.ofInt (IntKind.bits .u64) x0 &&& BitVec.ofInt (IntKind.bits .u64) 6148914691236517205)))))) (2 ^ (min (Int.toNat 2) (IntKind.bits .u64)))) &&& BitVec.ofInt (IntKind.bits .u64) 3689348814741910323)))) + (IntKind.wrap .u64 (Int.ofNat (BitVec.toNat (BitVec.ofInt (IntKind.bits .u64) (IntKind.wrap .u64 ((IntKind.wrap .u64 (Int.ofNat (BitVec.toNat (BitVec.ofInt (IntKind.bits .u64) (Int.fdiv x0 (2 ^ (min (Int.toNat 1) (IntKind.bits .u64)))) &&& BitVec.ofInt (IntKind.bits .u64) 6148914691236517205)))) + (IntKind.wrap .u64 (Int.ofNat (BitVec.toNat (BitVec.ofInt (IntKind.bits .u64) x0 &&& BitVec.ofInt (IntKind.bits .u64) 6148914691236517205)))))) &&& BitVec.ofInt (IntKind.bits .u64) 3689348814741910323)))))))) &&& BitVec.ofInt (IntKind.bits .u64) 1085102592571150095)))) + (Int.fdiv (IntKind.wrap .u64 (Int.ofNat (BitVec.toNat (BitVec.ofInt (IntKind.bits .u64) (IntKind.wrap .u64 ((Int.fdiv (IntKind.wrap .u64 ((IntKind.wrap .u64 (Int.ofNat (BitVec.toNat (BitVec.ofInt (IntKind.bits .u64) (Int.fdiv (IntKind.wrap .u64 ((IntKind.wrap .u64 (Int.ofNat (BitVec.toNat (BitVec.ofInt (IntKind.bits .u64) (Int.fdiv x0 (2 ^ (min (Int.toNat 1) (IntKind.bits .u64)))) &&& BitVec.ofInt (IntKind.bits .u64) 6148914691236517205)))) + (IntKind.wrap .u64 (Int.ofNat (BitVec.toNat (BitVec.ofInt (IntKind.bits .u64) x0 &&& BitVec.ofInt (IntKind.bits .u64) 6148914691236517205)))))) (2 ^ (min (Int.toNat 2) (IntKind.bits .u64)))) &&& BitVec.ofInt (IntKind.bits .u64) 3689348814741910323)))) + (IntKind.wrap .u64 (Int.ofNat (BitVec.toNat (BitVec.ofInt (IntKind.bits .u64) (IntKind.wrap .u64 ((IntKind.wrap .u64 (Int.ofNat (BitVec.toNat (BitVec.ofInt (IntKind.bits .u64) (Int.fdiv x0 (2 ^ (min (Int.toNat 1) (IntKind.bits .u64)))) &&& BitVec.ofInt (IntKind.bits .u64) 6148914691236517205)))) + (IntKind.wrap .u64 (Int.ofNat (BitVec.toNat (BitVec.ofInt (IntKind.bits .u64) x0 &&& BitVec.ofInt (IntKind.bits .u64) 6148914691236517205)))))) &&& BitVec.ofInt (IntKind.bits .u64) 3689348814741910323)))))) (2 ^ (min (Int.toNat 4) (IntKind.bits .u64)))) + (IntKind.wrap .u64 ((IntKind.wrap .u64 (Int.ofNat (BitVec.toNat (BitVec.ofInt (IntKind.bits .u64) (Int.fdiv (IntKind.wrap .u64 ((IntKind.wrap .u64 (Int.ofNat (BitVec.toNat (BitVec.ofInt (IntKind.bits .u64) (Int.fdiv x0 (2 ^ (min (Int.toNat 1) (IntKind.bits .u64)))) &&& BitVec.ofInt (IntKind.bits .u64) 6148914691236517205)))) + (IntKind.wrap .u64 (Int.ofNat (BitVec.toNat (BitVec.ofInt (IntKind.bits .u64) x0 &&& BitVec.ofInt (IntKind.bits .u64) 6148914691236517205)))))) (2 ^ (min (Int.toNat 2) (IntKind.bits .u64)))) &&& BitVec.ofInt (IntKind.bits .u64) 3689348814741910323)))) + (IntKind.wrap .u64 (Int.ofNat (BitVec.toNat (BitVec.ofInt (IntKind.bits .u64) (IntKind.wrap .u64 ((IntKind.wrap .u64 (Int.ofNat (BitVec.toNat (BitVec.ofInt (IntKind.bits .u64) (Int.fdiv x0 (2 ^ (min (Int.toNat 1) (IntKind.bits .u64)))) &&& BitVec.ofInt (IntKind.bits .u64) 6148914691236517205)))) + (IntKind.wrap .u64 (Int.ofNat (BitVec.toNat (BitVec.ofInt (IntKind.bits .u64) x0 &&& BitVec.ofInt (IntKind.bits .u64) 6148914691236517205)))))) &&& BitVec.ofInt (IntKind.bits .u64) 3689348814741910323)))))))) &&& BitVec.ofInt (IntKind.bits .u64) 1085102592571150095)))) (2 ^ (min (Int.toNat 8) (IntKind.bits .u64)))))) (2 ^ (min (Int.toNat 16) (IntKind.bits .u64)))))) + (Int.fdiv (IntKind.wrap .u64 ((IntKind.wrap .u64 ((IntKind.wrap .u64 (Int.ofNat (BitVec.toNat (BitVec.ofInt (IntKind.bits .u64) (IntKind.wrap .u64 ((Int.fdiv (IntKind.wrap .u64 ((IntKind.wrap .u64 (Int.ofNat (BitVec.toNat (BitVec.ofInt (IntKind.bits .u64) (Int.fdiv (IntKind.wrap .u64 ((IntKind.wrap .u64 (Int.ofNat (BitVec.toNat (BitVec.ofInt (IntKind.bits .u64) (Int.fdiv x0 (2 ^ (min (Int.toNat 1) (IntKind.bits .u64)))) &&& BitVec.ofInt (IntKind.bits .u64) 6148914691236517205)))) + (IntKind.wrap .u64 (Int.ofNat (BitVec.toNat (BitVec.ofInt (IntKind.bits .u64) x0 &&& BitVec.ofInt (IntKind.bits .u64) 6148914691236517205)))))) (2 ^ (min (Int.toNat 2) (IntKind.bits .u64)))) &&& BitVec.ofInt (IntKind.bits .u64) 3689348814741910323)))) + (IntKind.wrap .u64 (Int.ofNat (BitVec.toNat (BitVec.ofInt (IntKind.bits .u64) (IntKind.wrap .u64 ((IntKind.wrap .u64 (Int.ofNat (BitVec.toNat (BitVec.ofInt (IntKind.bits .u64) (Int.fdiv x0 (2 ^ (min (Int.toNat 1) (IntKind.bits .u64)))) &&& BitVec.ofInt (IntKind.bits .u64) 6148914691236517205)))) + (IntKind.wrap .u64 (Int.ofNat (BitVec.toNat (BitVec.ofInt (IntKind.bits .u64) x0 &&& BitVec.ofInt (IntKind.bits .u64) 6148914691236517205)))))) &&& BitVec.ofInt (IntKind.bits .u64) 3689348814741910323)))))) (2 ^ (min (Int.toNat 4) (IntKind.bits .u64)))) + (IntKind.wrap .u64 ((IntKind.wrap .u64 (Int.ofNat (BitVec.toNat (BitVec.ofInt (IntKind.bits .u64) (Int.fdiv (IntKind.wrap .u64 ((IntKind.wrap .u64 (Int.ofNat (BitVec.toNat (BitVec.ofInt (IntKind.bits .u64) (Int.fdiv x0 (2 ^ (min (Int.toNat 1) (IntKind.bits .u64)))) &&& BitVec.ofInt (IntKind.bits .u64) 6148914691236517205)))) + (IntKind.wrap .u64 (Int.ofNat (BitVec.toNat (BitVec.ofInt (IntKind.bits .u64) x0 &&& BitVec.ofInt (IntKind.bits .u64) 6148914691236517205)))))) (2 ^ (min (Int.toNat 2) (IntKind.bits .u64)))) &&& BitVec.ofInt (IntKind.bits .u64) 3689348814741910323)))) + (IntKind.wrap .u64 (Int.ofNat (BitVec.toNat (BitVec.ofInt (IntKind.bits .u64) (IntKind.wrap .u64 ((IntKind.wrap .u64 (Int.ofNat (BitVec.toNat (BitVec.ofInt (IntKind.bits .u64) (Int.fdiv x0 (2 ^ (min (Int.toNat 1) (IntKind.bits .u64)))) &&& BitVec.ofInt (IntKind.bits .u64) 6148914691236517205)))) + (IntKind.wrap .u64 (Int.ofNat (BitVec.toNat (BitVec.ofInt (IntKind.bits .u64) x0 &&& BitVec.ofInt (IntKind.bits .u64) 6148914691236517205)))))) &&& BitVec.ofInt (IntKind.bits .u64) 3689348814741910323)))))))) &&& BitVec.ofInt (IntKind.bits .u64) 1085102592571150095)))) + (Int.fdiv (IntKind.wrap .u64 (Int.ofNat (BitVec.toNat (BitVec.ofInt (IntKind.bits .u64) (IntKind.wrap .u64 ((Int.fdiv (IntKind.wrap .u64 ((IntKind.wrap .u64 (Int.ofNat (BitVec.toNat (BitVec.ofInt (IntKind.bits .u64) (Int.fdiv (IntKind.wrap .u64 ((IntKind.wrap .u64 (Int.ofNat (BitVec.toNat (BitVec.ofInt (IntKind.bits .u64) (Int.fdiv x0 (2 ^ (min (Int.toNat 1) (IntKind.bits .u64)))) &&& BitVec.ofInt (IntKind.bits .u64) 6148914691236517205)))) + (IntKind.wrap .u64 (Int.ofNat (BitVec.toNat (BitVec.ofInt (IntKind.bits .u64) x0 &&& BitVec.ofInt (IntKind.bits .u64) 6148914691236517205)))))) (2 ^ (min (Int.toNat 2) (IntKind.bits .u64)))) &&& BitVec.ofInt (IntKind.bits .u64) 3689348814741910323)))) + (IntKind.wrap .u64 (Int.ofNat (BitVec.toNat (BitVec.ofInt (IntKind.bits .u64) (IntKind.wrap .u64 ((IntKind.wrap .u64 (Int.ofNat (BitVec.toNat (BitVec.ofInt (IntKind.bits .u64) (Int.fdiv x0 (2 ^ (min (Int.toNat 1) (IntKind.bits .u64)))) &&& BitVec.ofInt (IntKind.bits .u64) 6148914691236517205)))) + (IntKind.wrap .u64 (Int.ofNat (BitVec.toNat (BitVec.ofInt (IntKind.bits .u64) x0 &&& BitVec.ofInt (IntKind.bits .u64) 6148914691236517205)))))) &&& BitVec.ofInt (IntKind.bits .u64) 3689348814741910323)))))) (2 ^ (min (Int.toNat 4) (IntKind.bits .u64)))) + (IntKind.wrap .u64 ((IntKind.wrap .u64 (Int.ofNat (BitVec.toNat (BitVec.ofInt (IntKind.bits .u64) (Int.fdiv (IntKind.wrap .u64 ((IntKind.wrap .u64 (Int.ofNat (BitVec.toNat (BitVec.ofInt (IntKind.bits .u64) (Int.fdiv x0 (2 ^ (min (Int.toNat 1) (IntKind.bits .u64)))) &&& BitVec.ofInt (IntKind.bits .u64) 6148914691236517205)))) + (IntKind.wrap .u64 (Int.ofNat (BitVec.toNat (BitVec.ofInt (IntKind.bits .u64) x0 &&& BitVec.ofInt (IntKind.bits .u64) 6148914691236517205)))))) (2 ^ (min (Int.toNat 2) (IntKind.bits .u64)))) &&& BitVec.ofInt (IntKind.bits .u64) 3689348814741910323)))) + (IntKind.wrap .u64 (Int.ofNat (BitVec.toNat (BitVec.ofInt (IntKind.bits .u64) (IntKind.wrap .u64 ((IntKind.wrap .u64 (Int.ofNat (BitVec.toNat (BitVec.ofInt (IntKind.bits .u64) (Int.fdiv x0 (2 ^ (min (Int.toNat 1) (IntKind.bits .u64)))) &&& BitVec.ofInt (IntKind.bits .u64) 6148914691236517205)))) + (IntKind.wrap .u64 (Int.ofNat (BitVec.toNat (BitVec.ofInt (IntKind.bits .u64) x0 &&& BitVec.ofInt (IntKind.bits .u64) 6148914691236517205)))))) &&& BitVec.ofInt (IntKind.bits .u64) 3689348814741910323)))))))) &&& BitVec.ofInt (IntKind.bits .u64) 1085102592571150095)))) (2 ^ (min (Int.toNat 8) (IntKind.bits .u64)))))) + (Int.fdiv (IntKind.wrap .u64 ((IntKind.wrap .u64 (Int.ofNat (BitVec.toNat (BitVec.ofInt (IntKind.bits .u64) (IntKind.wrap .u64 ((Int.fdiv (IntKind.wrap .u64 ((IntKind.wrap .u64 (Int.ofNat (BitVec.toNat (BitVec.ofInt (IntKind.bits .u64) (Int.fdiv (IntKind.wrap .u64 ((IntKind.wrap .u64 (Int.ofNat (BitVec.toNat (BitVec.ofInt (IntKind.bits .u64) (Int.fdiv x0 (2 ^ (min (Int.toNat 1) (IntKind.bits .u64)))) &&& BitVec.ofInt (IntKind.bits .u64) 6148914691236517205)))) + (IntKind.wrap .u64 (Int.ofNat (BitVec.toNat (BitVec.ofInt (IntKind.bits .u64) x0 &&& BitVec.ofInt (IntKind.bits .u64) 6148914691236517205)))))) (2 ^ (min (Int.toNat 2) (IntKind.bits .u64)))) &&& BitVec.ofInt (IntKind.bits .u64) 3689348814741910323)))) + (IntKind.wrap .u64 (Int.ofNat (BitVec.toNat (BitVec.ofInt (IntKind.bits .u64) (IntKind.wrap .u64 ((IntKind.wrap .u64 (Int.ofNat (BitVec.toNat (BitVec.ofInt (IntKind.bits .u64) (Int.fdiv x0 (2 ^ (min (Int.toNat 1) (IntKind.bits .u64)))) &&& BitVec.ofInt (IntKind.bits .u64) 6148914691236517205)))) + (IntKind.wrap .u64 (Int.ofNat (BitVec.toNat (BitVec.ofInt (IntKind.bits .u64) x0 &&& BitVec.ofInt (IntKind.bits .u64) 6148914691236517205)))))) &&& BitVec.ofInt (IntKind.bits .u64) 3689348814741910323)))))) (2 ^ (min (Int.toNat 4) (IntKind.bits .u64)))) + (IntKind.wrap .u64 ((IntKind.wrap .u64 (Int.ofNat (BitVec.toNat (BitVec.ofInt (IntKind.bits .u64) (Int.fdiv (IntKind.wrap .u64 ((IntKind.wrap .u64 (Int.ofNat (BitVec.toNat (BitVec.ofInt (IntKind.bits .u64) (Int.fdiv x0 (2 ^ (min (Int.toNat 1) (IntKind.bits .u64)))) &&& BitVec.ofInt (IntKind.bits .u64) 6148914691236517205)))) + (IntKind.wrap .u64 (Int.ofNat (BitVec.toNat (BitVec.ofInt (IntKind.bits .u64) x0 &&& BitVec.ofInt (IntKind.bits .u64) 6148914691236517205)))))) (2 ^ (min (Int.toNat 2) (IntKind.bits .u64)))) &&& BitVec.ofInt (IntKind.bits .u64) 3689348814741910323)))) + (IntKind.wrap .u64 (Int.ofNat (BitVec.toNat (BitVec.ofInt (IntKind.bits .u64) (IntKind.wrap .u64 ((IntKind.wrap .u64 (Int.ofNat (BitVec.toNat (BitVec.ofInt (IntKind.bits .u64) (Int.fdiv x0 (2 ^ (min (Int.toNat 1) (IntKind.bits .u64)))) &&& BitVec.ofInt (IntKind.bits .u64) 6148914691236517205)))) + (IntKind.wrap .u64 (Int.ofNat (BitVec.toNat (BitVec.ofInt (IntKind.bits .u64) x0 &&& BitVec.ofInt (IntKind.bits .u64) 6148914691236517205)))))) &&& BitVec.ofInt (IntKind.bits .u64) 3689348814741910323)))))))) &&& BitVec.ofInt (IntKind.bits .u64) 1085102592571150095)))) + (Int.fdiv (IntKind.wrap .u64 (Int.ofNat (BitVec.toNat (BitVec.ofInt (IntKind.bits .u64) (IntKind.wrap .u64 ((Int.fdiv (IntKind.wrap .u64 ((IntKind.wrap .u64 (Int.ofNat (BitVec.toNat (BitVec.ofInt (IntKind.bits .u64) (Int.fdiv (IntKind.wrap .u64 ((IntKind.wrap .u64 (Int.ofNat (BitVec.toNat (BitVec.ofInt (IntKind.bits .u64) (Int.fdiv x0 (2 ^ (min (Int.toNat 1) (IntKind.bits .u64)))) &&& BitVec.ofInt (IntKind.bits .u64) 6148914691236517205)))) + (IntKind.wrap .u64 (Int.ofNat (BitVec.toNat (BitVec.ofInt (IntKind.bits .u64) x0 &&& BitVec.ofInt (IntKind.bits .u64) 6148914691236517205)))))) (2 ^ (min (Int.toNat 2) (IntKind.bits .u64)))) &&& BitVec.ofInt (IntKind.bits .u64) 3689348814741910323)))) + (IntKind.wrap .u64 (Int.ofNat (BitVec.toNat (BitVec.ofInt (IntKind.bits .u64) (IntKind.wrap .u64 ((IntKind.wrap .u64 (Int.ofNat (BitVec.toNat (BitVec.ofInt (IntKind.bits .u64) (Int.fdiv x0 (2 ^ (min (Int.toNat 1) (IntKind.bits .u64)))) &&& BitVec.ofInt (IntKind.bits .u64) 6148914691236517205)))) + (IntKind.wrap .u64 (Int.ofNat (BitVec.toNat (BitVec.ofInt (IntKind.bits .u64) x0 &&& BitVec.ofInt (IntKind.bits .u64) 6148914691236517205)))))) &&& BitVec.ofInt (IntKind.bits .u64) 3689348814741910323)))))) (2 ^ (min (Int.toNat 4) (IntKind.bits .u64)))) + (IntKind.wrap .u64 ((IntKind.wrap .u64 (Int.ofNat (BitVec.toNat (BitVec.ofInt (IntKind.bits .u64) (Int.fdiv (IntKind.wrap .u64 ((IntKind.wrap .u64 (Int.ofNat (BitVec.toNat (BitVec.ofInt (IntKind.bits .u64) (Int.fdiv x0 (2 ^ (min (Int.toNat 1) (IntKind.bits .u64)))) &&& BitVec.ofInt (IntKind.bits .u64) 6148914691236517205)))) + (IntKind.wrap .u64 (Int.ofNat (BitVec.toNat (BitVec.ofInt (IntKind.bits .u64) x0 &&& BitVec.ofInt (IntKind.bits .u64) 6148914691236517205)))))) (2 ^ (min (Int.toNat 2) (IntKind.bits .u64)))) &&& BitVec.ofInt (IntKind.bits .u64) 3689348814741910323)))) + (IntKind.wrap .u64 (Int.ofNat (BitVec.toNat (BitVec.ofInt (IntKind.bits .u64) (IntKind.wrap .u64 ((IntKind.wrap .u64 (Int.ofNat (BitVec.toNat (BitVec.ofInt (IntKind.bits .u64) (Int.fdiv x0 (2 ^ (min (Int.toNat 1) (IntKind.bits .u64)))) &&& BitVec.ofInt (IntKind.bits .u64) 6148914691236517205)))) + (IntKind.wrap .u64 (Int.ofNat (BitVec.toNat (BitVec.ofInt (IntKind.bits .u64) x0 &&& BitVec.ofInt (IntKind.bits .u64) 6148914691236517205)))))) &&& BitVec.ofInt (IntKind.bits .u64) 3689348814741910323)))))))) &&& BitVec.ofInt (IntKind.bits .u64) 1085102592571150095)))) (2 ^ (min (Int.toNat 8) (IntKind.bits .u64)))))) (2 ^ (min (Int.toNat 16) (IntKind.bits .u64)))))) (2 ^ (min (Int.toNat 32) (IntKind.bits .u64)))))))) &&& BitVec.ofInt (IntKind.bits .i64) 127))))) (fun r0 => k (PkS.pack Tbits_OnesCount64 (r0, ()))) := by kernel_rfl
theorem okbits_OnesCount64 (n : Nat) : FnOk Try.prog 52 (Kbits_OnesCount64 @bits_OnesCount64 n) := by
  refine fn_ok (sig := sig) mixed ttok (mkK_nat (cbits_OnesCount64 n)) (mkK_ok (cbits_OnesCount64 n)) (mkL_nat (mkK_nat (cbits_OnesCount64 n)) (l := []) trivial) (fn := Try.f52) (c := bodyOf Try.f52) (by kernel_rfl) (by kernel_rfl) (by kernel_rfl) (.eq (l := []) (by kernel_rfl) trivial) (shs := Hbits_OnesCount64) (S := Sbits_OnesCount64) (h1 := by kernel_rfl) fun R p k => ?_
  unfold Kbits_OnesCount64
  cases h : (PkS.un Sbits_OnesCount64 p) with
  | none => rfl
  | some d =>
    obtain ⟨x0, u⟩ := (d : Int × Unit)
    have hp := PkS.un_pack h
    subst hp
    exact (ebits_OnesCount64  n x0 k).symm

/-! ### loop.example/g00269/impl.CountYes -/
theorem cimpl_CountYes (n : Nat) : AllOk Try.prog [(42, Kimpl_truthOf @impl_truthOf n), (52, Kbits_OnesCount64 @bits_OnesCount64 n)] := ⟨okimpl_truthOf n, ⟨okbits_OnesCount64 n, trivial⟩⟩
@[reducible] def Simpl_CountYes : PkS := ⟨[.agg [.ro (.pr (.int .i64) (.pr (.int .i64) (.int .i64))), .int .i64]], []⟩
@[reducible] def Timpl_CountYes : PkS := ⟨[.tup [(false, [.int .i64]), (false, [.bool])], .one (.dead)], []⟩
def Himpl_CountYes : List Sh := [.tup [(false, [.any]), (false, [.any])], .skip]
def Kimpl_CountYes (g : ∀ {R : Type}, Nat → (List (Int × Int × Int)) → Int → (Int → Bool → Option R) → Option R) (n : Nat) : KPs := fun R p k => match (PkS.un Simpl_CountYes p : Option ((List (Int × Int × Int)) × Int × Unit)) with
  | some (x0, x1, _) => g n x0 x1 (fun r0 r1 => k (PkS.pack Timpl_CountYes (r0, r1, ())))
  | none => none
theorem eimpl_CountYes (impl_truthOf : ∀ {R : Type}, Nat → (List (Int × Int × Int)) → Int → (Int → Bool → Option R) → Option R) (bits_OnesCount64 : ∀ {R : Type}, Nat → Int → (Int → Option R) → Option R) {R : Type} (n : Nat) (x0 : List (Int × Int × Int)) (x1 : Int) (k : Pk → Option R) : evF tt sig (mkK [(42, Kimpl_truthOf @impl_truthOf n), (52, Kbits_OnesCount64 @bits_OnesCount64 n)] R) (mkL (mkK [(42, Kimpl_truthOf @impl_truthOf n), (52, Kbits_OnesCount64 @bits_OnesCount64 n)]) [] R) Try.f24 Himpl_CountYes (PkS.pack Simpl_CountYes (x0, x1, ())) k = (fun (k : Int → Bool → Option R) => (impl_truthOf n x0 x1 fun r1 r2 => (bif (!r2) then k 0 false else (bits_OnesCount64 n r1 fun r3 => k r3 true)))) (fun r0 r1 => k (PkS.pack Timpl_CountYes (r0, r1, ()))) := by kernel_rfl
theorem okimpl_CountYes (n : Nat) : FnOk Try.prog 24 (Kimpl_CountYes @impl_CountYes n) := by
  refine fn_ok (sig := sig) mixed ttok (mkK_nat (cimpl_CountYes n)) (mkK_ok (cimpl_CountYes n)) (mkL_nat (mkK_nat (cimpl_CountYes n)) (l := []) trivial) (fn := Try.f24) (c := bodyOf Try.f24) (by kernel_rfl) (by kernel_rfl) (by kernel_rfl) (.eq (l := []) (by kernel_rfl) trivial) (shs := Himpl_CountYes) (S := Simpl_CountYes) (h1 := by kernel_rfl) fun R p k => ?_
  unfold Kimpl_CountYes
  cases h : (PkS.un Simpl_CountYes p) with
  | none => rfl
  | some d =>
    obtain ⟨x0, x1, u⟩ := (d : (List (Int × Int × Int)) × Int × Unit)
    have hp := PkS.un_pack h
    subst hp
    exact (eimpl_CountYes @impl_truthOf @bits_OnesCount64 n x0 x1 k).symm

/-! ### loop.example/g00269/laws.FnBryant -/
theorem claws_FnBryant (n : Nat) : AllOk Try.prog [(34, Kspec_DrawDiagramOf @spec_DrawDiagramOf n), (35, Kspec_DrawTableOf @spec_DrawTableOf n), (20, Kimpl_DiagramOf @impl_DiagramOf n), (19, Kspec_DiagramOf @spec_DiagramOf n), (36, Kimpl_TableOf @impl_TableOf n), (37, Kspec_TableOf @spec_TableOf n), (32, Klaws_sameDiagrams @laws_sameDiagrams n), (38, Kimpl_GoodForm @impl_GoodForm n), (15, Kimpl_GoodDiagram @impl_GoodDiagram n), (18, Kimpl_Decide @impl_Decide n), (24, Kimpl_CountYes @impl_CountYes n)] := ⟨okspec_DrawDiagramOf n, ⟨okspec_DrawTableOf n, ⟨okimpl_DiagramOf n, ⟨okspec_DiagramOf n, ⟨okimpl_TableOf n, ⟨okspec_TableOf n, ⟨oklaws_sameDiagrams n, ⟨okimpl_GoodForm n, ⟨okimpl_GoodDiagram n, ⟨okimpl_Decide n, ⟨okimpl_CountYes n, trivial⟩⟩⟩⟩⟩⟩⟩⟩⟩⟩⟩
@[reducible] def Slaws_FnBryant_l19 : PkS := ⟨[.one (.box (100000, 1) 0), .one (.str), .one (.int .i64), .one (.int .i64), .one (.dead), .one (.dead)], [((100000, 0), .arr (.pr (.int .i64) (.pr (.int .i64) (.int .i64)))), ((100000, 1), .box [.whole (100000, 0), .int .i64])]⟩
@[reducible] def Tlaws_FnBryant_l19_0 : PkS := ⟨[.one (.bool), .one (.dead), .one (.dead)], []⟩
@[reducible] def Tlaws_FnBryant_l19_1 : PkS := ⟨[.one (.box (100000, 1) 0), .one (.int .i64), .one (.dead), .one (.dead)], [((100000, 0), .arr (.pr (.int .i64) (.pr (.int .i64) (.int .i64)))), ((100000, 1), .box [.whole (100000, 0), .int .i64])]⟩
def Dlaws_FnBryant_l19 : LoopD := ⟨150, [7, 13, 19, 20], [.box [(.own (.pr (.int .i64) (.pr (.int .i64) (.int .i64)))), .any], .one .any, .one .any, .one .any, .skip, .skip], fun x => match x with
  | .ret => some ([4], [.one .any, .skip, .skip])
  | .exit 0 => some ([7, 19], [.box [(.own (.pr (.int .i64) (.pr (.int .i64) (.int .i64)))), .any], .one .any, .skip, .skip])
  | _ => none⟩
def Plaws_FnBryant_l19 (g : ∀ {R : Type}, Nat → ByteArray → Int → Int → (List (Int × Int × Int)) → Int → (Bool → Option R) → (Int → (List (Int × Int × Int)) → Int → Option R) → Option R) (n : Nat) : LPs := fun R q kk => match (PkS.un Slaws_FnBryant_l19 q : Option (ByteArray × Int × Int × (List (Int × Int × Int)) × Int × Unit)) with
  | some (y19_0, y19_1, y19_2, y19_3, y19_4, _) => g n y19_0 y19_1 y19_2 y19_3 y19_4 (fun r0 => kk .ret (PkS.pack Tlaws_FnBryant_l19_0 (r0, ()))) (fun r0 r1 r2 => kk (.exit 0) (PkS.pack Tlaws_FnBryant_l19_1 (r0, r1, r2, ())))
  | none => none
theorem elaws_FnBryant_l19 (spec_DrawDiagramOf : ∀ {R : Type}, Nat → (List Int) → (ByteArray → Option R) → Option R) (spec_DrawTableOf : ∀ {R : Type}, Nat → (List Int) → (ByteArray → Option R) → Option R) (impl_DiagramOf : ∀ {R : Type}, Nat → ByteArray → (Int → Bool → (List (Int × Int × Int)) → Option R) → Option R) (spec_DiagramOf : ∀ {R : Type}, Nat → ByteArray → (Int → Bool → (List (Int × Int × Int)) → Option R) → Option R) (impl_TableOf : ∀ {R : Type}, Nat → ByteArray → (ByteArray → Bool → Option R) → Option R) (spec_TableOf : ∀ {R : Type}, Nat → ByteArray → (ByteArray → Bool → Option R) → Option R) (laws_sameDiagrams : ∀ {R : Type}, Nat → (List (Int × Int × Int)) → Int → (List (Int × Int × Int)) → Int → (Bool → Option R) → Option R) (impl_GoodForm : ∀ {R : Type}, Nat → ByteArray → (Bool → Option R) → Option R) (impl_GoodDiagram : ∀ {R : Type}, Nat → (List (Int × Int × Int)) → Int → (Bool → Option R) → Option R) (impl_Decide : ∀ {R : Type}, Nat → (List (Int × Int × Int)) → Int → Int → (Bool → Bool → Option R) → Option R) (impl_CountYes : ∀ {R : Type}, Nat → (List (Int × Int × Int)) → Int → (Int → Bool → Option R) → Option R) (laws_FnBryant_l19 : ∀ {R : Type}, Nat → ByteArray → Int → Int → (List (Int × Int × Int)) → Int → (Bool → Option R) → (Int → (List (Int × Int × Int)) → Int → Option R) → Option R) {R : Type} (n : Nat) (y19_0 : ByteArray) (y19_1 : Int) (y19_2 : Int) (y19_3 : List (Int × Int × Int)) (y19_4 : Int) (kk : Ex → Pk → Option R) : Dlaws_FnBryant_l19.step tt sig (mkK [(34, Kspec_DrawDiagramOf @spec_DrawDiagramOf n), (35, Kspec_DrawTableOf @spec_DrawTableOf n), (20, Kimpl_DiagramOf @impl_DiagramOf n), (19, Kspec_DiagramOf @spec_DiagramOf n), (36, Kimpl_TableOf @impl_TableOf n), (37, Kspec_TableOf @spec_TableOf n), (32, Klaws_sameDiagrams @laws_sameDiagrams n), (38, Kimpl_GoodForm @impl_GoodForm n), (15, Kimpl_GoodDiagram @impl_GoodDiagram n), (18, Kimpl_Decide @impl_Decide n), (24, Kimpl_CountYes @impl_CountYes n)] R) (mkL (mkK [(34, Kspec_DrawDiagramOf @spec_DrawDiagramOf n), (35, Kspec_DrawTableOf @spec_DrawTableOf n), (20, Kimpl_DiagramOf @impl_DiagramOf n), (19, Kspec_DiagramOf @spec_DiagramOf n), (36, Kimpl_TableOf @impl_TableOf n), (37, Kspec_TableOf @spec_TableOf n), (32, Klaws_sameDiagrams @laws_sameDiagrams n), (38, Kimpl_GoodForm @impl_GoodForm n), (15, Kimpl_GoodDiagram @impl_GoodDiagram n), (18, Kimpl_Decide @impl_Decide n), (24, Kimpl_CountYes @impl_CountYes n)]) [] R) (loopIn 19 (bodyOf Try.f11)) (fun q' => Plaws_FnBryant_l19 @laws_FnBryant_l19 n R q' kk) (PkS.pack Slaws_FnBryant_l19 (y19_0, y19_1, y19_2, y19_3, y19_4, ())) kk = (fun (kret : Bool → Option R) (kexit0 : Int → (List (Int × Int × Int)) → Int → Option R) => (bif (decide (y19_2 < 64)) then (impl_Decide n y19_3 y19_4 y19_2 fun r22 r23 => (bif (!r23) then kret false else (bif decide (0 ≤ y19_2) then (bif decide (y19_2 < (y19_0.size : Int)) then (bif (!(r22 == (((y19_0.data.getD (Int.toNat y19_2) 0).toNat : Int) == 49))) then kret false else (bif r22 then laws_FnBryant_l19 n y19_0 (IntKind.wrap .i64 (y19_1 + 1)) (IntKind.wrap .i64 (y19_2 + 1)) y19_3 y19_4 kret kexit0 else laws_FnBryant_l19 n y19_0 y19_1 (IntKind.wrap .i64 (y19_2 + 1)) y19_3 y19_4 kret kexit0)) else none) else none))) else kexit0 y19_1 y19_3 y19_4)) (fun r0 => kk .ret (PkS.pack Tlaws_FnBryant_l19_0 (r0, ()))) (fun r0 r1 r2 => kk (.exit 0) (PkS.pack Tlaws_FnBryant_l19_1 (r0, r1, r2, ()))) := by kernel_rfl
theorem lelaws_FnBryant_l19 : LoopEq tt sig (fun n => mkK [(34, Kspec_DrawDiagramOf @spec_DrawDiagramOf n), (35, Kspec_DrawTableOf @spec_DrawTableOf n), (20, Kimpl_DiagramOf @impl_DiagramOf n), (19, Kspec_DiagramOf @spec_DiagramOf n), (36, Kimpl_TableOf @impl_TableOf n), (37, Kspec_TableOf @spec_TableOf n), (32, Klaws_sameDiagrams @laws_sameDiagrams n), (38, Kimpl_GoodForm @impl_GoodForm n), (15, Kimpl_GoodDiagram @impl_GoodDiagram n), (18, Kimpl_Decide @impl_Decide n), (24, Kimpl_CountYes @impl_CountYes n)]) (fun n => mkL (mkK [(34, Kspec_DrawDiagramOf @spec_DrawDiagramOf n), (35, Kspec_DrawTableOf @spec_DrawTableOf n), (20, Kimpl_DiagramOf @impl_DiagramOf n), (19, Kspec_DiagramOf @spec_DiagramOf n), (36, Kimpl_TableOf @impl_TableOf n), (37, Kspec_TableOf @spec_TableOf n), (32, Klaws_sameDiagrams @laws_sameDiagrams n), (38, Kimpl_GoodForm @impl_GoodForm n), (15, Kimpl_GoodDiagram @impl_GoodDiagram n), (18, Kimpl_Decide @impl_Decide n), (24, Kimpl_CountYes @impl_CountYes n)]) []) Dlaws_FnBryant_l19 Slaws_FnBryant_l19 (loopIn 19 (bodyOf Try.f11)) (Plaws_FnBryant_l19 @laws_FnBryant_l19) where
  zero R q kk := by unfold Plaws_FnBryant_l19; cases (PkS.un Slaws_FnBryant_l19 q) <;> rfl
  succ n R q kk := by
    unfold Plaws_FnBryant_l19
    cases h : (PkS.un Slaws_FnBryant_l19 q) with
    | none => rfl
    | some d =>
      obtain ⟨y19_0, y19_1, y19_2, y19_3, y19_4, u⟩ := (d : ByteArray × Int × Int × (List (Int × Int × Int)) × Int × Unit)
      have hp := PkS.un_pack h
      subst hp
      exact (elaws_FnBryant_l19 @spec_DrawDiagramOf @spec_DrawTableOf @impl_DiagramOf @spec_DiagramOf @impl_TableOf @spec_TableOf @laws_sameDiagrams @impl_GoodForm @impl_GoodDiagram @impl_Decide @impl_CountYes @laws_FnBryant_l19 n y19_0 y19_1 y19_2 y19_3 y19_4 kk).symm
theorem nllaws_FnBryant_l19 : ∀ n, NatLP (Plaws_FnBryant_l19 @laws_FnBryant_l19 n) := lelaws_FnBryant_l19.nat (fun n => mkK_nat (claws_FnBryant n)) fun n => mkL_nat (mkK_nat (claws_FnBryant n)) (l := []) trivial
theorem inlaws_FnBryant_l19 (n : Nat) (R : Type) : LoopsOk Try.prog (mkL (mkK [(34, Kspec_DrawDiagramOf @spec_DrawDiagramOf n), (35, Kspec_DrawTableOf @spec_DrawTableOf n), (20, Kimpl_DiagramOf @impl_DiagramOf n), (19, Kspec_DiagramOf @spec_DiagramOf n), (36, Kimpl_TableOf @impl_TableOf n), (37, Kspec_TableOf @spec_TableOf n), (32, Klaws_sameDiagrams @laws_sameDiagrams n), (38, Kimpl_GoodForm @impl_GoodForm n), (15, Kimpl_GoodDiagram @impl_GoodDiagram n), (18, Kimpl_Decide @impl_Decide n), (24, Kimpl_CountYes @impl_CountYes n)]) [] R) (loopIn 19 (bodyOf Try.f11)) := .eq (l := []) (by kernel_rfl) trivial
theorem lklaws_FnBryant_l19 (n : Nat) (R : Type) (L0 : LK R) (h0 : ∀ id, firstRegion (loopIn 19 (bodyOf Try.f11)) = some id → L0 id = Dlaws_FnBryant_l19.oracle (mkK [(34, Kspec_DrawDiagramOf @spec_DrawDiagramOf n), (35, Kspec_DrawTableOf @spec_DrawTableOf n), (20, Kimpl_DiagramOf @impl_DiagramOf n), (19, Kspec_DiagramOf @spec_DiagramOf n), (36, Kimpl_TableOf @impl_TableOf n), (37, Kspec_TableOf @spec_TableOf n), (32, Klaws_sameDiagrams @laws_sameDiagrams n), (38, Kimpl_GoodForm @impl_GoodForm n), (15, Kimpl_GoodDiagram @impl_GoodDiagram n), (18, Kimpl_Decide @impl_Decide n), (24, Kimpl_CountYes @impl_CountYes n)] R) (Plaws_FnBryant_l19 @laws_FnBryant_l19 n R)) : LoopOk Try.prog L0 (loopIn 19 (bodyOf Try.f11)) :=
  lelaws_FnBryant_l19.ok mixed ttok (fun n => mkK_nat (claws_FnBryant n)) (fun n => mkK_ok (claws_FnBryant n)) (fun n => inlaws_FnBryant_l19 n R) (mkK_nat (claws_FnBryant n)) h0
@[reducible] def Slaws_FnBryant : PkS := ⟨[.one (.ro (.int .u8)), .one (.ro (.int .u8))], []⟩
@[reducible] def Tlaws_FnBryant : PkS := ⟨[.one (.bool), .one (.dead), .one (.dead)], []⟩
def Hlaws_FnBryant : List Sh := [.one .any, .skip, .skip]
def Klaws_FnBryant (g : ∀ {R : Type}, Nat → (List Int) → (List Int) → (Bool → Option R) → Option R) (n : Nat) : KPs := fun R p k => match (PkS.un Slaws_FnBryant p : Option ((List Int) × (List Int) × Unit)) with
  | some (x0, x1, _) => g n x0 x1 (fun r0 => k (PkS.pack Tlaws_FnBryant (r0, ())))
  | none => none
theorem elaws_FnBryant (spec_DrawDiagramOf : ∀ {R : Type}, Nat → (List Int) → (ByteArray → Option R) → Option R) (spec_DrawTableOf : ∀ {R : Type}, Nat → (List Int) → (ByteArray → Option R) → Option R) (impl_DiagramOf : ∀ {R : Type}, Nat → ByteArray → (Int → Bool → (List (Int × Int × Int)) → Option R) → Option R) (spec_DiagramOf : ∀ {R : Type}, Nat → ByteArray → (Int → Bool → (List (Int × Int × Int)) → Option R) → Option R) (impl_TableOf : ∀ {R : Type}, Nat → ByteArray → (ByteArray → Bool → Option R) → Option R) (spec_TableOf : ∀ {R : Type}, Nat → ByteArray → (ByteArray → Bool → Option R) → Option R) (laws_sameDiagrams : ∀ {R : Type}, Nat → (List (Int × Int × Int)) → Int → (List (Int × Int × Int)) → Int → (Bool → Option R) → Option R) (impl_GoodForm : ∀ {R : Type}, Nat → ByteArray → (Bool → Option R) → Option R) (impl_GoodDiagram : ∀ {R : Type}, Nat → (List (Int × Int × Int)) → Int → (Bool → Option R) → Option R) (impl_Decide : ∀ {R : Type}, Nat → (List (Int × Int × Int)) → Int → Int → (Bool → Bool → Option R) → Option R) (impl_CountYes : ∀ {R : Type}, Nat → (List (Int × Int × Int)) → Int → (Int → Bool → Option R) → Option R) (laws_FnBryant_l19 : ∀ {R : Type}, Nat → ByteArray → Int → Int → (List (Int × Int × Int)) → Int → (Bool → Option R) → (Int → (List (Int × Int × Int)) → Int → Option R) → Option R) {R : Type} (n : Nat) (x0 : List Int) (x1 : List Int) (k : Pk → Option R) : evF tt sig (mkK [(34, Kspec_DrawDiagramOf @spec_DrawDiagramOf n), (35, Kspec_DrawTableOf @spec_DrawTableOf n), (20, Kimpl_DiagramOf @impl_DiagramOf n), (19, Kspec_DiagramOf @spec_DiagramOf n), (36, Kimpl_TableOf @impl_TableOf n), (37, Kspec_TableOf @spec_TableOf n), (32, Klaws_sameDiagrams @laws_sameDiagrams n), (38, Kimpl_GoodForm @impl_GoodForm n), (15, Kimpl_GoodDiagram @impl_GoodDiagram n), (18, Kimpl_Decide @impl_Decide n), (24, Kimpl_CountYes @impl_CountYes n)] R) (mkL (mkK [(34, Kspec_DrawDiagramOf @spec_DrawDiagramOf n), (35, Kspec_DrawTableOf @spec_DrawTableOf n), (20, Kimpl_DiagramOf @impl_DiagramOf n), (19, Kspec_DiagramOf @spec_DiagramOf n), (36, Kimpl_TableOf @impl_TableOf n), (37, Kspec_TableOf @spec_TableOf n), (32, Klaws_sameDiagrams @laws_sameDiagrams n), (38, Kimpl_GoodForm @impl_GoodForm n), (15, Kimpl_GoodDiagram @impl_GoodDiagram n), (18, Kimpl_Decide @impl_Decide n), (24, Kimpl_CountYes @impl_CountYes n)]) [(19, Dlaws_FnBryant_l19, Plaws_FnBryant_l19 @laws_FnBryant_l19 n)] R) Try.f11 Hlaws_FnBryant (PkS.pack Slaws_FnBryant (x0, x1, ())) k = (fun (k : Bool → Option R) => (bif (decide ((IntKind.wrap .i64 ((x0.length : Int) + (x1.length : Int))) > 1048576)) then k true else (spec_DrawDiagramOf n x0 fun r1 => (spec_DrawTableOf n x1 fun r2 => (impl_DiagramOf n r1 fun r3 r4 r5 => (spec_DiagramOf n r1 fun r6 r7 r8 => (impl_DiagramOf n r2 fun r9 r10 r11 => (impl_TableOf n r1 fun r12 r13 => (spec_TableOf n r1 fun r14 r15 => (impl_TableOf n r2 fun r16 r17 => (bif (!(r4 == r7)) then k false else (laws_sameDiagrams n r5 r3 r8 r6 fun r18 => (bif (!r18) then k false else (bif (!(r13 == r15)) then k false else (bif (!((ByteArray.toList r12) == (ByteArray.toList r14))) then k false else (impl_GoodForm n r1 fun r19 => (bif (!(r19 == r15)) then k false else (bif (!r4) then k true else (bif (!r10) then k true else (bif (!r13) then k false else (bif (!r17) then k false else (laws_sameDiagrams n r5 r3 r11 r9 fun r20 => (bif (!(((ByteArray.toList r12) == (ByteArray.toList r16)) == r20)) then k false else (impl_GoodDiagram n r5 r3 fun r21 => (bif (!r21) then k false else (laws_FnBryant_l19 n r12 0 0 r5 r3 (fun r24 => k r24) (fun r25 r26 r27 => (impl_CountYes n r26 r27 fun r28 r29 => (bif r29 then k (r28 == r25) else k false))))))))))))))))))))))))))))) (fun r0 => k (PkS.pack Tlaws_FnBryant (r0, ()))) := by kernel_rfl
theorem oklaws_FnBryant (n : Nat) : FnOk Try.prog 11 (Klaws_FnBryant @laws_FnBryant n) := by
  refine fn_ok (sig := sig) mixed ttok (mkK_nat (claws_FnBryant n)) (mkK_ok (claws_FnBryant n)) (mkL_nat (mkK_nat (claws_FnBryant n)) (l := [(19, Dlaws_FnBryant_l19, Plaws_FnBryant_l19 @laws_FnBryant_l19 n)]) ⟨nllaws_FnBryant_l19 n, trivial⟩) (fn := Try.f11) (c := bodyOf Try.f11) (by kernel_rfl) (by kernel_rfl) (by kernel_rfl) (.eq (l := [.lo (loopIn 19 (bodyOf Try.f11))]) (by kernel_rfl) ⟨(lklaws_FnBryant_l19 n _ _ (at_id (i := 19) (by kernel_rfl) rfl)), trivial⟩) (shs := Hlaws_FnBryant) (S := Slaws_FnBryant) (h1 := by kernel_rfl) fun R p k => ?_
  unfold Klaws_FnBryant
  cases h : (PkS.un Slaws_FnBryant p) with
  | none => rfl
  | some d =>
    obtain ⟨x0, x1, u⟩ := (d : (List Int) × (List Int) × Unit)
    have hp := PkS.un_pack h
    subst hp
    exact (elaws_FnBryant @spec_DrawDiagramOf @spec_DrawTableOf @impl_DiagramOf @spec_DiagramOf @impl_TableOf @spec_TableOf @laws_sameDiagrams @impl_GoodForm @impl_GoodDiagram @impl_Decide @impl_CountYes @laws_FnBryant_l19 n x0 x1 k).symm
end Go.Am.G
