/- The code of the functions that the law reaches does what the plain functions say. -/
import Derived.Test.YtjijikgjefingaaF10
import Derived.Test.YtjijikgjefingaaAmB
import Derived.KernelRfl
import Derived.Test.YtjijikgjefingaaProg
set_option linter.unusedVariables false
set_option maxRecDepth 100000
namespace Go.Am.G
open Go Go.Am
open Go.Proofs
def tt : TT := [(3, ⟨1, false, (.int .i64), 0, [], [.int .i64 0], 8, true, false, [], none⟩), (4, ⟨1, false, .bool, 0, [], [.bool false], 1, true, false, [], none⟩), (5, ⟨1, false, (.int .u8), 0, [], [.int .u8 0], 1, true, false, [], none⟩), (22, ⟨1, false, (.sl (.int .i64)), 3, [], [.nil], 24, true, true, [], none⟩), (50, ⟨1, false, (.sl (.int .u8)), 5, [], [.nil], 24, true, true, [], none⟩), (51, ⟨1, false, (.sl (.pr (.int .i64) (.sl (.int .i64)))), 63, [], [.nil], 24, true, true, [], none⟩), (63, ⟨2, true, (.pr (.int .i64) (.sl (.int .i64))), 0, [(0, 1, false), (1, 1, false)], [.int .i64 0, .nil], 32, true, false, [], none⟩), (65, ⟨1, false, (.sl (.pr (.int .i64) (.pr (.int .i64) (.int .i64)))), 69, [], [.nil], 24, true, true, [], none⟩), (69, ⟨3, true, (.pr (.int .i64) (.pr (.int .i64) (.int .i64))), 0, [(0, 1, false), (1, 1, false), (2, 1, false)], [.int .i64 0, .int .i64 0, .int .i64 0], 24, true, false, [(.int .i64), (.int .i64), (.int .i64)], none⟩), (107, ⟨1, false, (.sl .bool), 4, [], [.nil], 24, true, true, [], none⟩), (112, ⟨1, false, (.int .u64), 0, [], [.int .u64 0], 8, true, false, [], none⟩), (114, ⟨3, true, (.pr (.sl (.int .u8)) (.pr (.int .i64) (.int .u64))), 0, [(0, 1, false), (1, 1, false), (2, 1, false)], [.nil, .int .i64 0, .int .u64 0], 40, true, false, [], none⟩), (122, ⟨1, false, .bool, 0, [], [.dead], 8, false, false, [], none⟩), (125, ⟨2, true, (.pr (.sl (.int .i64)) (.sl (.int .i64))), 0, [(0, 1, false), (1, 1, false)], [.nil, .nil], 48, true, false, [], none⟩), (157, ⟨1, false, (.int .u64), 0, [], [.int .u64 0], 8, true, false, [], none⟩)]
def sig : Sig := sigOf [(10, [.one (.ro (.int .u8)), .one (.ro (.int .u8))]), (43, [.one (.ro (.pr (.int .i64) (.sl (.int .i64))))]), (49, [.one (.ro (.pr (.int .i64) (.sl (.int .i64))))]), (50, [.one (.ro (.int .u8))]), (51, [.one (.ro (.pr (.int .i64) (.sl (.int .i64)))), .one .any]), (52, [.one (.ro (.pr (.int .i64) (.sl (.int .i64)))), .one .any]), (53, [.one (.ro (.pr (.int .i64) (.sl (.int .i64)))), .one .any, .one (.ro (.pr (.int .i64) (.pr (.int .i64) (.int .i64))))]), (54, [.one (.ro (.int .u8))]), (55, [.one (.ro (.pr (.int .i64) (.sl (.int .i64)))), .one .any, .one (.ro (.pr (.int .i64) (.pr (.int .i64) (.int .i64))))]), (72, [.one .any, .one .any, .one .any]), (80, [.one .any, .one .any, .one .any]), (94, [.one (.ro (.pr (.int .i64) (.sl (.int .i64))))]), (95, [.one (.ro (.pr (.int .i64) (.sl (.int .i64))))]), (96, [.one (.ro (.pr (.int .i64) (.sl (.int .i64))))]), (98, [.box [(.ro (.int .u8)), .any, .any]]), (99, [.box [(.ro (.int .u8)), .any, .any], .one .any]), (100, [.one (.ro (.pr (.int .i64) (.sl (.int .i64))))]), (103, [.one (.ro (.int .i64)), .one .any]), (105, [.one (.ro (.int .i64)), .one .any]), (106, [.one (.ro (.int .i64)), .one .any]), (107, [.box [(.ro (.int .u8)), .any, .any], .one (.ro (.int .i64))]), (108, [.one .any]), (109, [.one (.ro (.int .i64)), .one .any]), (110, [.one (.lend (.pr (.sl (.int .i64)) (.sl (.int .i64)))), .one (.ro (.pr (.int .i64) (.sl (.int .i64)))), .one .any]), (111, [.one (.ro (.pr (.int .i64) (.sl (.int .i64)))), .one .any, .one (.ro (.pr (.int .i64) (.pr (.int .i64) (.int .i64))))]), (112, [.box [(.ro (.int .u8)), .any, .any], .one .any]), (119, [.one (.ro (.int .i64)), .one .any]), (120, [.one (.ro (.int .i64)), .fn 147 [[(.own .bool)]]]), (120, [.one (.ro (.int .i64)), .fn 152 [[(.lend (.pr (.sl (.int .i64)) (.sl (.int .i64))))], [.any]]]), (120, [.one (.ro (.int .i64)), .fn 153 [[(.own (.int .i64))], [(.ro (.pr (.int .i64) (.sl (.int .i64))))], [.any]]]), (147, [.one .any, .box [(.own .bool)]]), (149, [.box [(.ro (.int .u8)), .any, .any]]), (150, [.one (.ro (.int .i64)), .one .any]), (151, [.one .any, .one .any]), (152, [.one .any, .box [(.lend (.pr (.sl (.int .i64)) (.sl (.int .i64))))], .box [.any]]), (153, [.one .any, .box [(.own (.int .i64))], .box [(.ro (.pr (.int .i64) (.sl (.int .i64))))], .box [.any]]), (157, [.one (.ro (.int .i64)), .fn 147 [[(.own .bool)]]]), (157, [.one (.ro (.int .i64)), .fn 152 [[(.lend (.pr (.sl (.int .i64)) (.sl (.int .i64))))], [.any]]]), (157, [.one (.ro (.int .i64)), .fn 153 [[(.own (.int .i64))], [(.ro (.pr (.int .i64) (.sl (.int .i64))))], [.any]]]), (166, [.one .any, .one .any])]
theorem ttok : TTok Try.prog tt := .of_chk (by kernel_rfl)
theorem mixed : Try.prog.follows .mixedOrders = true := by kernel_rfl

/-! ### (*loop.example/g00269/spec.l1Cur).next -/
theorem cspec_l1Cur_next (n : Nat) : AllOk Try.prog [] := trivial
@[reducible] def Sspec_l1Cur_next : PkS := ⟨[.one (.box (200000, 0) 0)], [((200000, 0), .box [.ro (.int .u8), .int .i64, .int .u64])]⟩
@[reducible] def Tspec_l1Cur_next : PkS := ⟨[.one (.int .i64), .one (.box (300000, 0) 0)], [((300000, 0), .box [.ro (.int .u8), .int .i64, .int .u64])]⟩
def Hspec_l1Cur_next : List Sh := [.one .any, .box [(.ro (.int .u8)), .any, .any]]
def Kspec_l1Cur_next (g : ∀ {R : Type}, Nat → (List Int) → Int → Int → (Int → (List Int) → Int → Int → Option R) → Option R) (n : Nat) : KPs := fun R p k => match (PkS.un Sspec_l1Cur_next p : Option ((List Int) × Int × Int × Unit)) with
  | some (x0, x1, x2, _) => g n x0 x1 x2 (fun r0 r1 r2 r3 => k (PkS.pack Tspec_l1Cur_next (r0, r1, r2, r3, ())))
  | none => none
theorem espec_l1Cur_next  {R : Type} (n : Nat) (x0 : List Int) (x1 : Int) (x2 : Int) (k : Pk → Option R) : evF tt sig (mkK [] R) (mkL (mkK []) [] R) Try.f149 Hspec_l1Cur_next (PkS.pack Sspec_l1Cur_next (x0, x1, x2, ())) k = (fun (k : Int → (List Int) → Int → Int → Option R) => (bif (decide (x1 < (x0.length : Int))) then (bif decide (0 ≤ x1) then (bif decide (x1 < (x0.length : Int)) then (bif (decide ((IntKind.wrap .i64 (x1 + 1)) ≤ (x0.length : Int))) then k (IntKind.wrap .i64 ((x0.getD (Int.toNat x1) 0))) x0 (IntKind.wrap .i64 (x1 + 1)) (IntKind.wrap .u64 ((IntKind.wrap .u64 ((IntKind.wrap .u64 (x2 * 6364136223846793005)) + (IntKind.wrap .u64 ((IntKind.wrap .i64 ((x0.getD (Int.toNat x1) 0))))))) + 1442695040888963407)) else k (IntKind.wrap .i64 ((IntKind.wrap .u64 (Int.ofNat (BitVec.toNat (BitVec.ofInt (IntKind.bits .u64) (Int.fdiv (IntKind.wrap .u64 ((IntKind.wrap .u64 ((IntKind.wrap .u64 (x2 * 6364136223846793005)) + (IntKind.wrap .u64 ((IntKind.wrap .i64 ((x0.getD (Int.toNat x1) 0))))))) + 1442695040888963407)) (2 ^ (min (Int.toNat 40) (IntKind.bits .u64)))) &&& BitVec.ofInt (IntKind.bits .u64) 255)))))) x0 (IntKind.wrap .i64 (x1 + 1)) (IntKind.wrap .u64 ((IntKind.wrap .u64 ((IntKind.wrap .u64 (x2 * 6364136223846793005)) + (IntKind.wrap .u64 ((IntKind.wrap .i64 ((x0.getD (Int.toNat x1) 0))))))) + 1442695040888963407))) else none) else none) else (bif (decide ((IntKind.wrap .i64 (x1 + 1)) ≤ (x0.length : Int))) then k 0 x0 (IntKind.wrap .i64 (x1 + 1)) (IntKind.wrap .u64 ((IntKind.wrap .u64 ((IntKind.wrap .u64 (x2 * 6364136223846793005)) + 0)) + 1442695040888963407)) else k (IntKind.wrap .i64 ((IntKind.wrap .u64 (Int.ofNat (BitVec.toNat (BitVec.ofInt (IntKind.bits .u64) (Int.fdiv (IntKind.wrap .u64 ((IntKind.wrap .u64 ((IntKind.wrap .u64 (x2 * 6364136223846793005)) + 0)) + 1442695040888963407)) (2 ^ (min (Int.toNat 40) (IntKind.bits .u64)))) &&& BitVec.ofInt (IntKind.bits .u64) 255)))))) x0 (IntKind.wrap .i64 (x1 + 1)) (IntKind.wrap .u64 ((IntKind.wrap .u64 ((IntKind.wrap .u64 (x2 * 6364136223846793005)) + 0)) + 1442695040888963407))))) (fun r0 r1 r2 r3 => k (PkS.pack Tspec_l1Cur_next (r0, r1, r2, r3, ()))) := by kernel_rfl
theorem okspec_l1Cur_next (n : Nat) : FnOk Try.prog 149 (Kspec_l1Cur_next @spec_l1Cur_next n) := by
  refine fn_ok (sig := sig) mixed ttok (mkK_nat (cspec_l1Cur_next n)) (mkK_ok (cspec_l1Cur_next n)) (mkL_nat (mkK_nat (cspec_l1Cur_next n)) (l := []) trivial) (fn := Try.f149) (c := bodyOf Try.f149) (by kernel_rfl) (by kernel_rfl) (by kernel_rfl) (.eq (l := []) (by kernel_rfl) trivial) (shs := Hspec_l1Cur_next) (S := Sspec_l1Cur_next) (h1 := by kernel_rfl) fun R p k => ?_
  unfold Kspec_l1Cur_next
  cases h : (PkS.un Sspec_l1Cur_next p) with
  | none => rfl
  | some d =>
    obtain ⟨x0, x1, x2, u⟩ := (d : (List Int) × Int × Int × Unit)
    have hp := PkS.un_pack h
    subst hp
    exact (espec_l1Cur_next  n x0 x1 x2 k).symm

/-! ### (*loop.example/g00269/spec.l1Cur).pick -/
theorem cspec_l1Cur_pick (n : Nat) : AllOk Try.prog [(149, Kspec_l1Cur_next @spec_l1Cur_next n)] := ⟨okspec_l1Cur_next n, trivial⟩
@[reducible] def Sspec_l1Cur_pick : PkS := ⟨[.one (.box (200000, 0) 0), .one (.int .i64)], [((200000, 0), .box [.ro (.int .u8), .int .i64, .int .u64])]⟩
@[reducible] def Tspec_l1Cur_pick : PkS := ⟨[.one (.int .i64), .one (.box (300000, 0) 0), .one (.dead)], [((300000, 0), .box [.ro (.int .u8), .int .i64, .int .u64])]⟩
def Hspec_l1Cur_pick : List Sh := [.one .any, .box [(.ro (.int .u8)), .any, .any], .skip]
def Kspec_l1Cur_pick (g : ∀ {R : Type}, Nat → Int → (List Int) → Int → Int → (Int → (List Int) → Int → Int → Option R) → Option R) (n : Nat) : KPs := fun R p k => match (PkS.un Sspec_l1Cur_pick p : Option (Int × (List Int) × Int × Int × Unit)) with
  | some (x0, x1, x2, x3, _) => g n x0 x1 x2 x3 (fun r0 r1 r2 r3 => k (PkS.pack Tspec_l1Cur_pick (r0, r1, r2, r3, ())))
  | none => none
theorem espec_l1Cur_pick (spec_l1Cur_next : ∀ {R : Type}, Nat → (List Int) → Int → Int → (Int → (List Int) → Int → Int → Option R) → Option R) {R : Type} (n : Nat) (x0 : Int) (x1 : List Int) (x2 : Int) (x3 : Int) (k : Pk → Option R) : evF tt sig (mkK [(149, Kspec_l1Cur_next @spec_l1Cur_next n)] R) (mkL (mkK [(149, Kspec_l1Cur_next @spec_l1Cur_next n)]) [] R) Try.f99 Hspec_l1Cur_pick (PkS.pack Sspec_l1Cur_pick (x0, x1, x2, x3, ())) k = (fun (k : Int → (List Int) → Int → Int → Option R) => (bif (decide (x0 ≤ 1)) then k 0 x1 x2 x3 else (spec_l1Cur_next n x1 x2 x3 fun r1 r2 r3 r4 => (bif (decide (x0 > 200)) then (spec_l1Cur_next n r2 r3 r4 fun r5 r6 r7 r8 => (bif decide (x0 ≠ 0) then k (Int.tmod (IntKind.wrap .i64 ((IntKind.wrap .i64 (r1 * 256)) + r5)) x0) r6 r7 r8 else none)) else (bif decide (x0 ≠ 0) then k (Int.tmod r1 x0) r2 r3 r4 else none))))) (fun r0 r1 r2 r3 => k (PkS.pack Tspec_l1Cur_pick (r0, r1, r2, r3, ()))) := by kernel_rfl
theorem okspec_l1Cur_pick (n : Nat) : FnOk Try.prog 99 (Kspec_l1Cur_pick @spec_l1Cur_pick n) := by
  refine fn_ok (sig := sig) mixed ttok (mkK_nat (cspec_l1Cur_pick n)) (mkK_ok (cspec_l1Cur_pick n)) (mkL_nat (mkK_nat (cspec_l1Cur_pick n)) (l := []) trivial) (fn := Try.f99) (c := bodyOf Try.f99) (by kernel_rfl) (by kernel_rfl) (by kernel_rfl) (.eq (l := []) (by kernel_rfl) trivial) (shs := Hspec_l1Cur_pick) (S := Sspec_l1Cur_pick) (h1 := by kernel_rfl) fun R p k => ?_
  unfold Kspec_l1Cur_pick
  cases h : (PkS.un Sspec_l1Cur_pick p) with
  | none => rfl
  | some d =>
    obtain ⟨x0, x1, x2, x3, u⟩ := (d : Int × (List Int) × Int × Int × Unit)
    have hp := PkS.un_pack h
    subst hp
    exact (espec_l1Cur_pick @spec_l1Cur_next n x0 x1 x2 x3 k).symm

/-! ### (*loop.example/g00269/spec.l1Cur).one -/
theorem cspec_l1Cur_one (n : Nat) : AllOk Try.prog [(99, Kspec_l1Cur_pick @spec_l1Cur_pick n)] := ⟨okspec_l1Cur_pick n, trivial⟩
@[reducible] def Sspec_l1Cur_one : PkS := ⟨[.one (.box (200000, 0) 0), .one (.int .i64)], [((200000, 0), .box [.ro (.int .u8), .int .i64, .int .u64])]⟩
@[reducible] def Tspec_l1Cur_one : PkS := ⟨[.one (.bool), .one (.box (300000, 0) 0), .one (.dead)], [((300000, 0), .box [.ro (.int .u8), .int .i64, .int .u64])]⟩
def Hspec_l1Cur_one : List Sh := [.one .any, .box [(.ro (.int .u8)), .any, .any], .skip]
def Kspec_l1Cur_one (g : ∀ {R : Type}, Nat → Int → (List Int) → Int → Int → (Bool → (List Int) → Int → Int → Option R) → Option R) (n : Nat) : KPs := fun R p k => match (PkS.un Sspec_l1Cur_one p : Option (Int × (List Int) × Int × Int × Unit)) with
  | some (x0, x1, x2, x3, _) => g n x0 x1 x2 x3 (fun r0 r1 r2 r3 => k (PkS.pack Tspec_l1Cur_one (r0, r1, r2, r3, ())))
  | none => none
theorem espec_l1Cur_one (spec_l1Cur_pick : ∀ {R : Type}, Nat → Int → (List Int) → Int → Int → (Int → (List Int) → Int → Int → Option R) → Option R) {R : Type} (n : Nat) (x0 : Int) (x1 : List Int) (x2 : Int) (x3 : Int) (k : Pk → Option R) : evF tt sig (mkK [(99, Kspec_l1Cur_pick @spec_l1Cur_pick n)] R) (mkL (mkK [(99, Kspec_l1Cur_pick @spec_l1Cur_pick n)]) [] R) Try.f112 Hspec_l1Cur_one (PkS.pack Sspec_l1Cur_one (x0, x1, x2, x3, ())) k = (fun (k : Bool → (List Int) → Int → Int → Option R) => (spec_l1Cur_pick n x0 x1 x2 x3 fun r1 r2 r3 r4 => k (r1 == 0) r2 r3 r4)) (fun r0 r1 r2 r3 => k (PkS.pack Tspec_l1Cur_one (r0, r1, r2, r3, ()))) := by kernel_rfl
theorem okspec_l1Cur_one (n : Nat) : FnOk Try.prog 112 (Kspec_l1Cur_one @spec_l1Cur_one n) := by
  refine fn_ok (sig := sig) mixed ttok (mkK_nat (cspec_l1Cur_one n)) (mkK_ok (cspec_l1Cur_one n)) (mkL_nat (mkK_nat (cspec_l1Cur_one n)) (l := []) trivial) (fn := Try.f112) (c := bodyOf Try.f112) (by kernel_rfl) (by kernel_rfl) (by kernel_rfl) (.eq (l := []) (by kernel_rfl) trivial) (shs := Hspec_l1Cur_one) (S := Sspec_l1Cur_one) (h1 := by kernel_rfl) fun R p k => ?_
  unfold Kspec_l1Cur_one
  cases h : (PkS.un Sspec_l1Cur_one p) with
  | none => rfl
  | some d =>
    obtain ⟨x0, x1, x2, x3, u⟩ := (d : Int × (List Int) × Int × Int × Unit)
    have hp := PkS.un_pack h
    subst hp
    exact (espec_l1Cur_one @spec_l1Cur_pick n x0 x1 x2 x3 k).symm

/-! ### (*loop.example/g00269/spec.l1Cur).among -/
theorem cspec_l1Cur_among (n : Nat) : AllOk Try.prog [(99, Kspec_l1Cur_pick @spec_l1Cur_pick n)] := ⟨okspec_l1Cur_pick n, trivial⟩
@[reducible] def Sspec_l1Cur_among : PkS := ⟨[.one (.box (200000, 0) 0), .one (.ro (.int .i64))], [((200000, 0), .box [.ro (.int .u8), .int .i64, .int .u64])]⟩
@[reducible] def Tspec_l1Cur_among : PkS := ⟨[.one (.int .i64), .one (.box (300000, 0) 0), .one (.dead)], [((300000, 0), .box [.ro (.int .u8), .int .i64, .int .u64])]⟩
def Hspec_l1Cur_among : List Sh := [.one .any, .box [(.ro (.int .u8)), .any, .any], .skip]
def Kspec_l1Cur_among (g : ∀ {R : Type}, Nat → (List Int) → (List Int) → Int → Int → (Int → (List Int) → Int → Int → Option R) → Option R) (n : Nat) : KPs := fun R p k => match (PkS.un Sspec_l1Cur_among p : Option ((List Int) × (List Int) × Int × Int × Unit)) with
  | some (x0, x1, x2, x3, _) => g n x0 x1 x2 x3 (fun r0 r1 r2 r3 => k (PkS.pack Tspec_l1Cur_among (r0, r1, r2, r3, ())))
  | none => none
theorem espec_l1Cur_among (spec_l1Cur_pick : ∀ {R : Type}, Nat → Int → (List Int) → Int → Int → (Int → (List Int) → Int → Int → Option R) → Option R) {R : Type} (n : Nat) (x0 : List Int) (x1 : List Int) (x2 : Int) (x3 : Int) (k : Pk → Option R) : evF tt sig (mkK [(99, Kspec_l1Cur_pick @spec_l1Cur_pick n)] R) (mkL (mkK [(99, Kspec_l1Cur_pick @spec_l1Cur_pick n)]) [] R) Try.f107 Hspec_l1Cur_among (PkS.pack Sspec_l1Cur_among (x0, x1, x2, x3, ())) k = (fun (k : Int → (List Int) → Int → Int → Option R) => (spec_l1Cur_pick n (x0.length : Int) x1 x2 x3 fun r1 r2 r3 r4 => (bif decide (0 ≤ r1) then (bif decide (r1 < (x0.length : Int)) then k (x0.getD (Int.toNat r1) 0) r2 r3 r4 else none) else none))) (fun r0 r1 r2 r3 => k (PkS.pack Tspec_l1Cur_among (r0, r1, r2, r3, ()))) := by kernel_rfl
theorem okspec_l1Cur_among (n : Nat) : FnOk Try.prog 107 (Kspec_l1Cur_among @spec_l1Cur_among n) := by
  refine fn_ok (sig := sig) mixed ttok (mkK_nat (cspec_l1Cur_among n)) (mkK_ok (cspec_l1Cur_among n)) (mkL_nat (mkK_nat (cspec_l1Cur_among n)) (l := []) trivial) (fn := Try.f107) (c := bodyOf Try.f107) (by kernel_rfl) (by kernel_rfl) (by kernel_rfl) (.eq (l := []) (by kernel_rfl) trivial) (shs := Hspec_l1Cur_among) (S := Sspec_l1Cur_among) (h1 := by kernel_rfl) fun R p k => ?_
  unfold Kspec_l1Cur_among
  cases h : (PkS.un Sspec_l1Cur_among p) with
  | none => rfl
  | some d =>
    obtain ⟨x0, x1, x2, x3, u⟩ := (d : (List Int) × (List Int) × Int × Int × Unit)
    have hp := PkS.un_pack h
    subst hp
    exact (espec_l1Cur_among @spec_l1Cur_pick n x0 x1 x2 x3 k).symm

/-! ### (*loop.example/g00269/spec.l1Cur).plan -/
theorem cspec_l1Cur_plan (n : Nat) : AllOk Try.prog [(99, Kspec_l1Cur_pick @spec_l1Cur_pick n), (112, Kspec_l1Cur_one @spec_l1Cur_one n), (107, Kspec_l1Cur_among @spec_l1Cur_among n)] := ⟨okspec_l1Cur_pick n, ⟨okspec_l1Cur_one n, ⟨okspec_l1Cur_among n, trivial⟩⟩⟩
@[reducible] def Sspec_l1Cur_plan_l10 : PkS := ⟨[.one (.box (100000, 0) 0), .one (.whole (100000, 1)), .one (.int .i64), .one (.int .i64), .one (.box (100000, 3) 0), .one (.int .i64), .one (.box (100000, 0) 0)], [((100000, 0), .box [.ro (.int .u8), .int .i64, .int .u64]), ((100000, 1), .arr (.pr (.int .i64) (.sl (.int .i64)))), ((100000, 2), .arr (.int .i64)), ((100000, 3), .box [.int .i64, .whole (100000, 2)])]⟩
@[reducible] def Tspec_l1Cur_plan_l10_0 : PkS := ⟨[.one (.box (100000, 0) 0), .one (.whole (100000, 1)), .one (.int .i64), .one (.int .i64), .one (.box (100000, 3) 0), .one (.box (100000, 0) 0)], [((100000, 0), .box [.ro (.int .u8), .int .i64, .int .u64]), ((100000, 1), .arr (.pr (.int .i64) (.sl (.int .i64)))), ((100000, 2), .arr (.int .i64)), ((100000, 3), .box [.int .i64, .whole (100000, 2)])]⟩
def Dspec_l1Cur_plan_l10 : LoopD := ⟨75, [0, 3, 4, 5, 6, 7], [.box [(.ro (.int .u8)), .any, .any], .one (.own (.pr (.int .i64) (.sl (.int .i64)))), .one .any, .one .any, .box [.any, (.own (.int .i64))], .one .any, .box [(.ro (.int .u8)), .any, .any]], fun x => match x with
  | .exit 2 => some ([0, 3, 4, 5, 6], [.box [(.ro (.int .u8)), .any, .any], .one (.own (.pr (.int .i64) (.sl (.int .i64)))), .one .any, .one .any, .box [.any, (.own (.int .i64))], .box [(.ro (.int .u8)), .any, .any]])
  | _ => none⟩
def Pspec_l1Cur_plan_l10 (g : ∀ {R : Type}, Nat → Int → Int → Int → (List Int) → Int → Int → (List (Int × List Int)) → (List Int) → Int → (Int → Int → (List Int) → Int → Int → (List (Int × List Int)) → (List Int) → Int → Option R) → Option R) (n : Nat) : LPs := fun R q kk => match (PkS.un Sspec_l1Cur_plan_l10 q : Option (Int × Int × Int × (List Int) × Int × Int × (List (Int × List Int)) × (List Int) × Int × Unit)) with
  | some (y10_0, y10_1, y10_2, y10_3, y10_4, y10_5, y10_6, y10_7, y10_8, _) => g n y10_0 y10_1 y10_2 y10_3 y10_4 y10_5 y10_6 y10_7 y10_8 (fun r0 r1 r2 r3 r4 r5 r6 r7 => kk (.exit 2) (PkS.pack Tspec_l1Cur_plan_l10_0 (r0, r1, r2, r3, r4, r5, r6, r7, ())))
  | none => none
theorem espec_l1Cur_plan_l10 (spec_l1Cur_pick : ∀ {R : Type}, Nat → Int → (List Int) → Int → Int → (Int → (List Int) → Int → Int → Option R) → Option R) (spec_l1Cur_one : ∀ {R : Type}, Nat → Int → (List Int) → Int → Int → (Bool → (List Int) → Int → Int → Option R) → Option R) (spec_l1Cur_among : ∀ {R : Type}, Nat → (List Int) → (List Int) → Int → Int → (Int → (List Int) → Int → Int → Option R) → Option R) (spec_l1Cur_plan_l10 : ∀ {R : Type}, Nat → Int → Int → Int → (List Int) → Int → Int → (List (Int × List Int)) → (List Int) → Int → (Int → Int → (List Int) → Int → Int → (List (Int × List Int)) → (List Int) → Int → Option R) → Option R) {R : Type} (n : Nat) (y10_0 : Int) (y10_1 : Int) (y10_2 : Int) (y10_3 : List Int) (y10_4 : Int) (y10_5 : Int) (y10_6 : List (Int × List Int)) (y10_7 : List Int) (y10_8 : Int) (kk : Ex → Pk → Option R) : Dspec_l1Cur_plan_l10.step tt sig (mkK [(99, Kspec_l1Cur_pick @spec_l1Cur_pick n), (112, Kspec_l1Cur_one @spec_l1Cur_one n), (107, Kspec_l1Cur_among @spec_l1Cur_among n)] R) (mkL (mkK [(99, Kspec_l1Cur_pick @spec_l1Cur_pick n), (112, Kspec_l1Cur_one @spec_l1Cur_one n), (107, Kspec_l1Cur_among @spec_l1Cur_among n)]) [] R) (loopIn 10 (bodyOf Try.f98)) (fun q' => Pspec_l1Cur_plan_l10 @spec_l1Cur_plan_l10 n R q' kk) (PkS.pack Sspec_l1Cur_plan_l10 (y10_0, y10_1, y10_2, y10_3, y10_4, y10_5, y10_6, y10_7, y10_8, ())) kk = (fun (kexit2 : Int → Int → (List Int) → Int → Int → (List (Int × List Int)) → (List Int) → Int → Option R) => (bif (decide (y10_2 < y10_1)) then (spec_l1Cur_one n 3 y10_3 y10_4 y10_5 fun r17 r18 r19 r20 => (bif r17 then (bif (decide ((y10_7.length : Int) < 4)) then (bif decide (y10_7.length + [y10_2].length ≤ LIM) then spec_l1Cur_plan_l10 n y10_0 y10_1 (IntKind.wrap .i64 (y10_2 + 1)) r18 r19 r20 y10_6 (y10_7 ++ [y10_2]) y10_8 kexit2 else none) else spec_l1Cur_plan_l10 n y10_0 y10_1 (IntKind.wrap .i64 (y10_2 + 1)) r18 r19 r20 y10_6 y10_7 y10_8 kexit2) else spec_l1Cur_plan_l10 n y10_0 y10_1 (IntKind.wrap .i64 (y10_2 + 1)) r18 r19 r20 y10_6 y10_7 y10_8 kexit2)) else kexit2 y10_0 y10_1 y10_3 y10_4 y10_5 y10_6 y10_7 y10_8)) (fun r0 r1 r2 r3 r4 r5 r6 r7 => kk (.exit 2) (PkS.pack Tspec_l1Cur_plan_l10_0 (r0, r1, r2, r3, r4, r5, r6, r7, ()))) := by kernel_rfl
theorem lespec_l1Cur_plan_l10 : LoopEq tt sig (fun n => mkK [(99, Kspec_l1Cur_pick @spec_l1Cur_pick n), (112, Kspec_l1Cur_one @spec_l1Cur_one n), (107, Kspec_l1Cur_among @spec_l1Cur_among n)]) (fun n => mkL (mkK [(99, Kspec_l1Cur_pick @spec_l1Cur_pick n), (112, Kspec_l1Cur_one @spec_l1Cur_one n), (107, Kspec_l1Cur_among @spec_l1Cur_among n)]) []) Dspec_l1Cur_plan_l10 Sspec_l1Cur_plan_l10 (loopIn 10 (bodyOf Try.f98)) (Pspec_l1Cur_plan_l10 @spec_l1Cur_plan_l10) where
  zero R q kk := by unfold Pspec_l1Cur_plan_l10; cases (PkS.un Sspec_l1Cur_plan_l10 q) <;> rfl
  succ n R q kk := by
    unfold Pspec_l1Cur_plan_l10
    cases h : (PkS.un Sspec_l1Cur_plan_l10 q) with
    | none => rfl
    | some d =>
      obtain ⟨y10_0, y10_1, y10_2, y10_3, y10_4, y10_5, y10_6, y10_7, y10_8, u⟩ := (d : Int × Int × Int × (List Int) × Int × Int × (List (Int × List Int)) × (List Int) × Int × Unit)
      have hp := PkS.un_pack h
      subst hp
      exact (espec_l1Cur_plan_l10 @spec_l1Cur_pick @spec_l1Cur_one @spec_l1Cur_among @spec_l1Cur_plan_l10 n y10_0 y10_1 y10_2 y10_3 y10_4 y10_5 y10_6 y10_7 y10_8 kk).symm
theorem nlspec_l1Cur_plan_l10 : ∀ n, NatLP (Pspec_l1Cur_plan_l10 @spec_l1Cur_plan_l10 n) := lespec_l1Cur_plan_l10.nat (fun n => mkK_nat (cspec_l1Cur_plan n)) fun n => mkL_nat (mkK_nat (cspec_l1Cur_plan n)) (l := []) trivial
theorem inspec_l1Cur_plan_l10 (n : Nat) (R : Type) : LoopsOk Try.prog (mkL (mkK [(99, Kspec_l1Cur_pick @spec_l1Cur_pick n), (112, Kspec_l1Cur_one @spec_l1Cur_one n), (107, Kspec_l1Cur_among @spec_l1Cur_among n)]) [] R) (loopIn 10 (bodyOf Try.f98)) := .eq (l := []) (by kernel_rfl) trivial
theorem lkspec_l1Cur_plan_l10 (n : Nat) (R : Type) (L0 : LK R) (h0 : ∀ id, firstRegion (loopIn 10 (bodyOf Try.f98)) = some id → L0 id = Dspec_l1Cur_plan_l10.oracle (mkK [(99, Kspec_l1Cur_pick @spec_l1Cur_pick n), (112, Kspec_l1Cur_one @spec_l1Cur_one n), (107, Kspec_l1Cur_among @spec_l1Cur_among n)] R) (Pspec_l1Cur_plan_l10 @spec_l1Cur_plan_l10 n R)) : LoopOk Try.prog L0 (loopIn 10 (bodyOf Try.f98)) :=
  lespec_l1Cur_plan_l10.ok mixed ttok (fun n => mkK_nat (cspec_l1Cur_plan n)) (fun n => mkK_ok (cspec_l1Cur_plan n)) (fun n => inspec_l1Cur_plan_l10 n R) (mkK_nat (cspec_l1Cur_plan n)) h0
@[reducible] def Sspec_l1Cur_plan_l6 : PkS := ⟨[.one (.box (100000, 0) 0), .one (.whole (100000, 1)), .one (.int .i64), .one (.int .i64), .one (.box (100000, 0) 0)], [((100000, 0), .box [.ro (.int .u8), .int .i64, .int .u64]), ((100000, 1), .arr (.pr (.int .i64) (.sl (.int .i64))))]⟩
@[reducible] def Tspec_l1Cur_plan_l6_0 : PkS := ⟨[.one (.box (100000, 0) 0), .one (.whole (100000, 1)), .one (.box (100000, 0) 0)], [((100000, 0), .box [.ro (.int .u8), .int .i64, .int .u64]), ((100000, 1), .arr (.pr (.int .i64) (.sl (.int .i64))))]⟩
def Dspec_l1Cur_plan_l6 : LoopD := ⟨75, [0, 3, 4, 5], [.box [(.ro (.int .u8)), .any, .any], .one (.own (.pr (.int .i64) (.sl (.int .i64)))), .one .any, .one .any, .box [(.ro (.int .u8)), .any, .any]], fun x => match x with
  | .exit 0 => some ([0, 3], [.box [(.ro (.int .u8)), .any, .any], .one (.own (.pr (.int .i64) (.sl (.int .i64)))), .box [(.ro (.int .u8)), .any, .any]])
  | _ => none⟩
def Pspec_l1Cur_plan_l6 (g : ∀ {R : Type}, Nat → Int → Int → (List Int) → Int → Int → (List (Int × List Int)) → ((List Int) → Int → Int → (List (Int × List Int)) → Option R) → Option R) (n : Nat) : LPs := fun R q kk => match (PkS.un Sspec_l1Cur_plan_l6 q : Option (Int × Int × (List Int) × Int × Int × (List (Int × List Int)) × Unit)) with
  | some (y6_0, y6_1, y6_2, y6_3, y6_4, y6_5, _) => g n y6_0 y6_1 y6_2 y6_3 y6_4 y6_5 (fun r0 r1 r2 r3 => kk (.exit 0) (PkS.pack Tspec_l1Cur_plan_l6_0 (r0, r1, r2, r3, ())))
  | none => none
theorem espec_l1Cur_plan_l6 (spec_l1Cur_pick : ∀ {R : Type}, Nat → Int → (List Int) → Int → Int → (Int → (List Int) → Int → Int → Option R) → Option R) (spec_l1Cur_one : ∀ {R : Type}, Nat → Int → (List Int) → Int → Int → (Bool → (List Int) → Int → Int → Option R) → Option R) (spec_l1Cur_among : ∀ {R : Type}, Nat → (List Int) → (List Int) → Int → Int → (Int → (List Int) → Int → Int → Option R) → Option R) (spec_l1Cur_plan_l10 : ∀ {R : Type}, Nat → Int → Int → Int → (List Int) → Int → Int → (List (Int × List Int)) → (List Int) → Int → (Int → Int → (List Int) → Int → Int → (List (Int × List Int)) → (List Int) → Int → Option R) → Option R) (spec_l1Cur_plan_l6 : ∀ {R : Type}, Nat → Int → Int → (List Int) → Int → Int → (List (Int × List Int)) → ((List Int) → Int → Int → (List (Int × List Int)) → Option R) → Option R) {R : Type} (n : Nat) (y6_0 : Int) (y6_1 : Int) (y6_2 : List Int) (y6_3 : Int) (y6_4 : Int) (y6_5 : List (Int × List Int)) (kk : Ex → Pk → Option R) : Dspec_l1Cur_plan_l6.step tt sig (mkK [(99, Kspec_l1Cur_pick @spec_l1Cur_pick n), (112, Kspec_l1Cur_one @spec_l1Cur_one n), (107, Kspec_l1Cur_among @spec_l1Cur_among n)] R) (mkL (mkK [(99, Kspec_l1Cur_pick @spec_l1Cur_pick n), (112, Kspec_l1Cur_one @spec_l1Cur_one n), (107, Kspec_l1Cur_among @spec_l1Cur_among n)]) [(10, Dspec_l1Cur_plan_l10, Pspec_l1Cur_plan_l10 @spec_l1Cur_plan_l10 n)] R) (loopIn 6 (bodyOf Try.f98)) (fun q' => Pspec_l1Cur_plan_l6 @spec_l1Cur_plan_l6 n R q' kk) (PkS.pack Sspec_l1Cur_plan_l6 (y6_0, y6_1, y6_2, y6_3, y6_4, y6_5, ())) kk = (fun (kexit0 : (List Int) → Int → Int → (List (Int × List Int)) → Option R) => (bif (decide (y6_1 < y6_0)) then (spec_l1Cur_pick n 9 y6_2 y6_3 y6_4 fun r13 r14 r15 r16 => (spec_l1Cur_plan_l10 n y6_0 y6_1 0 r14 r15 r16 y6_5 ([] : List Int) (IntKind.wrap .i64 (1 + r13)) (fun r21 r22 r23 r24 r25 r26 r27 r28 => (bif decide (r26.length + ([(r28, r27)]).length ≤ LIM) then spec_l1Cur_plan_l6 n r21 (IntKind.wrap .i64 (r22 + 1)) r23 r24 r25 (r26 ++ [(r28, r27)]) kexit0 else none)))) else kexit0 y6_2 y6_3 y6_4 y6_5)) (fun r0 r1 r2 r3 => kk (.exit 0) (PkS.pack Tspec_l1Cur_plan_l6_0 (r0, r1, r2, r3, ()))) := by kernel_rfl
theorem lespec_l1Cur_plan_l6 : LoopEq tt sig (fun n => mkK [(99, Kspec_l1Cur_pick @spec_l1Cur_pick n), (112, Kspec_l1Cur_one @spec_l1Cur_one n), (107, Kspec_l1Cur_among @spec_l1Cur_among n)]) (fun n => mkL (mkK [(99, Kspec_l1Cur_pick @spec_l1Cur_pick n), (112, Kspec_l1Cur_one @spec_l1Cur_one n), (107, Kspec_l1Cur_among @spec_l1Cur_among n)]) [(10, Dspec_l1Cur_plan_l10, Pspec_l1Cur_plan_l10 @spec_l1Cur_plan_l10 n)]) Dspec_l1Cur_plan_l6 Sspec_l1Cur_plan_l6 (loopIn 6 (bodyOf Try.f98)) (Pspec_l1Cur_plan_l6 @spec_l1Cur_plan_l6) where
  zero R q kk := by unfold Pspec_l1Cur_plan_l6; cases (PkS.un Sspec_l1Cur_plan_l6 q) <;> rfl
  succ n R q kk := by
    unfold Pspec_l1Cur_plan_l6
    cases h : (PkS.un Sspec_l1Cur_plan_l6 q) with
    | none => rfl
    | some d =>
      obtain ⟨y6_0, y6_1, y6_2, y6_3, y6_4, y6_5, u⟩ := (d : Int × Int × (List Int) × Int × Int × (List (Int × List Int)) × Unit)
      have hp := PkS.un_pack h
      subst hp
      exact (espec_l1Cur_plan_l6 @spec_l1Cur_pick @spec_l1Cur_one @spec_l1Cur_among @spec_l1Cur_plan_l10 @spec_l1Cur_plan_l6 n y6_0 y6_1 y6_2 y6_3 y6_4 y6_5 kk).symm
theorem nlspec_l1Cur_plan_l6 : ∀ n, NatLP (Pspec_l1Cur_plan_l6 @spec_l1Cur_plan_l6 n) := lespec_l1Cur_plan_l6.nat (fun n => mkK_nat (cspec_l1Cur_plan n)) fun n => mkL_nat (mkK_nat (cspec_l1Cur_plan n)) (l := [(10, Dspec_l1Cur_plan_l10, Pspec_l1Cur_plan_l10 @spec_l1Cur_plan_l10 n)]) ⟨nlspec_l1Cur_plan_l10 n, trivial⟩
theorem inspec_l1Cur_plan_l6 (n : Nat) (R : Type) : LoopsOk Try.prog (mkL (mkK [(99, Kspec_l1Cur_pick @spec_l1Cur_pick n), (112, Kspec_l1Cur_one @spec_l1Cur_one n), (107, Kspec_l1Cur_among @spec_l1Cur_among n)]) [(10, Dspec_l1Cur_plan_l10, Pspec_l1Cur_plan_l10 @spec_l1Cur_plan_l10 n)] R) (loopIn 6 (bodyOf Try.f98)) := .eq (l := [.lo (loopIn 10 (bodyOf Try.f98))]) (by kernel_rfl) ⟨(lkspec_l1Cur_plan_l10 n R _ (at_id (i := 10) (by kernel_rfl) rfl)), trivial⟩
theorem lkspec_l1Cur_plan_l6 (n : Nat) (R : Type) (L0 : LK R) (h0 : ∀ id, firstRegion (loopIn 6 (bodyOf Try.f98)) = some id → L0 id = Dspec_l1Cur_plan_l6.oracle (mkK [(99, Kspec_l1Cur_pick @spec_l1Cur_pick n), (112, Kspec_l1Cur_one @spec_l1Cur_one n), (107, Kspec_l1Cur_among @spec_l1Cur_among n)] R) (Pspec_l1Cur_plan_l6 @spec_l1Cur_plan_l6 n R)) : LoopOk Try.prog L0 (loopIn 6 (bodyOf Try.f98)) :=
  lespec_l1Cur_plan_l6.ok mixed ttok (fun n => mkK_nat (cspec_l1Cur_plan n)) (fun n => mkK_ok (cspec_l1Cur_plan n)) (fun n => inspec_l1Cur_plan_l6 n R) (mkK_nat (cspec_l1Cur_plan n)) h0
@[reducible] def Sspec_l1Cur_plan : PkS := ⟨[.one (.box (200000, 0) 0)], [((200000, 0), .box [.ro (.int .u8), .int .i64, .int .u64])]⟩
@[reducible] def Tspec_l1Cur_plan : PkS := ⟨[.one (.whole (300000, 0)), .one (.box (300000, 1) 0)], [((300000, 0), .arr (.pr (.int .i64) (.sl (.int .i64)))), ((300000, 1), .box [.ro (.int .u8), .int .i64, .int .u64])]⟩
def Hspec_l1Cur_plan : List Sh := [.one (.own (.pr (.int .i64) (.sl (.int .i64)))), .box [(.ro (.int .u8)), .any, .any]]
def Kspec_l1Cur_plan (g : ∀ {R : Type}, Nat → (List Int) → Int → Int → ((List (Int × List Int)) → (List Int) → Int → Int → Option R) → Option R) (n : Nat) : KPs := fun R p k => match (PkS.un Sspec_l1Cur_plan p : Option ((List Int) × Int × Int × Unit)) with
  | some (x0, x1, x2, _) => g n x0 x1 x2 (fun r0 r1 r2 r3 => k (PkS.pack Tspec_l1Cur_plan (r0, r1, r2, r3, ())))
  | none => none
theorem espec_l1Cur_plan (spec_l1Cur_pick : ∀ {R : Type}, Nat → Int → (List Int) → Int → Int → (Int → (List Int) → Int → Int → Option R) → Option R) (spec_l1Cur_one : ∀ {R : Type}, Nat → Int → (List Int) → Int → Int → (Bool → (List Int) → Int → Int → Option R) → Option R) (spec_l1Cur_among : ∀ {R : Type}, Nat → (List Int) → (List Int) → Int → Int → (Int → (List Int) → Int → Int → Option R) → Option R) (spec_l1Cur_plan_l10 : ∀ {R : Type}, Nat → Int → Int → Int → (List Int) → Int → Int → (List (Int × List Int)) → (List Int) → Int → (Int → Int → (List Int) → Int → Int → (List (Int × List Int)) → (List Int) → Int → Option R) → Option R) (spec_l1Cur_plan_l6 : ∀ {R : Type}, Nat → Int → Int → (List Int) → Int → Int → (List (Int × List Int)) → ((List Int) → Int → Int → (List (Int × List Int)) → Option R) → Option R) {R : Type} (n : Nat) (x0 : List Int) (x1 : Int) (x2 : Int) (k : Pk → Option R) : evF tt sig (mkK [(99, Kspec_l1Cur_pick @spec_l1Cur_pick n), (112, Kspec_l1Cur_one @spec_l1Cur_one n), (107, Kspec_l1Cur_among @spec_l1Cur_among n)] R) (mkL (mkK [(99, Kspec_l1Cur_pick @spec_l1Cur_pick n), (112, Kspec_l1Cur_one @spec_l1Cur_one n), (107, Kspec_l1Cur_among @spec_l1Cur_among n)]) [(10, Dspec_l1Cur_plan_l10, Pspec_l1Cur_plan_l10 @spec_l1Cur_plan_l10 n), (6, Dspec_l1Cur_plan_l6, Pspec_l1Cur_plan_l6 @spec_l1Cur_plan_l6 n)] R) Try.f98 Hspec_l1Cur_plan (PkS.pack Sspec_l1Cur_plan (x0, x1, x2, ())) k = (fun (k : (List (Int × List Int)) → (List Int) → Int → Int → Option R) => (spec_l1Cur_pick n 9 x0 x1 x2 fun r1 r2 r3 r4 => (spec_l1Cur_one n 20 r2 r3 r4 fun r5 r6 r7 r8 => (bif r5 then (spec_l1Cur_pick n 2 r6 r7 r8 fun r9 r10 r11 r12 => (spec_l1Cur_plan_l6 n (IntKind.wrap .i64 (30 + r9)) 0 r10 r11 r12 ([] : List (Int × List Int)) (fun r29 r30 r31 r32 => (bif (decide ((r32.length : Int) > 1)) then (spec_l1Cur_one n 12 r29 r30 r31 fun r33 r34 r35 r36 => (bif r33 then (bif decide (0 < (r32.length : Int)) then (bif (decide (((r32.set 0 ((r32.getD 0 (0, [])).1, [(IntKind.wrap .i64 ((r32.length : Int) - 1))])).length : Int) > 0)) then (spec_l1Cur_one n 40 r34 r35 r36 fun r37 r38 r39 r40 => (bif r37 then (spec_l1Cur_among n ([0, 100, 101]) r38 r39 r40 fun r41 r42 r43 r44 => (bif decide (0 < ((r32.set 0 ((r32.getD 0 (0, [])).1, [(IntKind.wrap .i64 ((r32.length : Int) - 1))])).length : Int)) then k ((r32.set 0 ((r32.getD 0 (0, [])).1, [(IntKind.wrap .i64 ((r32.length : Int) - 1))])).set 0 (r41, ((r32.set 0 ((r32.getD 0 (0, [])).1, [(IntKind.wrap .i64 ((r32.length : Int) - 1))])).getD 0 (0, [])).2)) r42 r43 r44 else none)) else k (r32.set 0 ((r32.getD 0 (0, [])).1, [(IntKind.wrap .i64 ((r32.length : Int) - 1))])) r38 r39 r40)) else k (r32.set 0 ((r32.getD 0 (0, [])).1, [(IntKind.wrap .i64 ((r32.length : Int) - 1))])) r34 r35 r36) else none) else (bif (decide ((r32.length : Int) > 0)) then (spec_l1Cur_one n 40 r34 r35 r36 fun r45 r46 r47 r48 => (bif r45 then (spec_l1Cur_among n ([0, 100, 101]) r46 r47 r48 fun r49 r50 r51 r52 => (bif decide (0 < (r32.length : Int)) then k (r32.set 0 (r49, (r32.getD 0 (0, [])).2)) r50 r51 r52 else none)) else k r32 r46 r47 r48)) else k r32 r34 r35 r36))) else (bif (decide ((r32.length : Int) > 0)) then (spec_l1Cur_one n 40 r29 r30 r31 fun r53 r54 r55 r56 => (bif r53 then (spec_l1Cur_among n ([0, 100, 101]) r54 r55 r56 fun r57 r58 r59 r60 => (bif decide (0 < (r32.length : Int)) then k (r32.set 0 (r57, (r32.getD 0 (0, [])).2)) r58 r59 r60 else none)) else k r32 r54 r55 r56)) else k r32 r29 r30 r31))))) else (spec_l1Cur_plan_l6 n r1 0 r6 r7 r8 ([] : List (Int × List Int)) (fun r61 r62 r63 r64 => (bif (decide ((r64.length : Int) > 1)) then (spec_l1Cur_one n 12 r61 r62 r63 fun r65 r66 r67 r68 => (bif r65 then (bif decide (0 < (r64.length : Int)) then (bif (decide (((r64.set 0 ((r64.getD 0 (0, [])).1, [(IntKind.wrap .i64 ((r64.length : Int) - 1))])).length : Int) > 0)) then (spec_l1Cur_one n 40 r66 r67 r68 fun r69 r70 r71 r72 => (bif r69 then (spec_l1Cur_among n ([0, 100, 101]) r70 r71 r72 fun r73 r74 r75 r76 => (bif decide (0 < ((r64.set 0 ((r64.getD 0 (0, [])).1, [(IntKind.wrap .i64 ((r64.length : Int) - 1))])).length : Int)) then k ((r64.set 0 ((r64.getD 0 (0, [])).1, [(IntKind.wrap .i64 ((r64.length : Int) - 1))])).set 0 (r73, ((r64.set 0 ((r64.getD 0 (0, [])).1, [(IntKind.wrap .i64 ((r64.length : Int) - 1))])).getD 0 (0, [])).2)) r74 r75 r76 else none)) else k (r64.set 0 ((r64.getD 0 (0, [])).1, [(IntKind.wrap .i64 ((r64.length : Int) - 1))])) r70 r71 r72)) else k (r64.set 0 ((r64.getD 0 (0, [])).1, [(IntKind.wrap .i64 ((r64.length : Int) - 1))])) r66 r67 r68) else none) else (bif (decide ((r64.length : Int) > 0)) then (spec_l1Cur_one n 40 r66 r67 r68 fun r77 r78 r79 r80 => (bif r77 then (spec_l1Cur_among n ([0, 100, 101]) r78 r79 r80 fun r81 r82 r83 r84 => (bif decide (0 < (r64.length : Int)) then k (r64.set 0 (r81, (r64.getD 0 (0, [])).2)) r82 r83 r84 else none)) else k r64 r78 r79 r80)) else k r64 r66 r67 r68))) else (bif (decide ((r64.length : Int) > 0)) then (spec_l1Cur_one n 40 r61 r62 r63 fun r85 r86 r87 r88 => (bif r85 then (spec_l1Cur_among n ([0, 100, 101]) r86 r87 r88 fun r89 r90 r91 r92 => (bif decide (0 < (r64.length : Int)) then k (r64.set 0 (r89, (r64.getD 0 (0, [])).2)) r90 r91 r92 else none)) else k r64 r86 r87 r88)) else k r64 r61 r62 r63)))))))) (fun r0 r1 r2 r3 => k (PkS.pack Tspec_l1Cur_plan (r0, r1, r2, r3, ()))) := by kernel_rfl
theorem okspec_l1Cur_plan (n : Nat) : FnOk Try.prog 98 (Kspec_l1Cur_plan @spec_l1Cur_plan n) := by
  refine fn_ok (sig := sig) mixed ttok (mkK_nat (cspec_l1Cur_plan n)) (mkK_ok (cspec_l1Cur_plan n)) (mkL_nat (mkK_nat (cspec_l1Cur_plan n)) (l := [(10, Dspec_l1Cur_plan_l10, Pspec_l1Cur_plan_l10 @spec_l1Cur_plan_l10 n), (6, Dspec_l1Cur_plan_l6, Pspec_l1Cur_plan_l6 @spec_l1Cur_plan_l6 n)]) ⟨nlspec_l1Cur_plan_l10 n, ⟨nlspec_l1Cur_plan_l6 n, trivial⟩⟩) (fn := Try.f98) (c := bodyOf Try.f98) (by kernel_rfl) (by kernel_rfl) (by kernel_rfl) (.eq (l := [.lo (loopIn 6 (bodyOf Try.f98))]) (by kernel_rfl) ⟨(lkspec_l1Cur_plan_l6 n _ _ (at_id (i := 6) (by kernel_rfl) rfl)), trivial⟩) (shs := Hspec_l1Cur_plan) (S := Sspec_l1Cur_plan) (h1 := by kernel_rfl) fun R p k => ?_
  unfold Kspec_l1Cur_plan
  cases h : (PkS.un Sspec_l1Cur_plan p) with
  | none => rfl
  | some d =>
    obtain ⟨x0, x1, x2, u⟩ := (d : (List Int) × Int × Int × Unit)
    have hp := PkS.un_pack h
    subst hp
    exact (espec_l1Cur_plan @spec_l1Cur_pick @spec_l1Cur_one @spec_l1Cur_among @spec_l1Cur_plan_l10 @spec_l1Cur_plan_l6 n x0 x1 x2 k).symm

/-! ### loop.example/g00269/spec.DrawScheduleOf -/
theorem cspec_DrawScheduleOf (n : Nat) : AllOk Try.prog [(98, Kspec_l1Cur_plan @spec_l1Cur_plan n), (107, Kspec_l1Cur_among @spec_l1Cur_among n)] := ⟨okspec_l1Cur_plan n, ⟨okspec_l1Cur_among n, trivial⟩⟩
@[reducible] def Sspec_DrawScheduleOf : PkS := ⟨[.one (.ro (.int .u8))], []⟩
@[reducible] def Tspec_DrawScheduleOf : PkS := ⟨[.tup [(false, [.whole (300000, 0)]), (false, [.int .i64])], .one (.dead)], [((300000, 0), .arr (.pr (.int .i64) (.sl (.int .i64))))]⟩
def Hspec_DrawScheduleOf : List Sh := [.tup [(false, [(.own (.pr (.int .i64) (.sl (.int .i64))))]), (false, [.any])], .skip]
def Kspec_DrawScheduleOf (g : ∀ {R : Type}, Nat → (List Int) → (Int → (List (Int × List Int)) → Option R) → Option R) (n : Nat) : KPs := fun R p k => match (PkS.un Sspec_DrawScheduleOf p : Option ((List Int) × Unit)) with
  | some (x0, _) => g n x0 (fun r0 r1 => k (PkS.pack Tspec_DrawScheduleOf (r0, r1, ())))
  | none => none
theorem espec_DrawScheduleOf (spec_l1Cur_plan : ∀ {R : Type}, Nat → (List Int) → Int → Int → ((List (Int × List Int)) → (List Int) → Int → Int → Option R) → Option R) (spec_l1Cur_among : ∀ {R : Type}, Nat → (List Int) → (List Int) → Int → Int → (Int → (List Int) → Int → Int → Option R) → Option R) {R : Type} (n : Nat) (x0 : List Int) (k : Pk → Option R) : evF tt sig (mkK [(98, Kspec_l1Cur_plan @spec_l1Cur_plan n), (107, Kspec_l1Cur_among @spec_l1Cur_among n)] R) (mkL (mkK [(98, Kspec_l1Cur_plan @spec_l1Cur_plan n), (107, Kspec_l1Cur_among @spec_l1Cur_among n)]) [] R) Try.f50 Hspec_DrawScheduleOf (PkS.pack Sspec_DrawScheduleOf (x0, ())) k = (fun (k : Int → (List (Int × List Int)) → Option R) => (spec_l1Cur_plan n x0 0 0 fun r1 r2 r3 r4 => (spec_l1Cur_among n ([1, 1, 2, 2, 3, 8, 0, 9]) r2 r3 r4 fun r5 r6 r7 r8 => k r5 r1))) (fun r0 r1 => k (PkS.pack Tspec_DrawScheduleOf (r0, r1, ()))) := by kernel_rfl
theorem okspec_DrawScheduleOf (n : Nat) : FnOk Try.prog 50 (Kspec_DrawScheduleOf @spec_DrawScheduleOf n) := by
  refine fn_ok (sig := sig) mixed ttok (mkK_nat (cspec_DrawScheduleOf n)) (mkK_ok (cspec_DrawScheduleOf n)) (mkL_nat (mkK_nat (cspec_DrawScheduleOf n)) (l := []) trivial) (fn := Try.f50) (c := bodyOf Try.f50) (by kernel_rfl) (by kernel_rfl) (by kernel_rfl) (.eq (l := []) (by kernel_rfl) trivial) (shs := Hspec_DrawScheduleOf) (S := Sspec_DrawScheduleOf) (h1 := by kernel_rfl) fun R p k => ?_
  unfold Kspec_DrawScheduleOf
  cases h : (PkS.un Sspec_DrawScheduleOf p) with
  | none => rfl
  | some d =>
    obtain ⟨x0, u⟩ := (d : (List Int) × Unit)
    have hp := PkS.un_pack h
    subst hp
    exact (espec_DrawScheduleOf @spec_l1Cur_plan @spec_l1Cur_among n x0 k).symm

/-! ### loop.example/g00269/impl.in -/
theorem cimpl_in (n : Nat) : AllOk Try.prog [] := trivial
@[reducible] def Simpl_in : PkS := ⟨[.one (.int .i64), .one (.int .i64), .one (.int .i64)], []⟩
@[reducible] def Timpl_in : PkS := ⟨[.one (.bool), .one (.dead), .one (.dead), .one (.dead)], []⟩
def Himpl_in : List Sh := [.one .any, .skip, .skip, .skip]
def Kimpl_in (g : ∀ {R : Type}, Nat → Int → Int → Int → (Bool → Option R) → Option R) (n : Nat) : KPs := fun R p k => match (PkS.un Simpl_in p : Option (Int × Int × Int × Unit)) with
  | some (x0, x1, x2, _) => g n x0 x1 x2 (fun r0 => k (PkS.pack Timpl_in (r0, ())))
  | none => none
theorem eimpl_in  {R : Type} (n : Nat) (x0 : Int) (x1 : Int) (x2 : Int) (k : Pk → Option R) : evF tt sig (mkK [] R) (mkL (mkK []) [] R) Try.f80 Himpl_in (PkS.pack Simpl_in (x0, x1, x2, ())) k = (fun (k : Bool → Option R) => (bif (decide (x0 ≥ x1)) then k (decide (x0 ≤ x2)) else k false)) (fun r0 => k (PkS.pack Timpl_in (r0, ()))) := by kernel_rfl
theorem okimpl_in (n : Nat) : FnOk Try.prog 80 (Kimpl_in @impl_in n) := by
  refine fn_ok (sig := sig) mixed ttok (mkK_nat (cimpl_in n)) (mkK_ok (cimpl_in n)) (mkL_nat (mkK_nat (cimpl_in n)) (l := []) trivial) (fn := Try.f80) (c := bodyOf Try.f80) (by kernel_rfl) (by kernel_rfl) (by kernel_rfl) (.eq (l := []) (by kernel_rfl) trivial) (shs := Himpl_in) (S := Simpl_in) (h1 := by kernel_rfl) fun R p k => ?_
  unfold Kimpl_in
  cases h : (PkS.un Simpl_in p) with
  | none => rfl
  | some d =>
    obtain ⟨x0, x1, x2, u⟩ := (d : Int × Int × Int × Unit)
    have hp := PkS.un_pack h
    subst hp
    exact (eimpl_in  n x0 x1 x2 k).symm

/-! ### loop.example/g00269/impl.rising -/
theorem cimpl_rising (n : Nat) : AllOk Try.prog [(80, Kimpl_in @impl_in n)] := ⟨okimpl_in n, trivial⟩
@[reducible] def Simpl_rising_l2 : PkS := ⟨[.one (.ro (.int .i64)), .one (.int .i64), .one (.ro (.int .i64)), .one (.int .i64), .one (.int .i64), .one (.dead), .one (.dead)], []⟩
@[reducible] def Timpl_rising_l2_0 : PkS := ⟨[.one (.bool), .one (.dead), .one (.dead)], []⟩
@[reducible] def Timpl_rising_l2_1 : PkS := ⟨[.one (.dead), .one (.dead)], []⟩
def Dimpl_rising_l2 : LoopD := ⟨33, [0, 1, 7, 8, 9], [.one (.ro (.int .i64)), .one .any, .one (.ro (.int .i64)), .one .any, .one .any, .skip, .skip], fun x => match x with
  | .ret => some ([4], [.one .any, .skip, .skip])
  | .exit 0 => some ([], [.skip, .skip])
  | _ => none⟩
def Pimpl_rising_l2 (g : ∀ {R : Type}, Nat → (List Int) → Int → (List Int) → Int → Int → (Bool → Option R) → (Option R) → Option R) (n : Nat) : LPs := fun R q kk => match (PkS.un Simpl_rising_l2 q : Option ((List Int) × Int × (List Int) × Int × Int × Unit)) with
  | some (y2_0, y2_1, y2_2, y2_3, y2_4, _) => g n y2_0 y2_1 y2_2 y2_3 y2_4 (fun r0 => kk .ret (PkS.pack Timpl_rising_l2_0 (r0, ()))) (kk (.exit 0) (PkS.pack Timpl_rising_l2_1 ()))
  | none => none
theorem eimpl_rising_l2 (impl_in : ∀ {R : Type}, Nat → Int → Int → Int → (Bool → Option R) → Option R) (impl_rising_l2 : ∀ {R : Type}, Nat → (List Int) → Int → (List Int) → Int → Int → (Bool → Option R) → (Option R) → Option R) {R : Type} (n : Nat) (y2_0 : List Int) (y2_1 : Int) (y2_2 : List Int) (y2_3 : Int) (y2_4 : Int) (kk : Ex → Pk → Option R) : Dimpl_rising_l2.step tt sig (mkK [(80, Kimpl_in @impl_in n)] R) (mkL (mkK [(80, Kimpl_in @impl_in n)]) [] R) (loopIn 2 (bodyOf Try.f106)) (fun q' => Pimpl_rising_l2 @impl_rising_l2 n R q' kk) (PkS.pack Simpl_rising_l2 (y2_0, y2_1, y2_2, y2_3, y2_4, ())) kk = (fun (kret : Bool → Option R) (kexit0 : Option R) => (bif (decide (y2_4 < y2_3)) then (bif decide (0 ≤ y2_4) then (bif decide (y2_4 < (y2_2.length : Int)) then (impl_in n (y2_2.getD (Int.toNat y2_4) 0) 0 (IntKind.wrap .i64 (y2_1 - 1)) fun r1 => (bif (!r1) then kret false else (bif (decide (y2_4 > 0)) then (bif decide (0 ≤ (IntKind.wrap .i64 (y2_4 - 1))) then (bif decide ((IntKind.wrap .i64 (y2_4 - 1)) < (y2_0.length : Int)) then (bif (decide ((y2_0.getD (Int.toNat (IntKind.wrap .i64 (y2_4 - 1))) 0) ≥ (y2_2.getD (Int.toNat y2_4) 0))) then kret false else impl_rising_l2 n y2_0 y2_1 y2_2 y2_3 (IntKind.wrap .i64 (y2_4 + 1)) kret kexit0) else none) else none) else impl_rising_l2 n y2_0 y2_1 y2_2 y2_3 (IntKind.wrap .i64 (y2_4 + 1)) kret kexit0))) else none) else none) else kexit0)) (fun r0 => kk .ret (PkS.pack Timpl_rising_l2_0 (r0, ()))) (kk (.exit 0) (PkS.pack Timpl_rising_l2_1 ())) := by kernel_rfl
theorem leimpl_rising_l2 : LoopEq tt sig (fun n => mkK [(80, Kimpl_in @impl_in n)]) (fun n => mkL (mkK [(80, Kimpl_in @impl_in n)]) []) Dimpl_rising_l2 Simpl_rising_l2 (loopIn 2 (bodyOf Try.f106)) (Pimpl_rising_l2 @impl_rising_l2) where
  zero R q kk := by unfold Pimpl_rising_l2; cases (PkS.un Simpl_rising_l2 q) <;> rfl
  succ n R q kk := by
    unfold Pimpl_rising_l2
    cases h : (PkS.un Simpl_rising_l2 q) with
    | none => rfl
    | some d =>
      obtain ⟨y2_0, y2_1, y2_2, y2_3, y2_4, u⟩ := (d : (List Int) × Int × (List Int) × Int × Int × Unit)
      have hp := PkS.un_pack h
      subst hp
      exact (eimpl_rising_l2 @impl_in @impl_rising_l2 n y2_0 y2_1 y2_2 y2_3 y2_4 kk).symm
theorem nlimpl_rising_l2 : ∀ n, NatLP (Pimpl_rising_l2 @impl_rising_l2 n) := leimpl_rising_l2.nat (fun n => mkK_nat (cimpl_rising n)) fun n => mkL_nat (mkK_nat (cimpl_rising n)) (l := []) trivial
theorem inimpl_rising_l2 (n : Nat) (R : Type) : LoopsOk Try.prog (mkL (mkK [(80, Kimpl_in @impl_in n)]) [] R) (loopIn 2 (bodyOf Try.f106)) := .eq (l := []) (by kernel_rfl) trivial
theorem lkimpl_rising_l2 (n : Nat) (R : Type) (L0 : LK R) (h0 : ∀ id, firstRegion (loopIn 2 (bodyOf Try.f106)) = some id → L0 id = Dimpl_rising_l2.oracle (mkK [(80, Kimpl_in @impl_in n)] R) (Pimpl_rising_l2 @impl_rising_l2 n R)) : LoopOk Try.prog L0 (loopIn 2 (bodyOf Try.f106)) :=
  leimpl_rising_l2.ok mixed ttok (fun n => mkK_nat (cimpl_rising n)) (fun n => mkK_ok (cimpl_rising n)) (fun n => inimpl_rising_l2 n R) (mkK_nat (cimpl_rising n)) h0
@[reducible] def Simpl_rising : PkS := ⟨[.one (.ro (.int .i64)), .one (.int .i64)], []⟩
@[reducible] def Timpl_rising : PkS := ⟨[.one (.bool), .one (.dead), .one (.dead)], []⟩
def Himpl_rising : List Sh := [.one .any, .skip, .skip]
def Kimpl_rising (g : ∀ {R : Type}, Nat → (List Int) → Int → (Bool → Option R) → Option R) (n : Nat) : KPs := fun R p k => match (PkS.un Simpl_rising p : Option ((List Int) × Int × Unit)) with
  | some (x0, x1, _) => g n x0 x1 (fun r0 => k (PkS.pack Timpl_rising (r0, ())))
  | none => none
theorem eimpl_rising (impl_in : ∀ {R : Type}, Nat → Int → Int → Int → (Bool → Option R) → Option R) (impl_rising_l2 : ∀ {R : Type}, Nat → (List Int) → Int → (List Int) → Int → Int → (Bool → Option R) → (Option R) → Option R) {R : Type} (n : Nat) (x0 : List Int) (x1 : Int) (k : Pk → Option R) : evF tt sig (mkK [(80, Kimpl_in @impl_in n)] R) (mkL (mkK [(80, Kimpl_in @impl_in n)]) [(2, Dimpl_rising_l2, Pimpl_rising_l2 @impl_rising_l2 n)] R) Try.f106 Himpl_rising (PkS.pack Simpl_rising (x0, x1, ())) k = (fun (k : Bool → Option R) => (impl_rising_l2 n x0 x1 x0 (x0.length : Int) 0 (fun r2 => k r2) (k true))) (fun r0 => k (PkS.pack Timpl_rising (r0, ()))) := by kernel_rfl
theorem okimpl_rising (n : Nat) : FnOk Try.prog 106 (Kimpl_rising @impl_rising n) := by
  refine fn_ok (sig := sig) mixed ttok (mkK_nat (cimpl_rising n)) (mkK_ok (cimpl_rising n)) (mkL_nat (mkK_nat (cimpl_rising n)) (l := [(2, Dimpl_rising_l2, Pimpl_rising_l2 @impl_rising_l2 n)]) ⟨nlimpl_rising_l2 n, trivial⟩) (fn := Try.f106) (c := bodyOf Try.f106) (by kernel_rfl) (by kernel_rfl) (by kernel_rfl) (.eq (l := [.lo (loopIn 2 (bodyOf Try.f106))]) (by kernel_rfl) ⟨(lkimpl_rising_l2 n _ _ (at_id (i := 2) (by kernel_rfl) rfl)), trivial⟩) (shs := Himpl_rising) (S := Simpl_rising) (h1 := by kernel_rfl) fun R p k => ?_
  unfold Kimpl_rising
  cases h : (PkS.un Simpl_rising p) with
  | none => rfl
  | some d =>
    obtain ⟨x0, x1, u⟩ := (d : (List Int) × Int × Unit)
    have hp := PkS.un_pack h
    subst hp
    exact (eimpl_rising @impl_in @impl_rising_l2 n x0 x1 k).symm

/-! ### slices.Index[[]int,int] -/
theorem cslices_Index_int (n : Nat) : AllOk Try.prog [] := trivial
@[reducible] def Sslices_Index_int_l2 : PkS := ⟨[.one (.ro (.int .i64)), .one (.int .i64), .one (.int .i64), .one (.int .i64), .one (.dead), .one (.dead)], []⟩
@[reducible] def Tslices_Index_int_l2_0 : PkS := ⟨[.one (.int .i64), .one (.dead), .one (.dead)], []⟩
@[reducible] def Tslices_Index_int_l2_1 : PkS := ⟨[.one (.dead), .one (.dead)], []⟩
def Dslices_Index_int_l2 : LoopD := ⟨19, [0, 1, 7, 8], [.one (.ro (.int .i64)), .one .any, .one .any, .one .any, .skip, .skip], fun x => match x with
  | .ret => some ([4], [.one .any, .skip, .skip])
  | .exit 0 => some ([], [.skip, .skip])
  | _ => none⟩
def Pslices_Index_int_l2 (g : ∀ {R : Type}, Nat → (List Int) → Int → Int → Int → (Int → Option R) → (Option R) → Option R) (n : Nat) : LPs := fun R q kk => match (PkS.un Sslices_Index_int_l2 q : Option ((List Int) × Int × Int × Int × Unit)) with
  | some (y2_0, y2_1, y2_2, y2_3, _) => g n y2_0 y2_1 y2_2 y2_3 (fun r0 => kk .ret (PkS.pack Tslices_Index_int_l2_0 (r0, ()))) (kk (.exit 0) (PkS.pack Tslices_Index_int_l2_1 ()))
  | none => none
theorem eslices_Index_int_l2 (slices_Index_int_l2 : ∀ {R : Type}, Nat → (List Int) → Int → Int → Int → (Int → Option R) → (Option R) → Option R) {R : Type} (n : Nat) (y2_0 : List Int) (y2_1 : Int) (y2_2 : Int) (y2_3 : Int) (kk : Ex → Pk → Option R) : Dslices_Index_int_l2.step tt sig (mkK [] R) (mkL (mkK []) [] R) (loopIn 2 (bodyOf Try.f150)) (fun q' => Pslices_Index_int_l2 @slices_Index_int_l2 n R q' kk) (PkS.pack Sslices_Index_int_l2 (y2_0, y2_1, y2_2, y2_3, ())) kk = (fun (kret : Int → Option R) (kexit0 : Option R) => (bif (decide (y2_3 < y2_2)) then (bif decide (0 ≤ y2_3) then (bif decide (y2_3 < (y2_0.length : Int)) then (bif (y2_1 == (y2_0.getD (Int.toNat y2_3) 0)) then kret y2_3 else slices_Index_int_l2 n y2_0 y2_1 y2_2 (IntKind.wrap .i64 (y2_3 + 1)) kret kexit0) else none) else none) else kexit0)) (fun r0 => kk .ret (PkS.pack Tslices_Index_int_l2_0 (r0, ()))) (kk (.exit 0) (PkS.pack Tslices_Index_int_l2_1 ())) := by kernel_rfl
theorem leslices_Index_int_l2 : LoopEq tt sig (fun n => mkK []) (fun n => mkL (mkK []) []) Dslices_Index_int_l2 Sslices_Index_int_l2 (loopIn 2 (bodyOf Try.f150)) (Pslices_Index_int_l2 @slices_Index_int_l2) where
  zero R q kk := by unfold Pslices_Index_int_l2; cases (PkS.un Sslices_Index_int_l2 q) <;> rfl
  succ n R q kk := by
    unfold Pslices_Index_int_l2
    cases h : (PkS.un Sslices_Index_int_l2 q) with
    | none => rfl
    | some d =>
      obtain ⟨y2_0, y2_1, y2_2, y2_3, u⟩ := (d : (List Int) × Int × Int × Int × Unit)
      have hp := PkS.un_pack h
      subst hp
      exact (eslices_Index_int_l2 @slices_Index_int_l2 n y2_0 y2_1 y2_2 y2_3 kk).symm
theorem nlslices_Index_int_l2 : ∀ n, NatLP (Pslices_Index_int_l2 @slices_Index_int_l2 n) := leslices_Index_int_l2.nat (fun n => mkK_nat (cslices_Index_int n)) fun n => mkL_nat (mkK_nat (cslices_Index_int n)) (l := []) trivial
theorem inslices_Index_int_l2 (n : Nat) (R : Type) : LoopsOk Try.prog (mkL (mkK []) [] R) (loopIn 2 (bodyOf Try.f150)) := .eq (l := []) (by kernel_rfl) trivial
theorem lkslices_Index_int_l2 (n : Nat) (R : Type) (L0 : LK R) (h0 : ∀ id, firstRegion (loopIn 2 (bodyOf Try.f150)) = some id → L0 id = Dslices_Index_int_l2.oracle (mkK [] R) (Pslices_Index_int_l2 @slices_Index_int_l2 n R)) : LoopOk Try.prog L0 (loopIn 2 (bodyOf Try.f150)) :=
  leslices_Index_int_l2.ok mixed ttok (fun n => mkK_nat (cslices_Index_int n)) (fun n => mkK_ok (cslices_Index_int n)) (fun n => inslices_Index_int_l2 n R) (mkK_nat (cslices_Index_int n)) h0
@[reducible] def Sslices_Index_int : PkS := ⟨[.one (.ro (.int .i64)), .one (.int .i64)], []⟩
@[reducible] def Tslices_Index_int : PkS := ⟨[.one (.int .i64), .one (.dead), .one (.dead)], []⟩
def Hslices_Index_int : List Sh := [.one .any, .skip, .skip]
def Kslices_Index_int (g : ∀ {R : Type}, Nat → (List Int) → Int → (Int → Option R) → Option R) (n : Nat) : KPs := fun R p k => match (PkS.un Sslices_Index_int p : Option ((List Int) × Int × Unit)) with
  | some (x0, x1, _) => g n x0 x1 (fun r0 => k (PkS.pack Tslices_Index_int (r0, ())))
  | none => none
theorem eslices_Index_int (slices_Index_int_l2 : ∀ {R : Type}, Nat → (List Int) → Int → Int → Int → (Int → Option R) → (Option R) → Option R) {R : Type} (n : Nat) (x0 : List Int) (x1 : Int) (k : Pk → Option R) : evF tt sig (mkK [] R) (mkL (mkK []) [(2, Dslices_Index_int_l2, Pslices_Index_int_l2 @slices_Index_int_l2 n)] R) Try.f150 Hslices_Index_int (PkS.pack Sslices_Index_int (x0, x1, ())) k = (fun (k : Int → Option R) => (slices_Index_int_l2 n x0 x1 (x0.length : Int) 0 (fun r1 => k r1) (k (-1)))) (fun r0 => k (PkS.pack Tslices_Index_int (r0, ()))) := by kernel_rfl
theorem okslices_Index_int (n : Nat) : FnOk Try.prog 150 (Kslices_Index_int @slices_Index_int n) := by
  refine fn_ok (sig := sig) mixed ttok (mkK_nat (cslices_Index_int n)) (mkK_ok (cslices_Index_int n)) (mkL_nat (mkK_nat (cslices_Index_int n)) (l := [(2, Dslices_Index_int_l2, Pslices_Index_int_l2 @slices_Index_int_l2 n)]) ⟨nlslices_Index_int_l2 n, trivial⟩) (fn := Try.f150) (c := bodyOf Try.f150) (by kernel_rfl) (by kernel_rfl) (by kernel_rfl) (.eq (l := [.lo (loopIn 2 (bodyOf Try.f150))]) (by kernel_rfl) ⟨(lkslices_Index_int_l2 n _ _ (at_id (i := 2) (by kernel_rfl) rfl)), trivial⟩) (shs := Hslices_Index_int) (S := Sslices_Index_int) (h1 := by kernel_rfl) fun R p k => ?_
  unfold Kslices_Index_int
  cases h : (PkS.un Sslices_Index_int p) with
  | none => rfl
  | some d =>
    obtain ⟨x0, x1, u⟩ := (d : (List Int) × Int × Unit)
    have hp := PkS.un_pack h
    subst hp
    exact (eslices_Index_int @slices_Index_int_l2 n x0 x1 k).symm

/-! ### slices.Contains[[]int,int] -/
theorem cslices_Contains_int (n : Nat) : AllOk Try.prog [(150, Kslices_Index_int @slices_Index_int n)] := ⟨okslices_Index_int n, trivial⟩
@[reducible] def Sslices_Contains_int : PkS := ⟨[.one (.ro (.int .i64)), .one (.int .i64)], []⟩
@[reducible] def Tslices_Contains_int : PkS := ⟨[.one (.bool), .one (.dead), .one (.dead)], []⟩
def Hslices_Contains_int : List Sh := [.one .any, .skip, .skip]
def Kslices_Contains_int (g : ∀ {R : Type}, Nat → (List Int) → Int → (Bool → Option R) → Option R) (n : Nat) : KPs := fun R p k => match (PkS.un Sslices_Contains_int p : Option ((List Int) × Int × Unit)) with
  | some (x0, x1, _) => g n x0 x1 (fun r0 => k (PkS.pack Tslices_Contains_int (r0, ())))
  | none => none
theorem eslices_Contains_int (slices_Index_int : ∀ {R : Type}, Nat → (List Int) → Int → (Int → Option R) → Option R) {R : Type} (n : Nat) (x0 : List Int) (x1 : Int) (k : Pk → Option R) : evF tt sig (mkK [(150, Kslices_Index_int @slices_Index_int n)] R) (mkL (mkK [(150, Kslices_Index_int @slices_Index_int n)]) [] R) Try.f103 Hslices_Contains_int (PkS.pack Sslices_Contains_int (x0, x1, ())) k = (fun (k : Bool → Option R) => (slices_Index_int n x0 x1 fun r1 => k (decide (r1 ≥ 0)))) (fun r0 => k (PkS.pack Tslices_Contains_int (r0, ()))) := by kernel_rfl
theorem okslices_Contains_int (n : Nat) : FnOk Try.prog 103 (Kslices_Contains_int @slices_Contains_int n) := by
  refine fn_ok (sig := sig) mixed ttok (mkK_nat (cslices_Contains_int n)) (mkK_ok (cslices_Contains_int n)) (mkL_nat (mkK_nat (cslices_Contains_int n)) (l := []) trivial) (fn := Try.f103) (c := bodyOf Try.f103) (by kernel_rfl) (by kernel_rfl) (by kernel_rfl) (.eq (l := []) (by kernel_rfl) trivial) (shs := Hslices_Contains_int) (S := Sslices_Contains_int) (h1 := by kernel_rfl) fun R p k => ?_
  unfold Kslices_Contains_int
  cases h : (PkS.un Sslices_Contains_int p) with
  | none => rfl
  | some d =>
    obtain ⟨x0, x1, u⟩ := (d : (List Int) × Int × Unit)
    have hp := PkS.un_pack h
    subst hp
    exact (eslices_Contains_int @slices_Index_int n x0 x1 k).symm

/-! ### loop.example/g00269/impl.order$1 -/
theorem cimpl_order_c1 (n : Nat) : AllOk Try.prog [] := trivial
@[reducible] def Simpl_order_c1 : PkS := ⟨[.one (.int .i64), .one (.box (200000, 1) 0)], [((200000, 0), .arr .bool), ((200000, 1), .box [.whole (200000, 0)])]⟩
@[reducible] def Timpl_order_c1 : PkS := ⟨[.one (.bool), .one (.dead), .one (.box (300000, 1) 0)], [((300000, 0), .arr .bool), ((300000, 1), .box [.whole (300000, 0)])]⟩
def Himpl_order_c1 : List Sh := [.one .any, .skip, .box [(.own .bool)]]
def Kimpl_order_c1 (g : ∀ {R : Type}, Nat → Int → (List Bool) → (Bool → (List Bool) → Option R) → Option R) (n : Nat) : KPs := fun R p k => match (PkS.un Simpl_order_c1 p : Option (Int × (List Bool) × Unit)) with
  | some (x0, x1, _) => g n x0 x1 (fun r0 r1 => k (PkS.pack Timpl_order_c1 (r0, r1, ())))
  | none => none
theorem eimpl_order_c1  {R : Type} (n : Nat) (x0 : Int) (x1 : List Bool) (k : Pk → Option R) : evF tt sig (mkK [] R) (mkL (mkK []) [] R) Try.f147 Himpl_order_c1 (PkS.pack Simpl_order_c1 (x0, x1, ())) k = (fun (k : Bool → (List Bool) → Option R) => (bif decide (0 ≤ x0) then (bif decide (x0 < (x1.length : Int)) then k (!(x1.getD (Int.toNat x0) false)) x1 else none) else none)) (fun r0 r1 => k (PkS.pack Timpl_order_c1 (r0, r1, ()))) := by kernel_rfl
theorem okimpl_order_c1 (n : Nat) : FnOk Try.prog 147 (Kimpl_order_c1 @impl_order_c1 n) := by
  refine fn_ok (sig := sig) mixed ttok (mkK_nat (cimpl_order_c1 n)) (mkK_ok (cimpl_order_c1 n)) (mkL_nat (mkK_nat (cimpl_order_c1 n)) (l := []) trivial) (fn := Try.f147) (c := bodyOf Try.f147) (by kernel_rfl) (by kernel_rfl) (by kernel_rfl) (.eq (l := []) (by kernel_rfl) trivial) (shs := Himpl_order_c1) (S := Simpl_order_c1) (h1 := by kernel_rfl) fun R p k => ?_
  unfold Kimpl_order_c1
  cases h : (PkS.un Simpl_order_c1 p) with
  | none => rfl
  | some d =>
    obtain ⟨x0, x1, u⟩ := (d : Int × (List Bool) × Unit)
    have hp := PkS.un_pack h
    subst hp
    exact (eimpl_order_c1  n x0 x1 k).symm

/-! ### slices.IndexFunc[[]int,int] -/
theorem cslices_IndexFunc_int_impl_order_c1 (n : Nat) : AllOk Try.prog [(147, Kimpl_order_c1 @impl_order_c1 n)] := ⟨okimpl_order_c1 n, trivial⟩
@[reducible] def Sslices_IndexFunc_int_impl_order_c1_l2 : PkS := ⟨[.one (.ro (.int .i64)), .one (.fn 147 [((100000, 1), 0)]), .one (.int .i64), .one (.int .i64), .one (.dead), .one (.fn 147 [((100000, 1), 0)])], [((100000, 0), .arr .bool), ((100000, 1), .box [.whole (100000, 0)])]⟩
@[reducible] def Tslices_IndexFunc_int_impl_order_c1_l2_0 : PkS := ⟨[.one (.int .i64), .one (.dead), .one (.fn 147 [((100000, 1), 0)])], [((100000, 0), .arr .bool), ((100000, 1), .box [.whole (100000, 0)])]⟩
@[reducible] def Tslices_IndexFunc_int_impl_order_c1_l2_1 : PkS := ⟨[.one (.dead), .one (.fn 147 [((100000, 1), 0)])], [((100000, 0), .arr .bool), ((100000, 1), .box [.whole (100000, 0)])]⟩
def Dslices_IndexFunc_int_impl_order_c1_l2 : LoopD := ⟨19, [0, 1, 7, 8], [.one (.ro (.int .i64)), .fn 147 [[(.own .bool)]], .one .any, .one .any, .skip, .fn 147 [[(.own .bool)]]], fun x => match x with
  | .ret => some ([4], [.one .any, .skip, .fn 147 [[(.own .bool)]]])
  | .exit 0 => some ([], [.skip, .fn 147 [[(.own .bool)]]])
  | _ => none⟩
def Pslices_IndexFunc_int_impl_order_c1_l2 (g : ∀ {R : Type}, Nat → (List Int) → Int → Int → (List Bool) → (Int → (List Bool) → Option R) → ((List Bool) → Option R) → Option R) (n : Nat) : LPs := fun R q kk => match (PkS.un Sslices_IndexFunc_int_impl_order_c1_l2 q : Option ((List Int) × Int × Int × (List Bool) × Unit)) with
  | some (y2_0, y2_1, y2_2, y2_3, _) => g n y2_0 y2_1 y2_2 y2_3 (fun r0 r1 => kk .ret (PkS.pack Tslices_IndexFunc_int_impl_order_c1_l2_0 (r0, r1, ()))) (fun r0 => kk (.exit 0) (PkS.pack Tslices_IndexFunc_int_impl_order_c1_l2_1 (r0, ())))
  | none => none
theorem eslices_IndexFunc_int_impl_order_c1_l2 (impl_order_c1 : ∀ {R : Type}, Nat → Int → (List Bool) → (Bool → (List Bool) → Option R) → Option R) (slices_IndexFunc_int_impl_order_c1_l2 : ∀ {R : Type}, Nat → (List Int) → Int → Int → (List Bool) → (Int → (List Bool) → Option R) → ((List Bool) → Option R) → Option R) {R : Type} (n : Nat) (y2_0 : List Int) (y2_1 : Int) (y2_2 : Int) (y2_3 : List Bool) (kk : Ex → Pk → Option R) : Dslices_IndexFunc_int_impl_order_c1_l2.step tt sig (mkK [(147, Kimpl_order_c1 @impl_order_c1 n)] R) (mkL (mkK [(147, Kimpl_order_c1 @impl_order_c1 n)]) [] R) (loopIn 2 (bodyOf Try.f157)) (fun q' => Pslices_IndexFunc_int_impl_order_c1_l2 @slices_IndexFunc_int_impl_order_c1_l2 n R q' kk) (PkS.pack Sslices_IndexFunc_int_impl_order_c1_l2 (y2_0, y2_1, y2_2, y2_3, ())) kk = (fun (kret : Int → (List Bool) → Option R) (kexit0 : (List Bool) → Option R) => (bif (decide (y2_2 < y2_1)) then (bif decide (0 ≤ y2_2) then (bif decide (y2_2 < (y2_0.length : Int)) then (impl_order_c1 n (y2_0.getD (Int.toNat y2_2) 0) y2_3 fun r1 r2 => (bif r1 then kret y2_2 r2 else slices_IndexFunc_int_impl_order_c1_l2 n y2_0 y2_1 (IntKind.wrap .i64 (y2_2 + 1)) r2 kret kexit0)) else none) else none) else kexit0 y2_3)) (fun r0 r1 => kk .ret (PkS.pack Tslices_IndexFunc_int_impl_order_c1_l2_0 (r0, r1, ()))) (fun r0 => kk (.exit 0) (PkS.pack Tslices_IndexFunc_int_impl_order_c1_l2_1 (r0, ()))) := by kernel_rfl
theorem leslices_IndexFunc_int_impl_order_c1_l2 : LoopEq tt sig (fun n => mkK [(147, Kimpl_order_c1 @impl_order_c1 n)]) (fun n => mkL (mkK [(147, Kimpl_order_c1 @impl_order_c1 n)]) []) Dslices_IndexFunc_int_impl_order_c1_l2 Sslices_IndexFunc_int_impl_order_c1_l2 (loopIn 2 (bodyOf Try.f157)) (Pslices_IndexFunc_int_impl_order_c1_l2 @slices_IndexFunc_int_impl_order_c1_l2) where
  zero R q kk := by unfold Pslices_IndexFunc_int_impl_order_c1_l2; cases (PkS.un Sslices_IndexFunc_int_impl_order_c1_l2 q) <;> rfl
  succ n R q kk := by
    unfold Pslices_IndexFunc_int_impl_order_c1_l2
    cases h : (PkS.un Sslices_IndexFunc_int_impl_order_c1_l2 q) with
    | none => rfl
    | some d =>
      obtain ⟨y2_0, y2_1, y2_2, y2_3, u⟩ := (d : (List Int) × Int × Int × (List Bool) × Unit)
      have hp := PkS.un_pack h
      subst hp
      exact (eslices_IndexFunc_int_impl_order_c1_l2 @impl_order_c1 @slices_IndexFunc_int_impl_order_c1_l2 n y2_0 y2_1 y2_2 y2_3 kk).symm
theorem nlslices_IndexFunc_int_impl_order_c1_l2 : ∀ n, NatLP (Pslices_IndexFunc_int_impl_order_c1_l2 @slices_IndexFunc_int_impl_order_c1_l2 n) := leslices_IndexFunc_int_impl_order_c1_l2.nat (fun n => mkK_nat (cslices_IndexFunc_int_impl_order_c1 n)) fun n => mkL_nat (mkK_nat (cslices_IndexFunc_int_impl_order_c1 n)) (l := []) trivial
theorem inslices_IndexFunc_int_impl_order_c1_l2 (n : Nat) (R : Type) : LoopsOk Try.prog (mkL (mkK [(147, Kimpl_order_c1 @impl_order_c1 n)]) [] R) (loopIn 2 (bodyOf Try.f157)) := .eq (l := []) (by kernel_rfl) trivial
theorem lkslices_IndexFunc_int_impl_order_c1_l2 (n : Nat) (R : Type) (L0 : LK R) (h0 : ∀ id, firstRegion (loopIn 2 (bodyOf Try.f157)) = some id → L0 id = Dslices_IndexFunc_int_impl_order_c1_l2.oracle (mkK [(147, Kimpl_order_c1 @impl_order_c1 n)] R) (Pslices_IndexFunc_int_impl_order_c1_l2 @slices_IndexFunc_int_impl_order_c1_l2 n R)) : LoopOk Try.prog L0 (loopIn 2 (bodyOf Try.f157)) :=
  leslices_IndexFunc_int_impl_order_c1_l2.ok mixed ttok (fun n => mkK_nat (cslices_IndexFunc_int_impl_order_c1 n)) (fun n => mkK_ok (cslices_IndexFunc_int_impl_order_c1 n)) (fun n => inslices_IndexFunc_int_impl_order_c1_l2 n R) (mkK_nat (cslices_IndexFunc_int_impl_order_c1 n)) h0
@[reducible] def Sslices_IndexFunc_int_impl_order_c1 : PkS := ⟨[.one (.ro (.int .i64)), .one (.fn 147 [((200000, 1), 0)])], [((200000, 0), .arr .bool), ((200000, 1), .box [.whole (200000, 0)])]⟩
@[reducible] def Tslices_IndexFunc_int_impl_order_c1 : PkS := ⟨[.one (.int .i64), .one (.dead), .one (.fn 147 [((300000, 1), 0)])], [((300000, 0), .arr .bool), ((300000, 1), .box [.whole (300000, 0)])]⟩
def Hslices_IndexFunc_int_impl_order_c1 : List Sh := [.one .any, .skip, .fn 147 [[(.own .bool)]]]
def Kslices_IndexFunc_int_impl_order_c1 (g : ∀ {R : Type}, Nat → (List Int) → (List Bool) → (Int → (List Bool) → Option R) → Option R) (n : Nat) : KPs := fun R p k => match (PkS.un Sslices_IndexFunc_int_impl_order_c1 p : Option ((List Int) × (List Bool) × Unit)) with
  | some (x0, x1, _) => g n x0 x1 (fun r0 r1 => k (PkS.pack Tslices_IndexFunc_int_impl_order_c1 (r0, r1, ())))
  | none => none
theorem eslices_IndexFunc_int_impl_order_c1 (impl_order_c1 : ∀ {R : Type}, Nat → Int → (List Bool) → (Bool → (List Bool) → Option R) → Option R) (slices_IndexFunc_int_impl_order_c1_l2 : ∀ {R : Type}, Nat → (List Int) → Int → Int → (List Bool) → (Int → (List Bool) → Option R) → ((List Bool) → Option R) → Option R) {R : Type} (n : Nat) (x0 : List Int) (x1 : List Bool) (k : Pk → Option R) : evF tt sig (mkK [(147, Kimpl_order_c1 @impl_order_c1 n)] R) (mkL (mkK [(147, Kimpl_order_c1 @impl_order_c1 n)]) [(2, Dslices_IndexFunc_int_impl_order_c1_l2, Pslices_IndexFunc_int_impl_order_c1_l2 @slices_IndexFunc_int_impl_order_c1_l2 n)] R) Try.f157 Hslices_IndexFunc_int_impl_order_c1 (PkS.pack Sslices_IndexFunc_int_impl_order_c1 (x0, x1, ())) k = (fun (k : Int → (List Bool) → Option R) => (slices_IndexFunc_int_impl_order_c1_l2 n x0 (x0.length : Int) 0 x1 (fun r3 r4 => k r3 r4) (fun r5 => k (-1) r5))) (fun r0 r1 => k (PkS.pack Tslices_IndexFunc_int_impl_order_c1 (r0, r1, ()))) := by kernel_rfl
theorem okslices_IndexFunc_int_impl_order_c1 (n : Nat) : FnOk Try.prog 157 (Kslices_IndexFunc_int_impl_order_c1 @slices_IndexFunc_int_impl_order_c1 n) := by
  refine fn_ok (sig := sig) mixed ttok (mkK_nat (cslices_IndexFunc_int_impl_order_c1 n)) (mkK_ok (cslices_IndexFunc_int_impl_order_c1 n)) (mkL_nat (mkK_nat (cslices_IndexFunc_int_impl_order_c1 n)) (l := [(2, Dslices_IndexFunc_int_impl_order_c1_l2, Pslices_IndexFunc_int_impl_order_c1_l2 @slices_IndexFunc_int_impl_order_c1_l2 n)]) ⟨nlslices_IndexFunc_int_impl_order_c1_l2 n, trivial⟩) (fn := Try.f157) (c := bodyOf Try.f157) (by kernel_rfl) (by kernel_rfl) (by kernel_rfl) (.eq (l := [.lo (loopIn 2 (bodyOf Try.f157))]) (by kernel_rfl) ⟨(lkslices_IndexFunc_int_impl_order_c1_l2 n _ _ (at_id (i := 2) (by kernel_rfl) rfl)), trivial⟩) (shs := Hslices_IndexFunc_int_impl_order_c1) (S := Sslices_IndexFunc_int_impl_order_c1) (h1 := by kernel_rfl) fun R p k => ?_
  unfold Kslices_IndexFunc_int_impl_order_c1
  cases h : (PkS.un Sslices_IndexFunc_int_impl_order_c1 p) with
  | none => rfl
  | some d =>
    obtain ⟨x0, x1, u⟩ := (d : (List Int) × (List Bool) × Unit)
    have hp := PkS.un_pack h
    subst hp
    exact (eslices_IndexFunc_int_impl_order_c1 @impl_order_c1 @slices_IndexFunc_int_impl_order_c1_l2 n x0 x1 k).symm

/-! ### slices.ContainsFunc[[]int,int] -/
theorem cslices_ContainsFunc_int_impl_order_c1 (n : Nat) : AllOk Try.prog [(157, Kslices_IndexFunc_int_impl_order_c1 @slices_IndexFunc_int_impl_order_c1 n)] := ⟨okslices_IndexFunc_int_impl_order_c1 n, trivial⟩
@[reducible] def Sslices_ContainsFunc_int_impl_order_c1 : PkS := ⟨[.one (.ro (.int .i64)), .one (.fn 147 [((200000, 1), 0)])], [((200000, 0), .arr .bool), ((200000, 1), .box [.whole (200000, 0)])]⟩
@[reducible] def Tslices_ContainsFunc_int_impl_order_c1 : PkS := ⟨[.one (.bool), .one (.dead), .one (.fn 147 [((300000, 1), 0)])], [((300000, 0), .arr .bool), ((300000, 1), .box [.whole (300000, 0)])]⟩
def Hslices_ContainsFunc_int_impl_order_c1 : List Sh := [.one .any, .skip, .fn 147 [[(.own .bool)]]]
def Kslices_ContainsFunc_int_impl_order_c1 (g : ∀ {R : Type}, Nat → (List Int) → (List Bool) → (Bool → (List Bool) → Option R) → Option R) (n : Nat) : KPs := fun R p k => match (PkS.un Sslices_ContainsFunc_int_impl_order_c1 p : Option ((List Int) × (List Bool) × Unit)) with
  | some (x0, x1, _) => g n x0 x1 (fun r0 r1 => k (PkS.pack Tslices_ContainsFunc_int_impl_order_c1 (r0, r1, ())))
  | none => none
theorem eslices_ContainsFunc_int_impl_order_c1 (slices_IndexFunc_int_impl_order_c1 : ∀ {R : Type}, Nat → (List Int) → (List Bool) → (Int → (List Bool) → Option R) → Option R) {R : Type} (n : Nat) (x0 : List Int) (x1 : List Bool) (k : Pk → Option R) : evF tt sig (mkK [(157, Kslices_IndexFunc_int_impl_order_c1 @slices_IndexFunc_int_impl_order_c1 n)] R) (mkL (mkK [(157, Kslices_IndexFunc_int_impl_order_c1 @slices_IndexFunc_int_impl_order_c1 n)]) [] R) Try.f120 Hslices_ContainsFunc_int_impl_order_c1 (PkS.pack Sslices_ContainsFunc_int_impl_order_c1 (x0, x1, ())) k = (fun (k : Bool → (List Bool) → Option R) => (slices_IndexFunc_int_impl_order_c1 n x0 x1 fun r1 r2 => k (decide (r1 ≥ 0)) r2)) (fun r0 r1 => k (PkS.pack Tslices_ContainsFunc_int_impl_order_c1 (r0, r1, ()))) := by kernel_rfl
theorem okslices_ContainsFunc_int_impl_order_c1 (n : Nat) : FnOk Try.prog 120 (Kslices_ContainsFunc_int_impl_order_c1 @slices_ContainsFunc_int_impl_order_c1 n) := by
  refine fn_ok (sig := sig) mixed ttok (mkK_nat (cslices_ContainsFunc_int_impl_order_c1 n)) (mkK_ok (cslices_ContainsFunc_int_impl_order_c1 n)) (mkL_nat (mkK_nat (cslices_ContainsFunc_int_impl_order_c1 n)) (l := []) trivial) (fn := Try.f120) (c := bodyOf Try.f120) (by kernel_rfl) (by kernel_rfl) (by kernel_rfl) (.eq (l := []) (by kernel_rfl) trivial) (shs := Hslices_ContainsFunc_int_impl_order_c1) (S := Sslices_ContainsFunc_int_impl_order_c1) (h1 := by kernel_rfl) fun R p k => ?_
  unfold Kslices_ContainsFunc_int_impl_order_c1
  cases h : (PkS.un Sslices_ContainsFunc_int_impl_order_c1 p) with
  | none => rfl
  | some d =>
    obtain ⟨x0, x1, u⟩ := (d : (List Int) × (List Bool) × Unit)
    have hp := PkS.un_pack h
    subst hp
    exact (eslices_ContainsFunc_int_impl_order_c1 @slices_IndexFunc_int_impl_order_c1 n x0 x1 k).symm

/-! ### loop.example/g00269/impl.order -/
theorem cimpl_order (n : Nat) : AllOk Try.prog [(120, Kslices_ContainsFunc_int_impl_order_c1 @slices_ContainsFunc_int_impl_order_c1 n)] := ⟨okslices_ContainsFunc_int_impl_order_c1 n, trivial⟩
@[reducible] def Simpl_order_l4 : PkS := ⟨[.one (.ro (.pr (.int .i64) (.sl (.int .i64)))), .one (.whole (100000, 0)), .one (.box (100000, 2) 0), .one (.int .i64), .one (.ro (.pr (.int .i64) (.sl (.int .i64)))), .one (.int .i64), .one (.int .i64), .one (.dead)], [((100000, 0), .arr (.int .i64)), ((100000, 1), .arr .bool), ((100000, 2), .box [.whole (100000, 1)])]⟩
@[reducible] def Timpl_order_l4_0 : PkS := ⟨[.one (.ro (.pr (.int .i64) (.sl (.int .i64)))), .one (.whole (100000, 0)), .one (.box (100000, 2) 0), .one (.int .i64), .one (.dead)], [((100000, 0), .arr (.int .i64)), ((100000, 1), .arr .bool), ((100000, 2), .box [.whole (100000, 1)])]⟩
def Dimpl_order_l4 : LoopD := ⟨43, [0, 3, 4, 5, 12, 13, 14], [.one (.ro (.pr (.int .i64) (.sl (.int .i64)))), .one (.own (.int .i64)), .box [(.own .bool)], .one .any, .one (.ro (.pr (.int .i64) (.sl (.int .i64)))), .one .any, .one .any, .skip], fun x => match x with
  | .exit 2 => some ([0, 3, 4, 5], [.one (.ro (.pr (.int .i64) (.sl (.int .i64)))), .one (.own (.int .i64)), .box [(.own .bool)], .one .any, .skip])
  | _ => none⟩
def Pimpl_order_l4 (g : ∀ {R : Type}, Nat → (List (Int × List Int)) → Int → (List (Int × List Int)) → Int → Int → (List Int) → (List Bool) → ((List (Int × List Int)) → Int → (List Int) → (List Bool) → Option R) → Option R) (n : Nat) : LPs := fun R q kk => match (PkS.un Simpl_order_l4 q : Option ((List (Int × List Int)) × Int × (List (Int × List Int)) × Int × Int × (List Int) × (List Bool) × Unit)) with
  | some (y4_0, y4_1, y4_2, y4_3, y4_4, y4_5, y4_6, _) => g n y4_0 y4_1 y4_2 y4_3 y4_4 y4_5 y4_6 (fun r0 r1 r2 r3 => kk (.exit 2) (PkS.pack Timpl_order_l4_0 (r0, r1, r2, r3, ())))
  | none => none
theorem eimpl_order_l4 (slices_ContainsFunc_int_impl_order_c1 : ∀ {R : Type}, Nat → (List Int) → (List Bool) → (Bool → (List Bool) → Option R) → Option R) (impl_order_l4 : ∀ {R : Type}, Nat → (List (Int × List Int)) → Int → (List (Int × List Int)) → Int → Int → (List Int) → (List Bool) → ((List (Int × List Int)) → Int → (List Int) → (List Bool) → Option R) → Option R) {R : Type} (n : Nat) (y4_0 : List (Int × List Int)) (y4_1 : Int) (y4_2 : List (Int × List Int)) (y4_3 : Int) (y4_4 : Int) (y4_5 : List Int) (y4_6 : List Bool) (kk : Ex → Pk → Option R) : Dimpl_order_l4.step tt sig (mkK [(120, Kslices_ContainsFunc_int_impl_order_c1 @slices_ContainsFunc_int_impl_order_c1 n)] R) (mkL (mkK [(120, Kslices_ContainsFunc_int_impl_order_c1 @slices_ContainsFunc_int_impl_order_c1 n)]) [] R) (loopIn 4 (bodyOf Try.f94)) (fun q' => Pimpl_order_l4 @impl_order_l4 n R q' kk) (PkS.pack Simpl_order_l4 (y4_0, y4_1, y4_2, y4_3, y4_4, y4_5, y4_6, ())) kk = (fun (kexit2 : (List (Int × List Int)) → Int → (List Int) → (List Bool) → Option R) => (bif (decide (y4_4 < y4_3)) then (bif decide (0 ≤ y4_4) then (bif decide (y4_4 < (y4_2.length : Int)) then (bif decide (0 ≤ y4_4) then (bif decide (y4_4 < (y4_6.length : Int)) then (bif (!(y4_6.getD (Int.toNat y4_4) false)) then (slices_ContainsFunc_int_impl_order_c1 n ((y4_2.getD (Int.toNat y4_4) (0, [])).2) y4_6 fun r1 r2 => (bif (!r1) then kexit2 y4_0 y4_4 y4_5 r2 else impl_order_l4 n y4_0 y4_1 y4_2 y4_3 (IntKind.wrap .i64 (y4_4 + 1)) y4_5 r2 kexit2)) else impl_order_l4 n y4_0 y4_1 y4_2 y4_3 (IntKind.wrap .i64 (y4_4 + 1)) y4_5 y4_6 kexit2) else none) else none) else none) else none) else kexit2 y4_0 y4_1 y4_5 y4_6)) (fun r0 r1 r2 r3 => kk (.exit 2) (PkS.pack Timpl_order_l4_0 (r0, r1, r2, r3, ()))) := by kernel_rfl
theorem leimpl_order_l4 : LoopEq tt sig (fun n => mkK [(120, Kslices_ContainsFunc_int_impl_order_c1 @slices_ContainsFunc_int_impl_order_c1 n)]) (fun n => mkL (mkK [(120, Kslices_ContainsFunc_int_impl_order_c1 @slices_ContainsFunc_int_impl_order_c1 n)]) []) Dimpl_order_l4 Simpl_order_l4 (loopIn 4 (bodyOf Try.f94)) (Pimpl_order_l4 @impl_order_l4) where
  zero R q kk := by unfold Pimpl_order_l4; cases (PkS.un Simpl_order_l4 q) <;> rfl
  succ n R q kk := by
    unfold Pimpl_order_l4
    cases h : (PkS.un Simpl_order_l4 q) with
    | none => rfl
    | some d =>
      obtain ⟨y4_0, y4_1, y4_2, y4_3, y4_4, y4_5, y4_6, u⟩ := (d : (List (Int × List Int)) × Int × (List (Int × List Int)) × Int × Int × (List Int) × (List Bool) × Unit)
      have hp := PkS.un_pack h
      subst hp
      exact (eimpl_order_l4 @slices_ContainsFunc_int_impl_order_c1 @impl_order_l4 n y4_0 y4_1 y4_2 y4_3 y4_4 y4_5 y4_6 kk).symm
theorem nlimpl_order_l4 : ∀ n, NatLP (Pimpl_order_l4 @impl_order_l4 n) := leimpl_order_l4.nat (fun n => mkK_nat (cimpl_order n)) fun n => mkL_nat (mkK_nat (cimpl_order n)) (l := []) trivial
theorem inimpl_order_l4 (n : Nat) (R : Type) : LoopsOk Try.prog (mkL (mkK [(120, Kslices_ContainsFunc_int_impl_order_c1 @slices_ContainsFunc_int_impl_order_c1 n)]) [] R) (loopIn 4 (bodyOf Try.f94)) := .eq (l := []) (by kernel_rfl) trivial
theorem lkimpl_order_l4 (n : Nat) (R : Type) (L0 : LK R) (h0 : ∀ id, firstRegion (loopIn 4 (bodyOf Try.f94)) = some id → L0 id = Dimpl_order_l4.oracle (mkK [(120, Kslices_ContainsFunc_int_impl_order_c1 @slices_ContainsFunc_int_impl_order_c1 n)] R) (Pimpl_order_l4 @impl_order_l4 n R)) : LoopOk Try.prog L0 (loopIn 4 (bodyOf Try.f94)) :=
  leimpl_order_l4.ok mixed ttok (fun n => mkK_nat (cimpl_order n)) (fun n => mkK_ok (cimpl_order n)) (fun n => inimpl_order_l4 n R) (mkK_nat (cimpl_order n)) h0
@[reducible] def Simpl_order_l2 : PkS := ⟨[.one (.ro (.pr (.int .i64) (.sl (.int .i64)))), .one (.whole (100000, 0)), .one (.box (100000, 2) 0), .one (.dead)], [((100000, 0), .arr (.int .i64)), ((100000, 1), .arr .bool), ((100000, 2), .box [.whole (100000, 1)])]⟩
@[reducible] def Timpl_order_l2_0 : PkS := ⟨[.one (.whole (100000, 0)), .one (.dead)], [((100000, 0), .arr (.int .i64))]⟩
def Dimpl_order_l2 : LoopD := ⟨43, [0, 3, 4], [.one (.ro (.pr (.int .i64) (.sl (.int .i64)))), .one (.own (.int .i64)), .box [(.own .bool)], .skip], fun x => match x with
  | .ret => some ([2], [.one (.own (.int .i64)), .skip])
  | _ => none⟩
def Pimpl_order_l2 (g : ∀ {R : Type}, Nat → (List (Int × List Int)) → (List Int) → (List Bool) → ((List Int) → Option R) → Option R) (n : Nat) : LPs := fun R q kk => match (PkS.un Simpl_order_l2 q : Option ((List (Int × List Int)) × (List Int) × (List Bool) × Unit)) with
  | some (y2_0, y2_1, y2_2, _) => g n y2_0 y2_1 y2_2 (fun r0 => kk .ret (PkS.pack Timpl_order_l2_0 (r0, ())))
  | none => none
theorem eimpl_order_l2 (slices_ContainsFunc_int_impl_order_c1 : ∀ {R : Type}, Nat → (List Int) → (List Bool) → (Bool → (List Bool) → Option R) → Option R) (impl_order_l4 : ∀ {R : Type}, Nat → (List (Int × List Int)) → Int → (List (Int × List Int)) → Int → Int → (List Int) → (List Bool) → ((List (Int × List Int)) → Int → (List Int) → (List Bool) → Option R) → Option R) (impl_order_l2 : ∀ {R : Type}, Nat → (List (Int × List Int)) → (List Int) → (List Bool) → ((List Int) → Option R) → Option R) {R : Type} (n : Nat) (y2_0 : List (Int × List Int)) (y2_1 : List Int) (y2_2 : List Bool) (kk : Ex → Pk → Option R) : Dimpl_order_l2.step tt sig (mkK [(120, Kslices_ContainsFunc_int_impl_order_c1 @slices_ContainsFunc_int_impl_order_c1 n)] R) (mkL (mkK [(120, Kslices_ContainsFunc_int_impl_order_c1 @slices_ContainsFunc_int_impl_order_c1 n)]) [(4, Dimpl_order_l4, Pimpl_order_l4 @impl_order_l4 n)] R) (loopIn 2 (bodyOf Try.f94)) (fun q' => Pimpl_order_l2 @impl_order_l2 n R q' kk) (PkS.pack Simpl_order_l2 (y2_0, y2_1, y2_2, ())) kk = (fun (kret : (List Int) → Option R) => (impl_order_l4 n y2_0 (-1) y2_0 (y2_0.length : Int) 0 y2_1 y2_2 (fun r3 r4 r5 r6 => (bif (decide (r4 < 0)) then kret r5 else (bif decide (0 ≤ r4) then (bif decide (r4 < (r6.length : Int)) then (bif decide (r5.length + [r4].length ≤ LIM) then impl_order_l2 n r3 (r5 ++ [r4]) (r6.set (Int.toNat r4) true) kret else none) else none) else none))))) (fun r0 => kk .ret (PkS.pack Timpl_order_l2_0 (r0, ()))) := by kernel_rfl
theorem leimpl_order_l2 : LoopEq tt sig (fun n => mkK [(120, Kslices_ContainsFunc_int_impl_order_c1 @slices_ContainsFunc_int_impl_order_c1 n)]) (fun n => mkL (mkK [(120, Kslices_ContainsFunc_int_impl_order_c1 @slices_ContainsFunc_int_impl_order_c1 n)]) [(4, Dimpl_order_l4, Pimpl_order_l4 @impl_order_l4 n)]) Dimpl_order_l2 Simpl_order_l2 (loopIn 2 (bodyOf Try.f94)) (Pimpl_order_l2 @impl_order_l2) where
  zero R q kk := by unfold Pimpl_order_l2; cases (PkS.un Simpl_order_l2 q) <;> rfl
  succ n R q kk := by
    unfold Pimpl_order_l2
    cases h : (PkS.un Simpl_order_l2 q) with
    | none => rfl
    | some d =>
      obtain ⟨y2_0, y2_1, y2_2, u⟩ := (d : (List (Int × List Int)) × (List Int) × (List Bool) × Unit)
      have hp := PkS.un_pack h
      subst hp
      exact (eimpl_order_l2 @slices_ContainsFunc_int_impl_order_c1 @impl_order_l4 @impl_order_l2 n y2_0 y2_1 y2_2 kk).symm
theorem nlimpl_order_l2 : ∀ n, NatLP (Pimpl_order_l2 @impl_order_l2 n) := leimpl_order_l2.nat (fun n => mkK_nat (cimpl_order n)) fun n => mkL_nat (mkK_nat (cimpl_order n)) (l := [(4, Dimpl_order_l4, Pimpl_order_l4 @impl_order_l4 n)]) ⟨nlimpl_order_l4 n, trivial⟩
theorem inimpl_order_l2 (n : Nat) (R : Type) : LoopsOk Try.prog (mkL (mkK [(120, Kslices_ContainsFunc_int_impl_order_c1 @slices_ContainsFunc_int_impl_order_c1 n)]) [(4, Dimpl_order_l4, Pimpl_order_l4 @impl_order_l4 n)] R) (loopIn 2 (bodyOf Try.f94)) := .eq (l := [.lo (loopIn 4 (bodyOf Try.f94))]) (by kernel_rfl) ⟨(lkimpl_order_l4 n R _ (at_id (i := 4) (by kernel_rfl) rfl)), trivial⟩
theorem lkimpl_order_l2 (n : Nat) (R : Type) (L0 : LK R) (h0 : ∀ id, firstRegion (loopIn 2 (bodyOf Try.f94)) = some id → L0 id = Dimpl_order_l2.oracle (mkK [(120, Kslices_ContainsFunc_int_impl_order_c1 @slices_ContainsFunc_int_impl_order_c1 n)] R) (Pimpl_order_l2 @impl_order_l2 n R)) : LoopOk Try.prog L0 (loopIn 2 (bodyOf Try.f94)) :=
  leimpl_order_l2.ok mixed ttok (fun n => mkK_nat (cimpl_order n)) (fun n => mkK_ok (cimpl_order n)) (fun n => inimpl_order_l2 n R) (mkK_nat (cimpl_order n)) h0
@[reducible] def Simpl_order : PkS := ⟨[.one (.ro (.pr (.int .i64) (.sl (.int .i64))))], []⟩
@[reducible] def Timpl_order : PkS := ⟨[.one (.whole (300000, 0)), .one (.dead)], [((300000, 0), .arr (.int .i64))]⟩
def Himpl_order : List Sh := [.one (.own (.int .i64)), .skip]
def Kimpl_order (g : ∀ {R : Type}, Nat → (List (Int × List Int)) → ((List Int) → Option R) → Option R) (n : Nat) : KPs := fun R p k => match (PkS.un Simpl_order p : Option ((List (Int × List Int)) × Unit)) with
  | some (x0, _) => g n x0 (fun r0 => k (PkS.pack Timpl_order (r0, ())))
  | none => none
theorem eimpl_order (slices_ContainsFunc_int_impl_order_c1 : ∀ {R : Type}, Nat → (List Int) → (List Bool) → (Bool → (List Bool) → Option R) → Option R) (impl_order_l4 : ∀ {R : Type}, Nat → (List (Int × List Int)) → Int → (List (Int × List Int)) → Int → Int → (List Int) → (List Bool) → ((List (Int × List Int)) → Int → (List Int) → (List Bool) → Option R) → Option R) (impl_order_l2 : ∀ {R : Type}, Nat → (List (Int × List Int)) → (List Int) → (List Bool) → ((List Int) → Option R) → Option R) {R : Type} (n : Nat) (x0 : List (Int × List Int)) (k : Pk → Option R) : evF tt sig (mkK [(120, Kslices_ContainsFunc_int_impl_order_c1 @slices_ContainsFunc_int_impl_order_c1 n)] R) (mkL (mkK [(120, Kslices_ContainsFunc_int_impl_order_c1 @slices_ContainsFunc_int_impl_order_c1 n)]) [(4, Dimpl_order_l4, Pimpl_order_l4 @impl_order_l4 n), (2, Dimpl_order_l2, Pimpl_order_l2 @impl_order_l2 n)] R) Try.f94 Himpl_order (PkS.pack Simpl_order (x0, ())) k = (fun (k : (List Int) → Option R) => (bif decide (0 ≤ (x0.length : Int)) then (bif decide ((x0.length : Int) ≤ (x0.length : Int)) then (bif decide ((x0.length : Int) ≤ 1099511627776) then (impl_order_l2 n x0 ([] : List Int) (List.replicate (Int.toNat (x0.length : Int)) false) (fun r7 => k r7)) else none) else none) else none)) (fun r0 => k (PkS.pack Timpl_order (r0, ()))) := by kernel_rfl
theorem okimpl_order (n : Nat) : FnOk Try.prog 94 (Kimpl_order @impl_order n) := by
  refine fn_ok (sig := sig) mixed ttok (mkK_nat (cimpl_order n)) (mkK_ok (cimpl_order n)) (mkL_nat (mkK_nat (cimpl_order n)) (l := [(4, Dimpl_order_l4, Pimpl_order_l4 @impl_order_l4 n), (2, Dimpl_order_l2, Pimpl_order_l2 @impl_order_l2 n)]) ⟨nlimpl_order_l4 n, ⟨nlimpl_order_l2 n, trivial⟩⟩) (fn := Try.f94) (c := bodyOf Try.f94) (by kernel_rfl) (by kernel_rfl) (by kernel_rfl) (.eq (l := [.lo (loopIn 2 (bodyOf Try.f94))]) (by kernel_rfl) ⟨(lkimpl_order_l2 n _ _ (at_id (i := 2) (by kernel_rfl) rfl)), trivial⟩) (shs := Himpl_order) (S := Simpl_order) (h1 := by kernel_rfl) fun R p k => ?_
  unfold Kimpl_order
  cases h : (PkS.un Simpl_order p) with
  | none => rfl
  | some d =>
    obtain ⟨x0, u⟩ := (d : (List (Int × List Int)) × Unit)
    have hp := PkS.un_pack h
    subst hp
    exact (eimpl_order @slices_ContainsFunc_int_impl_order_c1 @impl_order_l4 @impl_order_l2 n x0 k).symm

/-! ### loop.example/g00269/impl.GoodPlan -/
theorem cimpl_GoodPlan (n : Nat) : AllOk Try.prog [(80, Kimpl_in @impl_in n), (106, Kimpl_rising @impl_rising n), (103, Kslices_Contains_int @slices_Contains_int n), (94, Kimpl_order @impl_order n)] := ⟨okimpl_in n, ⟨okimpl_rising n, ⟨okslices_Contains_int n, ⟨okimpl_order n, trivial⟩⟩⟩⟩
@[reducible] def Simpl_GoodPlan_l4 : PkS := ⟨[.one (.ro (.pr (.int .i64) (.sl (.int .i64)))), .one (.ro (.pr (.int .i64) (.sl (.int .i64)))), .one (.int .i64), .one (.int .i64), .one (.dead)], []⟩
@[reducible] def Timpl_GoodPlan_l4_0 : PkS := ⟨[.one (.bool), .one (.dead)], []⟩
@[reducible] def Timpl_GoodPlan_l4_1 : PkS := ⟨[.one (.ro (.pr (.int .i64) (.sl (.int .i64)))), .one (.dead)], []⟩
def Dimpl_GoodPlan_l4 : LoopD := ⟨40, [0, 8, 9, 10], [.one (.ro (.pr (.int .i64) (.sl (.int .i64)))), .one (.ro (.pr (.int .i64) (.sl (.int .i64)))), .one .any, .one .any, .skip], fun x => match x with
  | .ret => some ([2], [.one .any, .skip])
  | .exit 0 => some ([0], [.one (.ro (.pr (.int .i64) (.sl (.int .i64)))), .skip])
  | _ => none⟩
def Pimpl_GoodPlan_l4 (g : ∀ {R : Type}, Nat → (List (Int × List Int)) → (List (Int × List Int)) → Int → Int → (Bool → Option R) → ((List (Int × List Int)) → Option R) → Option R) (n : Nat) : LPs := fun R q kk => match (PkS.un Simpl_GoodPlan_l4 q : Option ((List (Int × List Int)) × (List (Int × List Int)) × Int × Int × Unit)) with
  | some (y4_0, y4_1, y4_2, y4_3, _) => g n y4_0 y4_1 y4_2 y4_3 (fun r0 => kk .ret (PkS.pack Timpl_GoodPlan_l4_0 (r0, ()))) (fun r0 => kk (.exit 0) (PkS.pack Timpl_GoodPlan_l4_1 (r0, ())))
  | none => none
theorem eimpl_GoodPlan_l4 (impl_in : ∀ {R : Type}, Nat → Int → Int → Int → (Bool → Option R) → Option R) (impl_rising : ∀ {R : Type}, Nat → (List Int) → Int → (Bool → Option R) → Option R) (slices_Contains_int : ∀ {R : Type}, Nat → (List Int) → Int → (Bool → Option R) → Option R) (impl_order : ∀ {R : Type}, Nat → (List (Int × List Int)) → ((List Int) → Option R) → Option R) (impl_GoodPlan_l4 : ∀ {R : Type}, Nat → (List (Int × List Int)) → (List (Int × List Int)) → Int → Int → (Bool → Option R) → ((List (Int × List Int)) → Option R) → Option R) {R : Type} (n : Nat) (y4_0 : List (Int × List Int)) (y4_1 : List (Int × List Int)) (y4_2 : Int) (y4_3 : Int) (kk : Ex → Pk → Option R) : Dimpl_GoodPlan_l4.step tt sig (mkK [(80, Kimpl_in @impl_in n), (106, Kimpl_rising @impl_rising n), (103, Kslices_Contains_int @slices_Contains_int n), (94, Kimpl_order @impl_order n)] R) (mkL (mkK [(80, Kimpl_in @impl_in n), (106, Kimpl_rising @impl_rising n), (103, Kslices_Contains_int @slices_Contains_int n), (94, Kimpl_order @impl_order n)]) [] R) (loopIn 4 (bodyOf Try.f49)) (fun q' => Pimpl_GoodPlan_l4 @impl_GoodPlan_l4 n R q' kk) (PkS.pack Simpl_GoodPlan_l4 (y4_0, y4_1, y4_2, y4_3, ())) kk = (fun (kret : Bool → Option R) (kexit0 : (List (Int × List Int)) → Option R) => (bif (decide (y4_3 < y4_2)) then (bif decide (0 ≤ y4_3) then (bif decide (y4_3 < (y4_1.length : Int)) then (impl_in n ((y4_1.getD (Int.toNat y4_3) (0, [])).1) 1 100 fun r1 => (bif (!r1) then kret false else (impl_rising n ((y4_1.getD (Int.toNat y4_3) (0, [])).2) (y4_0.length : Int) fun r2 => (bif (!r2) then kret false else (slices_Contains_int n ((y4_1.getD (Int.toNat y4_3) (0, [])).2) y4_3 fun r3 => (bif r3 then kret false else impl_GoodPlan_l4 n y4_0 y4_1 y4_2 (IntKind.wrap .i64 (y4_3 + 1)) kret kexit0)))))) else none) else none) else kexit0 y4_0)) (fun r0 => kk .ret (PkS.pack Timpl_GoodPlan_l4_0 (r0, ()))) (fun r0 => kk (.exit 0) (PkS.pack Timpl_GoodPlan_l4_1 (r0, ()))) := by kernel_rfl
theorem leimpl_GoodPlan_l4 : LoopEq tt sig (fun n => mkK [(80, Kimpl_in @impl_in n), (106, Kimpl_rising @impl_rising n), (103, Kslices_Contains_int @slices_Contains_int n), (94, Kimpl_order @impl_order n)]) (fun n => mkL (mkK [(80, Kimpl_in @impl_in n), (106, Kimpl_rising @impl_rising n), (103, Kslices_Contains_int @slices_Contains_int n), (94, Kimpl_order @impl_order n)]) []) Dimpl_GoodPlan_l4 Simpl_GoodPlan_l4 (loopIn 4 (bodyOf Try.f49)) (Pimpl_GoodPlan_l4 @impl_GoodPlan_l4) where
  zero R q kk := by unfold Pimpl_GoodPlan_l4; cases (PkS.un Simpl_GoodPlan_l4 q) <;> rfl
  succ n R q kk := by
    unfold Pimpl_GoodPlan_l4
    cases h : (PkS.un Simpl_GoodPlan_l4 q) with
    | none => rfl
    | some d =>
      obtain ⟨y4_0, y4_1, y4_2, y4_3, u⟩ := (d : (List (Int × List Int)) × (List (Int × List Int)) × Int × Int × Unit)
      have hp := PkS.un_pack h
      subst hp
      exact (eimpl_GoodPlan_l4 @impl_in @impl_rising @slices_Contains_int @impl_order @impl_GoodPlan_l4 n y4_0 y4_1 y4_2 y4_3 kk).symm
theorem nlimpl_GoodPlan_l4 : ∀ n, NatLP (Pimpl_GoodPlan_l4 @impl_GoodPlan_l4 n) := leimpl_GoodPlan_l4.nat (fun n => mkK_nat (cimpl_GoodPlan n)) fun n => mkL_nat (mkK_nat (cimpl_GoodPlan n)) (l := []) trivial
theorem inimpl_GoodPlan_l4 (n : Nat) (R : Type) : LoopsOk Try.prog (mkL (mkK [(80, Kimpl_in @impl_in n), (106, Kimpl_rising @impl_rising n), (103, Kslices_Contains_int @slices_Contains_int n), (94, Kimpl_order @impl_order n)]) [] R) (loopIn 4 (bodyOf Try.f49)) := .eq (l := []) (by kernel_rfl) trivial
theorem lkimpl_GoodPlan_l4 (n : Nat) (R : Type) (L0 : LK R) (h0 : ∀ id, firstRegion (loopIn 4 (bodyOf Try.f49)) = some id → L0 id = Dimpl_GoodPlan_l4.oracle (mkK [(80, Kimpl_in @impl_in n), (106, Kimpl_rising @impl_rising n), (103, Kslices_Contains_int @slices_Contains_int n), (94, Kimpl_order @impl_order n)] R) (Pimpl_GoodPlan_l4 @impl_GoodPlan_l4 n R)) : LoopOk Try.prog L0 (loopIn 4 (bodyOf Try.f49)) :=
  leimpl_GoodPlan_l4.ok mixed ttok (fun n => mkK_nat (cimpl_GoodPlan n)) (fun n => mkK_ok (cimpl_GoodPlan n)) (fun n => inimpl_GoodPlan_l4 n R) (mkK_nat (cimpl_GoodPlan n)) h0
@[reducible] def Simpl_GoodPlan : PkS := ⟨[.one (.ro (.pr (.int .i64) (.sl (.int .i64))))], []⟩
@[reducible] def Timpl_GoodPlan : PkS := ⟨[.one (.bool), .one (.dead)], []⟩
def Himpl_GoodPlan : List Sh := [.one .any, .skip]
def Kimpl_GoodPlan (g : ∀ {R : Type}, Nat → (List (Int × List Int)) → (Bool → Option R) → Option R) (n : Nat) : KPs := fun R p k => match (PkS.un Simpl_GoodPlan p : Option ((List (Int × List Int)) × Unit)) with
  | some (x0, _) => g n x0 (fun r0 => k (PkS.pack Timpl_GoodPlan (r0, ())))
  | none => none
theorem eimpl_GoodPlan (impl_in : ∀ {R : Type}, Nat → Int → Int → Int → (Bool → Option R) → Option R) (impl_rising : ∀ {R : Type}, Nat → (List Int) → Int → (Bool → Option R) → Option R) (slices_Contains_int : ∀ {R : Type}, Nat → (List Int) → Int → (Bool → Option R) → Option R) (impl_order : ∀ {R : Type}, Nat → (List (Int × List Int)) → ((List Int) → Option R) → Option R) (impl_GoodPlan_l4 : ∀ {R : Type}, Nat → (List (Int × List Int)) → (List (Int × List Int)) → Int → Int → (Bool → Option R) → ((List (Int × List Int)) → Option R) → Option R) {R : Type} (n : Nat) (x0 : List (Int × List Int)) (k : Pk → Option R) : evF tt sig (mkK [(80, Kimpl_in @impl_in n), (106, Kimpl_rising @impl_rising n), (103, Kslices_Contains_int @slices_Contains_int n), (94, Kimpl_order @impl_order n)] R) (mkL (mkK [(80, Kimpl_in @impl_in n), (106, Kimpl_rising @impl_rising n), (103, Kslices_Contains_int @slices_Contains_int n), (94, Kimpl_order @impl_order n)]) [(4, Dimpl_GoodPlan_l4, Pimpl_GoodPlan_l4 @impl_GoodPlan_l4 n)] R) Try.f49 Himpl_GoodPlan (PkS.pack Simpl_GoodPlan (x0, ())) k = (fun (k : Bool → Option R) => (bif (decide ((x0.length : Int) > 30)) then k false else (impl_GoodPlan_l4 n x0 x0 (x0.length : Int) 0 (fun r4 => k r4) (fun r5 => (impl_order n r5 fun r6 => k ((r6.length : Int) == (r5.length : Int))))))) (fun r0 => k (PkS.pack Timpl_GoodPlan (r0, ()))) := by kernel_rfl
theorem okimpl_GoodPlan (n : Nat) : FnOk Try.prog 49 (Kimpl_GoodPlan @impl_GoodPlan n) := by
  refine fn_ok (sig := sig) mixed ttok (mkK_nat (cimpl_GoodPlan n)) (mkK_ok (cimpl_GoodPlan n)) (mkL_nat (mkK_nat (cimpl_GoodPlan n)) (l := [(4, Dimpl_GoodPlan_l4, Pimpl_GoodPlan_l4 @impl_GoodPlan_l4 n)]) ⟨nlimpl_GoodPlan_l4 n, trivial⟩) (fn := Try.f49) (c := bodyOf Try.f49) (by kernel_rfl) (by kernel_rfl) (by kernel_rfl) (.eq (l := [.lo (loopIn 4 (bodyOf Try.f49))]) (by kernel_rfl) ⟨(lkimpl_GoodPlan_l4 n _ _ (at_id (i := 4) (by kernel_rfl) rfl)), trivial⟩) (shs := Himpl_GoodPlan) (S := Simpl_GoodPlan) (h1 := by kernel_rfl) fun R p k => ?_
  unfold Kimpl_GoodPlan
  cases h : (PkS.un Simpl_GoodPlan p) with
  | none => rfl
  | some d =>
    obtain ⟨x0, u⟩ := (d : (List (Int × List Int)) × Unit)
    have hp := PkS.un_pack h
    subst hp
    exact (eimpl_GoodPlan @impl_in @impl_rising @slices_Contains_int @impl_order @impl_GoodPlan_l4 n x0 k).symm

/-! ### loop.example/g00269/impl.workersOk -/
theorem cimpl_workersOk (n : Nat) : AllOk Try.prog [(80, Kimpl_in @impl_in n)] := ⟨okimpl_in n, trivial⟩
@[reducible] def Simpl_workersOk : PkS := ⟨[.one (.int .i64)], []⟩
@[reducible] def Timpl_workersOk : PkS := ⟨[.one (.bool), .one (.dead)], []⟩
def Himpl_workersOk : List Sh := [.one .any, .skip]
def Kimpl_workersOk (g : ∀ {R : Type}, Nat → Int → (Bool → Option R) → Option R) (n : Nat) : KPs := fun R p k => match (PkS.un Simpl_workersOk p : Option (Int × Unit)) with
  | some (x0, _) => g n x0 (fun r0 => k (PkS.pack Timpl_workersOk (r0, ())))
  | none => none
theorem eimpl_workersOk (impl_in : ∀ {R : Type}, Nat → Int → Int → Int → (Bool → Option R) → Option R) {R : Type} (n : Nat) (x0 : Int) (k : Pk → Option R) : evF tt sig (mkK [(80, Kimpl_in @impl_in n)] R) (mkL (mkK [(80, Kimpl_in @impl_in n)]) [] R) Try.f108 Himpl_workersOk (PkS.pack Simpl_workersOk (x0, ())) k = (fun (k : Bool → Option R) => (impl_in n x0 1 8 fun r1 => k r1)) (fun r0 => k (PkS.pack Timpl_workersOk (r0, ()))) := by kernel_rfl
theorem okimpl_workersOk (n : Nat) : FnOk Try.prog 108 (Kimpl_workersOk @impl_workersOk n) := by
  refine fn_ok (sig := sig) mixed ttok (mkK_nat (cimpl_workersOk n)) (mkK_ok (cimpl_workersOk n)) (mkL_nat (mkK_nat (cimpl_workersOk n)) (l := []) trivial) (fn := Try.f108) (c := bodyOf Try.f108) (by kernel_rfl) (by kernel_rfl) (by kernel_rfl) (.eq (l := []) (by kernel_rfl) trivial) (shs := Himpl_workersOk) (S := Simpl_workersOk) (h1 := by kernel_rfl) fun R p k => ?_
  unfold Kimpl_workersOk
  cases h : (PkS.un Simpl_workersOk p) with
  | none => rfl
  | some d =>
    obtain ⟨x0, u⟩ := (d : Int × Unit)
    have hp := PkS.un_pack h
    subst hp
    exact (eimpl_workersOk @impl_in n x0 k).symm

/-! ### math/bits.Mul64 -/
theorem cbits_Mul64 (n : Nat) : AllOk Try.prog [] := trivial
@[reducible] def Sbits_Mul64 : PkS := ⟨[.one (.int .u64), .one (.int .u64)], []⟩
@[reducible] def Tbits_Mul64 : PkS := ⟨[.tup [(false, [.int .u64]), (false, [.int .u64])], .one (.dead), .one (.dead)], []⟩
def Hbits_Mul64 : List Sh := [.tup [(false, [.any]), (false, [.any])], .skip, .skip]
def Kbits_Mul64 (g : ∀ {R : Type}, Nat → Int → Int → (Int → Int → Option R) → Option R) (n : Nat) : KPs := fun R p k => match (PkS.un Sbits_Mul64 p : Option (Int × Int × Unit)) with
  | some (x0, x1, _) => g n x0 x1 (fun r0 r1 => k (PkS.pack Tbits_Mul64 (r0, r1, ())))
  | none => none
theorem ebits_Mul64  {R : Type} (n : Nat) (x0 : Int) (x1 : Int) (k : Pk → Option R) : evF tt sig (mkK [] R) (mkL (mkK []) [] R) Try.f166 Hbits_Mul64 (PkS.pack Sbits_Mul64 (x0, x1, ())) k = (fun (k : Int → Int → Option R) => k (IntKind.wrap .u64 ((IntKind.wrap .u64 ((IntKind.wrap .u64 ((Int.fdiv x0 (2 ^ (min (Int.toNat 32) (IntKind.bits .u64)))) * (Int.fdiv x1 (2 ^ (min (Int.toNat 32) (IntKind.bits .u64)))))) + (Int.fdiv (IntKind.wrap .u64 ((IntKind.wrap .u64 ((Int.fdiv x0 (2 ^ (min (Int.toNat 32) (IntKind.bits .u64)))) * (IntKind.wrap .u64 (Int.ofNat (BitVec.toNat (BitVec.ofInt (IntKind.bits .u64) x1 &&& BitVec.ofInt (IntKind.bits .u64) 4294967295)))))) + (Int.fdiv (IntKind.wrap .u64 ((IntKind.wrap .u64 (Int.ofNat (BitVec.toNat (BitVec.ofInt (IntKind.bits .u64) x0 &&& BitVec.ofInt (IntKind.bits .u64) 4294967295)))) * (IntKind.wrap .u64 (Int.ofNat (BitVec.toNat (BitVec.ofInt (IntKind.bits .u64) x1 &&& BitVec.ofInt (IntKind.bits .u64) 4294967295)))))) (2 ^ (min (Int.toNat 32) (IntKind.bits .u64)))))) (2 ^ (min (Int.toNat 32) (IntKind.bits .u64)))))) + (Int.fdiv (IntKind.wrap .u64 ((IntKind.wrap .u64 (Int.ofNat (BitVec.toNat (BitVec.ofInt (IntKind.bits .u64) (IntKind.wrap .u64 ((IntKind.wrap .u64 ((Int.fdiv x0 (2 ^ (min (Int.toNat 32) (IntKind.bits .u64)))) * (IntKind.wrap .u64 (Int.ofNat (BitVec.toNat (BitVec.ofInt (IntKind.bits .u64) x1 &&& BitVec.ofInt (IntKind.bits .u64) 4294967295)))))) + (Int.fdiv (IntKind.wrap .u64 ((IntKind.wrap .u64 (Int.ofNat (BitVec.toNat (BitVec.ofInt (IntKind.bits .u64) x0 &&& BitVec.ofInt (IntKind.bits .u64) 4294967295)))) * (IntKind.wrap .u64 (Int.ofNat (BitVec.toNat (BitVec.ofInt (IntKind.bits .u64) x1 &&& BitVec.ofInt (IntKind.bits .u64) 4294967295)))))) (2 ^ (min (Int.toNat 32) (IntKind.bits .u64)))))) &&& BitVec.ofInt (IntKind.bits .u64) 4294967295)))) + (IntKind.wrap .u64 ((IntKind.wrap .u64 (Int.ofNat (BitVec.toNat (BitVec.ofInt (IntKind.bits .u64) x0 &&& BitVec.ofInt (IntKind.bits .u64) 4294967295)))) * (Int.fdiv x1 (2 ^ (min (Int.toNat 32) (IntKind.bits .u64)))))))) (2 ^ (min (Int.toNat 32) (IntKind.bits .u64)))))) (IntKind.wrap .u64 (x0 * x1))) (fun r0 r1 => k (PkS.pack Tbits_Mul64 (r0, r1, ()))) := by kernel_rfl
theorem okbits_Mul64 (n : Nat) : FnOk Try.prog 166 (Kbits_Mul64 @bits_Mul64 n) := by
  refine fn_ok (sig := sig) mixed ttok (mkK_nat (cbits_Mul64 n)) (mkK_ok (cbits_Mul64 n)) (mkL_nat (mkK_nat (cbits_Mul64 n)) (l := []) trivial) (fn := Try.f166) (c := bodyOf Try.f166) (by kernel_rfl) (by kernel_rfl) (by kernel_rfl) (.eq (l := []) (by kernel_rfl) trivial) (shs := Hbits_Mul64) (S := Sbits_Mul64) (h1 := by kernel_rfl) fun R p k => ?_
  unfold Kbits_Mul64
  cases h : (PkS.un Sbits_Mul64 p) with
  | none => rfl
  | some d =>
    obtain ⟨x0, x1, u⟩ := (d : Int × Int × Unit)
    have hp := PkS.un_pack h
    subst hp
    exact (ebits_Mul64  n x0 x1 k).symm

/-! ### math/bits.Mul -/
theorem cbits_Mul (n : Nat) : AllOk Try.prog [(166, Kbits_Mul64 @bits_Mul64 n)] := ⟨okbits_Mul64 n, trivial⟩
@[reducible] def Sbits_Mul : PkS := ⟨[.one (.int .u64), .one (.int .u64)], []⟩
@[reducible] def Tbits_Mul : PkS := ⟨[.tup [(false, [.int .u64]), (false, [.int .u64])], .one (.dead), .one (.dead)], []⟩
def Hbits_Mul : List Sh := [.tup [(false, [.any]), (false, [.any])], .skip, .skip]
def Kbits_Mul (g : ∀ {R : Type}, Nat → Int → Int → (Int → Int → Option R) → Option R) (n : Nat) : KPs := fun R p k => match (PkS.un Sbits_Mul p : Option (Int × Int × Unit)) with
  | some (x0, x1, _) => g n x0 x1 (fun r0 r1 => k (PkS.pack Tbits_Mul (r0, r1, ())))
  | none => none
theorem ebits_Mul (bits_Mul64 : ∀ {R : Type}, Nat → Int → Int → (Int → Int → Option R) → Option R) {R : Type} (n : Nat) (x0 : Int) (x1 : Int) (k : Pk → Option R) : evF tt sig (mkK [(166, Kbits_Mul64 @bits_Mul64 n)] R) (mkL (mkK [(166, Kbits_Mul64 @bits_Mul64 n)]) [] R) Try.f151 Hbits_Mul (PkS.pack Sbits_Mul (x0, x1, ())) k = (fun (k : Int → Int → Option R) => (bits_Mul64 n x0 x1 fun r1 r2 => k r1 r2)) (fun r0 r1 => k (PkS.pack Tbits_Mul (r0, r1, ()))) := by kernel_rfl
theorem okbits_Mul (n : Nat) : FnOk Try.prog 151 (Kbits_Mul @bits_Mul n) := by
  refine fn_ok (sig := sig) mixed ttok (mkK_nat (cbits_Mul n)) (mkK_ok (cbits_Mul n)) (mkL_nat (mkK_nat (cbits_Mul n)) (l := []) trivial) (fn := Try.f151) (c := bodyOf Try.f151) (by kernel_rfl) (by kernel_rfl) (by kernel_rfl) (.eq (l := []) (by kernel_rfl) trivial) (shs := Hbits_Mul) (S := Sbits_Mul) (h1 := by kernel_rfl) fun R p k => ?_
  unfold Kbits_Mul
  cases h : (PkS.un Sbits_Mul p) with
  | none => rfl
  | some d =>
    obtain ⟨x0, x1, u⟩ := (d : Int × Int × Unit)
    have hp := PkS.un_pack h
    subst hp
    exact (ebits_Mul @bits_Mul64 n x0 x1 k).symm

/-! ### slices.Repeat[[]int,int] -/
theorem cslices_Repeat_int (n : Nat) : AllOk Try.prog [(151, Kbits_Mul @bits_Mul n)] := ⟨okbits_Mul n, trivial⟩
@[reducible] def Sslices_Repeat_int_l8 : PkS := ⟨[.one (.whole (100000, 0)), .one (.int .i64), .one (.dead), .one (.dead)], [((100000, 0), .arr (.int .i64))]⟩
@[reducible] def Tslices_Repeat_int_l8_0 : PkS := ⟨[.one (.whole (100000, 0)), .one (.dead), .one (.dead)], [((100000, 0), .arr (.int .i64))]⟩
def Dslices_Repeat_int_l8 : LoopD := ⟨48, [7, 8], [.one (.own (.int .i64)), .one .any, .skip, .skip], fun x => match x with
  | .exit 0 => some ([7], [.one (.own (.int .i64)), .skip, .skip])
  | _ => none⟩
def Pslices_Repeat_int_l8 (g : ∀ {R : Type}, Nat → Int → (List Int) → ((List Int) → Option R) → Option R) (n : Nat) : LPs := fun R q kk => match (PkS.un Sslices_Repeat_int_l8 q : Option (Int × (List Int) × Unit)) with
  | some (y8_0, y8_1, _) => g n y8_0 y8_1 (fun r0 => kk (.exit 0) (PkS.pack Tslices_Repeat_int_l8_0 (r0, ())))
  | none => none
theorem eslices_Repeat_int_l8 (bits_Mul : ∀ {R : Type}, Nat → Int → Int → (Int → Int → Option R) → Option R) (slices_Repeat_int_l8 : ∀ {R : Type}, Nat → Int → (List Int) → ((List Int) → Option R) → Option R) {R : Type} (n : Nat) (y8_0 : Int) (y8_1 : List Int) (kk : Ex → Pk → Option R) : Dslices_Repeat_int_l8.step tt sig (mkK [(151, Kbits_Mul @bits_Mul n)] R) (mkL (mkK [(151, Kbits_Mul @bits_Mul n)]) [] R) (loopIn 8 (bodyOf Try.f109)) (fun q' => Pslices_Repeat_int_l8 @slices_Repeat_int_l8 n R q' kk) (PkS.pack Sslices_Repeat_int_l8 (y8_0, y8_1, ())) kk = (fun (kexit0 : (List Int) → Option R) => (bif (decide (y8_0 < (y8_1.length : Int))) then (bif decide (0 ≤ y8_0) then (bif decide (y8_0 ≤ (y8_1.length : Int)) then (bif decide ((y8_1.length : Int) ≤ (y8_1.length : Int)) then (bif decide (0 ≤ y8_0) then (bif decide (y8_0 ≤ (y8_1.length : Int)) then slices_Repeat_int_l8 n (IntKind.wrap .i64 (y8_0 + ((min ((y8_1.drop 0).take ((Int.toNat y8_0) - 0)).length ((Int.toNat (y8_1.length : Int)) - (Int.toNat y8_0)) : Nat) : Int))) (y8_1.take (Int.toNat y8_0) ++ (((y8_1.drop 0).take ((Int.toNat y8_0) - 0)).take ((Int.toNat (y8_1.length : Int)) - (Int.toNat y8_0)) ++ y8_1.drop ((Int.toNat y8_0) + min ((y8_1.drop 0).take ((Int.toNat y8_0) - 0)).length ((Int.toNat (y8_1.length : Int)) - (Int.toNat y8_0))))) kexit0 else none) else none) else none) else none) else none) else kexit0 y8_1)) (fun r0 => kk (.exit 0) (PkS.pack Tslices_Repeat_int_l8_0 (r0, ()))) := by kernel_rfl
theorem leslices_Repeat_int_l8 : LoopEq tt sig (fun n => mkK [(151, Kbits_Mul @bits_Mul n)]) (fun n => mkL (mkK [(151, Kbits_Mul @bits_Mul n)]) []) Dslices_Repeat_int_l8 Sslices_Repeat_int_l8 (loopIn 8 (bodyOf Try.f109)) (Pslices_Repeat_int_l8 @slices_Repeat_int_l8) where
  zero R q kk := by unfold Pslices_Repeat_int_l8; cases (PkS.un Sslices_Repeat_int_l8 q) <;> rfl
  succ n R q kk := by
    unfold Pslices_Repeat_int_l8
    cases h : (PkS.un Sslices_Repeat_int_l8 q) with
    | none => rfl
    | some d =>
      obtain ⟨y8_0, y8_1, u⟩ := (d : Int × (List Int) × Unit)
      have hp := PkS.un_pack h
      subst hp
      exact (eslices_Repeat_int_l8 @bits_Mul @slices_Repeat_int_l8 n y8_0 y8_1 kk).symm
theorem nlslices_Repeat_int_l8 : ∀ n, NatLP (Pslices_Repeat_int_l8 @slices_Repeat_int_l8 n) := leslices_Repeat_int_l8.nat (fun n => mkK_nat (cslices_Repeat_int n)) fun n => mkL_nat (mkK_nat (cslices_Repeat_int n)) (l := []) trivial
theorem inslices_Repeat_int_l8 (n : Nat) (R : Type) : LoopsOk Try.prog (mkL (mkK [(151, Kbits_Mul @bits_Mul n)]) [] R) (loopIn 8 (bodyOf Try.f109)) := .eq (l := []) (by kernel_rfl) trivial
theorem lkslices_Repeat_int_l8 (n : Nat) (R : Type) (L0 : LK R) (h0 : ∀ id, firstRegion (loopIn 8 (bodyOf Try.f109)) = some id → L0 id = Dslices_Repeat_int_l8.oracle (mkK [(151, Kbits_Mul @bits_Mul n)] R) (Pslices_Repeat_int_l8 @slices_Repeat_int_l8 n R)) : LoopOk Try.prog L0 (loopIn 8 (bodyOf Try.f109)) :=
  leslices_Repeat_int_l8.ok mixed ttok (fun n => mkK_nat (cslices_Repeat_int n)) (fun n => mkK_ok (cslices_Repeat_int n)) (fun n => inslices_Repeat_int_l8 n R) (mkK_nat (cslices_Repeat_int n)) h0
@[reducible] def Sslices_Repeat_int : PkS := ⟨[.one (.ro (.int .i64)), .one (.int .i64)], []⟩
@[reducible] def Tslices_Repeat_int : PkS := ⟨[.one (.whole (300000, 0)), .one (.dead), .one (.dead)], [((300000, 0), .arr (.int .i64))]⟩
def Hslices_Repeat_int : List Sh := [.one (.own (.int .i64)), .skip, .skip]
def Kslices_Repeat_int (g : ∀ {R : Type}, Nat → (List Int) → Int → ((List Int) → Option R) → Option R) (n : Nat) : KPs := fun R p k => match (PkS.un Sslices_Repeat_int p : Option ((List Int) × Int × Unit)) with
  | some (x0, x1, _) => g n x0 x1 (fun r0 => k (PkS.pack Tslices_Repeat_int (r0, ())))
  | none => none
theorem eslices_Repeat_int (bits_Mul : ∀ {R : Type}, Nat → Int → Int → (Int → Int → Option R) → Option R) (slices_Repeat_int_l8 : ∀ {R : Type}, Nat → Int → (List Int) → ((List Int) → Option R) → Option R) {R : Type} (n : Nat) (x0 : List Int) (x1 : Int) (k : Pk → Option R) : evF tt sig (mkK [(151, Kbits_Mul @bits_Mul n)] R) (mkL (mkK [(151, Kbits_Mul @bits_Mul n)]) [(8, Dslices_Repeat_int_l8, Pslices_Repeat_int_l8 @slices_Repeat_int_l8 n)] R) Try.f109 Hslices_Repeat_int (PkS.pack Sslices_Repeat_int (x0, x1, ())) k = (fun (k : (List Int) → Option R) => (bif (decide (x1 < 0)) then none else (bits_Mul n (IntKind.wrap .u64 ((x0.length : Int))) (IntKind.wrap .u64 (x1)) fun r1 r2 => (bif (decide (r1 > 0)) then none else (bif (decide (r2 > 9223372036854775807)) then none else (bif decide (0 ≤ (IntKind.wrap .i64 (r2))) then (bif decide ((IntKind.wrap .i64 (r2)) ≤ (IntKind.wrap .i64 (r2))) then (bif decide ((IntKind.wrap .i64 (r2)) ≤ 1099511627776) then (slices_Repeat_int_l8 n ((min x0.length ((List.replicate (Int.toNat (IntKind.wrap .i64 (r2))) (0 : Int)).length) : Nat) : Int) ((List.replicate (Int.toNat (IntKind.wrap .i64 (r2))) (0 : Int)).take 0 ++ (x0.take ((List.replicate (Int.toNat (IntKind.wrap .i64 (r2))) (0 : Int)).length) ++ (List.replicate (Int.toNat (IntKind.wrap .i64 (r2))) (0 : Int)).drop (0 + min x0.length ((List.replicate (Int.toNat (IntKind.wrap .i64 (r2))) (0 : Int)).length)))) (fun r3 => k r3)) else none) else none) else none)))))) (fun r0 => k (PkS.pack Tslices_Repeat_int (r0, ()))) := by kernel_rfl
theorem okslices_Repeat_int (n : Nat) : FnOk Try.prog 109 (Kslices_Repeat_int @slices_Repeat_int n) := by
  refine fn_ok (sig := sig) mixed ttok (mkK_nat (cslices_Repeat_int n)) (mkK_ok (cslices_Repeat_int n)) (mkL_nat (mkK_nat (cslices_Repeat_int n)) (l := [(8, Dslices_Repeat_int_l8, Pslices_Repeat_int_l8 @slices_Repeat_int_l8 n)]) ⟨nlslices_Repeat_int_l8 n, trivial⟩) (fn := Try.f109) (c := bodyOf Try.f109) (by kernel_rfl) (by kernel_rfl) (by kernel_rfl) (.eq (l := [.lo (loopIn 8 (bodyOf Try.f109))]) (by kernel_rfl) ⟨(lkslices_Repeat_int_l8 n _ _ (at_id (i := 8) (by kernel_rfl) rfl)), trivial⟩) (shs := Hslices_Repeat_int) (S := Sslices_Repeat_int) (h1 := by kernel_rfl) fun R p k => ?_
  unfold Kslices_Repeat_int
  cases h : (PkS.un Sslices_Repeat_int p) with
  | none => rfl
  | some d =>
    obtain ⟨x0, x1, u⟩ := (d : (List Int) × Int × Unit)
    have hp := PkS.un_pack h
    subst hp
    exact (eslices_Repeat_int @bits_Mul @slices_Repeat_int_l8 n x0 x1 k).symm

/-! ### (*loop.example/g00269/impl.crew).ready$1 -/
theorem cimpl_crew_ready_c1 (n : Nat) : AllOk Try.prog [] := trivial
@[reducible] def Simpl_crew_ready_c1 : PkS := ⟨[.one (.int .i64), .one (.box (200000, 0) 0), .one (.box (200000, 1) 0)], [((200000, 0), .box [.relt (.pr (.sl (.int .i64)) (.sl (.int .i64)))]), ((200000, 1), .box [.int .i64])]⟩
@[reducible] def Timpl_crew_ready_c1 : PkS := ⟨[.one (.bool), .one (.dead), .one (.box (300000, 0) 0), .one (.box (300000, 1) 0)], [((300000, 0), .box [.relt (.pr (.sl (.int .i64)) (.sl (.int .i64)))]), ((300000, 1), .box [.int .i64])]⟩
def Himpl_crew_ready_c1 : List Sh := [.one .any, .skip, .box [(.lend (.pr (.sl (.int .i64)) (.sl (.int .i64))))], .box [.any]]
def Kimpl_crew_ready_c1 (g : ∀ {R : Type}, Nat → Int → (List Int × List Int) → Int → (Bool → (List Int × List Int) → Int → Option R) → Option R) (n : Nat) : KPs := fun R p k => match (PkS.un Simpl_crew_ready_c1 p : Option (Int × (List Int × List Int) × Int × Unit)) with
  | some (x0, x1, x2, _) => g n x0 x1 x2 (fun r0 r1 r2 => k (PkS.pack Timpl_crew_ready_c1 (r0, r1, r2, ())))
  | none => none
theorem eimpl_crew_ready_c1  {R : Type} (n : Nat) (x0 : Int) (x1 : List Int × List Int) (x2 : Int) (k : Pk → Option R) : evF tt sig (mkK [] R) (mkL (mkK []) [] R) Try.f152 Himpl_crew_ready_c1 (PkS.pack Simpl_crew_ready_c1 (x0, x1, x2, ())) k = (fun (k : Bool → (List Int × List Int) → Int → Option R) => (bif decide (0 ≤ x0) then (bif decide (x0 < (x1.2.length : Int)) then (bif (decide ((x1.2.getD (Int.toNat x0) 0) < 0)) then k true x1 x2 else (bif decide (0 ≤ x0) then (bif decide (x0 < (x1.2.length : Int)) then k (decide ((x1.2.getD (Int.toNat x0) 0) > x2)) x1 x2 else none) else none)) else none) else none)) (fun r0 r1 r2 => k (PkS.pack Timpl_crew_ready_c1 (r0, r1, r2, ()))) := by kernel_rfl
theorem okimpl_crew_ready_c1 (n : Nat) : FnOk Try.prog 152 (Kimpl_crew_ready_c1 @impl_crew_ready_c1 n) := by
  refine fn_ok (sig := sig) mixed ttok (mkK_nat (cimpl_crew_ready_c1 n)) (mkK_ok (cimpl_crew_ready_c1 n)) (mkL_nat (mkK_nat (cimpl_crew_ready_c1 n)) (l := []) trivial) (fn := Try.f152) (c := bodyOf Try.f152) (by kernel_rfl) (by kernel_rfl) (by kernel_rfl) (.eq (l := []) (by kernel_rfl) trivial) (shs := Himpl_crew_ready_c1) (S := Simpl_crew_ready_c1) (h1 := by kernel_rfl) fun R p k => ?_
  unfold Kimpl_crew_ready_c1
  cases h : (PkS.un Simpl_crew_ready_c1 p) with
  | none => rfl
  | some d =>
    obtain ⟨x0, x1, x2, u⟩ := (d : Int × (List Int × List Int) × Int × Unit)
    have hp := PkS.un_pack h
    subst hp
    exact (eimpl_crew_ready_c1  n x0 x1 x2 k).symm

/-! ### slices.IndexFunc[[]int,int] -/
theorem cslices_IndexFunc_int_impl_crew_ready_c1 (n : Nat) : AllOk Try.prog [(152, Kimpl_crew_ready_c1 @impl_crew_ready_c1 n)] := ⟨okimpl_crew_ready_c1 n, trivial⟩
@[reducible] def Sslices_IndexFunc_int_impl_crew_ready_c1_l2 : PkS := ⟨[.one (.ro (.int .i64)), .one (.fn 152 [((100000, 0), 0), ((100000, 1), 0)]), .one (.int .i64), .one (.int .i64), .one (.dead), .one (.fn 152 [((100000, 0), 0), ((100000, 1), 0)])], [((100000, 0), .box [.relt (.pr (.sl (.int .i64)) (.sl (.int .i64)))]), ((100000, 1), .box [.int .i64])]⟩
@[reducible] def Tslices_IndexFunc_int_impl_crew_ready_c1_l2_0 : PkS := ⟨[.one (.int .i64), .one (.dead), .one (.fn 152 [((100000, 0), 0), ((100000, 1), 0)])], [((100000, 0), .box [.relt (.pr (.sl (.int .i64)) (.sl (.int .i64)))]), ((100000, 1), .box [.int .i64])]⟩
@[reducible] def Tslices_IndexFunc_int_impl_crew_ready_c1_l2_1 : PkS := ⟨[.one (.dead), .one (.fn 152 [((100000, 0), 0), ((100000, 1), 0)])], [((100000, 0), .box [.relt (.pr (.sl (.int .i64)) (.sl (.int .i64)))]), ((100000, 1), .box [.int .i64])]⟩
def Dslices_IndexFunc_int_impl_crew_ready_c1_l2 : LoopD := ⟨19, [0, 1, 7, 8], [.one (.ro (.int .i64)), .fn 152 [[(.lend (.pr (.sl (.int .i64)) (.sl (.int .i64))))], [.any]], .one .any, .one .any, .skip, .fn 152 [[(.lend (.pr (.sl (.int .i64)) (.sl (.int .i64))))], [.any]]], fun x => match x with
  | .ret => some ([4], [.one .any, .skip, .fn 152 [[(.lend (.pr (.sl (.int .i64)) (.sl (.int .i64))))], [.any]]])
  | .exit 0 => some ([], [.skip, .fn 152 [[(.lend (.pr (.sl (.int .i64)) (.sl (.int .i64))))], [.any]]])
  | _ => none⟩
def Pslices_IndexFunc_int_impl_crew_ready_c1_l2 (g : ∀ {R : Type}, Nat → (List Int) → Int → Int → (List Int × List Int) → Int → (Int → (List Int × List Int) → Int → Option R) → ((List Int × List Int) → Int → Option R) → Option R) (n : Nat) : LPs := fun R q kk => match (PkS.un Sslices_IndexFunc_int_impl_crew_ready_c1_l2 q : Option ((List Int) × Int × Int × (List Int × List Int) × Int × Unit)) with
  | some (y2_0, y2_1, y2_2, y2_3, y2_4, _) => g n y2_0 y2_1 y2_2 y2_3 y2_4 (fun r0 r1 r2 => kk .ret (PkS.pack Tslices_IndexFunc_int_impl_crew_ready_c1_l2_0 (r0, r1, r2, ()))) (fun r0 r1 => kk (.exit 0) (PkS.pack Tslices_IndexFunc_int_impl_crew_ready_c1_l2_1 (r0, r1, ())))
  | none => none
theorem eslices_IndexFunc_int_impl_crew_ready_c1_l2 (impl_crew_ready_c1 : ∀ {R : Type}, Nat → Int → (List Int × List Int) → Int → (Bool → (List Int × List Int) → Int → Option R) → Option R) (slices_IndexFunc_int_impl_crew_ready_c1_l2 : ∀ {R : Type}, Nat → (List Int) → Int → Int → (List Int × List Int) → Int → (Int → (List Int × List Int) → Int → Option R) → ((List Int × List Int) → Int → Option R) → Option R) {R : Type} (n : Nat) (y2_0 : List Int) (y2_1 : Int) (y2_2 : Int) (y2_3 : List Int × List Int) (y2_4 : Int) (kk : Ex → Pk → Option R) : Dslices_IndexFunc_int_impl_crew_ready_c1_l2.step tt sig (mkK [(152, Kimpl_crew_ready_c1 @impl_crew_ready_c1 n)] R) (mkL (mkK [(152, Kimpl_crew_ready_c1 @impl_crew_ready_c1 n)]) [] R) (loopIn 2 (bodyOf Try.f157)) (fun q' => Pslices_IndexFunc_int_impl_crew_ready_c1_l2 @slices_IndexFunc_int_impl_crew_ready_c1_l2 n R q' kk) (PkS.pack Sslices_IndexFunc_int_impl_crew_ready_c1_l2 (y2_0, y2_1, y2_2, y2_3, y2_4, ())) kk = (fun (kret : Int → (List Int × List Int) → Int → Option R) (kexit0 : (List Int × List Int) → Int → Option R) => (bif (decide (y2_2 < y2_1)) then (bif decide (0 ≤ y2_2) then (bif decide (y2_2 < (y2_0.length : Int)) then (impl_crew_ready_c1 n (y2_0.getD (Int.toNat y2_2) 0) y2_3 y2_4 fun r1 r2 r3 => (bif r1 then kret y2_2 r2 r3 else slices_IndexFunc_int_impl_crew_ready_c1_l2 n y2_0 y2_1 (IntKind.wrap .i64 (y2_2 + 1)) r2 r3 kret kexit0)) else none) else none) else kexit0 y2_3 y2_4)) (fun r0 r1 r2 => kk .ret (PkS.pack Tslices_IndexFunc_int_impl_crew_ready_c1_l2_0 (r0, r1, r2, ()))) (fun r0 r1 => kk (.exit 0) (PkS.pack Tslices_IndexFunc_int_impl_crew_ready_c1_l2_1 (r0, r1, ()))) := by kernel_rfl
theorem leslices_IndexFunc_int_impl_crew_ready_c1_l2 : LoopEq tt sig (fun n => mkK [(152, Kimpl_crew_ready_c1 @impl_crew_ready_c1 n)]) (fun n => mkL (mkK [(152, Kimpl_crew_ready_c1 @impl_crew_ready_c1 n)]) []) Dslices_IndexFunc_int_impl_crew_ready_c1_l2 Sslices_IndexFunc_int_impl_crew_ready_c1_l2 (loopIn 2 (bodyOf Try.f157)) (Pslices_IndexFunc_int_impl_crew_ready_c1_l2 @slices_IndexFunc_int_impl_crew_ready_c1_l2) where
  zero R q kk := by unfold Pslices_IndexFunc_int_impl_crew_ready_c1_l2; cases (PkS.un Sslices_IndexFunc_int_impl_crew_ready_c1_l2 q) <;> rfl
  succ n R q kk := by
    unfold Pslices_IndexFunc_int_impl_crew_ready_c1_l2
    cases h : (PkS.un Sslices_IndexFunc_int_impl_crew_ready_c1_l2 q) with
    | none => rfl
    | some d =>
      obtain ⟨y2_0, y2_1, y2_2, y2_3, y2_4, u⟩ := (d : (List Int) × Int × Int × (List Int × List Int) × Int × Unit)
      have hp := PkS.un_pack h
      subst hp
      exact (eslices_IndexFunc_int_impl_crew_ready_c1_l2 @impl_crew_ready_c1 @slices_IndexFunc_int_impl_crew_ready_c1_l2 n y2_0 y2_1 y2_2 y2_3 y2_4 kk).symm
theorem nlslices_IndexFunc_int_impl_crew_ready_c1_l2 : ∀ n, NatLP (Pslices_IndexFunc_int_impl_crew_ready_c1_l2 @slices_IndexFunc_int_impl_crew_ready_c1_l2 n) := leslices_IndexFunc_int_impl_crew_ready_c1_l2.nat (fun n => mkK_nat (cslices_IndexFunc_int_impl_crew_ready_c1 n)) fun n => mkL_nat (mkK_nat (cslices_IndexFunc_int_impl_crew_ready_c1 n)) (l := []) trivial
theorem inslices_IndexFunc_int_impl_crew_ready_c1_l2 (n : Nat) (R : Type) : LoopsOk Try.prog (mkL (mkK [(152, Kimpl_crew_ready_c1 @impl_crew_ready_c1 n)]) [] R) (loopIn 2 (bodyOf Try.f157)) := .eq (l := []) (by kernel_rfl) trivial
theorem lkslices_IndexFunc_int_impl_crew_ready_c1_l2 (n : Nat) (R : Type) (L0 : LK R) (h0 : ∀ id, firstRegion (loopIn 2 (bodyOf Try.f157)) = some id → L0 id = Dslices_IndexFunc_int_impl_crew_ready_c1_l2.oracle (mkK [(152, Kimpl_crew_ready_c1 @impl_crew_ready_c1 n)] R) (Pslices_IndexFunc_int_impl_crew_ready_c1_l2 @slices_IndexFunc_int_impl_crew_ready_c1_l2 n R)) : LoopOk Try.prog L0 (loopIn 2 (bodyOf Try.f157)) :=
  leslices_IndexFunc_int_impl_crew_ready_c1_l2.ok mixed ttok (fun n => mkK_nat (cslices_IndexFunc_int_impl_crew_ready_c1 n)) (fun n => mkK_ok (cslices_IndexFunc_int_impl_crew_ready_c1 n)) (fun n => inslices_IndexFunc_int_impl_crew_ready_c1_l2 n R) (mkK_nat (cslices_IndexFunc_int_impl_crew_ready_c1 n)) h0
@[reducible] def Sslices_IndexFunc_int_impl_crew_ready_c1 : PkS := ⟨[.one (.ro (.int .i64)), .one (.fn 152 [((200000, 0), 0), ((200000, 1), 0)])], [((200000, 0), .box [.relt (.pr (.sl (.int .i64)) (.sl (.int .i64)))]), ((200000, 1), .box [.int .i64])]⟩
@[reducible] def Tslices_IndexFunc_int_impl_crew_ready_c1 : PkS := ⟨[.one (.int .i64), .one (.dead), .one (.fn 152 [((300000, 0), 0), ((300000, 1), 0)])], [((300000, 0), .box [.relt (.pr (.sl (.int .i64)) (.sl (.int .i64)))]), ((300000, 1), .box [.int .i64])]⟩
def Hslices_IndexFunc_int_impl_crew_ready_c1 : List Sh := [.one .any, .skip, .fn 152 [[(.lend (.pr (.sl (.int .i64)) (.sl (.int .i64))))], [.any]]]
def Kslices_IndexFunc_int_impl_crew_ready_c1 (g : ∀ {R : Type}, Nat → (List Int) → (List Int × List Int) → Int → (Int → (List Int × List Int) → Int → Option R) → Option R) (n : Nat) : KPs := fun R p k => match (PkS.un Sslices_IndexFunc_int_impl_crew_ready_c1 p : Option ((List Int) × (List Int × List Int) × Int × Unit)) with
  | some (x0, x1, x2, _) => g n x0 x1 x2 (fun r0 r1 r2 => k (PkS.pack Tslices_IndexFunc_int_impl_crew_ready_c1 (r0, r1, r2, ())))
  | none => none
theorem eslices_IndexFunc_int_impl_crew_ready_c1 (impl_crew_ready_c1 : ∀ {R : Type}, Nat → Int → (List Int × List Int) → Int → (Bool → (List Int × List Int) → Int → Option R) → Option R) (slices_IndexFunc_int_impl_crew_ready_c1_l2 : ∀ {R : Type}, Nat → (List Int) → Int → Int → (List Int × List Int) → Int → (Int → (List Int × List Int) → Int → Option R) → ((List Int × List Int) → Int → Option R) → Option R) {R : Type} (n : Nat) (x0 : List Int) (x1 : List Int × List Int) (x2 : Int) (k : Pk → Option R) : evF tt sig (mkK [(152, Kimpl_crew_ready_c1 @impl_crew_ready_c1 n)] R) (mkL (mkK [(152, Kimpl_crew_ready_c1 @impl_crew_ready_c1 n)]) [(2, Dslices_IndexFunc_int_impl_crew_ready_c1_l2, Pslices_IndexFunc_int_impl_crew_ready_c1_l2 @slices_IndexFunc_int_impl_crew_ready_c1_l2 n)] R) Try.f157 Hslices_IndexFunc_int_impl_crew_ready_c1 (PkS.pack Sslices_IndexFunc_int_impl_crew_ready_c1 (x0, x1, x2, ())) k = (fun (k : Int → (List Int × List Int) → Int → Option R) => (slices_IndexFunc_int_impl_crew_ready_c1_l2 n x0 (x0.length : Int) 0 x1 x2 (fun r4 r5 r6 => k r4 r5 r6) (fun r7 r8 => k (-1) r7 r8))) (fun r0 r1 r2 => k (PkS.pack Tslices_IndexFunc_int_impl_crew_ready_c1 (r0, r1, r2, ()))) := by kernel_rfl
theorem okslices_IndexFunc_int_impl_crew_ready_c1 (n : Nat) : FnOk Try.prog 157 (Kslices_IndexFunc_int_impl_crew_ready_c1 @slices_IndexFunc_int_impl_crew_ready_c1 n) := by
  refine fn_ok (sig := sig) mixed ttok (mkK_nat (cslices_IndexFunc_int_impl_crew_ready_c1 n)) (mkK_ok (cslices_IndexFunc_int_impl_crew_ready_c1 n)) (mkL_nat (mkK_nat (cslices_IndexFunc_int_impl_crew_ready_c1 n)) (l := [(2, Dslices_IndexFunc_int_impl_crew_ready_c1_l2, Pslices_IndexFunc_int_impl_crew_ready_c1_l2 @slices_IndexFunc_int_impl_crew_ready_c1_l2 n)]) ⟨nlslices_IndexFunc_int_impl_crew_ready_c1_l2 n, trivial⟩) (fn := Try.f157) (c := bodyOf Try.f157) (by kernel_rfl) (by kernel_rfl) (by kernel_rfl) (.eq (l := [.lo (loopIn 2 (bodyOf Try.f157))]) (by kernel_rfl) ⟨(lkslices_IndexFunc_int_impl_crew_ready_c1_l2 n _ _ (at_id (i := 2) (by kernel_rfl) rfl)), trivial⟩) (shs := Hslices_IndexFunc_int_impl_crew_ready_c1) (S := Sslices_IndexFunc_int_impl_crew_ready_c1) (h1 := by kernel_rfl) fun R p k => ?_
  unfold Kslices_IndexFunc_int_impl_crew_ready_c1
  cases h : (PkS.un Sslices_IndexFunc_int_impl_crew_ready_c1 p) with
  | none => rfl
  | some d =>
    obtain ⟨x0, x1, x2, u⟩ := (d : (List Int) × (List Int × List Int) × Int × Unit)
    have hp := PkS.un_pack h
    subst hp
    exact (eslices_IndexFunc_int_impl_crew_ready_c1 @impl_crew_ready_c1 @slices_IndexFunc_int_impl_crew_ready_c1_l2 n x0 x1 x2 k).symm

/-! ### slices.ContainsFunc[[]int,int] -/
theorem cslices_ContainsFunc_int_impl_crew_ready_c1 (n : Nat) : AllOk Try.prog [(157, Kslices_IndexFunc_int_impl_crew_ready_c1 @slices_IndexFunc_int_impl_crew_ready_c1 n)] := ⟨okslices_IndexFunc_int_impl_crew_ready_c1 n, trivial⟩
@[reducible] def Sslices_ContainsFunc_int_impl_crew_ready_c1 : PkS := ⟨[.one (.ro (.int .i64)), .one (.fn 152 [((200000, 0), 0), ((200000, 1), 0)])], [((200000, 0), .box [.relt (.pr (.sl (.int .i64)) (.sl (.int .i64)))]), ((200000, 1), .box [.int .i64])]⟩
@[reducible] def Tslices_ContainsFunc_int_impl_crew_ready_c1 : PkS := ⟨[.one (.bool), .one (.dead), .one (.fn 152 [((300000, 0), 0), ((300000, 1), 0)])], [((300000, 0), .box [.relt (.pr (.sl (.int .i64)) (.sl (.int .i64)))]), ((300000, 1), .box [.int .i64])]⟩
def Hslices_ContainsFunc_int_impl_crew_ready_c1 : List Sh := [.one .any, .skip, .fn 152 [[(.lend (.pr (.sl (.int .i64)) (.sl (.int .i64))))], [.any]]]
def Kslices_ContainsFunc_int_impl_crew_ready_c1 (g : ∀ {R : Type}, Nat → (List Int) → (List Int × List Int) → Int → (Bool → (List Int × List Int) → Int → Option R) → Option R) (n : Nat) : KPs := fun R p k => match (PkS.un Sslices_ContainsFunc_int_impl_crew_ready_c1 p : Option ((List Int) × (List Int × List Int) × Int × Unit)) with
  | some (x0, x1, x2, _) => g n x0 x1 x2 (fun r0 r1 r2 => k (PkS.pack Tslices_ContainsFunc_int_impl_crew_ready_c1 (r0, r1, r2, ())))
  | none => none
theorem eslices_ContainsFunc_int_impl_crew_ready_c1 (slices_IndexFunc_int_impl_crew_ready_c1 : ∀ {R : Type}, Nat → (List Int) → (List Int × List Int) → Int → (Int → (List Int × List Int) → Int → Option R) → Option R) {R : Type} (n : Nat) (x0 : List Int) (x1 : List Int × List Int) (x2 : Int) (k : Pk → Option R) : evF tt sig (mkK [(157, Kslices_IndexFunc_int_impl_crew_ready_c1 @slices_IndexFunc_int_impl_crew_ready_c1 n)] R) (mkL (mkK [(157, Kslices_IndexFunc_int_impl_crew_ready_c1 @slices_IndexFunc_int_impl_crew_ready_c1 n)]) [] R) Try.f120 Hslices_ContainsFunc_int_impl_crew_ready_c1 (PkS.pack Sslices_ContainsFunc_int_impl_crew_ready_c1 (x0, x1, x2, ())) k = (fun (k : Bool → (List Int × List Int) → Int → Option R) => (slices_IndexFunc_int_impl_crew_ready_c1 n x0 x1 x2 fun r1 r2 r3 => k (decide (r1 ≥ 0)) r2 r3)) (fun r0 r1 r2 => k (PkS.pack Tslices_ContainsFunc_int_impl_crew_ready_c1 (r0, r1, r2, ()))) := by kernel_rfl
theorem okslices_ContainsFunc_int_impl_crew_ready_c1 (n : Nat) : FnOk Try.prog 120 (Kslices_ContainsFunc_int_impl_crew_ready_c1 @slices_ContainsFunc_int_impl_crew_ready_c1 n) := by
  refine fn_ok (sig := sig) mixed ttok (mkK_nat (cslices_ContainsFunc_int_impl_crew_ready_c1 n)) (mkK_ok (cslices_ContainsFunc_int_impl_crew_ready_c1 n)) (mkL_nat (mkK_nat (cslices_ContainsFunc_int_impl_crew_ready_c1 n)) (l := []) trivial) (fn := Try.f120) (c := bodyOf Try.f120) (by kernel_rfl) (by kernel_rfl) (by kernel_rfl) (.eq (l := []) (by kernel_rfl) trivial) (shs := Hslices_ContainsFunc_int_impl_crew_ready_c1) (S := Sslices_ContainsFunc_int_impl_crew_ready_c1) (h1 := by kernel_rfl) fun R p k => ?_
  unfold Kslices_ContainsFunc_int_impl_crew_ready_c1
  cases h : (PkS.un Sslices_ContainsFunc_int_impl_crew_ready_c1 p) with
  | none => rfl
  | some d =>
    obtain ⟨x0, x1, x2, u⟩ := (d : (List Int) × (List Int × List Int) × Int × Unit)
    have hp := PkS.un_pack h
    subst hp
    exact (eslices_ContainsFunc_int_impl_crew_ready_c1 @slices_IndexFunc_int_impl_crew_ready_c1 n x0 x1 x2 k).symm

/-! ### (*loop.example/g00269/impl.crew).ready -/
theorem cimpl_crew_ready (n : Nat) : AllOk Try.prog [(120, Kslices_ContainsFunc_int_impl_crew_ready_c1 @slices_ContainsFunc_int_impl_crew_ready_c1 n)] := ⟨okslices_ContainsFunc_int_impl_crew_ready_c1 n, trivial⟩
@[reducible] def Simpl_crew_ready_l2 : PkS := ⟨[.one (.box (100000, 0) 0), .one (.box (100000, 1) 0), .one (.ro (.pr (.int .i64) (.sl (.int .i64)))), .one (.int .i64), .one (.int .i64), .one (.dead), .one (.dead), .one (.dead)], [((100000, 0), .box [.relt (.pr (.sl (.int .i64)) (.sl (.int .i64)))]), ((100000, 1), .box [.int .i64])]⟩
@[reducible] def Timpl_crew_ready_l2_0 : PkS := ⟨[.one (.int .i64), .one (.dead), .one (.dead), .one (.dead)], []⟩
@[reducible] def Timpl_crew_ready_l2_1 : PkS := ⟨[.one (.dead), .one (.dead), .one (.dead)], []⟩
def Dimpl_crew_ready_l2 : LoopD := ⟨35, [3, 5, 10, 11, 12], [.box [(.lend (.pr (.sl (.int .i64)) (.sl (.int .i64))))], .box [.any], .one (.ro (.pr (.int .i64) (.sl (.int .i64)))), .one .any, .one .any, .skip, .skip, .skip], fun x => match x with
  | .ret => some ([6], [.one .any, .skip, .skip, .skip])
  | .exit 0 => some ([], [.skip, .skip, .skip])
  | _ => none⟩
def Pimpl_crew_ready_l2 (g : ∀ {R : Type}, Nat → (List (Int × List Int)) → Int → Int → (List Int × List Int) → Int → (Int → Option R) → (Option R) → Option R) (n : Nat) : LPs := fun R q kk => match (PkS.un Simpl_crew_ready_l2 q : Option ((List (Int × List Int)) × Int × Int × (List Int × List Int) × Int × Unit)) with
  | some (y2_0, y2_1, y2_2, y2_3, y2_4, _) => g n y2_0 y2_1 y2_2 y2_3 y2_4 (fun r0 => kk .ret (PkS.pack Timpl_crew_ready_l2_0 (r0, ()))) (kk (.exit 0) (PkS.pack Timpl_crew_ready_l2_1 ()))
  | none => none
theorem eimpl_crew_ready_l2 (slices_ContainsFunc_int_impl_crew_ready_c1 : ∀ {R : Type}, Nat → (List Int) → (List Int × List Int) → Int → (Bool → (List Int × List Int) → Int → Option R) → Option R) (impl_crew_ready_l2 : ∀ {R : Type}, Nat → (List (Int × List Int)) → Int → Int → (List Int × List Int) → Int → (Int → Option R) → (Option R) → Option R) {R : Type} (n : Nat) (y2_0 : List (Int × List Int)) (y2_1 : Int) (y2_2 : Int) (y2_3 : List Int × List Int) (y2_4 : Int) (kk : Ex → Pk → Option R) : Dimpl_crew_ready_l2.step tt sig (mkK [(120, Kslices_ContainsFunc_int_impl_crew_ready_c1 @slices_ContainsFunc_int_impl_crew_ready_c1 n)] R) (mkL (mkK [(120, Kslices_ContainsFunc_int_impl_crew_ready_c1 @slices_ContainsFunc_int_impl_crew_ready_c1 n)]) [] R) (loopIn 2 (bodyOf Try.f110)) (fun q' => Pimpl_crew_ready_l2 @impl_crew_ready_l2 n R q' kk) (PkS.pack Simpl_crew_ready_l2 (y2_0, y2_1, y2_2, y2_3, y2_4, ())) kk = (fun (kret : Int → Option R) (kexit0 : Option R) => (bif (decide (y2_2 < y2_1)) then (bif decide (0 ≤ y2_2) then (bif decide (y2_2 < (y2_0.length : Int)) then (slices_ContainsFunc_int_impl_crew_ready_c1 n ((y2_0.getD (Int.toNat y2_2) (0, [])).2) y2_3 y2_4 fun r1 r2 r3 => (bif decide (0 ≤ y2_2) then (bif decide (y2_2 < (r2.2.length : Int)) then (bif (decide ((r2.2.getD (Int.toNat y2_2) 0) < 0)) then (bif (!r1) then kret y2_2 else impl_crew_ready_l2 n y2_0 y2_1 (IntKind.wrap .i64 (y2_2 + 1)) r2 r3 kret kexit0) else impl_crew_ready_l2 n y2_0 y2_1 (IntKind.wrap .i64 (y2_2 + 1)) r2 r3 kret kexit0) else none) else none)) else none) else none) else kexit0)) (fun r0 => kk .ret (PkS.pack Timpl_crew_ready_l2_0 (r0, ()))) (kk (.exit 0) (PkS.pack Timpl_crew_ready_l2_1 ())) := by kernel_rfl
theorem leimpl_crew_ready_l2 : LoopEq tt sig (fun n => mkK [(120, Kslices_ContainsFunc_int_impl_crew_ready_c1 @slices_ContainsFunc_int_impl_crew_ready_c1 n)]) (fun n => mkL (mkK [(120, Kslices_ContainsFunc_int_impl_crew_ready_c1 @slices_ContainsFunc_int_impl_crew_ready_c1 n)]) []) Dimpl_crew_ready_l2 Simpl_crew_ready_l2 (loopIn 2 (bodyOf Try.f110)) (Pimpl_crew_ready_l2 @impl_crew_ready_l2) where
  zero R q kk := by unfold Pimpl_crew_ready_l2; cases (PkS.un Simpl_crew_ready_l2 q) <;> rfl
  succ n R q kk := by
    unfold Pimpl_crew_ready_l2
    cases h : (PkS.un Simpl_crew_ready_l2 q) with
    | none => rfl
    | some d =>
      obtain ⟨y2_0, y2_1, y2_2, y2_3, y2_4, u⟩ := (d : (List (Int × List Int)) × Int × Int × (List Int × List Int) × Int × Unit)
      have hp := PkS.un_pack h
      subst hp
      exact (eimpl_crew_ready_l2 @slices_ContainsFunc_int_impl_crew_ready_c1 @impl_crew_ready_l2 n y2_0 y2_1 y2_2 y2_3 y2_4 kk).symm
theorem nlimpl_crew_ready_l2 : ∀ n, NatLP (Pimpl_crew_ready_l2 @impl_crew_ready_l2 n) := leimpl_crew_ready_l2.nat (fun n => mkK_nat (cimpl_crew_ready n)) fun n => mkL_nat (mkK_nat (cimpl_crew_ready n)) (l := []) trivial
theorem inimpl_crew_ready_l2 (n : Nat) (R : Type) : LoopsOk Try.prog (mkL (mkK [(120, Kslices_ContainsFunc_int_impl_crew_ready_c1 @slices_ContainsFunc_int_impl_crew_ready_c1 n)]) [] R) (loopIn 2 (bodyOf Try.f110)) := .eq (l := []) (by kernel_rfl) trivial
theorem lkimpl_crew_ready_l2 (n : Nat) (R : Type) (L0 : LK R) (h0 : ∀ id, firstRegion (loopIn 2 (bodyOf Try.f110)) = some id → L0 id = Dimpl_crew_ready_l2.oracle (mkK [(120, Kslices_ContainsFunc_int_impl_crew_ready_c1 @slices_ContainsFunc_int_impl_crew_ready_c1 n)] R) (Pimpl_crew_ready_l2 @impl_crew_ready_l2 n R)) : LoopOk Try.prog L0 (loopIn 2 (bodyOf Try.f110)) :=
  leimpl_crew_ready_l2.ok mixed ttok (fun n => mkK_nat (cimpl_crew_ready n)) (fun n => mkK_ok (cimpl_crew_ready n)) (fun n => inimpl_crew_ready_l2 n R) (mkK_nat (cimpl_crew_ready n)) h0
@[reducible] def Simpl_crew_ready : PkS := ⟨[.one (.relt (.pr (.sl (.int .i64)) (.sl (.int .i64)))), .one (.ro (.pr (.int .i64) (.sl (.int .i64)))), .one (.int .i64)], []⟩
@[reducible] def Timpl_crew_ready : PkS := ⟨[.one (.int .i64), .one (.dead), .one (.dead), .one (.dead)], []⟩
def Himpl_crew_ready : List Sh := [.one .any, .skip, .skip, .skip]
def Kimpl_crew_ready (g : ∀ {R : Type}, Nat → (List Int × List Int) → (List (Int × List Int)) → Int → (Int → Option R) → Option R) (n : Nat) : KPs := fun R p k => match (PkS.un Simpl_crew_ready p : Option ((List Int × List Int) × (List (Int × List Int)) × Int × Unit)) with
  | some (x0, x1, x2, _) => g n x0 x1 x2 (fun r0 => k (PkS.pack Timpl_crew_ready (r0, ())))
  | none => none
theorem eimpl_crew_ready (slices_ContainsFunc_int_impl_crew_ready_c1 : ∀ {R : Type}, Nat → (List Int) → (List Int × List Int) → Int → (Bool → (List Int × List Int) → Int → Option R) → Option R) (impl_crew_ready_l2 : ∀ {R : Type}, Nat → (List (Int × List Int)) → Int → Int → (List Int × List Int) → Int → (Int → Option R) → (Option R) → Option R) {R : Type} (n : Nat) (x0 : List Int × List Int) (x1 : List (Int × List Int)) (x2 : Int) (k : Pk → Option R) : evF tt sig (mkK [(120, Kslices_ContainsFunc_int_impl_crew_ready_c1 @slices_ContainsFunc_int_impl_crew_ready_c1 n)] R) (mkL (mkK [(120, Kslices_ContainsFunc_int_impl_crew_ready_c1 @slices_ContainsFunc_int_impl_crew_ready_c1 n)]) [(2, Dimpl_crew_ready_l2, Pimpl_crew_ready_l2 @impl_crew_ready_l2 n)] R) Try.f110 Himpl_crew_ready (PkS.pack Simpl_crew_ready (x0, x1, x2, ())) k = (fun (k : Int → Option R) => (impl_crew_ready_l2 n x1 (x1.length : Int) 0 x0 x2 (fun r4 => k r4) (k (-1)))) (fun r0 => k (PkS.pack Timpl_crew_ready (r0, ()))) := by kernel_rfl
theorem okimpl_crew_ready (n : Nat) : FnOk Try.prog 110 (Kimpl_crew_ready @impl_crew_ready n) := by
  refine fn_ok (sig := sig) mixed ttok (mkK_nat (cimpl_crew_ready n)) (mkK_ok (cimpl_crew_ready n)) (mkL_nat (mkK_nat (cimpl_crew_ready n)) (l := [(2, Dimpl_crew_ready_l2, Pimpl_crew_ready_l2 @impl_crew_ready_l2 n)]) ⟨nlimpl_crew_ready_l2 n, trivial⟩) (fn := Try.f110) (c := bodyOf Try.f110) (by kernel_rfl) (by kernel_rfl) (by kernel_rfl) (.eq (l := [.lo (loopIn 2 (bodyOf Try.f110))]) (by kernel_rfl) ⟨(lkimpl_crew_ready_l2 n _ _ (at_id (i := 2) (by kernel_rfl) rfl)), trivial⟩) (shs := Himpl_crew_ready) (S := Simpl_crew_ready) (h1 := by kernel_rfl) fun R p k => ?_
  unfold Kimpl_crew_ready
  cases h : (PkS.un Simpl_crew_ready p) with
  | none => rfl
  | some d =>
    obtain ⟨x0, x1, x2, u⟩ := (d : (List Int × List Int) × (List (Int × List Int)) × Int × Unit)
    have hp := PkS.un_pack h
    subst hp
    exact (eimpl_crew_ready @slices_ContainsFunc_int_impl_crew_ready_c1 @impl_crew_ready_l2 n x0 x1 x2 k).symm

/-! ### loop.example/g00269/impl.ScheduleOf -/
theorem cimpl_ScheduleOf (n : Nat) : AllOk Try.prog [(49, Kimpl_GoodPlan @impl_GoodPlan n), (108, Kimpl_workersOk @impl_workersOk n), (109, Kslices_Repeat_int @slices_Repeat_int n), (110, Kimpl_crew_ready @impl_crew_ready n)] := ⟨okimpl_GoodPlan n, ⟨okimpl_workersOk n, ⟨okslices_Repeat_int n, ⟨okimpl_crew_ready n, trivial⟩⟩⟩⟩
@[reducible] def Simpl_ScheduleOf_l8 : PkS := ⟨[.one (.ro (.pr (.int .i64) (.sl (.int .i64)))), .one (.box (100000, 2) 0), .one (.whole (100000, 3)), .one (.int .i64), .one (.int .i64), .one (.int .i64), .one (.int .i64), .one (.dead), .one (.dead)], [((100000, 0), .arr (.int .i64)), ((100000, 1), .arr (.int .i64)), ((100000, 2), .box [.whole (100000, 0), .whole (100000, 1)]), ((100000, 3), .arr (.pr (.int .i64) (.pr (.int .i64) (.int .i64))))]⟩
@[reducible] def Timpl_ScheduleOf_l8_0 : PkS := ⟨[.one (.ro (.pr (.int .i64) (.sl (.int .i64)))), .one (.box (100000, 2) 0), .one (.whole (100000, 3)), .one (.int .i64), .one (.int .i64), .one (.dead), .one (.dead)], [((100000, 0), .arr (.int .i64)), ((100000, 1), .arr (.int .i64)), ((100000, 2), .box [.whole (100000, 0), .whole (100000, 1)]), ((100000, 3), .arr (.pr (.int .i64) (.pr (.int .i64) (.int .i64))))]⟩
def Dimpl_ScheduleOf_l8 : LoopD := ⟨105, [0, 7, 8, 9, 10, 41, 42], [.one (.ro (.pr (.int .i64) (.sl (.int .i64)))), .box [(.own (.int .i64)), (.own (.int .i64))], .one (.own (.pr (.int .i64) (.pr (.int .i64) (.int .i64)))), .one .any, .one .any, .one .any, .one .any, .skip, .skip], fun x => match x with
  | .exit 2 => some ([0, 7, 8, 9, 10], [.one (.ro (.pr (.int .i64) (.sl (.int .i64)))), .box [(.own (.int .i64)), (.own (.int .i64))], .one (.own (.pr (.int .i64) (.pr (.int .i64) (.int .i64)))), .one .any, .one .any, .skip, .skip])
  | _ => none⟩
def Pimpl_ScheduleOf_l8 (g : ∀ {R : Type}, Nat → (List (Int × List Int)) → Int → Int → Int → Int → (List Int) → (List Int) → (List (Int × Int × Int)) → ((List (Int × List Int)) → Int → Int → (List Int) → (List Int) → (List (Int × Int × Int)) → Option R) → Option R) (n : Nat) : LPs := fun R q kk => match (PkS.un Simpl_ScheduleOf_l8 q : Option ((List (Int × List Int)) × Int × Int × Int × Int × (List Int) × (List Int) × (List (Int × Int × Int)) × Unit)) with
  | some (y8_0, y8_1, y8_2, y8_3, y8_4, y8_5, y8_6, y8_7, _) => g n y8_0 y8_1 y8_2 y8_3 y8_4 y8_5 y8_6 y8_7 (fun r0 r1 r2 r3 r4 r5 => kk (.exit 2) (PkS.pack Timpl_ScheduleOf_l8_0 (r0, r1, r2, r3, r4, r5, ())))
  | none => none
theorem eimpl_ScheduleOf_l8 (impl_GoodPlan : ∀ {R : Type}, Nat → (List (Int × List Int)) → (Bool → Option R) → Option R) (impl_workersOk : ∀ {R : Type}, Nat → Int → (Bool → Option R) → Option R) (slices_Repeat_int : ∀ {R : Type}, Nat → (List Int) → Int → ((List Int) → Option R) → Option R) (impl_crew_ready : ∀ {R : Type}, Nat → (List Int × List Int) → (List (Int × List Int)) → Int → (Int → Option R) → Option R) (impl_ScheduleOf_l8 : ∀ {R : Type}, Nat → (List (Int × List Int)) → Int → Int → Int → Int → (List Int) → (List Int) → (List (Int × Int × Int)) → ((List (Int × List Int)) → Int → Int → (List Int) → (List Int) → (List (Int × Int × Int)) → Option R) → Option R) {R : Type} (n : Nat) (y8_0 : List (Int × List Int)) (y8_1 : Int) (y8_2 : Int) (y8_3 : Int) (y8_4 : Int) (y8_5 : List Int) (y8_6 : List Int) (y8_7 : List (Int × Int × Int)) (kk : Ex → Pk → Option R) : Dimpl_ScheduleOf_l8.step tt sig (mkK [(49, Kimpl_GoodPlan @impl_GoodPlan n), (108, Kimpl_workersOk @impl_workersOk n), (109, Kslices_Repeat_int @slices_Repeat_int n), (110, Kimpl_crew_ready @impl_crew_ready n)] R) (mkL (mkK [(49, Kimpl_GoodPlan @impl_GoodPlan n), (108, Kimpl_workersOk @impl_workersOk n), (109, Kslices_Repeat_int @slices_Repeat_int n), (110, Kimpl_crew_ready @impl_crew_ready n)]) [] R) (loopIn 8 (bodyOf Try.f51)) (fun q' => Pimpl_ScheduleOf_l8 @impl_ScheduleOf_l8 n R q' kk) (PkS.pack Simpl_ScheduleOf_l8 (y8_0, y8_1, y8_2, y8_3, y8_4, y8_5, y8_6, y8_7, ())) kk = (fun (kexit2 : (List (Int × List Int)) → Int → Int → (List Int) → (List Int) → (List (Int × Int × Int)) → Option R) => (bif (decide (y8_4 < y8_3)) then (bif decide (0 ≤ y8_4) then (bif decide (y8_4 < (y8_5.length : Int)) then (bif (decide ((y8_5.getD (Int.toNat y8_4) 0) > y8_2)) then impl_ScheduleOf_l8 n y8_0 y8_1 y8_2 y8_3 (IntKind.wrap .i64 (y8_4 + 1)) y8_5 y8_6 y8_7 kexit2 else (impl_crew_ready n (y8_5, y8_6) y8_0 y8_2 fun r4 => (bif (decide (r4 ≥ 0)) then (bif decide (0 ≤ r4) then (bif decide (r4 < (y8_0.length : Int)) then (bif decide (0 ≤ r4) then (bif decide (r4 < (y8_0.length : Int)) then (bif decide (0 ≤ y8_4) then (bif decide (y8_4 < (y8_5.length : Int)) then (bif decide (0 ≤ r4) then (bif decide (r4 < (y8_6.length : Int)) then (bif decide (y8_7.length + ([(r4, (y8_4, y8_2))]).length ≤ LIM) then (bif decide (0 ≤ r4) then (bif decide (r4 < ((y8_6.set (Int.toNat r4) (IntKind.wrap .i64 (y8_2 + ((y8_0.getD (Int.toNat r4) (0, [])).1)))).length : Int)) then impl_ScheduleOf_l8 n y8_0 (if ((y8_6.set (Int.toNat r4) (IntKind.wrap .i64 (y8_2 + ((y8_0.getD (Int.toNat r4) (0, [])).1)))).getD (Int.toNat r4) 0) > y8_1 then ((y8_6.set (Int.toNat r4) (IntKind.wrap .i64 (y8_2 + ((y8_0.getD (Int.toNat r4) (0, [])).1)))).getD (Int.toNat r4) 0) else y8_1) y8_2 y8_3 (IntKind.wrap .i64 (y8_4 + 1)) (y8_5.set (Int.toNat y8_4) (IntKind.wrap .i64 (y8_2 + ((y8_0.getD (Int.toNat r4) (0, [])).1)))) (y8_6.set (Int.toNat r4) (IntKind.wrap .i64 (y8_2 + ((y8_0.getD (Int.toNat r4) (0, [])).1)))) (y8_7 ++ [(r4, (y8_4, y8_2))]) kexit2 else none) else none) else none) else none) else none) else none) else none) else none) else none) else none) else none) else impl_ScheduleOf_l8 n y8_0 y8_1 y8_2 y8_3 (IntKind.wrap .i64 (y8_4 + 1)) y8_5 y8_6 y8_7 kexit2))) else none) else none) else kexit2 y8_0 y8_1 y8_2 y8_5 y8_6 y8_7)) (fun r0 r1 r2 r3 r4 r5 => kk (.exit 2) (PkS.pack Timpl_ScheduleOf_l8_0 (r0, r1, r2, r3, r4, r5, ()))) := by kernel_rfl
theorem leimpl_ScheduleOf_l8 : LoopEq tt sig (fun n => mkK [(49, Kimpl_GoodPlan @impl_GoodPlan n), (108, Kimpl_workersOk @impl_workersOk n), (109, Kslices_Repeat_int @slices_Repeat_int n), (110, Kimpl_crew_ready @impl_crew_ready n)]) (fun n => mkL (mkK [(49, Kimpl_GoodPlan @impl_GoodPlan n), (108, Kimpl_workersOk @impl_workersOk n), (109, Kslices_Repeat_int @slices_Repeat_int n), (110, Kimpl_crew_ready @impl_crew_ready n)]) []) Dimpl_ScheduleOf_l8 Simpl_ScheduleOf_l8 (loopIn 8 (bodyOf Try.f51)) (Pimpl_ScheduleOf_l8 @impl_ScheduleOf_l8) where
  zero R q kk := by unfold Pimpl_ScheduleOf_l8; cases (PkS.un Simpl_ScheduleOf_l8 q) <;> rfl
  succ n R q kk := by
    unfold Pimpl_ScheduleOf_l8
    cases h : (PkS.un Simpl_ScheduleOf_l8 q) with
    | none => rfl
    | some d =>
      obtain ⟨y8_0, y8_1, y8_2, y8_3, y8_4, y8_5, y8_6, y8_7, u⟩ := (d : (List (Int × List Int)) × Int × Int × Int × Int × (List Int) × (List Int) × (List (Int × Int × Int)) × Unit)
      have hp := PkS.un_pack h
      subst hp
      exact (eimpl_ScheduleOf_l8 @impl_GoodPlan @impl_workersOk @slices_Repeat_int @impl_crew_ready @impl_ScheduleOf_l8 n y8_0 y8_1 y8_2 y8_3 y8_4 y8_5 y8_6 y8_7 kk).symm
theorem nlimpl_ScheduleOf_l8 : ∀ n, NatLP (Pimpl_ScheduleOf_l8 @impl_ScheduleOf_l8 n) := leimpl_ScheduleOf_l8.nat (fun n => mkK_nat (cimpl_ScheduleOf n)) fun n => mkL_nat (mkK_nat (cimpl_ScheduleOf n)) (l := []) trivial
theorem inimpl_ScheduleOf_l8 (n : Nat) (R : Type) : LoopsOk Try.prog (mkL (mkK [(49, Kimpl_GoodPlan @impl_GoodPlan n), (108, Kimpl_workersOk @impl_workersOk n), (109, Kslices_Repeat_int @slices_Repeat_int n), (110, Kimpl_crew_ready @impl_crew_ready n)]) [] R) (loopIn 8 (bodyOf Try.f51)) := .eq (l := []) (by kernel_rfl) trivial
theorem lkimpl_ScheduleOf_l8 (n : Nat) (R : Type) (L0 : LK R) (h0 : ∀ id, firstRegion (loopIn 8 (bodyOf Try.f51)) = some id → L0 id = Dimpl_ScheduleOf_l8.oracle (mkK [(49, Kimpl_GoodPlan @impl_GoodPlan n), (108, Kimpl_workersOk @impl_workersOk n), (109, Kslices_Repeat_int @slices_Repeat_int n), (110, Kimpl_crew_ready @impl_crew_ready n)] R) (Pimpl_ScheduleOf_l8 @impl_ScheduleOf_l8 n R)) : LoopOk Try.prog L0 (loopIn 8 (bodyOf Try.f51)) :=
  leimpl_ScheduleOf_l8.ok mixed ttok (fun n => mkK_nat (cimpl_ScheduleOf n)) (fun n => mkK_ok (cimpl_ScheduleOf n)) (fun n => inimpl_ScheduleOf_l8 n R) (mkK_nat (cimpl_ScheduleOf n)) h0
@[reducible] def Simpl_ScheduleOf_l5 : PkS := ⟨[.one (.ro (.pr (.int .i64) (.sl (.int .i64)))), .one (.box (100000, 2) 0), .one (.whole (100000, 3)), .one (.int .i64), .one (.int .i64), .one (.dead), .one (.dead)], [((100000, 0), .arr (.int .i64)), ((100000, 1), .arr (.int .i64)), ((100000, 2), .box [.whole (100000, 0), .whole (100000, 1)]), ((100000, 3), .arr (.pr (.int .i64) (.pr (.int .i64) (.int .i64))))]⟩
@[reducible] def Timpl_ScheduleOf_l5_0 : PkS := ⟨[.one (.whole (100000, 0)), .one (.int .i64), .one (.dead), .one (.dead)], [((100000, 0), .arr (.pr (.int .i64) (.pr (.int .i64) (.int .i64))))]⟩
def Dimpl_ScheduleOf_l5 : LoopD := ⟨105, [0, 7, 8, 9, 10], [.one (.ro (.pr (.int .i64) (.sl (.int .i64)))), .box [(.own (.int .i64)), (.own (.int .i64))], .one (.own (.pr (.int .i64) (.pr (.int .i64) (.int .i64)))), .one .any, .one .any, .skip, .skip], fun x => match x with
  | .exit 0 => some ([8, 9], [.one (.own (.pr (.int .i64) (.pr (.int .i64) (.int .i64)))), .one .any, .skip, .skip])
  | _ => none⟩
def Pimpl_ScheduleOf_l5 (g : ∀ {R : Type}, Nat → (List (Int × List Int)) → Int → Int → (List Int) → (List Int) → (List (Int × Int × Int)) → (Int → (List (Int × Int × Int)) → Option R) → Option R) (n : Nat) : LPs := fun R q kk => match (PkS.un Simpl_ScheduleOf_l5 q : Option ((List (Int × List Int)) × Int × Int × (List Int) × (List Int) × (List (Int × Int × Int)) × Unit)) with
  | some (y5_0, y5_1, y5_2, y5_3, y5_4, y5_5, _) => g n y5_0 y5_1 y5_2 y5_3 y5_4 y5_5 (fun r0 r1 => kk (.exit 0) (PkS.pack Timpl_ScheduleOf_l5_0 (r0, r1, ())))
  | none => none
theorem eimpl_ScheduleOf_l5 (impl_GoodPlan : ∀ {R : Type}, Nat → (List (Int × List Int)) → (Bool → Option R) → Option R) (impl_workersOk : ∀ {R : Type}, Nat → Int → (Bool → Option R) → Option R) (slices_Repeat_int : ∀ {R : Type}, Nat → (List Int) → Int → ((List Int) → Option R) → Option R) (impl_crew_ready : ∀ {R : Type}, Nat → (List Int × List Int) → (List (Int × List Int)) → Int → (Int → Option R) → Option R) (impl_ScheduleOf_l8 : ∀ {R : Type}, Nat → (List (Int × List Int)) → Int → Int → Int → Int → (List Int) → (List Int) → (List (Int × Int × Int)) → ((List (Int × List Int)) → Int → Int → (List Int) → (List Int) → (List (Int × Int × Int)) → Option R) → Option R) (impl_ScheduleOf_l5 : ∀ {R : Type}, Nat → (List (Int × List Int)) → Int → Int → (List Int) → (List Int) → (List (Int × Int × Int)) → (Int → (List (Int × Int × Int)) → Option R) → Option R) {R : Type} (n : Nat) (y5_0 : List (Int × List Int)) (y5_1 : Int) (y5_2 : Int) (y5_3 : List Int) (y5_4 : List Int) (y5_5 : List (Int × Int × Int)) (kk : Ex → Pk → Option R) : Dimpl_ScheduleOf_l5.step tt sig (mkK [(49, Kimpl_GoodPlan @impl_GoodPlan n), (108, Kimpl_workersOk @impl_workersOk n), (109, Kslices_Repeat_int @slices_Repeat_int n), (110, Kimpl_crew_ready @impl_crew_ready n)] R) (mkL (mkK [(49, Kimpl_GoodPlan @impl_GoodPlan n), (108, Kimpl_workersOk @impl_workersOk n), (109, Kslices_Repeat_int @slices_Repeat_int n), (110, Kimpl_crew_ready @impl_crew_ready n)]) [(8, Dimpl_ScheduleOf_l8, Pimpl_ScheduleOf_l8 @impl_ScheduleOf_l8 n)] R) (loopIn 5 (bodyOf Try.f51)) (fun q' => Pimpl_ScheduleOf_l5 @impl_ScheduleOf_l5 n R q' kk) (PkS.pack Simpl_ScheduleOf_l5 (y5_0, y5_1, y5_2, y5_3, y5_4, y5_5, ())) kk = (fun (kexit0 : Int → (List (Int × Int × Int)) → Option R) => (bif (decide ((y5_5.length : Int) < (y5_0.length : Int))) then (impl_ScheduleOf_l8 n y5_0 y5_1 y5_2 (y5_3.length : Int) 0 y5_3 y5_4 y5_5 (fun r5 r6 r7 r8 r9 r10 => impl_ScheduleOf_l5 n r5 r6 (IntKind.wrap .i64 (r7 + 1)) r8 r9 r10 kexit0)) else kexit0 y5_1 y5_5)) (fun r0 r1 => kk (.exit 0) (PkS.pack Timpl_ScheduleOf_l5_0 (r0, r1, ()))) := by kernel_rfl
theorem leimpl_ScheduleOf_l5 : LoopEq tt sig (fun n => mkK [(49, Kimpl_GoodPlan @impl_GoodPlan n), (108, Kimpl_workersOk @impl_workersOk n), (109, Kslices_Repeat_int @slices_Repeat_int n), (110, Kimpl_crew_ready @impl_crew_ready n)]) (fun n => mkL (mkK [(49, Kimpl_GoodPlan @impl_GoodPlan n), (108, Kimpl_workersOk @impl_workersOk n), (109, Kslices_Repeat_int @slices_Repeat_int n), (110, Kimpl_crew_ready @impl_crew_ready n)]) [(8, Dimpl_ScheduleOf_l8, Pimpl_ScheduleOf_l8 @impl_ScheduleOf_l8 n)]) Dimpl_ScheduleOf_l5 Simpl_ScheduleOf_l5 (loopIn 5 (bodyOf Try.f51)) (Pimpl_ScheduleOf_l5 @impl_ScheduleOf_l5) where
  zero R q kk := by unfold Pimpl_ScheduleOf_l5; cases (PkS.un Simpl_ScheduleOf_l5 q) <;> rfl
  succ n R q kk := by
    unfold Pimpl_ScheduleOf_l5
    cases h : (PkS.un Simpl_ScheduleOf_l5 q) with
    | none => rfl
    | some d =>
      obtain ⟨y5_0, y5_1, y5_2, y5_3, y5_4, y5_5, u⟩ := (d : (List (Int × List Int)) × Int × Int × (List Int) × (List Int) × (List (Int × Int × Int)) × Unit)
      have hp := PkS.un_pack h
      subst hp
      exact (eimpl_ScheduleOf_l5 @impl_GoodPlan @impl_workersOk @slices_Repeat_int @impl_crew_ready @impl_ScheduleOf_l8 @impl_ScheduleOf_l5 n y5_0 y5_1 y5_2 y5_3 y5_4 y5_5 kk).symm
theorem nlimpl_ScheduleOf_l5 : ∀ n, NatLP (Pimpl_ScheduleOf_l5 @impl_ScheduleOf_l5 n) := leimpl_ScheduleOf_l5.nat (fun n => mkK_nat (cimpl_ScheduleOf n)) fun n => mkL_nat (mkK_nat (cimpl_ScheduleOf n)) (l := [(8, Dimpl_ScheduleOf_l8, Pimpl_ScheduleOf_l8 @impl_ScheduleOf_l8 n)]) ⟨nlimpl_ScheduleOf_l8 n, trivial⟩
theorem inimpl_ScheduleOf_l5 (n : Nat) (R : Type) : LoopsOk Try.prog (mkL (mkK [(49, Kimpl_GoodPlan @impl_GoodPlan n), (108, Kimpl_workersOk @impl_workersOk n), (109, Kslices_Repeat_int @slices_Repeat_int n), (110, Kimpl_crew_ready @impl_crew_ready n)]) [(8, Dimpl_ScheduleOf_l8, Pimpl_ScheduleOf_l8 @impl_ScheduleOf_l8 n)] R) (loopIn 5 (bodyOf Try.f51)) := .eq (l := [.lo (loopIn 8 (bodyOf Try.f51))]) (by kernel_rfl) ⟨(lkimpl_ScheduleOf_l8 n R _ (at_id (i := 8) (by kernel_rfl) rfl)), trivial⟩
theorem lkimpl_ScheduleOf_l5 (n : Nat) (R : Type) (L0 : LK R) (h0 : ∀ id, firstRegion (loopIn 5 (bodyOf Try.f51)) = some id → L0 id = Dimpl_ScheduleOf_l5.oracle (mkK [(49, Kimpl_GoodPlan @impl_GoodPlan n), (108, Kimpl_workersOk @impl_workersOk n), (109, Kslices_Repeat_int @slices_Repeat_int n), (110, Kimpl_crew_ready @impl_crew_ready n)] R) (Pimpl_ScheduleOf_l5 @impl_ScheduleOf_l5 n R)) : LoopOk Try.prog L0 (loopIn 5 (bodyOf Try.f51)) :=
  leimpl_ScheduleOf_l5.ok mixed ttok (fun n => mkK_nat (cimpl_ScheduleOf n)) (fun n => mkK_ok (cimpl_ScheduleOf n)) (fun n => inimpl_ScheduleOf_l5 n R) (mkK_nat (cimpl_ScheduleOf n)) h0
@[reducible] def Simpl_ScheduleOf : PkS := ⟨[.one (.ro (.pr (.int .i64) (.sl (.int .i64)))), .one (.int .i64)], []⟩
@[reducible] def Timpl_ScheduleOf : PkS := ⟨[.tup [(false, [.whole (300000, 0)]), (false, [.int .i64]), (false, [.bool])], .one (.dead), .one (.dead)], [((300000, 0), .arr (.pr (.int .i64) (.pr (.int .i64) (.int .i64))))]⟩
def Himpl_ScheduleOf : List Sh := [.tup [(false, [(.own (.pr (.int .i64) (.pr (.int .i64) (.int .i64))))]), (false, [.any]), (false, [.any])], .skip, .skip]
def Kimpl_ScheduleOf (g : ∀ {R : Type}, Nat → (List (Int × List Int)) → Int → (Int → Bool → (List (Int × Int × Int)) → Option R) → Option R) (n : Nat) : KPs := fun R p k => match (PkS.un Simpl_ScheduleOf p : Option ((List (Int × List Int)) × Int × Unit)) with
  | some (x0, x1, _) => g n x0 x1 (fun r0 r1 r2 => k (PkS.pack Timpl_ScheduleOf (r0, r1, r2, ())))
  | none => none
theorem eimpl_ScheduleOf (impl_GoodPlan : ∀ {R : Type}, Nat → (List (Int × List Int)) → (Bool → Option R) → Option R) (impl_workersOk : ∀ {R : Type}, Nat → Int → (Bool → Option R) → Option R) (slices_Repeat_int : ∀ {R : Type}, Nat → (List Int) → Int → ((List Int) → Option R) → Option R) (impl_crew_ready : ∀ {R : Type}, Nat → (List Int × List Int) → (List (Int × List Int)) → Int → (Int → Option R) → Option R) (impl_ScheduleOf_l8 : ∀ {R : Type}, Nat → (List (Int × List Int)) → Int → Int → Int → Int → (List Int) → (List Int) → (List (Int × Int × Int)) → ((List (Int × List Int)) → Int → Int → (List Int) → (List Int) → (List (Int × Int × Int)) → Option R) → Option R) (impl_ScheduleOf_l5 : ∀ {R : Type}, Nat → (List (Int × List Int)) → Int → Int → (List Int) → (List Int) → (List (Int × Int × Int)) → (Int → (List (Int × Int × Int)) → Option R) → Option R) {R : Type} (n : Nat) (x0 : List (Int × List Int)) (x1 : Int) (k : Pk → Option R) : evF tt sig (mkK [(49, Kimpl_GoodPlan @impl_GoodPlan n), (108, Kimpl_workersOk @impl_workersOk n), (109, Kslices_Repeat_int @slices_Repeat_int n), (110, Kimpl_crew_ready @impl_crew_ready n)] R) (mkL (mkK [(49, Kimpl_GoodPlan @impl_GoodPlan n), (108, Kimpl_workersOk @impl_workersOk n), (109, Kslices_Repeat_int @slices_Repeat_int n), (110, Kimpl_crew_ready @impl_crew_ready n)]) [(8, Dimpl_ScheduleOf_l8, Pimpl_ScheduleOf_l8 @impl_ScheduleOf_l8 n), (5, Dimpl_ScheduleOf_l5, Pimpl_ScheduleOf_l5 @impl_ScheduleOf_l5 n)] R) Try.f51 Himpl_ScheduleOf (PkS.pack Simpl_ScheduleOf (x0, x1, ())) k = (fun (k : Int → Bool → (List (Int × Int × Int)) → Option R) => (impl_GoodPlan n x0 fun r1 => (bif (!r1) then k 0 false ([] : List (Int × Int × Int)) else (impl_workersOk n x1 fun r2 => (bif (!r2) then k 0 false ([] : List (Int × Int × Int)) else (bif decide (0 ≤ x1) then (bif decide (x1 ≤ x1) then (bif decide (x1 ≤ 1099511627776) then (slices_Repeat_int n [(-1)] (x0.length : Int) fun r3 => (impl_ScheduleOf_l5 n x0 0 0 (List.replicate (Int.toNat x1) (0 : Int)) r3 ([] : List (Int × Int × Int)) (fun r11 r12 => k r11 true r12))) else none) else none) else none)))))) (fun r0 r1 r2 => k (PkS.pack Timpl_ScheduleOf (r0, r1, r2, ()))) := by kernel_rfl
theorem okimpl_ScheduleOf (n : Nat) : FnOk Try.prog 51 (Kimpl_ScheduleOf @impl_ScheduleOf n) := by
  refine fn_ok (sig := sig) mixed ttok (mkK_nat (cimpl_ScheduleOf n)) (mkK_ok (cimpl_ScheduleOf n)) (mkL_nat (mkK_nat (cimpl_ScheduleOf n)) (l := [(8, Dimpl_ScheduleOf_l8, Pimpl_ScheduleOf_l8 @impl_ScheduleOf_l8 n), (5, Dimpl_ScheduleOf_l5, Pimpl_ScheduleOf_l5 @impl_ScheduleOf_l5 n)]) ⟨nlimpl_ScheduleOf_l8 n, ⟨nlimpl_ScheduleOf_l5 n, trivial⟩⟩) (fn := Try.f51) (c := bodyOf Try.f51) (by kernel_rfl) (by kernel_rfl) (by kernel_rfl) (.eq (l := [.lo (loopIn 5 (bodyOf Try.f51))]) (by kernel_rfl) ⟨(lkimpl_ScheduleOf_l5 n _ _ (at_id (i := 5) (by kernel_rfl) rfl)), trivial⟩) (shs := Himpl_ScheduleOf) (S := Simpl_ScheduleOf) (h1 := by kernel_rfl) fun R p k => ?_
  unfold Kimpl_ScheduleOf
  cases h : (PkS.un Simpl_ScheduleOf p) with
  | none => rfl
  | some d =>
    obtain ⟨x0, x1, u⟩ := (d : (List (Int × List Int)) × Int × Unit)
    have hp := PkS.un_pack h
    subst hp
    exact (eimpl_ScheduleOf @impl_GoodPlan @impl_workersOk @slices_Repeat_int @impl_crew_ready @impl_ScheduleOf_l8 @impl_ScheduleOf_l5 n x0 x1 k).symm

/-! ### loop.example/g00269/spec.l1In -/
theorem cspec_l1In (n : Nat) : AllOk Try.prog [] := trivial
@[reducible] def Sspec_l1In : PkS := ⟨[.one (.int .i64), .one (.int .i64), .one (.int .i64)], []⟩
@[reducible] def Tspec_l1In : PkS := ⟨[.one (.bool), .one (.dead), .one (.dead), .one (.dead)], []⟩
def Hspec_l1In : List Sh := [.one .any, .skip, .skip, .skip]
def Kspec_l1In (g : ∀ {R : Type}, Nat → Int → Int → Int → (Bool → Option R) → Option R) (n : Nat) : KPs := fun R p k => match (PkS.un Sspec_l1In p : Option (Int × Int × Int × Unit)) with
  | some (x0, x1, x2, _) => g n x0 x1 x2 (fun r0 => k (PkS.pack Tspec_l1In (r0, ())))
  | none => none
theorem espec_l1In  {R : Type} (n : Nat) (x0 : Int) (x1 : Int) (x2 : Int) (k : Pk → Option R) : evF tt sig (mkK [] R) (mkL (mkK []) [] R) Try.f72 Hspec_l1In (PkS.pack Sspec_l1In (x0, x1, x2, ())) k = (fun (k : Bool → Option R) => (bif (decide (x0 ≥ x1)) then k (decide (x0 ≤ x2)) else k false)) (fun r0 => k (PkS.pack Tspec_l1In (r0, ()))) := by kernel_rfl
theorem okspec_l1In (n : Nat) : FnOk Try.prog 72 (Kspec_l1In @spec_l1In n) := by
  refine fn_ok (sig := sig) mixed ttok (mkK_nat (cspec_l1In n)) (mkK_ok (cspec_l1In n)) (mkL_nat (mkK_nat (cspec_l1In n)) (l := []) trivial) (fn := Try.f72) (c := bodyOf Try.f72) (by kernel_rfl) (by kernel_rfl) (by kernel_rfl) (.eq (l := []) (by kernel_rfl) trivial) (shs := Hspec_l1In) (S := Sspec_l1In) (h1 := by kernel_rfl) fun R p k => ?_
  unfold Kspec_l1In
  cases h : (PkS.un Sspec_l1In p) with
  | none => rfl
  | some d =>
    obtain ⟨x0, x1, x2, u⟩ := (d : Int × Int × Int × Unit)
    have hp := PkS.un_pack h
    subst hp
    exact (espec_l1In  n x0 x1 x2 k).symm

/-! ### loop.example/g00269/spec.l3List -/
theorem cspec_l3List (n : Nat) : AllOk Try.prog [(72, Kspec_l1In @spec_l1In n)] := ⟨okspec_l1In n, trivial⟩
@[reducible] def Sspec_l3List_l2 : PkS := ⟨[.one (.ro (.int .i64)), .one (.int .i64), .one (.ro (.int .i64)), .one (.int .i64), .one (.int .i64), .one (.dead), .one (.dead)], []⟩
@[reducible] def Tspec_l3List_l2_0 : PkS := ⟨[.one (.bool), .one (.dead), .one (.dead)], []⟩
@[reducible] def Tspec_l3List_l2_1 : PkS := ⟨[.one (.dead), .one (.dead)], []⟩
def Dspec_l3List_l2 : LoopD := ⟨33, [0, 1, 7, 8, 9], [.one (.ro (.int .i64)), .one .any, .one (.ro (.int .i64)), .one .any, .one .any, .skip, .skip], fun x => match x with
  | .ret => some ([4], [.one .any, .skip, .skip])
  | .exit 0 => some ([], [.skip, .skip])
  | _ => none⟩
def Pspec_l3List_l2 (g : ∀ {R : Type}, Nat → (List Int) → Int → (List Int) → Int → Int → (Bool → Option R) → (Option R) → Option R) (n : Nat) : LPs := fun R q kk => match (PkS.un Sspec_l3List_l2 q : Option ((List Int) × Int × (List Int) × Int × Int × Unit)) with
  | some (y2_0, y2_1, y2_2, y2_3, y2_4, _) => g n y2_0 y2_1 y2_2 y2_3 y2_4 (fun r0 => kk .ret (PkS.pack Tspec_l3List_l2_0 (r0, ()))) (kk (.exit 0) (PkS.pack Tspec_l3List_l2_1 ()))
  | none => none
theorem espec_l3List_l2 (spec_l1In : ∀ {R : Type}, Nat → Int → Int → Int → (Bool → Option R) → Option R) (spec_l3List_l2 : ∀ {R : Type}, Nat → (List Int) → Int → (List Int) → Int → Int → (Bool → Option R) → (Option R) → Option R) {R : Type} (n : Nat) (y2_0 : List Int) (y2_1 : Int) (y2_2 : List Int) (y2_3 : Int) (y2_4 : Int) (kk : Ex → Pk → Option R) : Dspec_l3List_l2.step tt sig (mkK [(72, Kspec_l1In @spec_l1In n)] R) (mkL (mkK [(72, Kspec_l1In @spec_l1In n)]) [] R) (loopIn 2 (bodyOf Try.f119)) (fun q' => Pspec_l3List_l2 @spec_l3List_l2 n R q' kk) (PkS.pack Sspec_l3List_l2 (y2_0, y2_1, y2_2, y2_3, y2_4, ())) kk = (fun (kret : Bool → Option R) (kexit0 : Option R) => (bif (decide (y2_4 < y2_3)) then (bif decide (0 ≤ y2_4) then (bif decide (y2_4 < (y2_2.length : Int)) then (spec_l1In n (y2_2.getD (Int.toNat y2_4) 0) 0 (IntKind.wrap .i64 (y2_1 - 1)) fun r1 => (bif (!r1) then kret false else (bif (decide (y2_4 > 0)) then (bif decide (0 ≤ (IntKind.wrap .i64 (y2_4 - 1))) then (bif decide ((IntKind.wrap .i64 (y2_4 - 1)) < (y2_0.length : Int)) then (bif (decide ((y2_0.getD (Int.toNat (IntKind.wrap .i64 (y2_4 - 1))) 0) ≥ (y2_2.getD (Int.toNat y2_4) 0))) then kret false else spec_l3List_l2 n y2_0 y2_1 y2_2 y2_3 (IntKind.wrap .i64 (y2_4 + 1)) kret kexit0) else none) else none) else spec_l3List_l2 n y2_0 y2_1 y2_2 y2_3 (IntKind.wrap .i64 (y2_4 + 1)) kret kexit0))) else none) else none) else kexit0)) (fun r0 => kk .ret (PkS.pack Tspec_l3List_l2_0 (r0, ()))) (kk (.exit 0) (PkS.pack Tspec_l3List_l2_1 ())) := by kernel_rfl
theorem lespec_l3List_l2 : LoopEq tt sig (fun n => mkK [(72, Kspec_l1In @spec_l1In n)]) (fun n => mkL (mkK [(72, Kspec_l1In @spec_l1In n)]) []) Dspec_l3List_l2 Sspec_l3List_l2 (loopIn 2 (bodyOf Try.f119)) (Pspec_l3List_l2 @spec_l3List_l2) where
  zero R q kk := by unfold Pspec_l3List_l2; cases (PkS.un Sspec_l3List_l2 q) <;> rfl
  succ n R q kk := by
    unfold Pspec_l3List_l2
    cases h : (PkS.un Sspec_l3List_l2 q) with
    | none => rfl
    | some d =>
      obtain ⟨y2_0, y2_1, y2_2, y2_3, y2_4, u⟩ := (d : (List Int) × Int × (List Int) × Int × Int × Unit)
      have hp := PkS.un_pack h
      subst hp
      exact (espec_l3List_l2 @spec_l1In @spec_l3List_l2 n y2_0 y2_1 y2_2 y2_3 y2_4 kk).symm
theorem nlspec_l3List_l2 : ∀ n, NatLP (Pspec_l3List_l2 @spec_l3List_l2 n) := lespec_l3List_l2.nat (fun n => mkK_nat (cspec_l3List n)) fun n => mkL_nat (mkK_nat (cspec_l3List n)) (l := []) trivial
theorem inspec_l3List_l2 (n : Nat) (R : Type) : LoopsOk Try.prog (mkL (mkK [(72, Kspec_l1In @spec_l1In n)]) [] R) (loopIn 2 (bodyOf Try.f119)) := .eq (l := []) (by kernel_rfl) trivial
theorem lkspec_l3List_l2 (n : Nat) (R : Type) (L0 : LK R) (h0 : ∀ id, firstRegion (loopIn 2 (bodyOf Try.f119)) = some id → L0 id = Dspec_l3List_l2.oracle (mkK [(72, Kspec_l1In @spec_l1In n)] R) (Pspec_l3List_l2 @spec_l3List_l2 n R)) : LoopOk Try.prog L0 (loopIn 2 (bodyOf Try.f119)) :=
  lespec_l3List_l2.ok mixed ttok (fun n => mkK_nat (cspec_l3List n)) (fun n => mkK_ok (cspec_l3List n)) (fun n => inspec_l3List_l2 n R) (mkK_nat (cspec_l3List n)) h0
@[reducible] def Sspec_l3List : PkS := ⟨[.one (.ro (.int .i64)), .one (.int .i64)], []⟩
@[reducible] def Tspec_l3List : PkS := ⟨[.one (.bool), .one (.dead), .one (.dead)], []⟩
def Hspec_l3List : List Sh := [.one .any, .skip, .skip]
def Kspec_l3List (g : ∀ {R : Type}, Nat → (List Int) → Int → (Bool → Option R) → Option R) (n : Nat) : KPs := fun R p k => match (PkS.un Sspec_l3List p : Option ((List Int) × Int × Unit)) with
  | some (x0, x1, _) => g n x0 x1 (fun r0 => k (PkS.pack Tspec_l3List (r0, ())))
  | none => none
theorem espec_l3List (spec_l1In : ∀ {R : Type}, Nat → Int → Int → Int → (Bool → Option R) → Option R) (spec_l3List_l2 : ∀ {R : Type}, Nat → (List Int) → Int → (List Int) → Int → Int → (Bool → Option R) → (Option R) → Option R) {R : Type} (n : Nat) (x0 : List Int) (x1 : Int) (k : Pk → Option R) : evF tt sig (mkK [(72, Kspec_l1In @spec_l1In n)] R) (mkL (mkK [(72, Kspec_l1In @spec_l1In n)]) [(2, Dspec_l3List_l2, Pspec_l3List_l2 @spec_l3List_l2 n)] R) Try.f119 Hspec_l3List (PkS.pack Sspec_l3List (x0, x1, ())) k = (fun (k : Bool → Option R) => (spec_l3List_l2 n x0 x1 x0 (x0.length : Int) 0 (fun r2 => k r2) (k true))) (fun r0 => k (PkS.pack Tspec_l3List (r0, ()))) := by kernel_rfl
theorem okspec_l3List (n : Nat) : FnOk Try.prog 119 (Kspec_l3List @spec_l3List n) := by
  refine fn_ok (sig := sig) mixed ttok (mkK_nat (cspec_l3List n)) (mkK_ok (cspec_l3List n)) (mkL_nat (mkK_nat (cspec_l3List n)) (l := [(2, Dspec_l3List_l2, Pspec_l3List_l2 @spec_l3List_l2 n)]) ⟨nlspec_l3List_l2 n, trivial⟩) (fn := Try.f119) (c := bodyOf Try.f119) (by kernel_rfl) (by kernel_rfl) (by kernel_rfl) (.eq (l := [.lo (loopIn 2 (bodyOf Try.f119))]) (by kernel_rfl) ⟨(lkspec_l3List_l2 n _ _ (at_id (i := 2) (by kernel_rfl) rfl)), trivial⟩) (shs := Hspec_l3List) (S := Sspec_l3List) (h1 := by kernel_rfl) fun R p k => ?_
  unfold Kspec_l3List
  cases h : (PkS.un Sspec_l3List p) with
  | none => rfl
  | some d =>
    obtain ⟨x0, x1, u⟩ := (d : (List Int) × Int × Unit)
    have hp := PkS.un_pack h
    subst hp
    exact (espec_l3List @spec_l1In @spec_l3List_l2 n x0 x1 k).symm

/-! ### loop.example/g00269/spec.l1Has -/
theorem cspec_l1Has (n : Nat) : AllOk Try.prog [] := trivial
@[reducible] def Sspec_l1Has_l2 : PkS := ⟨[.one (.int .i64), .one (.ro (.int .i64)), .one (.int .i64), .one (.int .i64), .one (.dead), .one (.dead)], []⟩
@[reducible] def Tspec_l1Has_l2_0 : PkS := ⟨[.one (.bool), .one (.dead), .one (.dead)], []⟩
@[reducible] def Tspec_l1Has_l2_1 : PkS := ⟨[.one (.dead), .one (.dead)], []⟩
def Dspec_l1Has_l2 : LoopD := ⟨17, [1, 7, 8, 9], [.one .any, .one (.ro (.int .i64)), .one .any, .one .any, .skip, .skip], fun x => match x with
  | .ret => some ([4], [.one .any, .skip, .skip])
  | .exit 0 => some ([], [.skip, .skip])
  | _ => none⟩
def Pspec_l1Has_l2 (g : ∀ {R : Type}, Nat → Int → (List Int) → Int → Int → (Bool → Option R) → (Option R) → Option R) (n : Nat) : LPs := fun R q kk => match (PkS.un Sspec_l1Has_l2 q : Option (Int × (List Int) × Int × Int × Unit)) with
  | some (y2_0, y2_1, y2_2, y2_3, _) => g n y2_0 y2_1 y2_2 y2_3 (fun r0 => kk .ret (PkS.pack Tspec_l1Has_l2_0 (r0, ()))) (kk (.exit 0) (PkS.pack Tspec_l1Has_l2_1 ()))
  | none => none
theorem espec_l1Has_l2 (spec_l1Has_l2 : ∀ {R : Type}, Nat → Int → (List Int) → Int → Int → (Bool → Option R) → (Option R) → Option R) {R : Type} (n : Nat) (y2_0 : Int) (y2_1 : List Int) (y2_2 : Int) (y2_3 : Int) (kk : Ex → Pk → Option R) : Dspec_l1Has_l2.step tt sig (mkK [] R) (mkL (mkK []) [] R) (loopIn 2 (bodyOf Try.f105)) (fun q' => Pspec_l1Has_l2 @spec_l1Has_l2 n R q' kk) (PkS.pack Sspec_l1Has_l2 (y2_0, y2_1, y2_2, y2_3, ())) kk = (fun (kret : Bool → Option R) (kexit0 : Option R) => (bif (decide (y2_3 < y2_2)) then (bif decide (0 ≤ y2_3) then (bif decide (y2_3 < (y2_1.length : Int)) then (bif ((y2_1.getD (Int.toNat y2_3) 0) == y2_0) then kret true else spec_l1Has_l2 n y2_0 y2_1 y2_2 (IntKind.wrap .i64 (y2_3 + 1)) kret kexit0) else none) else none) else kexit0)) (fun r0 => kk .ret (PkS.pack Tspec_l1Has_l2_0 (r0, ()))) (kk (.exit 0) (PkS.pack Tspec_l1Has_l2_1 ())) := by kernel_rfl
theorem lespec_l1Has_l2 : LoopEq tt sig (fun n => mkK []) (fun n => mkL (mkK []) []) Dspec_l1Has_l2 Sspec_l1Has_l2 (loopIn 2 (bodyOf Try.f105)) (Pspec_l1Has_l2 @spec_l1Has_l2) where
  zero R q kk := by unfold Pspec_l1Has_l2; cases (PkS.un Sspec_l1Has_l2 q) <;> rfl
  succ n R q kk := by
    unfold Pspec_l1Has_l2
    cases h : (PkS.un Sspec_l1Has_l2 q) with
    | none => rfl
    | some d =>
      obtain ⟨y2_0, y2_1, y2_2, y2_3, u⟩ := (d : Int × (List Int) × Int × Int × Unit)
      have hp := PkS.un_pack h
      subst hp
      exact (espec_l1Has_l2 @spec_l1Has_l2 n y2_0 y2_1 y2_2 y2_3 kk).symm
theorem nlspec_l1Has_l2 : ∀ n, NatLP (Pspec_l1Has_l2 @spec_l1Has_l2 n) := lespec_l1Has_l2.nat (fun n => mkK_nat (cspec_l1Has n)) fun n => mkL_nat (mkK_nat (cspec_l1Has n)) (l := []) trivial
theorem inspec_l1Has_l2 (n : Nat) (R : Type) : LoopsOk Try.prog (mkL (mkK []) [] R) (loopIn 2 (bodyOf Try.f105)) := .eq (l := []) (by kernel_rfl) trivial
theorem lkspec_l1Has_l2 (n : Nat) (R : Type) (L0 : LK R) (h0 : ∀ id, firstRegion (loopIn 2 (bodyOf Try.f105)) = some id → L0 id = Dspec_l1Has_l2.oracle (mkK [] R) (Pspec_l1Has_l2 @spec_l1Has_l2 n R)) : LoopOk Try.prog L0 (loopIn 2 (bodyOf Try.f105)) :=
  lespec_l1Has_l2.ok mixed ttok (fun n => mkK_nat (cspec_l1Has n)) (fun n => mkK_ok (cspec_l1Has n)) (fun n => inspec_l1Has_l2 n R) (mkK_nat (cspec_l1Has n)) h0
@[reducible] def Sspec_l1Has : PkS := ⟨[.one (.ro (.int .i64)), .one (.int .i64)], []⟩
@[reducible] def Tspec_l1Has : PkS := ⟨[.one (.bool), .one (.dead), .one (.dead)], []⟩
def Hspec_l1Has : List Sh := [.one .any, .skip, .skip]
def Kspec_l1Has (g : ∀ {R : Type}, Nat → (List Int) → Int → (Bool → Option R) → Option R) (n : Nat) : KPs := fun R p k => match (PkS.un Sspec_l1Has p : Option ((List Int) × Int × Unit)) with
  | some (x0, x1, _) => g n x0 x1 (fun r0 => k (PkS.pack Tspec_l1Has (r0, ())))
  | none => none
theorem espec_l1Has (spec_l1Has_l2 : ∀ {R : Type}, Nat → Int → (List Int) → Int → Int → (Bool → Option R) → (Option R) → Option R) {R : Type} (n : Nat) (x0 : List Int) (x1 : Int) (k : Pk → Option R) : evF tt sig (mkK [] R) (mkL (mkK []) [(2, Dspec_l1Has_l2, Pspec_l1Has_l2 @spec_l1Has_l2 n)] R) Try.f105 Hspec_l1Has (PkS.pack Sspec_l1Has (x0, x1, ())) k = (fun (k : Bool → Option R) => (spec_l1Has_l2 n x1 x0 (x0.length : Int) 0 (fun r1 => k r1) (k false))) (fun r0 => k (PkS.pack Tspec_l1Has (r0, ()))) := by kernel_rfl
theorem okspec_l1Has (n : Nat) : FnOk Try.prog 105 (Kspec_l1Has @spec_l1Has n) := by
  refine fn_ok (sig := sig) mixed ttok (mkK_nat (cspec_l1Has n)) (mkK_ok (cspec_l1Has n)) (mkL_nat (mkK_nat (cspec_l1Has n)) (l := [(2, Dspec_l1Has_l2, Pspec_l1Has_l2 @spec_l1Has_l2 n)]) ⟨nlspec_l1Has_l2 n, trivial⟩) (fn := Try.f105) (c := bodyOf Try.f105) (by kernel_rfl) (by kernel_rfl) (by kernel_rfl) (.eq (l := [.lo (loopIn 2 (bodyOf Try.f105))]) (by kernel_rfl) ⟨(lkspec_l1Has_l2 n _ _ (at_id (i := 2) (by kernel_rfl) rfl)), trivial⟩) (shs := Hspec_l1Has) (S := Sspec_l1Has) (h1 := by kernel_rfl) fun R p k => ?_
  unfold Kspec_l1Has
  cases h : (PkS.un Sspec_l1Has p) with
  | none => rfl
  | some d =>
    obtain ⟨x0, x1, u⟩ := (d : (List Int) × Int × Unit)
    have hp := PkS.un_pack h
    subst hp
    exact (espec_l1Has @spec_l1Has_l2 n x0 x1 k).symm

/-! ### loop.example/g00269/spec.l4Order -/
theorem cspec_l4Order (n : Nat) : AllOk Try.prog [(105, Kspec_l1Has @spec_l1Has n)] := ⟨okspec_l1Has n, trivial⟩
@[reducible] def Sspec_l4Order_l9 : PkS := ⟨[.one (.ro (.pr (.int .i64) (.sl (.int .i64)))), .one (.whole (100000, 0)), .one (.int .i64), .one (.int .i64), .one (.bool), .one (.ro (.pr (.int .i64) (.sl (.int .i64)))), .one (.int .i64), .one (.int .i64), .one (.ro (.int .i64)), .one (.int .i64), .one (.int .i64), .one (.dead)], [((100000, 0), .arr (.int .i64))]⟩
@[reducible] def Tspec_l4Order_l9_0 : PkS := ⟨[.one (.ro (.pr (.int .i64) (.sl (.int .i64)))), .one (.whole (100000, 0)), .one (.int .i64), .one (.int .i64), .one (.bool), .one (.ro (.pr (.int .i64) (.sl (.int .i64)))), .one (.int .i64), .one (.int .i64), .one (.dead)], [((100000, 0), .arr (.int .i64))]⟩
def Dspec_l4Order_l9 : LoopD := ⟨51, [0, 4, 5, 6, 8, 16, 17, 18, 28, 29, 30], [.one (.ro (.pr (.int .i64) (.sl (.int .i64)))), .one (.own (.int .i64)), .one .any, .one .any, .one .any, .one (.ro (.pr (.int .i64) (.sl (.int .i64)))), .one .any, .one .any, .one (.ro (.int .i64)), .one .any, .one .any, .skip], fun x => match x with
  | .exit 4 => some ([0, 4, 5, 6, 8, 16, 17, 18], [.one (.ro (.pr (.int .i64) (.sl (.int .i64)))), .one (.own (.int .i64)), .one .any, .one .any, .one .any, .one (.ro (.pr (.int .i64) (.sl (.int .i64)))), .one .any, .one .any, .skip])
  | _ => none⟩
def Pspec_l4Order_l9 (g : ∀ {R : Type}, Nat → (List (Int × List Int)) → Int → Int → Bool → (List (Int × List Int)) → Int → Int → (List Int) → Int → Int → (List Int) → ((List (Int × List Int)) → Int → Int → Bool → (List (Int × List Int)) → Int → Int → (List Int) → Option R) → Option R) (n : Nat) : LPs := fun R q kk => match (PkS.un Sspec_l4Order_l9 q : Option ((List (Int × List Int)) × Int × Int × Bool × (List (Int × List Int)) × Int × Int × (List Int) × Int × Int × (List Int) × Unit)) with
  | some (y9_0, y9_1, y9_2, y9_3, y9_4, y9_5, y9_6, y9_7, y9_8, y9_9, y9_10, _) => g n y9_0 y9_1 y9_2 y9_3 y9_4 y9_5 y9_6 y9_7 y9_8 y9_9 y9_10 (fun r0 r1 r2 r3 r4 r5 r6 r7 => kk (.exit 4) (PkS.pack Tspec_l4Order_l9_0 (r0, r1, r2, r3, r4, r5, r6, r7, ())))
  | none => none
theorem espec_l4Order_l9 (spec_l1Has : ∀ {R : Type}, Nat → (List Int) → Int → (Bool → Option R) → Option R) (spec_l4Order_l9 : ∀ {R : Type}, Nat → (List (Int × List Int)) → Int → Int → Bool → (List (Int × List Int)) → Int → Int → (List Int) → Int → Int → (List Int) → ((List (Int × List Int)) → Int → Int → Bool → (List (Int × List Int)) → Int → Int → (List Int) → Option R) → Option R) {R : Type} (n : Nat) (y9_0 : List (Int × List Int)) (y9_1 : Int) (y9_2 : Int) (y9_3 : Bool) (y9_4 : List (Int × List Int)) (y9_5 : Int) (y9_6 : Int) (y9_7 : List Int) (y9_8 : Int) (y9_9 : Int) (y9_10 : List Int) (kk : Ex → Pk → Option R) : Dspec_l4Order_l9.step tt sig (mkK [(105, Kspec_l1Has @spec_l1Has n)] R) (mkL (mkK [(105, Kspec_l1Has @spec_l1Has n)]) [] R) (loopIn 9 (bodyOf Try.f96)) (fun q' => Pspec_l4Order_l9 @spec_l4Order_l9 n R q' kk) (PkS.pack Sspec_l4Order_l9 (y9_0, y9_1, y9_2, y9_3, y9_4, y9_5, y9_6, y9_7, y9_8, y9_9, y9_10, ())) kk = (fun (kexit4 : (List (Int × List Int)) → Int → Int → Bool → (List (Int × List Int)) → Int → Int → (List Int) → Option R) => (bif (decide (y9_9 < y9_8)) then (bif decide (0 ≤ y9_9) then (bif decide (y9_9 < (y9_7.length : Int)) then (bif y9_3 then (spec_l1Has n y9_10 (y9_7.getD (Int.toNat y9_9) 0) fun r2 => spec_l4Order_l9 n y9_0 y9_1 y9_2 r2 y9_4 y9_5 y9_6 y9_7 y9_8 (IntKind.wrap .i64 (y9_9 + 1)) y9_10 kexit4) else spec_l4Order_l9 n y9_0 y9_1 y9_2 false y9_4 y9_5 y9_6 y9_7 y9_8 (IntKind.wrap .i64 (y9_9 + 1)) y9_10 kexit4) else none) else none) else kexit4 y9_0 y9_1 y9_2 y9_3 y9_4 y9_5 y9_6 y9_10)) (fun r0 r1 r2 r3 r4 r5 r6 r7 => kk (.exit 4) (PkS.pack Tspec_l4Order_l9_0 (r0, r1, r2, r3, r4, r5, r6, r7, ()))) := by kernel_rfl
theorem lespec_l4Order_l9 : LoopEq tt sig (fun n => mkK [(105, Kspec_l1Has @spec_l1Has n)]) (fun n => mkL (mkK [(105, Kspec_l1Has @spec_l1Has n)]) []) Dspec_l4Order_l9 Sspec_l4Order_l9 (loopIn 9 (bodyOf Try.f96)) (Pspec_l4Order_l9 @spec_l4Order_l9) where
  zero R q kk := by unfold Pspec_l4Order_l9; cases (PkS.un Sspec_l4Order_l9 q) <;> rfl
  succ n R q kk := by
    unfold Pspec_l4Order_l9
    cases h : (PkS.un Sspec_l4Order_l9 q) with
    | none => rfl
    | some d =>
      obtain ⟨y9_0, y9_1, y9_2, y9_3, y9_4, y9_5, y9_6, y9_7, y9_8, y9_9, y9_10, u⟩ := (d : (List (Int × List Int)) × Int × Int × Bool × (List (Int × List Int)) × Int × Int × (List Int) × Int × Int × (List Int) × Unit)
      have hp := PkS.un_pack h
      subst hp
      exact (espec_l4Order_l9 @spec_l1Has @spec_l4Order_l9 n y9_0 y9_1 y9_2 y9_3 y9_4 y9_5 y9_6 y9_7 y9_8 y9_9 y9_10 kk).symm
theorem nlspec_l4Order_l9 : ∀ n, NatLP (Pspec_l4Order_l9 @spec_l4Order_l9 n) := lespec_l4Order_l9.nat (fun n => mkK_nat (cspec_l4Order n)) fun n => mkL_nat (mkK_nat (cspec_l4Order n)) (l := []) trivial
theorem inspec_l4Order_l9 (n : Nat) (R : Type) : LoopsOk Try.prog (mkL (mkK [(105, Kspec_l1Has @spec_l1Has n)]) [] R) (loopIn 9 (bodyOf Try.f96)) := .eq (l := []) (by kernel_rfl) trivial
theorem lkspec_l4Order_l9 (n : Nat) (R : Type) (L0 : LK R) (h0 : ∀ id, firstRegion (loopIn 9 (bodyOf Try.f96)) = some id → L0 id = Dspec_l4Order_l9.oracle (mkK [(105, Kspec_l1Has @spec_l1Has n)] R) (Pspec_l4Order_l9 @spec_l4Order_l9 n R)) : LoopOk Try.prog L0 (loopIn 9 (bodyOf Try.f96)) :=
  lespec_l4Order_l9.ok mixed ttok (fun n => mkK_nat (cspec_l4Order n)) (fun n => mkK_ok (cspec_l4Order n)) (fun n => inspec_l4Order_l9 n R) (mkK_nat (cspec_l4Order n)) h0
@[reducible] def Sspec_l4Order_l5 : PkS := ⟨[.one (.ro (.pr (.int .i64) (.sl (.int .i64)))), .one (.whole (100000, 0)), .one (.int .i64), .one (.ro (.pr (.int .i64) (.sl (.int .i64)))), .one (.int .i64), .one (.int .i64), .one (.dead)], [((100000, 0), .arr (.int .i64))]⟩
@[reducible] def Tspec_l4Order_l5_0 : PkS := ⟨[.one (.ro (.pr (.int .i64) (.sl (.int .i64)))), .one (.whole (100000, 0)), .one (.int .i64), .one (.dead)], [((100000, 0), .arr (.int .i64))]⟩
def Dspec_l4Order_l5 : LoopD := ⟨51, [0, 4, 5, 16, 17, 18], [.one (.ro (.pr (.int .i64) (.sl (.int .i64)))), .one (.own (.int .i64)), .one .any, .one (.ro (.pr (.int .i64) (.sl (.int .i64)))), .one .any, .one .any, .skip], fun x => match x with
  | .exit 2 => some ([0, 4, 5], [.one (.ro (.pr (.int .i64) (.sl (.int .i64)))), .one (.own (.int .i64)), .one .any, .skip])
  | _ => none⟩
def Pspec_l4Order_l5 (g : ∀ {R : Type}, Nat → (List (Int × List Int)) → Int → (List (Int × List Int)) → Int → Int → (List Int) → ((List (Int × List Int)) → Int → (List Int) → Option R) → Option R) (n : Nat) : LPs := fun R q kk => match (PkS.un Sspec_l4Order_l5 q : Option ((List (Int × List Int)) × Int × (List (Int × List Int)) × Int × Int × (List Int) × Unit)) with
  | some (y5_0, y5_1, y5_2, y5_3, y5_4, y5_5, _) => g n y5_0 y5_1 y5_2 y5_3 y5_4 y5_5 (fun r0 r1 r2 => kk (.exit 2) (PkS.pack Tspec_l4Order_l5_0 (r0, r1, r2, ())))
  | none => none
theorem espec_l4Order_l5 (spec_l1Has : ∀ {R : Type}, Nat → (List Int) → Int → (Bool → Option R) → Option R) (spec_l4Order_l9 : ∀ {R : Type}, Nat → (List (Int × List Int)) → Int → Int → Bool → (List (Int × List Int)) → Int → Int → (List Int) → Int → Int → (List Int) → ((List (Int × List Int)) → Int → Int → Bool → (List (Int × List Int)) → Int → Int → (List Int) → Option R) → Option R) (spec_l4Order_l5 : ∀ {R : Type}, Nat → (List (Int × List Int)) → Int → (List (Int × List Int)) → Int → Int → (List Int) → ((List (Int × List Int)) → Int → (List Int) → Option R) → Option R) {R : Type} (n : Nat) (y5_0 : List (Int × List Int)) (y5_1 : Int) (y5_2 : List (Int × List Int)) (y5_3 : Int) (y5_4 : Int) (y5_5 : List Int) (kk : Ex → Pk → Option R) : Dspec_l4Order_l5.step tt sig (mkK [(105, Kspec_l1Has @spec_l1Has n)] R) (mkL (mkK [(105, Kspec_l1Has @spec_l1Has n)]) [(9, Dspec_l4Order_l9, Pspec_l4Order_l9 @spec_l4Order_l9 n)] R) (loopIn 5 (bodyOf Try.f96)) (fun q' => Pspec_l4Order_l5 @spec_l4Order_l5 n R q' kk) (PkS.pack Sspec_l4Order_l5 (y5_0, y5_1, y5_2, y5_3, y5_4, y5_5, ())) kk = (fun (kexit2 : (List (Int × List Int)) → Int → (List Int) → Option R) => (bif (decide (y5_4 < y5_3)) then (bif decide (0 ≤ y5_4) then (bif decide (y5_4 < (y5_2.length : Int)) then (spec_l1Has n y5_5 y5_4 fun r1 => (spec_l4Order_l9 n y5_0 y5_1 y5_4 (!r1) y5_2 y5_3 y5_4 ((y5_2.getD (Int.toNat y5_4) (0, [])).2) (((y5_2.getD (Int.toNat y5_4) (0, [])).2).length : Int) 0 y5_5 (fun r3 r4 r5 r6 r7 r8 r9 r10 => (bif r6 then kexit2 r3 r5 r10 else spec_l4Order_l5 n r3 r4 r7 r8 (IntKind.wrap .i64 (r9 + 1)) r10 kexit2)))) else none) else none) else kexit2 y5_0 y5_1 y5_5)) (fun r0 r1 r2 => kk (.exit 2) (PkS.pack Tspec_l4Order_l5_0 (r0, r1, r2, ()))) := by kernel_rfl
theorem lespec_l4Order_l5 : LoopEq tt sig (fun n => mkK [(105, Kspec_l1Has @spec_l1Has n)]) (fun n => mkL (mkK [(105, Kspec_l1Has @spec_l1Has n)]) [(9, Dspec_l4Order_l9, Pspec_l4Order_l9 @spec_l4Order_l9 n)]) Dspec_l4Order_l5 Sspec_l4Order_l5 (loopIn 5 (bodyOf Try.f96)) (Pspec_l4Order_l5 @spec_l4Order_l5) where
  zero R q kk := by unfold Pspec_l4Order_l5; cases (PkS.un Sspec_l4Order_l5 q) <;> rfl
  succ n R q kk := by
    unfold Pspec_l4Order_l5
    cases h : (PkS.un Sspec_l4Order_l5 q) with
    | none => rfl
    | some d =>
      obtain ⟨y5_0, y5_1, y5_2, y5_3, y5_4, y5_5, u⟩ := (d : (List (Int × List Int)) × Int × (List (Int × List Int)) × Int × Int × (List Int) × Unit)
      have hp := PkS.un_pack h
      subst hp
      exact (espec_l4Order_l5 @spec_l1Has @spec_l4Order_l9 @spec_l4Order_l5 n y5_0 y5_1 y5_2 y5_3 y5_4 y5_5 kk).symm
theorem nlspec_l4Order_l5 : ∀ n, NatLP (Pspec_l4Order_l5 @spec_l4Order_l5 n) := lespec_l4Order_l5.nat (fun n => mkK_nat (cspec_l4Order n)) fun n => mkL_nat (mkK_nat (cspec_l4Order n)) (l := [(9, Dspec_l4Order_l9, Pspec_l4Order_l9 @spec_l4Order_l9 n)]) ⟨nlspec_l4Order_l9 n, trivial⟩
theorem inspec_l4Order_l5 (n : Nat) (R : Type) : LoopsOk Try.prog (mkL (mkK [(105, Kspec_l1Has @spec_l1Has n)]) [(9, Dspec_l4Order_l9, Pspec_l4Order_l9 @spec_l4Order_l9 n)] R) (loopIn 5 (bodyOf Try.f96)) := .eq (l := [.lo (loopIn 9 (bodyOf Try.f96))]) (by kernel_rfl) ⟨(lkspec_l4Order_l9 n R _ (at_id (i := 9) (by kernel_rfl) rfl)), trivial⟩
theorem lkspec_l4Order_l5 (n : Nat) (R : Type) (L0 : LK R) (h0 : ∀ id, firstRegion (loopIn 5 (bodyOf Try.f96)) = some id → L0 id = Dspec_l4Order_l5.oracle (mkK [(105, Kspec_l1Has @spec_l1Has n)] R) (Pspec_l4Order_l5 @spec_l4Order_l5 n R)) : LoopOk Try.prog L0 (loopIn 5 (bodyOf Try.f96)) :=
  lespec_l4Order_l5.ok mixed ttok (fun n => mkK_nat (cspec_l4Order n)) (fun n => mkK_ok (cspec_l4Order n)) (fun n => inspec_l4Order_l5 n R) (mkK_nat (cspec_l4Order n)) h0
@[reducible] def Sspec_l4Order_l2 : PkS := ⟨[.one (.ro (.pr (.int .i64) (.sl (.int .i64)))), .one (.whole (100000, 0)), .one (.dead)], [((100000, 0), .arr (.int .i64))]⟩
@[reducible] def Tspec_l4Order_l2_0 : PkS := ⟨[.one (.ro (.int .i64)), .one (.bool), .one (.dead)], []⟩
@[reducible] def Tspec_l4Order_l2_1 : PkS := ⟨[.one (.whole (100000, 0)), .one (.dead)], [((100000, 0), .arr (.int .i64))]⟩
def Dspec_l4Order_l2 : LoopD := ⟨51, [0, 4], [.one (.ro (.pr (.int .i64) (.sl (.int .i64)))), .one (.own (.int .i64)), .skip], fun x => match x with
  | .ret => some ([2, 3], [.one (.ro (.int .i64)), .one .any, .skip])
  | .exit 0 => some ([4], [.one (.own (.int .i64)), .skip])
  | _ => none⟩
def Pspec_l4Order_l2 (g : ∀ {R : Type}, Nat → (List (Int × List Int)) → (List Int) → ((List Int) → Bool → Option R) → ((List Int) → Option R) → Option R) (n : Nat) : LPs := fun R q kk => match (PkS.un Sspec_l4Order_l2 q : Option ((List (Int × List Int)) × (List Int) × Unit)) with
  | some (y2_0, y2_1, _) => g n y2_0 y2_1 (fun r0 r1 => kk .ret (PkS.pack Tspec_l4Order_l2_0 (r0, r1, ()))) (fun r0 => kk (.exit 0) (PkS.pack Tspec_l4Order_l2_1 (r0, ())))
  | none => none
theorem espec_l4Order_l2 (spec_l1Has : ∀ {R : Type}, Nat → (List Int) → Int → (Bool → Option R) → Option R) (spec_l4Order_l9 : ∀ {R : Type}, Nat → (List (Int × List Int)) → Int → Int → Bool → (List (Int × List Int)) → Int → Int → (List Int) → Int → Int → (List Int) → ((List (Int × List Int)) → Int → Int → Bool → (List (Int × List Int)) → Int → Int → (List Int) → Option R) → Option R) (spec_l4Order_l5 : ∀ {R : Type}, Nat → (List (Int × List Int)) → Int → (List (Int × List Int)) → Int → Int → (List Int) → ((List (Int × List Int)) → Int → (List Int) → Option R) → Option R) (spec_l4Order_l2 : ∀ {R : Type}, Nat → (List (Int × List Int)) → (List Int) → ((List Int) → Bool → Option R) → ((List Int) → Option R) → Option R) {R : Type} (n : Nat) (y2_0 : List (Int × List Int)) (y2_1 : List Int) (kk : Ex → Pk → Option R) : Dspec_l4Order_l2.step tt sig (mkK [(105, Kspec_l1Has @spec_l1Has n)] R) (mkL (mkK [(105, Kspec_l1Has @spec_l1Has n)]) [(9, Dspec_l4Order_l9, Pspec_l4Order_l9 @spec_l4Order_l9 n), (5, Dspec_l4Order_l5, Pspec_l4Order_l5 @spec_l4Order_l5 n)] R) (loopIn 2 (bodyOf Try.f96)) (fun q' => Pspec_l4Order_l2 @spec_l4Order_l2 n R q' kk) (PkS.pack Sspec_l4Order_l2 (y2_0, y2_1, ())) kk = (fun (kret : (List Int) → Bool → Option R) (kexit0 : (List Int) → Option R) => (bif (decide ((y2_1.length : Int) < (y2_0.length : Int))) then (spec_l4Order_l5 n y2_0 (-1) y2_0 (y2_0.length : Int) 0 y2_1 (fun r11 r12 r13 => (bif (decide (r12 < 0)) then kret ([] : List Int) false else (bif decide (r13.length + [r12].length ≤ LIM) then spec_l4Order_l2 n r11 (r13 ++ [r12]) kret kexit0 else none)))) else kexit0 y2_1)) (fun r0 r1 => kk .ret (PkS.pack Tspec_l4Order_l2_0 (r0, r1, ()))) (fun r0 => kk (.exit 0) (PkS.pack Tspec_l4Order_l2_1 (r0, ()))) := by kernel_rfl
theorem lespec_l4Order_l2 : LoopEq tt sig (fun n => mkK [(105, Kspec_l1Has @spec_l1Has n)]) (fun n => mkL (mkK [(105, Kspec_l1Has @spec_l1Has n)]) [(9, Dspec_l4Order_l9, Pspec_l4Order_l9 @spec_l4Order_l9 n), (5, Dspec_l4Order_l5, Pspec_l4Order_l5 @spec_l4Order_l5 n)]) Dspec_l4Order_l2 Sspec_l4Order_l2 (loopIn 2 (bodyOf Try.f96)) (Pspec_l4Order_l2 @spec_l4Order_l2) where
  zero R q kk := by unfold Pspec_l4Order_l2; cases (PkS.un Sspec_l4Order_l2 q) <;> rfl
  succ n R q kk := by
    unfold Pspec_l4Order_l2
    cases h : (PkS.un Sspec_l4Order_l2 q) with
    | none => rfl
    | some d =>
      obtain ⟨y2_0, y2_1, u⟩ := (d : (List (Int × List Int)) × (List Int) × Unit)
      have hp := PkS.un_pack h
      subst hp
      exact (espec_l4Order_l2 @spec_l1Has @spec_l4Order_l9 @spec_l4Order_l5 @spec_l4Order_l2 n y2_0 y2_1 kk).symm
theorem nlspec_l4Order_l2 : ∀ n, NatLP (Pspec_l4Order_l2 @spec_l4Order_l2 n) := lespec_l4Order_l2.nat (fun n => mkK_nat (cspec_l4Order n)) fun n => mkL_nat (mkK_nat (cspec_l4Order n)) (l := [(9, Dspec_l4Order_l9, Pspec_l4Order_l9 @spec_l4Order_l9 n), (5, Dspec_l4Order_l5, Pspec_l4Order_l5 @spec_l4Order_l5 n)]) ⟨nlspec_l4Order_l9 n, ⟨nlspec_l4Order_l5 n, trivial⟩⟩
theorem inspec_l4Order_l2 (n : Nat) (R : Type) : LoopsOk Try.prog (mkL (mkK [(105, Kspec_l1Has @spec_l1Has n)]) [(9, Dspec_l4Order_l9, Pspec_l4Order_l9 @spec_l4Order_l9 n), (5, Dspec_l4Order_l5, Pspec_l4Order_l5 @spec_l4Order_l5 n)] R) (loopIn 2 (bodyOf Try.f96)) := .eq (l := [.lo (loopIn 5 (bodyOf Try.f96))]) (by kernel_rfl) ⟨(lkspec_l4Order_l5 n R _ (at_id (i := 5) (by kernel_rfl) rfl)), trivial⟩
theorem lkspec_l4Order_l2 (n : Nat) (R : Type) (L0 : LK R) (h0 : ∀ id, firstRegion (loopIn 2 (bodyOf Try.f96)) = some id → L0 id = Dspec_l4Order_l2.oracle (mkK [(105, Kspec_l1Has @spec_l1Has n)] R) (Pspec_l4Order_l2 @spec_l4Order_l2 n R)) : LoopOk Try.prog L0 (loopIn 2 (bodyOf Try.f96)) :=
  lespec_l4Order_l2.ok mixed ttok (fun n => mkK_nat (cspec_l4Order n)) (fun n => mkK_ok (cspec_l4Order n)) (fun n => inspec_l4Order_l2 n R) (mkK_nat (cspec_l4Order n)) h0
@[reducible] def Sspec_l4Order : PkS := ⟨[.one (.ro (.pr (.int .i64) (.sl (.int .i64))))], []⟩
@[reducible] def Tspec_l4Order : PkS := ⟨[.tup [(false, [.ro (.int .i64)]), (false, [.bool])], .one (.dead)], []⟩
def Hspec_l4Order : List Sh := [.tup [(false, [(.ro (.int .i64))]), (false, [.any])], .skip]
def Kspec_l4Order (g : ∀ {R : Type}, Nat → (List (Int × List Int)) → ((List Int) → Bool → Option R) → Option R) (n : Nat) : KPs := fun R p k => match (PkS.un Sspec_l4Order p : Option ((List (Int × List Int)) × Unit)) with
  | some (x0, _) => g n x0 (fun r0 r1 => k (PkS.pack Tspec_l4Order (r0, r1, ())))
  | none => none
theorem espec_l4Order (spec_l1Has : ∀ {R : Type}, Nat → (List Int) → Int → (Bool → Option R) → Option R) (spec_l4Order_l9 : ∀ {R : Type}, Nat → (List (Int × List Int)) → Int → Int → Bool → (List (Int × List Int)) → Int → Int → (List Int) → Int → Int → (List Int) → ((List (Int × List Int)) → Int → Int → Bool → (List (Int × List Int)) → Int → Int → (List Int) → Option R) → Option R) (spec_l4Order_l5 : ∀ {R : Type}, Nat → (List (Int × List Int)) → Int → (List (Int × List Int)) → Int → Int → (List Int) → ((List (Int × List Int)) → Int → (List Int) → Option R) → Option R) (spec_l4Order_l2 : ∀ {R : Type}, Nat → (List (Int × List Int)) → (List Int) → ((List Int) → Bool → Option R) → ((List Int) → Option R) → Option R) {R : Type} (n : Nat) (x0 : List (Int × List Int)) (k : Pk → Option R) : evF tt sig (mkK [(105, Kspec_l1Has @spec_l1Has n)] R) (mkL (mkK [(105, Kspec_l1Has @spec_l1Has n)]) [(9, Dspec_l4Order_l9, Pspec_l4Order_l9 @spec_l4Order_l9 n), (5, Dspec_l4Order_l5, Pspec_l4Order_l5 @spec_l4Order_l5 n), (2, Dspec_l4Order_l2, Pspec_l4Order_l2 @spec_l4Order_l2 n)] R) Try.f96 Hspec_l4Order (PkS.pack Sspec_l4Order (x0, ())) k = (fun (k : (List Int) → Bool → Option R) => (spec_l4Order_l2 n x0 ([] : List Int) (fun r14 r15 => k r14 r15) (fun r16 => k r16 true))) (fun r0 r1 => k (PkS.pack Tspec_l4Order (r0, r1, ()))) := by kernel_rfl
theorem okspec_l4Order (n : Nat) : FnOk Try.prog 96 (Kspec_l4Order @spec_l4Order n) := by
  refine fn_ok (sig := sig) mixed ttok (mkK_nat (cspec_l4Order n)) (mkK_ok (cspec_l4Order n)) (mkL_nat (mkK_nat (cspec_l4Order n)) (l := [(9, Dspec_l4Order_l9, Pspec_l4Order_l9 @spec_l4Order_l9 n), (5, Dspec_l4Order_l5, Pspec_l4Order_l5 @spec_l4Order_l5 n), (2, Dspec_l4Order_l2, Pspec_l4Order_l2 @spec_l4Order_l2 n)]) ⟨nlspec_l4Order_l9 n, ⟨nlspec_l4Order_l5 n, ⟨nlspec_l4Order_l2 n, trivial⟩⟩⟩) (fn := Try.f96) (c := bodyOf Try.f96) (by kernel_rfl) (by kernel_rfl) (by kernel_rfl) (.eq (l := [.lo (loopIn 2 (bodyOf Try.f96))]) (by kernel_rfl) ⟨(lkspec_l4Order_l2 n _ _ (at_id (i := 2) (by kernel_rfl) rfl)), trivial⟩) (shs := Hspec_l4Order) (S := Sspec_l4Order) (h1 := by kernel_rfl) fun R p k => ?_
  unfold Kspec_l4Order
  cases h : (PkS.un Sspec_l4Order p) with
  | none => rfl
  | some d =>
    obtain ⟨x0, u⟩ := (d : (List (Int × List Int)) × Unit)
    have hp := PkS.un_pack h
    subst hp
    exact (espec_l4Order @spec_l1Has @spec_l4Order_l9 @spec_l4Order_l5 @spec_l4Order_l2 n x0 k).symm

/-! ### loop.example/g00269/spec.GoodPlan -/
theorem cspec_GoodPlan (n : Nat) : AllOk Try.prog [(72, Kspec_l1In @spec_l1In n), (119, Kspec_l3List @spec_l3List n), (105, Kspec_l1Has @spec_l1Has n), (96, Kspec_l4Order @spec_l4Order n)] := ⟨okspec_l1In n, ⟨okspec_l3List n, ⟨okspec_l1Has n, ⟨okspec_l4Order n, trivial⟩⟩⟩⟩
@[reducible] def Sspec_GoodPlan_l4 : PkS := ⟨[.one (.ro (.pr (.int .i64) (.sl (.int .i64)))), .one (.ro (.pr (.int .i64) (.sl (.int .i64)))), .one (.int .i64), .one (.int .i64), .one (.dead)], []⟩
@[reducible] def Tspec_GoodPlan_l4_0 : PkS := ⟨[.one (.bool), .one (.dead)], []⟩
@[reducible] def Tspec_GoodPlan_l4_1 : PkS := ⟨[.one (.ro (.pr (.int .i64) (.sl (.int .i64)))), .one (.dead)], []⟩
def Dspec_GoodPlan_l4 : LoopD := ⟨42, [0, 10, 11, 12], [.one (.ro (.pr (.int .i64) (.sl (.int .i64)))), .one (.ro (.pr (.int .i64) (.sl (.int .i64)))), .one .any, .one .any, .skip], fun x => match x with
  | .ret => some ([2], [.one .any, .skip])
  | .exit 0 => some ([0], [.one (.ro (.pr (.int .i64) (.sl (.int .i64)))), .skip])
  | _ => none⟩
def Pspec_GoodPlan_l4 (g : ∀ {R : Type}, Nat → (List (Int × List Int)) → (List (Int × List Int)) → Int → Int → (Bool → Option R) → ((List (Int × List Int)) → Option R) → Option R) (n : Nat) : LPs := fun R q kk => match (PkS.un Sspec_GoodPlan_l4 q : Option ((List (Int × List Int)) × (List (Int × List Int)) × Int × Int × Unit)) with
  | some (y4_0, y4_1, y4_2, y4_3, _) => g n y4_0 y4_1 y4_2 y4_3 (fun r0 => kk .ret (PkS.pack Tspec_GoodPlan_l4_0 (r0, ()))) (fun r0 => kk (.exit 0) (PkS.pack Tspec_GoodPlan_l4_1 (r0, ())))
  | none => none
theorem espec_GoodPlan_l4 (spec_l1In : ∀ {R : Type}, Nat → Int → Int → Int → (Bool → Option R) → Option R) (spec_l3List : ∀ {R : Type}, Nat → (List Int) → Int → (Bool → Option R) → Option R) (spec_l1Has : ∀ {R : Type}, Nat → (List Int) → Int → (Bool → Option R) → Option R) (spec_l4Order : ∀ {R : Type}, Nat → (List (Int × List Int)) → ((List Int) → Bool → Option R) → Option R) (spec_GoodPlan_l4 : ∀ {R : Type}, Nat → (List (Int × List Int)) → (List (Int × List Int)) → Int → Int → (Bool → Option R) → ((List (Int × List Int)) → Option R) → Option R) {R : Type} (n : Nat) (y4_0 : List (Int × List Int)) (y4_1 : List (Int × List Int)) (y4_2 : Int) (y4_3 : Int) (kk : Ex → Pk → Option R) : Dspec_GoodPlan_l4.step tt sig (mkK [(72, Kspec_l1In @spec_l1In n), (119, Kspec_l3List @spec_l3List n), (105, Kspec_l1Has @spec_l1Has n), (96, Kspec_l4Order @spec_l4Order n)] R) (mkL (mkK [(72, Kspec_l1In @spec_l1In n), (119, Kspec_l3List @spec_l3List n), (105, Kspec_l1Has @spec_l1Has n), (96, Kspec_l4Order @spec_l4Order n)]) [] R) (loopIn 4 (bodyOf Try.f95)) (fun q' => Pspec_GoodPlan_l4 @spec_GoodPlan_l4 n R q' kk) (PkS.pack Sspec_GoodPlan_l4 (y4_0, y4_1, y4_2, y4_3, ())) kk = (fun (kret : Bool → Option R) (kexit0 : (List (Int × List Int)) → Option R) => (bif (decide (y4_3 < y4_2)) then (bif decide (0 ≤ y4_3) then (bif decide (y4_3 < (y4_1.length : Int)) then (spec_l1In n ((y4_1.getD (Int.toNat y4_3) (0, [])).1) 1 100 fun r1 => (bif (!r1) then kret false else (spec_l3List n ((y4_1.getD (Int.toNat y4_3) (0, [])).2) (y4_0.length : Int) fun r2 => (bif (!r2) then kret false else (spec_l1Has n ((y4_1.getD (Int.toNat y4_3) (0, [])).2) y4_3 fun r3 => (bif r3 then kret false else spec_GoodPlan_l4 n y4_0 y4_1 y4_2 (IntKind.wrap .i64 (y4_3 + 1)) kret kexit0)))))) else none) else none) else kexit0 y4_0)) (fun r0 => kk .ret (PkS.pack Tspec_GoodPlan_l4_0 (r0, ()))) (fun r0 => kk (.exit 0) (PkS.pack Tspec_GoodPlan_l4_1 (r0, ()))) := by kernel_rfl
theorem lespec_GoodPlan_l4 : LoopEq tt sig (fun n => mkK [(72, Kspec_l1In @spec_l1In n), (119, Kspec_l3List @spec_l3List n), (105, Kspec_l1Has @spec_l1Has n), (96, Kspec_l4Order @spec_l4Order n)]) (fun n => mkL (mkK [(72, Kspec_l1In @spec_l1In n), (119, Kspec_l3List @spec_l3List n), (105, Kspec_l1Has @spec_l1Has n), (96, Kspec_l4Order @spec_l4Order n)]) []) Dspec_GoodPlan_l4 Sspec_GoodPlan_l4 (loopIn 4 (bodyOf Try.f95)) (Pspec_GoodPlan_l4 @spec_GoodPlan_l4) where
  zero R q kk := by unfold Pspec_GoodPlan_l4; cases (PkS.un Sspec_GoodPlan_l4 q) <;> rfl
  succ n R q kk := by
    unfold Pspec_GoodPlan_l4
    cases h : (PkS.un Sspec_GoodPlan_l4 q) with
    | none => rfl
    | some d =>
      obtain ⟨y4_0, y4_1, y4_2, y4_3, u⟩ := (d : (List (Int × List Int)) × (List (Int × List Int)) × Int × Int × Unit)
      have hp := PkS.un_pack h
      subst hp
      exact (espec_GoodPlan_l4 @spec_l1In @spec_l3List @spec_l1Has @spec_l4Order @spec_GoodPlan_l4 n y4_0 y4_1 y4_2 y4_3 kk).symm
theorem nlspec_GoodPlan_l4 : ∀ n, NatLP (Pspec_GoodPlan_l4 @spec_GoodPlan_l4 n) := lespec_GoodPlan_l4.nat (fun n => mkK_nat (cspec_GoodPlan n)) fun n => mkL_nat (mkK_nat (cspec_GoodPlan n)) (l := []) trivial
theorem inspec_GoodPlan_l4 (n : Nat) (R : Type) : LoopsOk Try.prog (mkL (mkK [(72, Kspec_l1In @spec_l1In n), (119, Kspec_l3List @spec_l3List n), (105, Kspec_l1Has @spec_l1Has n), (96, Kspec_l4Order @spec_l4Order n)]) [] R) (loopIn 4 (bodyOf Try.f95)) := .eq (l := []) (by kernel_rfl) trivial
theorem lkspec_GoodPlan_l4 (n : Nat) (R : Type) (L0 : LK R) (h0 : ∀ id, firstRegion (loopIn 4 (bodyOf Try.f95)) = some id → L0 id = Dspec_GoodPlan_l4.oracle (mkK [(72, Kspec_l1In @spec_l1In n), (119, Kspec_l3List @spec_l3List n), (105, Kspec_l1Has @spec_l1Has n), (96, Kspec_l4Order @spec_l4Order n)] R) (Pspec_GoodPlan_l4 @spec_GoodPlan_l4 n R)) : LoopOk Try.prog L0 (loopIn 4 (bodyOf Try.f95)) :=
  lespec_GoodPlan_l4.ok mixed ttok (fun n => mkK_nat (cspec_GoodPlan n)) (fun n => mkK_ok (cspec_GoodPlan n)) (fun n => inspec_GoodPlan_l4 n R) (mkK_nat (cspec_GoodPlan n)) h0
@[reducible] def Sspec_GoodPlan : PkS := ⟨[.one (.ro (.pr (.int .i64) (.sl (.int .i64))))], []⟩
@[reducible] def Tspec_GoodPlan : PkS := ⟨[.one (.bool), .one (.dead)], []⟩
def Hspec_GoodPlan : List Sh := [.one .any, .skip]
def Kspec_GoodPlan (g : ∀ {R : Type}, Nat → (List (Int × List Int)) → (Bool → Option R) → Option R) (n : Nat) : KPs := fun R p k => match (PkS.un Sspec_GoodPlan p : Option ((List (Int × List Int)) × Unit)) with
  | some (x0, _) => g n x0 (fun r0 => k (PkS.pack Tspec_GoodPlan (r0, ())))
  | none => none
theorem espec_GoodPlan (spec_l1In : ∀ {R : Type}, Nat → Int → Int → Int → (Bool → Option R) → Option R) (spec_l3List : ∀ {R : Type}, Nat → (List Int) → Int → (Bool → Option R) → Option R) (spec_l1Has : ∀ {R : Type}, Nat → (List Int) → Int → (Bool → Option R) → Option R) (spec_l4Order : ∀ {R : Type}, Nat → (List (Int × List Int)) → ((List Int) → Bool → Option R) → Option R) (spec_GoodPlan_l4 : ∀ {R : Type}, Nat → (List (Int × List Int)) → (List (Int × List Int)) → Int → Int → (Bool → Option R) → ((List (Int × List Int)) → Option R) → Option R) {R : Type} (n : Nat) (x0 : List (Int × List Int)) (k : Pk → Option R) : evF tt sig (mkK [(72, Kspec_l1In @spec_l1In n), (119, Kspec_l3List @spec_l3List n), (105, Kspec_l1Has @spec_l1Has n), (96, Kspec_l4Order @spec_l4Order n)] R) (mkL (mkK [(72, Kspec_l1In @spec_l1In n), (119, Kspec_l3List @spec_l3List n), (105, Kspec_l1Has @spec_l1Has n), (96, Kspec_l4Order @spec_l4Order n)]) [(4, Dspec_GoodPlan_l4, Pspec_GoodPlan_l4 @spec_GoodPlan_l4 n)] R) Try.f95 Hspec_GoodPlan (PkS.pack Sspec_GoodPlan (x0, ())) k = (fun (k : Bool → Option R) => (bif (decide ((x0.length : Int) > 30)) then k false else (spec_GoodPlan_l4 n x0 x0 (x0.length : Int) 0 (fun r4 => k r4) (fun r5 => (spec_l4Order n r5 fun r6 r7 => k r7))))) (fun r0 => k (PkS.pack Tspec_GoodPlan (r0, ()))) := by kernel_rfl
theorem okspec_GoodPlan (n : Nat) : FnOk Try.prog 95 (Kspec_GoodPlan @spec_GoodPlan n) := by
  refine fn_ok (sig := sig) mixed ttok (mkK_nat (cspec_GoodPlan n)) (mkK_ok (cspec_GoodPlan n)) (mkL_nat (mkK_nat (cspec_GoodPlan n)) (l := [(4, Dspec_GoodPlan_l4, Pspec_GoodPlan_l4 @spec_GoodPlan_l4 n)]) ⟨nlspec_GoodPlan_l4 n, trivial⟩) (fn := Try.f95) (c := bodyOf Try.f95) (by kernel_rfl) (by kernel_rfl) (by kernel_rfl) (.eq (l := [.lo (loopIn 4 (bodyOf Try.f95))]) (by kernel_rfl) ⟨(lkspec_GoodPlan_l4 n _ _ (at_id (i := 4) (by kernel_rfl) rfl)), trivial⟩) (shs := Hspec_GoodPlan) (S := Sspec_GoodPlan) (h1 := by kernel_rfl) fun R p k => ?_
  unfold Kspec_GoodPlan
  cases h : (PkS.un Sspec_GoodPlan p) with
  | none => rfl
  | some d =>
    obtain ⟨x0, u⟩ := (d : (List (Int × List Int)) × Unit)
    have hp := PkS.un_pack h
    subst hp
    exact (espec_GoodPlan @spec_l1In @spec_l3List @spec_l1Has @spec_l4Order @spec_GoodPlan_l4 n x0 k).symm

/-! ### loop.example/g00269/spec.ScheduleOf -/
theorem cspec_ScheduleOf (n : Nat) : AllOk Try.prog [(95, Kspec_GoodPlan @spec_GoodPlan n), (72, Kspec_l1In @spec_l1In n)] := ⟨okspec_GoodPlan n, ⟨okspec_l1In n, trivial⟩⟩
@[reducible] def Sspec_ScheduleOf_l7 : PkS := ⟨[.one (.ro (.pr (.int .i64) (.sl (.int .i64)))), .one (.whole (100000, 0)), .one (.whole (100000, 1)), .one (.whole (100000, 2)), .one (.int .i64), .one (.int .i64), .one (.dead), .one (.dead)], [((100000, 0), .arr (.pr (.int .i64) (.pr (.int .i64) (.int .i64)))), ((100000, 1), .arr (.int .i64)), ((100000, 2), .arr (.int .i64))]⟩
@[reducible] def Tspec_ScheduleOf_l7_0 : PkS := ⟨[.one (.ro (.pr (.int .i64) (.sl (.int .i64)))), .one (.whole (100000, 0)), .one (.whole (100000, 1)), .one (.whole (100000, 2)), .one (.dead), .one (.dead)], [((100000, 0), .arr (.pr (.int .i64) (.pr (.int .i64) (.int .i64)))), ((100000, 1), .arr (.int .i64)), ((100000, 2), .arr (.int .i64))]⟩
def Dspec_ScheduleOf_l7 : LoopD := ⟨125, [0, 7, 8, 9, 33, 34], [.one (.ro (.pr (.int .i64) (.sl (.int .i64)))), .one (.own (.pr (.int .i64) (.pr (.int .i64) (.int .i64)))), .one (.own (.int .i64)), .one (.own (.int .i64)), .one .any, .one .any, .skip, .skip], fun x => match x with
  | .exit 0 => some ([0, 7, 8, 9], [.one (.ro (.pr (.int .i64) (.sl (.int .i64)))), .one (.own (.pr (.int .i64) (.pr (.int .i64) (.int .i64)))), .one (.own (.int .i64)), .one (.own (.int .i64)), .skip, .skip])
  | _ => none⟩
def Pspec_ScheduleOf_l7 (g : ∀ {R : Type}, Nat → (List (Int × List Int)) → Int → Int → (List (Int × Int × Int)) → (List Int) → (List Int) → ((List (Int × List Int)) → (List (Int × Int × Int)) → (List Int) → (List Int) → Option R) → Option R) (n : Nat) : LPs := fun R q kk => match (PkS.un Sspec_ScheduleOf_l7 q : Option ((List (Int × List Int)) × Int × Int × (List (Int × Int × Int)) × (List Int) × (List Int) × Unit)) with
  | some (y7_0, y7_1, y7_2, y7_3, y7_4, y7_5, _) => g n y7_0 y7_1 y7_2 y7_3 y7_4 y7_5 (fun r0 r1 r2 r3 => kk (.exit 0) (PkS.pack Tspec_ScheduleOf_l7_0 (r0, r1, r2, r3, ())))
  | none => none
theorem espec_ScheduleOf_l7 (spec_GoodPlan : ∀ {R : Type}, Nat → (List (Int × List Int)) → (Bool → Option R) → Option R) (spec_l1In : ∀ {R : Type}, Nat → Int → Int → Int → (Bool → Option R) → Option R) (spec_ScheduleOf_l7 : ∀ {R : Type}, Nat → (List (Int × List Int)) → Int → Int → (List (Int × Int × Int)) → (List Int) → (List Int) → ((List (Int × List Int)) → (List (Int × Int × Int)) → (List Int) → (List Int) → Option R) → Option R) {R : Type} (n : Nat) (y7_0 : List (Int × List Int)) (y7_1 : Int) (y7_2 : Int) (y7_3 : List (Int × Int × Int)) (y7_4 : List Int) (y7_5 : List Int) (kk : Ex → Pk → Option R) : Dspec_ScheduleOf_l7.step tt sig (mkK [(95, Kspec_GoodPlan @spec_GoodPlan n), (72, Kspec_l1In @spec_l1In n)] R) (mkL (mkK [(95, Kspec_GoodPlan @spec_GoodPlan n), (72, Kspec_l1In @spec_l1In n)]) [] R) (loopIn 7 (bodyOf Try.f52)) (fun q' => Pspec_ScheduleOf_l7 @spec_ScheduleOf_l7 n R q' kk) (PkS.pack Sspec_ScheduleOf_l7 (y7_0, y7_1, y7_2, y7_3, y7_4, y7_5, ())) kk = (fun (kexit0 : (List (Int × List Int)) → (List (Int × Int × Int)) → (List Int) → (List Int) → Option R) => (bif (decide (y7_2 < y7_1)) then (bif decide (0 ≤ y7_2) then (bif decide (y7_2 < (y7_4.length : Int)) then spec_ScheduleOf_l7 n y7_0 y7_1 (IntKind.wrap .i64 (y7_2 + 1)) y7_3 (y7_4.set (Int.toNat y7_2) (-1)) y7_5 kexit0 else none) else none) else kexit0 y7_0 y7_3 y7_4 y7_5)) (fun r0 r1 r2 r3 => kk (.exit 0) (PkS.pack Tspec_ScheduleOf_l7_0 (r0, r1, r2, r3, ()))) := by kernel_rfl
theorem lespec_ScheduleOf_l7 : LoopEq tt sig (fun n => mkK [(95, Kspec_GoodPlan @spec_GoodPlan n), (72, Kspec_l1In @spec_l1In n)]) (fun n => mkL (mkK [(95, Kspec_GoodPlan @spec_GoodPlan n), (72, Kspec_l1In @spec_l1In n)]) []) Dspec_ScheduleOf_l7 Sspec_ScheduleOf_l7 (loopIn 7 (bodyOf Try.f52)) (Pspec_ScheduleOf_l7 @spec_ScheduleOf_l7) where
  zero R q kk := by unfold Pspec_ScheduleOf_l7; cases (PkS.un Sspec_ScheduleOf_l7 q) <;> rfl
  succ n R q kk := by
    unfold Pspec_ScheduleOf_l7
    cases h : (PkS.un Sspec_ScheduleOf_l7 q) with
    | none => rfl
    | some d =>
      obtain ⟨y7_0, y7_1, y7_2, y7_3, y7_4, y7_5, u⟩ := (d : (List (Int × List Int)) × Int × Int × (List (Int × Int × Int)) × (List Int) × (List Int) × Unit)
      have hp := PkS.un_pack h
      subst hp
      exact (espec_ScheduleOf_l7 @spec_GoodPlan @spec_l1In @spec_ScheduleOf_l7 n y7_0 y7_1 y7_2 y7_3 y7_4 y7_5 kk).symm
theorem nlspec_ScheduleOf_l7 : ∀ n, NatLP (Pspec_ScheduleOf_l7 @spec_ScheduleOf_l7 n) := lespec_ScheduleOf_l7.nat (fun n => mkK_nat (cspec_ScheduleOf n)) fun n => mkL_nat (mkK_nat (cspec_ScheduleOf n)) (l := []) trivial
theorem inspec_ScheduleOf_l7 (n : Nat) (R : Type) : LoopsOk Try.prog (mkL (mkK [(95, Kspec_GoodPlan @spec_GoodPlan n), (72, Kspec_l1In @spec_l1In n)]) [] R) (loopIn 7 (bodyOf Try.f52)) := .eq (l := []) (by kernel_rfl) trivial
theorem lkspec_ScheduleOf_l7 (n : Nat) (R : Type) (L0 : LK R) (h0 : ∀ id, firstRegion (loopIn 7 (bodyOf Try.f52)) = some id → L0 id = Dspec_ScheduleOf_l7.oracle (mkK [(95, Kspec_GoodPlan @spec_GoodPlan n), (72, Kspec_l1In @spec_l1In n)] R) (Pspec_ScheduleOf_l7 @spec_ScheduleOf_l7 n R)) : LoopOk Try.prog L0 (loopIn 7 (bodyOf Try.f52)) :=
  lespec_ScheduleOf_l7.ok mixed ttok (fun n => mkK_nat (cspec_ScheduleOf n)) (fun n => mkK_ok (cspec_ScheduleOf n)) (fun n => inspec_ScheduleOf_l7 n R) (mkK_nat (cspec_ScheduleOf n)) h0
@[reducible] def Sspec_ScheduleOf_l24 : PkS := ⟨[.one (.ro (.pr (.int .i64) (.sl (.int .i64)))), .one (.whole (100000, 0)), .one (.whole (100000, 1)), .one (.whole (100000, 2)), .one (.int .i64), .one (.int .i64), .one (.int .i64), .one (.int .i64), .one (.box (100000, 3) 0), .one (.bool), .one (.int .i64), .one (.int .i64), .one (.ro (.pr (.int .i64) (.sl (.int .i64)))), .one (.int .i64), .one (.int .i64), .one (.ro (.int .i64)), .one (.int .i64), .one (.int .i64), .one (.dead), .one (.dead)], [((100000, 0), .arr (.pr (.int .i64) (.pr (.int .i64) (.int .i64)))), ((100000, 1), .arr (.int .i64)), ((100000, 2), .arr (.int .i64)), ((100000, 3), .box [.int .i64, .ro (.int .i64)])]⟩
@[reducible] def Tspec_ScheduleOf_l24_0 : PkS := ⟨[.one (.ro (.pr (.int .i64) (.sl (.int .i64)))), .one (.whole (100000, 0)), .one (.whole (100000, 1)), .one (.whole (100000, 2)), .one (.int .i64), .one (.int .i64), .one (.int .i64), .one (.int .i64), .one (.box (100000, 3) 0), .one (.bool), .one (.int .i64), .one (.int .i64), .one (.ro (.pr (.int .i64) (.sl (.int .i64)))), .one (.int .i64), .one (.int .i64), .one (.dead), .one (.dead)], [((100000, 0), .arr (.pr (.int .i64) (.pr (.int .i64) (.int .i64)))), ((100000, 1), .arr (.int .i64)), ((100000, 2), .arr (.int .i64)), ((100000, 3), .box [.int .i64, .ro (.int .i64)])]⟩
def Dspec_ScheduleOf_l24 : LoopD := ⟨125, [0, 7, 8, 9, 11, 12, 13, 14, 15, 16, 49, 50, 59, 60, 61, 72, 73, 74], [.one (.ro (.pr (.int .i64) (.sl (.int .i64)))), .one (.own (.pr (.int .i64) (.pr (.int .i64) (.int .i64)))), .one (.own (.int .i64)), .one (.own (.int .i64)), .one .any, .one .any, .one .any, .one .any, .box [.any, (.ro (.int .i64))], .one .any, .one .any, .one .any, .one (.ro (.pr (.int .i64) (.sl (.int .i64)))), .one .any, .one .any, .one (.ro (.int .i64)), .one .any, .one .any, .skip, .skip], fun x => match x with
  | .exit 8 => some ([0, 7, 8, 9, 11, 12, 13, 14, 15, 16, 49, 50, 59, 60, 61], [.one (.ro (.pr (.int .i64) (.sl (.int .i64)))), .one (.own (.pr (.int .i64) (.pr (.int .i64) (.int .i64)))), .one (.own (.int .i64)), .one (.own (.int .i64)), .one .any, .one .any, .one .any, .one .any, .box [.any, (.ro (.int .i64))], .one .any, .one .any, .one .any, .one (.ro (.pr (.int .i64) (.sl (.int .i64)))), .one .any, .one .any, .skip, .skip])
  | _ => none⟩
def Pspec_ScheduleOf_l24 (g : ∀ {R : Type}, Nat → (List (Int × List Int)) → Int → Int → Int → Int → Bool → Int → Int → (List (Int × List Int)) → Int → Int → (List Int) → Int → Int → (List (Int × Int × Int)) → (List Int) → (List Int) → Int → (List Int) → ((List (Int × List Int)) → Int → Int → Int → Int → Bool → Int → Int → (List (Int × List Int)) → Int → Int → (List (Int × Int × Int)) → (List Int) → (List Int) → Int → (List Int) → Option R) → Option R) (n : Nat) : LPs := fun R q kk => match (PkS.un Sspec_ScheduleOf_l24 q : Option ((List (Int × List Int)) × Int × Int × Int × Int × Bool × Int × Int × (List (Int × List Int)) × Int × Int × (List Int) × Int × Int × (List (Int × Int × Int)) × (List Int) × (List Int) × Int × (List Int) × Unit)) with
  | some (y24_0, y24_1, y24_2, y24_3, y24_4, y24_5, y24_6, y24_7, y24_8, y24_9, y24_10, y24_11, y24_12, y24_13, y24_14, y24_15, y24_16, y24_17, y24_18, _) => g n y24_0 y24_1 y24_2 y24_3 y24_4 y24_5 y24_6 y24_7 y24_8 y24_9 y24_10 y24_11 y24_12 y24_13 y24_14 y24_15 y24_16 y24_17 y24_18 (fun r0 r1 r2 r3 r4 r5 r6 r7 r8 r9 r10 r11 r12 r13 r14 r15 => kk (.exit 8) (PkS.pack Tspec_ScheduleOf_l24_0 (r0, r1, r2, r3, r4, r5, r6, r7, r8, r9, r10, r11, r12, r13, r14, r15, ())))
  | none => none
theorem espec_ScheduleOf_l24 (spec_GoodPlan : ∀ {R : Type}, Nat → (List (Int × List Int)) → (Bool → Option R) → Option R) (spec_l1In : ∀ {R : Type}, Nat → Int → Int → Int → (Bool → Option R) → Option R) (spec_ScheduleOf_l7 : ∀ {R : Type}, Nat → (List (Int × List Int)) → Int → Int → (List (Int × Int × Int)) → (List Int) → (List Int) → ((List (Int × List Int)) → (List (Int × Int × Int)) → (List Int) → (List Int) → Option R) → Option R) (spec_ScheduleOf_l24 : ∀ {R : Type}, Nat → (List (Int × List Int)) → Int → Int → Int → Int → Bool → Int → Int → (List (Int × List Int)) → Int → Int → (List Int) → Int → Int → (List (Int × Int × Int)) → (List Int) → (List Int) → Int → (List Int) → ((List (Int × List Int)) → Int → Int → Int → Int → Bool → Int → Int → (List (Int × List Int)) → Int → Int → (List (Int × Int × Int)) → (List Int) → (List Int) → Int → (List Int) → Option R) → Option R) {R : Type} (n : Nat) (y24_0 : List (Int × List Int)) (y24_1 : Int) (y24_2 : Int) (y24_3 : Int) (y24_4 : Int) (y24_5 : Bool) (y24_6 : Int) (y24_7 : Int) (y24_8 : List (Int × List Int)) (y24_9 : Int) (y24_10 : Int) (y24_11 : List Int) (y24_12 : Int) (y24_13 : Int) (y24_14 : List (Int × Int × Int)) (y24_15 : List Int) (y24_16 : List Int) (y24_17 : Int) (y24_18 : List Int) (kk : Ex → Pk → Option R) : Dspec_ScheduleOf_l24.step tt sig (mkK [(95, Kspec_GoodPlan @spec_GoodPlan n), (72, Kspec_l1In @spec_l1In n)] R) (mkL (mkK [(95, Kspec_GoodPlan @spec_GoodPlan n), (72, Kspec_l1In @spec_l1In n)]) [(7, Dspec_ScheduleOf_l7, Pspec_ScheduleOf_l7 @spec_ScheduleOf_l7 n)] R) (loopIn 24 (bodyOf Try.f52)) (fun q' => Pspec_ScheduleOf_l24 @spec_ScheduleOf_l24 n R q' kk) (PkS.pack Sspec_ScheduleOf_l24 (y24_0, y24_1, y24_2, y24_3, y24_4, y24_5, y24_6, y24_7, y24_8, y24_9, y24_10, y24_11, y24_12, y24_13, y24_14, y24_15, y24_16, y24_17, y24_18, ())) kk = (fun (kexit8 : (List (Int × List Int)) → Int → Int → Int → Int → Bool → Int → Int → (List (Int × List Int)) → Int → Int → (List (Int × Int × Int)) → (List Int) → (List Int) → Int → (List Int) → Option R) => (bif (decide (y24_13 < y24_12)) then (bif decide (0 ≤ y24_13) then (bif decide (y24_13 < (y24_11.length : Int)) then (bif y24_5 then (bif decide (0 ≤ (y24_11.getD (Int.toNat y24_13) 0)) then (bif decide ((y24_11.getD (Int.toNat y24_13) 0) < (y24_15.length : Int)) then (spec_l1In n (y24_15.getD (Int.toNat (y24_11.getD (Int.toNat y24_13) 0)) 0) 0 y24_2 fun r7 => spec_ScheduleOf_l24 n y24_0 y24_1 y24_2 y24_3 y24_4 r7 y24_6 y24_7 y24_8 y24_9 y24_10 y24_11 y24_12 (IntKind.wrap .i64 (y24_13 + 1)) y24_14 y24_15 y24_16 y24_17 y24_18 kexit8) else none) else none) else spec_ScheduleOf_l24 n y24_0 y24_1 y24_2 y24_3 y24_4 false y24_6 y24_7 y24_8 y24_9 y24_10 y24_11 y24_12 (IntKind.wrap .i64 (y24_13 + 1)) y24_14 y24_15 y24_16 y24_17 y24_18 kexit8) else none) else none) else kexit8 y24_0 y24_1 y24_2 y24_3 y24_4 y24_5 y24_6 y24_7 y24_8 y24_9 y24_10 y24_14 y24_15 y24_16 y24_17 y24_18)) (fun r0 r1 r2 r3 r4 r5 r6 r7 r8 r9 r10 r11 r12 r13 r14 r15 => kk (.exit 8) (PkS.pack Tspec_ScheduleOf_l24_0 (r0, r1, r2, r3, r4, r5, r6, r7, r8, r9, r10, r11, r12, r13, r14, r15, ()))) := by kernel_rfl
theorem lespec_ScheduleOf_l24 : LoopEq tt sig (fun n => mkK [(95, Kspec_GoodPlan @spec_GoodPlan n), (72, Kspec_l1In @spec_l1In n)]) (fun n => mkL (mkK [(95, Kspec_GoodPlan @spec_GoodPlan n), (72, Kspec_l1In @spec_l1In n)]) [(7, Dspec_ScheduleOf_l7, Pspec_ScheduleOf_l7 @spec_ScheduleOf_l7 n)]) Dspec_ScheduleOf_l24 Sspec_ScheduleOf_l24 (loopIn 24 (bodyOf Try.f52)) (Pspec_ScheduleOf_l24 @spec_ScheduleOf_l24) where
  zero R q kk := by unfold Pspec_ScheduleOf_l24; cases (PkS.un Sspec_ScheduleOf_l24 q) <;> rfl
  succ n R q kk := by
    unfold Pspec_ScheduleOf_l24
    cases h : (PkS.un Sspec_ScheduleOf_l24 q) with
    | none => rfl
    | some d =>
      obtain ⟨y24_0, y24_1, y24_2, y24_3, y24_4, y24_5, y24_6, y24_7, y24_8, y24_9, y24_10, y24_11, y24_12, y24_13, y24_14, y24_15, y24_16, y24_17, y24_18, u⟩ := (d : (List (Int × List Int)) × Int × Int × Int × Int × Bool × Int × Int × (List (Int × List Int)) × Int × Int × (List Int) × Int × Int × (List (Int × Int × Int)) × (List Int) × (List Int) × Int × (List Int) × Unit)
      have hp := PkS.un_pack h
      subst hp
      exact (espec_ScheduleOf_l24 @spec_GoodPlan @spec_l1In @spec_ScheduleOf_l7 @spec_ScheduleOf_l24 n y24_0 y24_1 y24_2 y24_3 y24_4 y24_5 y24_6 y24_7 y24_8 y24_9 y24_10 y24_11 y24_12 y24_13 y24_14 y24_15 y24_16 y24_17 y24_18 kk).symm
theorem nlspec_ScheduleOf_l24 : ∀ n, NatLP (Pspec_ScheduleOf_l24 @spec_ScheduleOf_l24 n) := lespec_ScheduleOf_l24.nat (fun n => mkK_nat (cspec_ScheduleOf n)) fun n => mkL_nat (mkK_nat (cspec_ScheduleOf n)) (l := [(7, Dspec_ScheduleOf_l7, Pspec_ScheduleOf_l7 @spec_ScheduleOf_l7 n)]) ⟨nlspec_ScheduleOf_l7 n, trivial⟩
theorem inspec_ScheduleOf_l24 (n : Nat) (R : Type) : LoopsOk Try.prog (mkL (mkK [(95, Kspec_GoodPlan @spec_GoodPlan n), (72, Kspec_l1In @spec_l1In n)]) [(7, Dspec_ScheduleOf_l7, Pspec_ScheduleOf_l7 @spec_ScheduleOf_l7 n)] R) (loopIn 24 (bodyOf Try.f52)) := .eq (l := []) (by kernel_rfl) trivial
theorem lkspec_ScheduleOf_l24 (n : Nat) (R : Type) (L0 : LK R) (h0 : ∀ id, firstRegion (loopIn 24 (bodyOf Try.f52)) = some id → L0 id = Dspec_ScheduleOf_l24.oracle (mkK [(95, Kspec_GoodPlan @spec_GoodPlan n), (72, Kspec_l1In @spec_l1In n)] R) (Pspec_ScheduleOf_l24 @spec_ScheduleOf_l24 n R)) : LoopOk Try.prog L0 (loopIn 24 (bodyOf Try.f52)) :=
  lespec_ScheduleOf_l24.ok mixed ttok (fun n => mkK_nat (cspec_ScheduleOf n)) (fun n => mkK_ok (cspec_ScheduleOf n)) (fun n => inspec_ScheduleOf_l24 n R) (mkK_nat (cspec_ScheduleOf n)) h0
@[reducible] def Sspec_ScheduleOf_l20 : PkS := ⟨[.one (.ro (.pr (.int .i64) (.sl (.int .i64)))), .one (.whole (100000, 0)), .one (.whole (100000, 1)), .one (.whole (100000, 2)), .one (.int .i64), .one (.int .i64), .one (.int .i64), .one (.int .i64), .one (.int .i64), .one (.ro (.pr (.int .i64) (.sl (.int .i64)))), .one (.int .i64), .one (.int .i64), .one (.dead), .one (.dead)], [((100000, 0), .arr (.pr (.int .i64) (.pr (.int .i64) (.int .i64)))), ((100000, 1), .arr (.int .i64)), ((100000, 2), .arr (.int .i64))]⟩
@[reducible] def Tspec_ScheduleOf_l20_0 : PkS := ⟨[.one (.ro (.pr (.int .i64) (.sl (.int .i64)))), .one (.whole (100000, 0)), .one (.whole (100000, 1)), .one (.whole (100000, 2)), .one (.int .i64), .one (.int .i64), .one (.int .i64), .one (.int .i64), .one (.dead), .one (.dead)], [((100000, 0), .arr (.pr (.int .i64) (.pr (.int .i64) (.int .i64)))), ((100000, 1), .arr (.int .i64)), ((100000, 2), .arr (.int .i64))]⟩
def Dspec_ScheduleOf_l20 : LoopD := ⟨125, [0, 7, 8, 9, 11, 12, 13, 49, 50, 59, 60, 61], [.one (.ro (.pr (.int .i64) (.sl (.int .i64)))), .one (.own (.pr (.int .i64) (.pr (.int .i64) (.int .i64)))), .one (.own (.int .i64)), .one (.own (.int .i64)), .one .any, .one .any, .one .any, .one .any, .one .any, .one (.ro (.pr (.int .i64) (.sl (.int .i64)))), .one .any, .one .any, .skip, .skip], fun x => match x with
  | .exit 6 => some ([0, 7, 8, 9, 11, 12, 49, 50], [.one (.ro (.pr (.int .i64) (.sl (.int .i64)))), .one (.own (.pr (.int .i64) (.pr (.int .i64) (.int .i64)))), .one (.own (.int .i64)), .one (.own (.int .i64)), .one .any, .one .any, .one .any, .one .any, .skip, .skip])
  | _ => none⟩
def Pspec_ScheduleOf_l20 (g : ∀ {R : Type}, Nat → (List (Int × List Int)) → Int → Int → Int → Int → Int → (List (Int × List Int)) → Int → Int → (List (Int × Int × Int)) → (List Int) → (List Int) → ((List (Int × List Int)) → Int → Int → Int → Int → (List (Int × Int × Int)) → (List Int) → (List Int) → Option R) → Option R) (n : Nat) : LPs := fun R q kk => match (PkS.un Sspec_ScheduleOf_l20 q : Option ((List (Int × List Int)) × Int × Int × Int × Int × Int × (List (Int × List Int)) × Int × Int × (List (Int × Int × Int)) × (List Int) × (List Int) × Unit)) with
  | some (y20_0, y20_1, y20_2, y20_3, y20_4, y20_5, y20_6, y20_7, y20_8, y20_9, y20_10, y20_11, _) => g n y20_0 y20_1 y20_2 y20_3 y20_4 y20_5 y20_6 y20_7 y20_8 y20_9 y20_10 y20_11 (fun r0 r1 r2 r3 r4 r5 r6 r7 => kk (.exit 6) (PkS.pack Tspec_ScheduleOf_l20_0 (r0, r1, r2, r3, r4, r5, r6, r7, ())))
  | none => none
theorem espec_ScheduleOf_l20 (spec_GoodPlan : ∀ {R : Type}, Nat → (List (Int × List Int)) → (Bool → Option R) → Option R) (spec_l1In : ∀ {R : Type}, Nat → Int → Int → Int → (Bool → Option R) → Option R) (spec_ScheduleOf_l7 : ∀ {R : Type}, Nat → (List (Int × List Int)) → Int → Int → (List (Int × Int × Int)) → (List Int) → (List Int) → ((List (Int × List Int)) → (List (Int × Int × Int)) → (List Int) → (List Int) → Option R) → Option R) (spec_ScheduleOf_l24 : ∀ {R : Type}, Nat → (List (Int × List Int)) → Int → Int → Int → Int → Bool → Int → Int → (List (Int × List Int)) → Int → Int → (List Int) → Int → Int → (List (Int × Int × Int)) → (List Int) → (List Int) → Int → (List Int) → ((List (Int × List Int)) → Int → Int → Int → Int → Bool → Int → Int → (List (Int × List Int)) → Int → Int → (List (Int × Int × Int)) → (List Int) → (List Int) → Int → (List Int) → Option R) → Option R) (spec_ScheduleOf_l20 : ∀ {R : Type}, Nat → (List (Int × List Int)) → Int → Int → Int → Int → Int → (List (Int × List Int)) → Int → Int → (List (Int × Int × Int)) → (List Int) → (List Int) → ((List (Int × List Int)) → Int → Int → Int → Int → (List (Int × Int × Int)) → (List Int) → (List Int) → Option R) → Option R) {R : Type} (n : Nat) (y20_0 : List (Int × List Int)) (y20_1 : Int) (y20_2 : Int) (y20_3 : Int) (y20_4 : Int) (y20_5 : Int) (y20_6 : List (Int × List Int)) (y20_7 : Int) (y20_8 : Int) (y20_9 : List (Int × Int × Int)) (y20_10 : List Int) (y20_11 : List Int) (kk : Ex → Pk → Option R) : Dspec_ScheduleOf_l20.step tt sig (mkK [(95, Kspec_GoodPlan @spec_GoodPlan n), (72, Kspec_l1In @spec_l1In n)] R) (mkL (mkK [(95, Kspec_GoodPlan @spec_GoodPlan n), (72, Kspec_l1In @spec_l1In n)]) [(7, Dspec_ScheduleOf_l7, Pspec_ScheduleOf_l7 @spec_ScheduleOf_l7 n), (24, Dspec_ScheduleOf_l24, Pspec_ScheduleOf_l24 @spec_ScheduleOf_l24 n)] R) (loopIn 20 (bodyOf Try.f52)) (fun q' => Pspec_ScheduleOf_l20 @spec_ScheduleOf_l20 n R q' kk) (PkS.pack Sspec_ScheduleOf_l20 (y20_0, y20_1, y20_2, y20_3, y20_4, y20_5, y20_6, y20_7, y20_8, y20_9, y20_10, y20_11, ())) kk = (fun (kexit6 : (List (Int × List Int)) → Int → Int → Int → Int → (List (Int × Int × Int)) → (List Int) → (List Int) → Option R) => (bif (decide (y20_8 < y20_7)) then (bif decide (0 ≤ y20_8) then (bif decide (y20_8 < (y20_6.length : Int)) then (bif decide (0 ≤ y20_8) then (bif decide (y20_8 < (y20_10.length : Int)) then (spec_ScheduleOf_l24 n y20_0 y20_1 y20_2 y20_3 y20_8 (decide ((y20_10.getD (Int.toNat y20_8) 0) < 0)) y20_4 y20_5 y20_6 y20_7 y20_8 ((y20_6.getD (Int.toNat y20_8) (0, [])).2) (((y20_6.getD (Int.toNat y20_8) (0, [])).2).length : Int) 0 y20_9 y20_10 y20_11 ((y20_6.getD (Int.toNat y20_8) (0, [])).1) ((y20_6.getD (Int.toNat y20_8) (0, [])).2) (fun r8 r9 r10 r11 r12 r13 r14 r15 r16 r17 r18 r19 r20 r21 r22 r23 => (bif (!r13) then spec_ScheduleOf_l20 n r8 r9 r10 r11 r14 r15 r16 r17 (IntKind.wrap .i64 (r18 + 1)) r19 r20 r21 kexit6 else (bif decide (r19.length + ([(r12, (r11, r10))]).length ≤ LIM) then (bif decide (0 ≤ r12) then (bif decide (r12 < (r20.length : Int)) then (bif decide (0 ≤ r12) then (bif decide (r12 < ((r20.set (Int.toNat r12) (IntKind.wrap .i64 (r10 + r22))).length : Int)) then (bif decide (0 ≤ r11) then (bif decide (r11 < (r21.length : Int)) then (bif decide (0 ≤ r12) then (bif decide (r12 < ((r20.set (Int.toNat r12) (IntKind.wrap .i64 (r10 + r22))).length : Int)) then (bif (decide (((r20.set (Int.toNat r12) (IntKind.wrap .i64 (r10 + r22))).getD (Int.toNat r12) 0) > r9)) then (bif decide (0 ≤ r12) then (bif decide (r12 < ((r20.set (Int.toNat r12) (IntKind.wrap .i64 (r10 + r22))).length : Int)) then kexit6 r8 ((r20.set (Int.toNat r12) (IntKind.wrap .i64 (r10 + r22))).getD (Int.toNat r12) 0) r10 r14 r15 (r19 ++ [(r12, (r11, r10))]) (r20.set (Int.toNat r12) (IntKind.wrap .i64 (r10 + r22))) (r21.set (Int.toNat r11) ((r20.set (Int.toNat r12) (IntKind.wrap .i64 (r10 + r22))).getD (Int.toNat r12) 0)) else none) else none) else kexit6 r8 r9 r10 r14 r15 (r19 ++ [(r12, (r11, r10))]) (r20.set (Int.toNat r12) (IntKind.wrap .i64 (r10 + r22))) (r21.set (Int.toNat r11) ((r20.set (Int.toNat r12) (IntKind.wrap .i64 (r10 + r22))).getD (Int.toNat r12) 0))) else none) else none) else none) else none) else none) else none) else none) else none) else none)))) else none) else none) else none) else none) else kexit6 y20_0 y20_1 y20_2 y20_4 y20_5 y20_9 y20_10 y20_11)) (fun r0 r1 r2 r3 r4 r5 r6 r7 => kk (.exit 6) (PkS.pack Tspec_ScheduleOf_l20_0 (r0, r1, r2, r3, r4, r5, r6, r7, ()))) := by kernel_rfl
theorem lespec_ScheduleOf_l20 : LoopEq tt sig (fun n => mkK [(95, Kspec_GoodPlan @spec_GoodPlan n), (72, Kspec_l1In @spec_l1In n)]) (fun n => mkL (mkK [(95, Kspec_GoodPlan @spec_GoodPlan n), (72, Kspec_l1In @spec_l1In n)]) [(7, Dspec_ScheduleOf_l7, Pspec_ScheduleOf_l7 @spec_ScheduleOf_l7 n), (24, Dspec_ScheduleOf_l24, Pspec_ScheduleOf_l24 @spec_ScheduleOf_l24 n)]) Dspec_ScheduleOf_l20 Sspec_ScheduleOf_l20 (loopIn 20 (bodyOf Try.f52)) (Pspec_ScheduleOf_l20 @spec_ScheduleOf_l20) where
  zero R q kk := by unfold Pspec_ScheduleOf_l20; cases (PkS.un Sspec_ScheduleOf_l20 q) <;> rfl
  succ n R q kk := by
    unfold Pspec_ScheduleOf_l20
    cases h : (PkS.un Sspec_ScheduleOf_l20 q) with
    | none => rfl
    | some d =>
      obtain ⟨y20_0, y20_1, y20_2, y20_3, y20_4, y20_5, y20_6, y20_7, y20_8, y20_9, y20_10, y20_11, u⟩ := (d : (List (Int × List Int)) × Int × Int × Int × Int × Int × (List (Int × List Int)) × Int × Int × (List (Int × Int × Int)) × (List Int) × (List Int) × Unit)
      have hp := PkS.un_pack h
      subst hp
      exact (espec_ScheduleOf_l20 @spec_GoodPlan @spec_l1In @spec_ScheduleOf_l7 @spec_ScheduleOf_l24 @spec_ScheduleOf_l20 n y20_0 y20_1 y20_2 y20_3 y20_4 y20_5 y20_6 y20_7 y20_8 y20_9 y20_10 y20_11 kk).symm
theorem nlspec_ScheduleOf_l20 : ∀ n, NatLP (Pspec_ScheduleOf_l20 @spec_ScheduleOf_l20 n) := lespec_ScheduleOf_l20.nat (fun n => mkK_nat (cspec_ScheduleOf n)) fun n => mkL_nat (mkK_nat (cspec_ScheduleOf n)) (l := [(7, Dspec_ScheduleOf_l7, Pspec_ScheduleOf_l7 @spec_ScheduleOf_l7 n), (24, Dspec_ScheduleOf_l24, Pspec_ScheduleOf_l24 @spec_ScheduleOf_l24 n)]) ⟨nlspec_ScheduleOf_l7 n, ⟨nlspec_ScheduleOf_l24 n, trivial⟩⟩
theorem inspec_ScheduleOf_l20 (n : Nat) (R : Type) : LoopsOk Try.prog (mkL (mkK [(95, Kspec_GoodPlan @spec_GoodPlan n), (72, Kspec_l1In @spec_l1In n)]) [(7, Dspec_ScheduleOf_l7, Pspec_ScheduleOf_l7 @spec_ScheduleOf_l7 n), (24, Dspec_ScheduleOf_l24, Pspec_ScheduleOf_l24 @spec_ScheduleOf_l24 n)] R) (loopIn 20 (bodyOf Try.f52)) := .eq (l := [.lo (loopIn 24 (bodyOf Try.f52))]) (by kernel_rfl) ⟨(lkspec_ScheduleOf_l24 n R _ (at_id (i := 24) (by kernel_rfl) rfl)), trivial⟩
theorem lkspec_ScheduleOf_l20 (n : Nat) (R : Type) (L0 : LK R) (h0 : ∀ id, firstRegion (loopIn 20 (bodyOf Try.f52)) = some id → L0 id = Dspec_ScheduleOf_l20.oracle (mkK [(95, Kspec_GoodPlan @spec_GoodPlan n), (72, Kspec_l1In @spec_l1In n)] R) (Pspec_ScheduleOf_l20 @spec_ScheduleOf_l20 n R)) : LoopOk Try.prog L0 (loopIn 20 (bodyOf Try.f52)) :=
  lespec_ScheduleOf_l20.ok mixed ttok (fun n => mkK_nat (cspec_ScheduleOf n)) (fun n => mkK_ok (cspec_ScheduleOf n)) (fun n => inspec_ScheduleOf_l20 n R) (mkK_nat (cspec_ScheduleOf n)) h0
@[reducible] def Sspec_ScheduleOf_l16 : PkS := ⟨[.one (.ro (.pr (.int .i64) (.sl (.int .i64)))), .one (.whole (100000, 0)), .one (.whole (100000, 1)), .one (.whole (100000, 2)), .one (.int .i64), .one (.int .i64), .one (.int .i64), .one (.int .i64), .one (.dead), .one (.dead)], [((100000, 0), .arr (.pr (.int .i64) (.pr (.int .i64) (.int .i64)))), ((100000, 1), .arr (.int .i64)), ((100000, 2), .arr (.int .i64))]⟩
@[reducible] def Tspec_ScheduleOf_l16_0 : PkS := ⟨[.one (.ro (.pr (.int .i64) (.sl (.int .i64)))), .one (.whole (100000, 0)), .one (.whole (100000, 1)), .one (.whole (100000, 2)), .one (.int .i64), .one (.int .i64), .one (.dead), .one (.dead)], [((100000, 0), .arr (.pr (.int .i64) (.pr (.int .i64) (.int .i64)))), ((100000, 1), .arr (.int .i64)), ((100000, 2), .arr (.int .i64))]⟩
def Dspec_ScheduleOf_l16 : LoopD := ⟨125, [0, 7, 8, 9, 11, 12, 49, 50], [.one (.ro (.pr (.int .i64) (.sl (.int .i64)))), .one (.own (.pr (.int .i64) (.pr (.int .i64) (.int .i64)))), .one (.own (.int .i64)), .one (.own (.int .i64)), .one .any, .one .any, .one .any, .one .any, .skip, .skip], fun x => match x with
  | .exit 4 => some ([0, 7, 8, 9, 11, 12], [.one (.ro (.pr (.int .i64) (.sl (.int .i64)))), .one (.own (.pr (.int .i64) (.pr (.int .i64) (.int .i64)))), .one (.own (.int .i64)), .one (.own (.int .i64)), .one .any, .one .any, .skip, .skip])
  | _ => none⟩
def Pspec_ScheduleOf_l16 (g : ∀ {R : Type}, Nat → (List (Int × List Int)) → Int → Int → Int → Int → (List (Int × Int × Int)) → (List Int) → (List Int) → ((List (Int × List Int)) → Int → Int → (List (Int × Int × Int)) → (List Int) → (List Int) → Option R) → Option R) (n : Nat) : LPs := fun R q kk => match (PkS.un Sspec_ScheduleOf_l16 q : Option ((List (Int × List Int)) × Int × Int × Int × Int × (List (Int × Int × Int)) × (List Int) × (List Int) × Unit)) with
  | some (y16_0, y16_1, y16_2, y16_3, y16_4, y16_5, y16_6, y16_7, _) => g n y16_0 y16_1 y16_2 y16_3 y16_4 y16_5 y16_6 y16_7 (fun r0 r1 r2 r3 r4 r5 => kk (.exit 4) (PkS.pack Tspec_ScheduleOf_l16_0 (r0, r1, r2, r3, r4, r5, ())))
  | none => none
theorem espec_ScheduleOf_l16 (spec_GoodPlan : ∀ {R : Type}, Nat → (List (Int × List Int)) → (Bool → Option R) → Option R) (spec_l1In : ∀ {R : Type}, Nat → Int → Int → Int → (Bool → Option R) → Option R) (spec_ScheduleOf_l7 : ∀ {R : Type}, Nat → (List (Int × List Int)) → Int → Int → (List (Int × Int × Int)) → (List Int) → (List Int) → ((List (Int × List Int)) → (List (Int × Int × Int)) → (List Int) → (List Int) → Option R) → Option R) (spec_ScheduleOf_l24 : ∀ {R : Type}, Nat → (List (Int × List Int)) → Int → Int → Int → Int → Bool → Int → Int → (List (Int × List Int)) → Int → Int → (List Int) → Int → Int → (List (Int × Int × Int)) → (List Int) → (List Int) → Int → (List Int) → ((List (Int × List Int)) → Int → Int → Int → Int → Bool → Int → Int → (List (Int × List Int)) → Int → Int → (List (Int × Int × Int)) → (List Int) → (List Int) → Int → (List Int) → Option R) → Option R) (spec_ScheduleOf_l20 : ∀ {R : Type}, Nat → (List (Int × List Int)) → Int → Int → Int → Int → Int → (List (Int × List Int)) → Int → Int → (List (Int × Int × Int)) → (List Int) → (List Int) → ((List (Int × List Int)) → Int → Int → Int → Int → (List (Int × Int × Int)) → (List Int) → (List Int) → Option R) → Option R) (spec_ScheduleOf_l16 : ∀ {R : Type}, Nat → (List (Int × List Int)) → Int → Int → Int → Int → (List (Int × Int × Int)) → (List Int) → (List Int) → ((List (Int × List Int)) → Int → Int → (List (Int × Int × Int)) → (List Int) → (List Int) → Option R) → Option R) {R : Type} (n : Nat) (y16_0 : List (Int × List Int)) (y16_1 : Int) (y16_2 : Int) (y16_3 : Int) (y16_4 : Int) (y16_5 : List (Int × Int × Int)) (y16_6 : List Int) (y16_7 : List Int) (kk : Ex → Pk → Option R) : Dspec_ScheduleOf_l16.step tt sig (mkK [(95, Kspec_GoodPlan @spec_GoodPlan n), (72, Kspec_l1In @spec_l1In n)] R) (mkL (mkK [(95, Kspec_GoodPlan @spec_GoodPlan n), (72, Kspec_l1In @spec_l1In n)]) [(7, Dspec_ScheduleOf_l7, Pspec_ScheduleOf_l7 @spec_ScheduleOf_l7 n), (24, Dspec_ScheduleOf_l24, Pspec_ScheduleOf_l24 @spec_ScheduleOf_l24 n), (20, Dspec_ScheduleOf_l20, Pspec_ScheduleOf_l20 @spec_ScheduleOf_l20 n)] R) (loopIn 16 (bodyOf Try.f52)) (fun q' => Pspec_ScheduleOf_l16 @spec_ScheduleOf_l16 n R q' kk) (PkS.pack Sspec_ScheduleOf_l16 (y16_0, y16_1, y16_2, y16_3, y16_4, y16_5, y16_6, y16_7, ())) kk = (fun (kexit4 : (List (Int × List Int)) → Int → Int → (List (Int × Int × Int)) → (List Int) → (List Int) → Option R) => (bif (decide (y16_4 < y16_3)) then (bif decide (0 ≤ y16_4) then (bif decide (y16_4 < (y16_7.length : Int)) then (bif (decide ((y16_7.getD (Int.toNat y16_4) 0) > y16_2)) then spec_ScheduleOf_l16 n y16_0 y16_1 y16_2 y16_3 (IntKind.wrap .i64 (y16_4 + 1)) y16_5 y16_6 y16_7 kexit4 else (spec_ScheduleOf_l20 n y16_0 y16_1 y16_2 y16_4 y16_3 y16_4 y16_0 (y16_0.length : Int) 0 y16_5 y16_6 y16_7 (fun r24 r25 r26 r27 r28 r29 r30 r31 => spec_ScheduleOf_l16 n r24 r25 r26 r27 (IntKind.wrap .i64 (r28 + 1)) r29 r30 r31 kexit4))) else none) else none) else kexit4 y16_0 y16_1 y16_2 y16_5 y16_6 y16_7)) (fun r0 r1 r2 r3 r4 r5 => kk (.exit 4) (PkS.pack Tspec_ScheduleOf_l16_0 (r0, r1, r2, r3, r4, r5, ()))) := by kernel_rfl
theorem lespec_ScheduleOf_l16 : LoopEq tt sig (fun n => mkK [(95, Kspec_GoodPlan @spec_GoodPlan n), (72, Kspec_l1In @spec_l1In n)]) (fun n => mkL (mkK [(95, Kspec_GoodPlan @spec_GoodPlan n), (72, Kspec_l1In @spec_l1In n)]) [(7, Dspec_ScheduleOf_l7, Pspec_ScheduleOf_l7 @spec_ScheduleOf_l7 n), (24, Dspec_ScheduleOf_l24, Pspec_ScheduleOf_l24 @spec_ScheduleOf_l24 n), (20, Dspec_ScheduleOf_l20, Pspec_ScheduleOf_l20 @spec_ScheduleOf_l20 n)]) Dspec_ScheduleOf_l16 Sspec_ScheduleOf_l16 (loopIn 16 (bodyOf Try.f52)) (Pspec_ScheduleOf_l16 @spec_ScheduleOf_l16) where
  zero R q kk := by unfold Pspec_ScheduleOf_l16; cases (PkS.un Sspec_ScheduleOf_l16 q) <;> rfl
  succ n R q kk := by
    unfold Pspec_ScheduleOf_l16
    cases h : (PkS.un Sspec_ScheduleOf_l16 q) with
    | none => rfl
    | some d =>
      obtain ⟨y16_0, y16_1, y16_2, y16_3, y16_4, y16_5, y16_6, y16_7, u⟩ := (d : (List (Int × List Int)) × Int × Int × Int × Int × (List (Int × Int × Int)) × (List Int) × (List Int) × Unit)
      have hp := PkS.un_pack h
      subst hp
      exact (espec_ScheduleOf_l16 @spec_GoodPlan @spec_l1In @spec_ScheduleOf_l7 @spec_ScheduleOf_l24 @spec_ScheduleOf_l20 @spec_ScheduleOf_l16 n y16_0 y16_1 y16_2 y16_3 y16_4 y16_5 y16_6 y16_7 kk).symm
theorem nlspec_ScheduleOf_l16 : ∀ n, NatLP (Pspec_ScheduleOf_l16 @spec_ScheduleOf_l16 n) := lespec_ScheduleOf_l16.nat (fun n => mkK_nat (cspec_ScheduleOf n)) fun n => mkL_nat (mkK_nat (cspec_ScheduleOf n)) (l := [(7, Dspec_ScheduleOf_l7, Pspec_ScheduleOf_l7 @spec_ScheduleOf_l7 n), (24, Dspec_ScheduleOf_l24, Pspec_ScheduleOf_l24 @spec_ScheduleOf_l24 n), (20, Dspec_ScheduleOf_l20, Pspec_ScheduleOf_l20 @spec_ScheduleOf_l20 n)]) ⟨nlspec_ScheduleOf_l7 n, ⟨nlspec_ScheduleOf_l24 n, ⟨nlspec_ScheduleOf_l20 n, trivial⟩⟩⟩
theorem inspec_ScheduleOf_l16 (n : Nat) (R : Type) : LoopsOk Try.prog (mkL (mkK [(95, Kspec_GoodPlan @spec_GoodPlan n), (72, Kspec_l1In @spec_l1In n)]) [(7, Dspec_ScheduleOf_l7, Pspec_ScheduleOf_l7 @spec_ScheduleOf_l7 n), (24, Dspec_ScheduleOf_l24, Pspec_ScheduleOf_l24 @spec_ScheduleOf_l24 n), (20, Dspec_ScheduleOf_l20, Pspec_ScheduleOf_l20 @spec_ScheduleOf_l20 n)] R) (loopIn 16 (bodyOf Try.f52)) := .eq (l := [.lo (loopIn 20 (bodyOf Try.f52))]) (by kernel_rfl) ⟨(lkspec_ScheduleOf_l20 n R _ (at_id (i := 20) (by kernel_rfl) rfl)), trivial⟩
theorem lkspec_ScheduleOf_l16 (n : Nat) (R : Type) (L0 : LK R) (h0 : ∀ id, firstRegion (loopIn 16 (bodyOf Try.f52)) = some id → L0 id = Dspec_ScheduleOf_l16.oracle (mkK [(95, Kspec_GoodPlan @spec_GoodPlan n), (72, Kspec_l1In @spec_l1In n)] R) (Pspec_ScheduleOf_l16 @spec_ScheduleOf_l16 n R)) : LoopOk Try.prog L0 (loopIn 16 (bodyOf Try.f52)) :=
  lespec_ScheduleOf_l16.ok mixed ttok (fun n => mkK_nat (cspec_ScheduleOf n)) (fun n => mkK_ok (cspec_ScheduleOf n)) (fun n => inspec_ScheduleOf_l16 n R) (mkK_nat (cspec_ScheduleOf n)) h0
@[reducible] def Sspec_ScheduleOf_l13 : PkS := ⟨[.one (.ro (.pr (.int .i64) (.sl (.int .i64)))), .one (.whole (100000, 0)), .one (.whole (100000, 1)), .one (.whole (100000, 2)), .one (.int .i64), .one (.int .i64), .one (.dead), .one (.dead)], [((100000, 0), .arr (.pr (.int .i64) (.pr (.int .i64) (.int .i64)))), ((100000, 1), .arr (.int .i64)), ((100000, 2), .arr (.int .i64))]⟩
@[reducible] def Tspec_ScheduleOf_l13_0 : PkS := ⟨[.one (.whole (100000, 0)), .one (.int .i64), .one (.dead), .one (.dead)], [((100000, 0), .arr (.pr (.int .i64) (.pr (.int .i64) (.int .i64))))]⟩
def Dspec_ScheduleOf_l13 : LoopD := ⟨125, [0, 7, 8, 9, 11, 12], [.one (.ro (.pr (.int .i64) (.sl (.int .i64)))), .one (.own (.pr (.int .i64) (.pr (.int .i64) (.int .i64)))), .one (.own (.int .i64)), .one (.own (.int .i64)), .one .any, .one .any, .skip, .skip], fun x => match x with
  | .exit 2 => some ([7, 11], [.one (.own (.pr (.int .i64) (.pr (.int .i64) (.int .i64)))), .one .any, .skip, .skip])
  | _ => none⟩
def Pspec_ScheduleOf_l13 (g : ∀ {R : Type}, Nat → (List (Int × List Int)) → Int → Int → (List (Int × Int × Int)) → (List Int) → (List Int) → (Int → (List (Int × Int × Int)) → Option R) → Option R) (n : Nat) : LPs := fun R q kk => match (PkS.un Sspec_ScheduleOf_l13 q : Option ((List (Int × List Int)) × Int × Int × (List (Int × Int × Int)) × (List Int) × (List Int) × Unit)) with
  | some (y13_0, y13_1, y13_2, y13_3, y13_4, y13_5, _) => g n y13_0 y13_1 y13_2 y13_3 y13_4 y13_5 (fun r0 r1 => kk (.exit 2) (PkS.pack Tspec_ScheduleOf_l13_0 (r0, r1, ())))
  | none => none
theorem espec_ScheduleOf_l13 (spec_GoodPlan : ∀ {R : Type}, Nat → (List (Int × List Int)) → (Bool → Option R) → Option R) (spec_l1In : ∀ {R : Type}, Nat → Int → Int → Int → (Bool → Option R) → Option R) (spec_ScheduleOf_l7 : ∀ {R : Type}, Nat → (List (Int × List Int)) → Int → Int → (List (Int × Int × Int)) → (List Int) → (List Int) → ((List (Int × List Int)) → (List (Int × Int × Int)) → (List Int) → (List Int) → Option R) → Option R) (spec_ScheduleOf_l24 : ∀ {R : Type}, Nat → (List (Int × List Int)) → Int → Int → Int → Int → Bool → Int → Int → (List (Int × List Int)) → Int → Int → (List Int) → Int → Int → (List (Int × Int × Int)) → (List Int) → (List Int) → Int → (List Int) → ((List (Int × List Int)) → Int → Int → Int → Int → Bool → Int → Int → (List (Int × List Int)) → Int → Int → (List (Int × Int × Int)) → (List Int) → (List Int) → Int → (List Int) → Option R) → Option R) (spec_ScheduleOf_l20 : ∀ {R : Type}, Nat → (List (Int × List Int)) → Int → Int → Int → Int → Int → (List (Int × List Int)) → Int → Int → (List (Int × Int × Int)) → (List Int) → (List Int) → ((List (Int × List Int)) → Int → Int → Int → Int → (List (Int × Int × Int)) → (List Int) → (List Int) → Option R) → Option R) (spec_ScheduleOf_l16 : ∀ {R : Type}, Nat → (List (Int × List Int)) → Int → Int → Int → Int → (List (Int × Int × Int)) → (List Int) → (List Int) → ((List (Int × List Int)) → Int → Int → (List (Int × Int × Int)) → (List Int) → (List Int) → Option R) → Option R) (spec_ScheduleOf_l13 : ∀ {R : Type}, Nat → (List (Int × List Int)) → Int → Int → (List (Int × Int × Int)) → (List Int) → (List Int) → (Int → (List (Int × Int × Int)) → Option R) → Option R) {R : Type} (n : Nat) (y13_0 : List (Int × List Int)) (y13_1 : Int) (y13_2 : Int) (y13_3 : List (Int × Int × Int)) (y13_4 : List Int) (y13_5 : List Int) (kk : Ex → Pk → Option R) : Dspec_ScheduleOf_l13.step tt sig (mkK [(95, Kspec_GoodPlan @spec_GoodPlan n), (72, Kspec_l1In @spec_l1In n)] R) (mkL (mkK [(95, Kspec_GoodPlan @spec_GoodPlan n), (72, Kspec_l1In @spec_l1In n)]) [(7, Dspec_ScheduleOf_l7, Pspec_ScheduleOf_l7 @spec_ScheduleOf_l7 n), (24, Dspec_ScheduleOf_l24, Pspec_ScheduleOf_l24 @spec_ScheduleOf_l24 n), (20, Dspec_ScheduleOf_l20, Pspec_ScheduleOf_l20 @spec_ScheduleOf_l20 n), (16, Dspec_ScheduleOf_l16, Pspec_ScheduleOf_l16 @spec_ScheduleOf_l16 n)] R) (loopIn 13 (bodyOf Try.f52)) (fun q' => Pspec_ScheduleOf_l13 @spec_ScheduleOf_l13 n R q' kk) (PkS.pack Sspec_ScheduleOf_l13 (y13_0, y13_1, y13_2, y13_3, y13_4, y13_5, ())) kk = (fun (kexit2 : Int → (List (Int × Int × Int)) → Option R) => (bif (decide ((y13_3.length : Int) < (y13_0.length : Int))) then (spec_ScheduleOf_l16 n y13_0 y13_1 y13_2 (y13_5.length : Int) 0 y13_3 y13_4 y13_5 (fun r32 r33 r34 r35 r36 r37 => spec_ScheduleOf_l13 n r32 r33 (IntKind.wrap .i64 (r34 + 1)) r35 r36 r37 kexit2)) else kexit2 y13_1 y13_3)) (fun r0 r1 => kk (.exit 2) (PkS.pack Tspec_ScheduleOf_l13_0 (r0, r1, ()))) := by kernel_rfl
theorem lespec_ScheduleOf_l13 : LoopEq tt sig (fun n => mkK [(95, Kspec_GoodPlan @spec_GoodPlan n), (72, Kspec_l1In @spec_l1In n)]) (fun n => mkL (mkK [(95, Kspec_GoodPlan @spec_GoodPlan n), (72, Kspec_l1In @spec_l1In n)]) [(7, Dspec_ScheduleOf_l7, Pspec_ScheduleOf_l7 @spec_ScheduleOf_l7 n), (24, Dspec_ScheduleOf_l24, Pspec_ScheduleOf_l24 @spec_ScheduleOf_l24 n), (20, Dspec_ScheduleOf_l20, Pspec_ScheduleOf_l20 @spec_ScheduleOf_l20 n), (16, Dspec_ScheduleOf_l16, Pspec_ScheduleOf_l16 @spec_ScheduleOf_l16 n)]) Dspec_ScheduleOf_l13 Sspec_ScheduleOf_l13 (loopIn 13 (bodyOf Try.f52)) (Pspec_ScheduleOf_l13 @spec_ScheduleOf_l13) where
  zero R q kk := by unfold Pspec_ScheduleOf_l13; cases (PkS.un Sspec_ScheduleOf_l13 q) <;> rfl
  succ n R q kk := by
    unfold Pspec_ScheduleOf_l13
    cases h : (PkS.un Sspec_ScheduleOf_l13 q) with
    | none => rfl
    | some d =>
      obtain ⟨y13_0, y13_1, y13_2, y13_3, y13_4, y13_5, u⟩ := (d : (List (Int × List Int)) × Int × Int × (List (Int × Int × Int)) × (List Int) × (List Int) × Unit)
      have hp := PkS.un_pack h
      subst hp
      exact (espec_ScheduleOf_l13 @spec_GoodPlan @spec_l1In @spec_ScheduleOf_l7 @spec_ScheduleOf_l24 @spec_ScheduleOf_l20 @spec_ScheduleOf_l16 @spec_ScheduleOf_l13 n y13_0 y13_1 y13_2 y13_3 y13_4 y13_5 kk).symm
theorem nlspec_ScheduleOf_l13 : ∀ n, NatLP (Pspec_ScheduleOf_l13 @spec_ScheduleOf_l13 n) := lespec_ScheduleOf_l13.nat (fun n => mkK_nat (cspec_ScheduleOf n)) fun n => mkL_nat (mkK_nat (cspec_ScheduleOf n)) (l := [(7, Dspec_ScheduleOf_l7, Pspec_ScheduleOf_l7 @spec_ScheduleOf_l7 n), (24, Dspec_ScheduleOf_l24, Pspec_ScheduleOf_l24 @spec_ScheduleOf_l24 n), (20, Dspec_ScheduleOf_l20, Pspec_ScheduleOf_l20 @spec_ScheduleOf_l20 n), (16, Dspec_ScheduleOf_l16, Pspec_ScheduleOf_l16 @spec_ScheduleOf_l16 n)]) ⟨nlspec_ScheduleOf_l7 n, ⟨nlspec_ScheduleOf_l24 n, ⟨nlspec_ScheduleOf_l20 n, ⟨nlspec_ScheduleOf_l16 n, trivial⟩⟩⟩⟩
theorem inspec_ScheduleOf_l13 (n : Nat) (R : Type) : LoopsOk Try.prog (mkL (mkK [(95, Kspec_GoodPlan @spec_GoodPlan n), (72, Kspec_l1In @spec_l1In n)]) [(7, Dspec_ScheduleOf_l7, Pspec_ScheduleOf_l7 @spec_ScheduleOf_l7 n), (24, Dspec_ScheduleOf_l24, Pspec_ScheduleOf_l24 @spec_ScheduleOf_l24 n), (20, Dspec_ScheduleOf_l20, Pspec_ScheduleOf_l20 @spec_ScheduleOf_l20 n), (16, Dspec_ScheduleOf_l16, Pspec_ScheduleOf_l16 @spec_ScheduleOf_l16 n)] R) (loopIn 13 (bodyOf Try.f52)) := .eq (l := [.lo (loopIn 16 (bodyOf Try.f52))]) (by kernel_rfl) ⟨(lkspec_ScheduleOf_l16 n R _ (at_id (i := 16) (by kernel_rfl) rfl)), trivial⟩
theorem lkspec_ScheduleOf_l13 (n : Nat) (R : Type) (L0 : LK R) (h0 : ∀ id, firstRegion (loopIn 13 (bodyOf Try.f52)) = some id → L0 id = Dspec_ScheduleOf_l13.oracle (mkK [(95, Kspec_GoodPlan @spec_GoodPlan n), (72, Kspec_l1In @spec_l1In n)] R) (Pspec_ScheduleOf_l13 @spec_ScheduleOf_l13 n R)) : LoopOk Try.prog L0 (loopIn 13 (bodyOf Try.f52)) :=
  lespec_ScheduleOf_l13.ok mixed ttok (fun n => mkK_nat (cspec_ScheduleOf n)) (fun n => mkK_ok (cspec_ScheduleOf n)) (fun n => inspec_ScheduleOf_l13 n R) (mkK_nat (cspec_ScheduleOf n)) h0
@[reducible] def Sspec_ScheduleOf : PkS := ⟨[.one (.ro (.pr (.int .i64) (.sl (.int .i64)))), .one (.int .i64)], []⟩
@[reducible] def Tspec_ScheduleOf : PkS := ⟨[.tup [(false, [.whole (300000, 0)]), (false, [.int .i64]), (false, [.bool])], .one (.dead), .one (.dead)], [((300000, 0), .arr (.pr (.int .i64) (.pr (.int .i64) (.int .i64))))]⟩
def Hspec_ScheduleOf : List Sh := [.tup [(false, [(.own (.pr (.int .i64) (.pr (.int .i64) (.int .i64))))]), (false, [.any]), (false, [.any])], .skip, .skip]
def Kspec_ScheduleOf (g : ∀ {R : Type}, Nat → (List (Int × List Int)) → Int → (Int → Bool → (List (Int × Int × Int)) → Option R) → Option R) (n : Nat) : KPs := fun R p k => match (PkS.un Sspec_ScheduleOf p : Option ((List (Int × List Int)) × Int × Unit)) with
  | some (x0, x1, _) => g n x0 x1 (fun r0 r1 r2 => k (PkS.pack Tspec_ScheduleOf (r0, r1, r2, ())))
  | none => none
theorem espec_ScheduleOf (spec_GoodPlan : ∀ {R : Type}, Nat → (List (Int × List Int)) → (Bool → Option R) → Option R) (spec_l1In : ∀ {R : Type}, Nat → Int → Int → Int → (Bool → Option R) → Option R) (spec_ScheduleOf_l7 : ∀ {R : Type}, Nat → (List (Int × List Int)) → Int → Int → (List (Int × Int × Int)) → (List Int) → (List Int) → ((List (Int × List Int)) → (List (Int × Int × Int)) → (List Int) → (List Int) → Option R) → Option R) (spec_ScheduleOf_l24 : ∀ {R : Type}, Nat → (List (Int × List Int)) → Int → Int → Int → Int → Bool → Int → Int → (List (Int × List Int)) → Int → Int → (List Int) → Int → Int → (List (Int × Int × Int)) → (List Int) → (List Int) → Int → (List Int) → ((List (Int × List Int)) → Int → Int → Int → Int → Bool → Int → Int → (List (Int × List Int)) → Int → Int → (List (Int × Int × Int)) → (List Int) → (List Int) → Int → (List Int) → Option R) → Option R) (spec_ScheduleOf_l20 : ∀ {R : Type}, Nat → (List (Int × List Int)) → Int → Int → Int → Int → Int → (List (Int × List Int)) → Int → Int → (List (Int × Int × Int)) → (List Int) → (List Int) → ((List (Int × List Int)) → Int → Int → Int → Int → (List (Int × Int × Int)) → (List Int) → (List Int) → Option R) → Option R) (spec_ScheduleOf_l16 : ∀ {R : Type}, Nat → (List (Int × List Int)) → Int → Int → Int → Int → (List (Int × Int × Int)) → (List Int) → (List Int) → ((List (Int × List Int)) → Int → Int → (List (Int × Int × Int)) → (List Int) → (List Int) → Option R) → Option R) (spec_ScheduleOf_l13 : ∀ {R : Type}, Nat → (List (Int × List Int)) → Int → Int → (List (Int × Int × Int)) → (List Int) → (List Int) → (Int → (List (Int × Int × Int)) → Option R) → Option R) {R : Type} (n : Nat) (x0 : List (Int × List Int)) (x1 : Int) (k : Pk → Option R) : evF tt sig (mkK [(95, Kspec_GoodPlan @spec_GoodPlan n), (72, Kspec_l1In @spec_l1In n)] R) (mkL (mkK [(95, Kspec_GoodPlan @spec_GoodPlan n), (72, Kspec_l1In @spec_l1In n)]) [(7, Dspec_ScheduleOf_l7, Pspec_ScheduleOf_l7 @spec_ScheduleOf_l7 n), (24, Dspec_ScheduleOf_l24, Pspec_ScheduleOf_l24 @spec_ScheduleOf_l24 n), (20, Dspec_ScheduleOf_l20, Pspec_ScheduleOf_l20 @spec_ScheduleOf_l20 n), (16, Dspec_ScheduleOf_l16, Pspec_ScheduleOf_l16 @spec_ScheduleOf_l16 n), (13, Dspec_ScheduleOf_l13, Pspec_ScheduleOf_l13 @spec_ScheduleOf_l13 n)] R) Try.f52 Hspec_ScheduleOf (PkS.pack Sspec_ScheduleOf (x0, x1, ())) k = (fun (k : Int → Bool → (List (Int × Int × Int)) → Option R) => (spec_GoodPlan n x0 fun r1 => (bif (!r1) then k 0 false ([] : List (Int × Int × Int)) else (spec_l1In n x1 1 8 fun r2 => (bif (!r2) then k 0 false ([] : List (Int × Int × Int)) else (bif decide (0 ≤ (x0.length : Int)) then (bif decide ((x0.length : Int) ≤ (x0.length : Int)) then (bif decide ((x0.length : Int) ≤ 1099511627776) then (bif decide (0 ≤ x1) then (bif decide (x1 ≤ x1) then (bif decide (x1 ≤ 1099511627776) then (spec_ScheduleOf_l7 n x0 ((List.replicate (Int.toNat (x0.length : Int)) (0 : Int)).length : Int) 0 ([] : List (Int × Int × Int)) (List.replicate (Int.toNat (x0.length : Int)) (0 : Int)) (List.replicate (Int.toNat x1) (0 : Int)) (fun r3 r4 r5 r6 => (spec_ScheduleOf_l13 n r3 0 0 r4 r5 r6 (fun r38 r39 => k r38 true r39)))) else none) else none) else none) else none) else none) else none)))))) (fun r0 r1 r2 => k (PkS.pack Tspec_ScheduleOf (r0, r1, r2, ()))) := by kernel_rfl
theorem okspec_ScheduleOf (n : Nat) : FnOk Try.prog 52 (Kspec_ScheduleOf @spec_ScheduleOf n) := by
  refine fn_ok (sig := sig) mixed ttok (mkK_nat (cspec_ScheduleOf n)) (mkK_ok (cspec_ScheduleOf n)) (mkL_nat (mkK_nat (cspec_ScheduleOf n)) (l := [(7, Dspec_ScheduleOf_l7, Pspec_ScheduleOf_l7 @spec_ScheduleOf_l7 n), (24, Dspec_ScheduleOf_l24, Pspec_ScheduleOf_l24 @spec_ScheduleOf_l24 n), (20, Dspec_ScheduleOf_l20, Pspec_ScheduleOf_l20 @spec_ScheduleOf_l20 n), (16, Dspec_ScheduleOf_l16, Pspec_ScheduleOf_l16 @spec_ScheduleOf_l16 n), (13, Dspec_ScheduleOf_l13, Pspec_ScheduleOf_l13 @spec_ScheduleOf_l13 n)]) ⟨nlspec_ScheduleOf_l7 n, ⟨nlspec_ScheduleOf_l24 n, ⟨nlspec_ScheduleOf_l20 n, ⟨nlspec_ScheduleOf_l16 n, ⟨nlspec_ScheduleOf_l13 n, trivial⟩⟩⟩⟩⟩) (fn := Try.f52) (c := bodyOf Try.f52) (by kernel_rfl) (by kernel_rfl) (by kernel_rfl) (.eq (l := [.lo (loopIn 7 (bodyOf Try.f52)), .lo (loopIn 13 (bodyOf Try.f52))]) (by kernel_rfl) ⟨(lkspec_ScheduleOf_l7 n _ _ (at_id (i := 7) (by kernel_rfl) rfl)), ⟨(lkspec_ScheduleOf_l13 n _ _ (at_id (i := 13) (by kernel_rfl) rfl)), trivial⟩⟩) (shs := Hspec_ScheduleOf) (S := Sspec_ScheduleOf) (h1 := by kernel_rfl) fun R p k => ?_
  unfold Kspec_ScheduleOf
  cases h : (PkS.un Sspec_ScheduleOf p) with
  | none => rfl
  | some d =>
    obtain ⟨x0, x1, u⟩ := (d : (List (Int × List Int)) × Int × Unit)
    have hp := PkS.un_pack h
    subst hp
    exact (espec_ScheduleOf @spec_GoodPlan @spec_l1In @spec_ScheduleOf_l7 @spec_ScheduleOf_l24 @spec_ScheduleOf_l20 @spec_ScheduleOf_l16 @spec_ScheduleOf_l13 n x0 x1 k).symm

/-! ### loop.example/g00269/impl.slotsOk$1 -/
theorem cimpl_slotsOk_c1 (n : Nat) : AllOk Try.prog [] := trivial
@[reducible] def Simpl_slotsOk_c1 : PkS := ⟨[.one (.int .i64), .one (.box (200000, 1) 0), .one (.box (200000, 2) 0), .one (.box (200000, 3) 0)], [((200000, 0), .arr (.int .i64)), ((200000, 1), .box [.whole (200000, 0)]), ((200000, 2), .box [.ro (.pr (.int .i64) (.sl (.int .i64)))]), ((200000, 3), .box [.int .i64])]⟩
@[reducible] def Timpl_slotsOk_c1 : PkS := ⟨[.one (.bool), .one (.dead), .one (.box (300000, 1) 0), .one (.box (300000, 2) 0), .one (.box (300000, 3) 0)], [((300000, 0), .arr (.int .i64)), ((300000, 1), .box [.whole (300000, 0)]), ((300000, 2), .box [.ro (.pr (.int .i64) (.sl (.int .i64)))]), ((300000, 3), .box [.int .i64])]⟩
def Himpl_slotsOk_c1 : List Sh := [.one .any, .skip, .box [(.own (.int .i64))], .box [(.ro (.pr (.int .i64) (.sl (.int .i64))))], .box [.any]]
def Kimpl_slotsOk_c1 (g : ∀ {R : Type}, Nat → Int → (List Int) → (List (Int × List Int)) → Int → (Bool → (List Int) → (List (Int × List Int)) → Int → Option R) → Option R) (n : Nat) : KPs := fun R p k => match (PkS.un Simpl_slotsOk_c1 p : Option (Int × (List Int) × (List (Int × List Int)) × Int × Unit)) with
  | some (x0, x1, x2, x3, _) => g n x0 x1 x2 x3 (fun r0 r1 r2 r3 => k (PkS.pack Timpl_slotsOk_c1 (r0, r1, r2, r3, ())))
  | none => none
theorem eimpl_slotsOk_c1  {R : Type} (n : Nat) (x0 : Int) (x1 : List Int) (x2 : List (Int × List Int)) (x3 : Int) (k : Pk → Option R) : evF tt sig (mkK [] R) (mkL (mkK []) [] R) Try.f153 Himpl_slotsOk_c1 (PkS.pack Simpl_slotsOk_c1 (x0, x1, x2, x3, ())) k = (fun (k : Bool → (List Int) → (List (Int × List Int)) → Int → Option R) => (bif decide (0 ≤ x0) then (bif decide (x0 < (x1.length : Int)) then (bif decide (0 ≤ x0) then (bif decide (x0 < (x2.length : Int)) then (bif decide (0 ≤ x3) then (bif decide (x3 < (x1.length : Int)) then k (decide ((IntKind.wrap .i64 ((x1.getD (Int.toNat x0) 0) + ((x2.getD (Int.toNat x0) (0, [])).1))) > (x1.getD (Int.toNat x3) 0))) x1 x2 x3 else none) else none) else none) else none) else none) else none)) (fun r0 r1 r2 r3 => k (PkS.pack Timpl_slotsOk_c1 (r0, r1, r2, r3, ()))) := by kernel_rfl
theorem okimpl_slotsOk_c1 (n : Nat) : FnOk Try.prog 153 (Kimpl_slotsOk_c1 @impl_slotsOk_c1 n) := by
  refine fn_ok (sig := sig) mixed ttok (mkK_nat (cimpl_slotsOk_c1 n)) (mkK_ok (cimpl_slotsOk_c1 n)) (mkL_nat (mkK_nat (cimpl_slotsOk_c1 n)) (l := []) trivial) (fn := Try.f153) (c := bodyOf Try.f153) (by kernel_rfl) (by kernel_rfl) (by kernel_rfl) (.eq (l := []) (by kernel_rfl) trivial) (shs := Himpl_slotsOk_c1) (S := Simpl_slotsOk_c1) (h1 := by kernel_rfl) fun R p k => ?_
  unfold Kimpl_slotsOk_c1
  cases h : (PkS.un Simpl_slotsOk_c1 p) with
  | none => rfl
  | some d =>
    obtain ⟨x0, x1, x2, x3, u⟩ := (d : Int × (List Int) × (List (Int × List Int)) × Int × Unit)
    have hp := PkS.un_pack h
    subst hp
    exact (eimpl_slotsOk_c1  n x0 x1 x2 x3 k).symm

/-! ### slices.IndexFunc[[]int,int] -/
theorem cslices_IndexFunc_int_impl_slotsOk_c1 (n : Nat) : AllOk Try.prog [(153, Kimpl_slotsOk_c1 @impl_slotsOk_c1 n)] := ⟨okimpl_slotsOk_c1 n, trivial⟩
@[reducible] def Sslices_IndexFunc_int_impl_slotsOk_c1_l2 : PkS := ⟨[.one (.ro (.int .i64)), .one (.fn 153 [((100000, 1), 0), ((100000, 2), 0), ((100000, 3), 0)]), .one (.int .i64), .one (.int .i64), .one (.dead), .one (.fn 153 [((100000, 1), 0), ((100000, 2), 0), ((100000, 3), 0)])], [((100000, 0), .arr (.int .i64)), ((100000, 1), .box [.whole (100000, 0)]), ((100000, 2), .box [.ro (.pr (.int .i64) (.sl (.int .i64)))]), ((100000, 3), .box [.int .i64])]⟩
@[reducible] def Tslices_IndexFunc_int_impl_slotsOk_c1_l2_0 : PkS := ⟨[.one (.int .i64), .one (.dead), .one (.fn 153 [((100000, 1), 0), ((100000, 2), 0), ((100000, 3), 0)])], [((100000, 0), .arr (.int .i64)), ((100000, 1), .box [.whole (100000, 0)]), ((100000, 2), .box [.ro (.pr (.int .i64) (.sl (.int .i64)))]), ((100000, 3), .box [.int .i64])]⟩
@[reducible] def Tslices_IndexFunc_int_impl_slotsOk_c1_l2_1 : PkS := ⟨[.one (.dead), .one (.fn 153 [((100000, 1), 0), ((100000, 2), 0), ((100000, 3), 0)])], [((100000, 0), .arr (.int .i64)), ((100000, 1), .box [.whole (100000, 0)]), ((100000, 2), .box [.ro (.pr (.int .i64) (.sl (.int .i64)))]), ((100000, 3), .box [.int .i64])]⟩
def Dslices_IndexFunc_int_impl_slotsOk_c1_l2 : LoopD := ⟨19, [0, 1, 7, 8], [.one (.ro (.int .i64)), .fn 153 [[(.own (.int .i64))], [(.ro (.pr (.int .i64) (.sl (.int .i64))))], [.any]], .one .any, .one .any, .skip, .fn 153 [[(.own (.int .i64))], [(.ro (.pr (.int .i64) (.sl (.int .i64))))], [.any]]], fun x => match x with
  | .ret => some ([4], [.one .any, .skip, .fn 153 [[(.own (.int .i64))], [(.ro (.pr (.int .i64) (.sl (.int .i64))))], [.any]]])
  | .exit 0 => some ([], [.skip, .fn 153 [[(.own (.int .i64))], [(.ro (.pr (.int .i64) (.sl (.int .i64))))], [.any]]])
  | _ => none⟩
def Pslices_IndexFunc_int_impl_slotsOk_c1_l2 (g : ∀ {R : Type}, Nat → (List Int) → Int → Int → (List Int) → (List (Int × List Int)) → Int → (Int → (List Int) → (List (Int × List Int)) → Int → Option R) → ((List Int) → (List (Int × List Int)) → Int → Option R) → Option R) (n : Nat) : LPs := fun R q kk => match (PkS.un Sslices_IndexFunc_int_impl_slotsOk_c1_l2 q : Option ((List Int) × Int × Int × (List Int) × (List (Int × List Int)) × Int × Unit)) with
  | some (y2_0, y2_1, y2_2, y2_3, y2_4, y2_5, _) => g n y2_0 y2_1 y2_2 y2_3 y2_4 y2_5 (fun r0 r1 r2 r3 => kk .ret (PkS.pack Tslices_IndexFunc_int_impl_slotsOk_c1_l2_0 (r0, r1, r2, r3, ()))) (fun r0 r1 r2 => kk (.exit 0) (PkS.pack Tslices_IndexFunc_int_impl_slotsOk_c1_l2_1 (r0, r1, r2, ())))
  | none => none
theorem eslices_IndexFunc_int_impl_slotsOk_c1_l2 (impl_slotsOk_c1 : ∀ {R : Type}, Nat → Int → (List Int) → (List (Int × List Int)) → Int → (Bool → (List Int) → (List (Int × List Int)) → Int → Option R) → Option R) (slices_IndexFunc_int_impl_slotsOk_c1_l2 : ∀ {R : Type}, Nat → (List Int) → Int → Int → (List Int) → (List (Int × List Int)) → Int → (Int → (List Int) → (List (Int × List Int)) → Int → Option R) → ((List Int) → (List (Int × List Int)) → Int → Option R) → Option R) {R : Type} (n : Nat) (y2_0 : List Int) (y2_1 : Int) (y2_2 : Int) (y2_3 : List Int) (y2_4 : List (Int × List Int)) (y2_5 : Int) (kk : Ex → Pk → Option R) : Dslices_IndexFunc_int_impl_slotsOk_c1_l2.step tt sig (mkK [(153, Kimpl_slotsOk_c1 @impl_slotsOk_c1 n)] R) (mkL (mkK [(153, Kimpl_slotsOk_c1 @impl_slotsOk_c1 n)]) [] R) (loopIn 2 (bodyOf Try.f157)) (fun q' => Pslices_IndexFunc_int_impl_slotsOk_c1_l2 @slices_IndexFunc_int_impl_slotsOk_c1_l2 n R q' kk) (PkS.pack Sslices_IndexFunc_int_impl_slotsOk_c1_l2 (y2_0, y2_1, y2_2, y2_3, y2_4, y2_5, ())) kk = (fun (kret : Int → (List Int) → (List (Int × List Int)) → Int → Option R) (kexit0 : (List Int) → (List (Int × List Int)) → Int → Option R) => (bif (decide (y2_2 < y2_1)) then (bif decide (0 ≤ y2_2) then (bif decide (y2_2 < (y2_0.length : Int)) then (impl_slotsOk_c1 n (y2_0.getD (Int.toNat y2_2) 0) y2_3 y2_4 y2_5 fun r1 r2 r3 r4 => (bif r1 then kret y2_2 r2 r3 r4 else slices_IndexFunc_int_impl_slotsOk_c1_l2 n y2_0 y2_1 (IntKind.wrap .i64 (y2_2 + 1)) r2 r3 r4 kret kexit0)) else none) else none) else kexit0 y2_3 y2_4 y2_5)) (fun r0 r1 r2 r3 => kk .ret (PkS.pack Tslices_IndexFunc_int_impl_slotsOk_c1_l2_0 (r0, r1, r2, r3, ()))) (fun r0 r1 r2 => kk (.exit 0) (PkS.pack Tslices_IndexFunc_int_impl_slotsOk_c1_l2_1 (r0, r1, r2, ()))) := by kernel_rfl
theorem leslices_IndexFunc_int_impl_slotsOk_c1_l2 : LoopEq tt sig (fun n => mkK [(153, Kimpl_slotsOk_c1 @impl_slotsOk_c1 n)]) (fun n => mkL (mkK [(153, Kimpl_slotsOk_c1 @impl_slotsOk_c1 n)]) []) Dslices_IndexFunc_int_impl_slotsOk_c1_l2 Sslices_IndexFunc_int_impl_slotsOk_c1_l2 (loopIn 2 (bodyOf Try.f157)) (Pslices_IndexFunc_int_impl_slotsOk_c1_l2 @slices_IndexFunc_int_impl_slotsOk_c1_l2) where
  zero R q kk := by unfold Pslices_IndexFunc_int_impl_slotsOk_c1_l2; cases (PkS.un Sslices_IndexFunc_int_impl_slotsOk_c1_l2 q) <;> rfl
  succ n R q kk := by
    unfold Pslices_IndexFunc_int_impl_slotsOk_c1_l2
    cases h : (PkS.un Sslices_IndexFunc_int_impl_slotsOk_c1_l2 q) with
    | none => rfl
    | some d =>
      obtain ⟨y2_0, y2_1, y2_2, y2_3, y2_4, y2_5, u⟩ := (d : (List Int) × Int × Int × (List Int) × (List (Int × List Int)) × Int × Unit)
      have hp := PkS.un_pack h
      subst hp
      exact (eslices_IndexFunc_int_impl_slotsOk_c1_l2 @impl_slotsOk_c1 @slices_IndexFunc_int_impl_slotsOk_c1_l2 n y2_0 y2_1 y2_2 y2_3 y2_4 y2_5 kk).symm
theorem nlslices_IndexFunc_int_impl_slotsOk_c1_l2 : ∀ n, NatLP (Pslices_IndexFunc_int_impl_slotsOk_c1_l2 @slices_IndexFunc_int_impl_slotsOk_c1_l2 n) := leslices_IndexFunc_int_impl_slotsOk_c1_l2.nat (fun n => mkK_nat (cslices_IndexFunc_int_impl_slotsOk_c1 n)) fun n => mkL_nat (mkK_nat (cslices_IndexFunc_int_impl_slotsOk_c1 n)) (l := []) trivial
theorem inslices_IndexFunc_int_impl_slotsOk_c1_l2 (n : Nat) (R : Type) : LoopsOk Try.prog (mkL (mkK [(153, Kimpl_slotsOk_c1 @impl_slotsOk_c1 n)]) [] R) (loopIn 2 (bodyOf Try.f157)) := .eq (l := []) (by kernel_rfl) trivial
theorem lkslices_IndexFunc_int_impl_slotsOk_c1_l2 (n : Nat) (R : Type) (L0 : LK R) (h0 : ∀ id, firstRegion (loopIn 2 (bodyOf Try.f157)) = some id → L0 id = Dslices_IndexFunc_int_impl_slotsOk_c1_l2.oracle (mkK [(153, Kimpl_slotsOk_c1 @impl_slotsOk_c1 n)] R) (Pslices_IndexFunc_int_impl_slotsOk_c1_l2 @slices_IndexFunc_int_impl_slotsOk_c1_l2 n R)) : LoopOk Try.prog L0 (loopIn 2 (bodyOf Try.f157)) :=
  leslices_IndexFunc_int_impl_slotsOk_c1_l2.ok mixed ttok (fun n => mkK_nat (cslices_IndexFunc_int_impl_slotsOk_c1 n)) (fun n => mkK_ok (cslices_IndexFunc_int_impl_slotsOk_c1 n)) (fun n => inslices_IndexFunc_int_impl_slotsOk_c1_l2 n R) (mkK_nat (cslices_IndexFunc_int_impl_slotsOk_c1 n)) h0
@[reducible] def Sslices_IndexFunc_int_impl_slotsOk_c1 : PkS := ⟨[.one (.ro (.int .i64)), .one (.fn 153 [((200000, 1), 0), ((200000, 2), 0), ((200000, 3), 0)])], [((200000, 0), .arr (.int .i64)), ((200000, 1), .box [.whole (200000, 0)]), ((200000, 2), .box [.ro (.pr (.int .i64) (.sl (.int .i64)))]), ((200000, 3), .box [.int .i64])]⟩
@[reducible] def Tslices_IndexFunc_int_impl_slotsOk_c1 : PkS := ⟨[.one (.int .i64), .one (.dead), .one (.fn 153 [((300000, 1), 0), ((300000, 2), 0), ((300000, 3), 0)])], [((300000, 0), .arr (.int .i64)), ((300000, 1), .box [.whole (300000, 0)]), ((300000, 2), .box [.ro (.pr (.int .i64) (.sl (.int .i64)))]), ((300000, 3), .box [.int .i64])]⟩
def Hslices_IndexFunc_int_impl_slotsOk_c1 : List Sh := [.one .any, .skip, .fn 153 [[(.own (.int .i64))], [(.ro (.pr (.int .i64) (.sl (.int .i64))))], [.any]]]
def Kslices_IndexFunc_int_impl_slotsOk_c1 (g : ∀ {R : Type}, Nat → (List Int) → (List Int) → (List (Int × List Int)) → Int → (Int → (List Int) → (List (Int × List Int)) → Int → Option R) → Option R) (n : Nat) : KPs := fun R p k => match (PkS.un Sslices_IndexFunc_int_impl_slotsOk_c1 p : Option ((List Int) × (List Int) × (List (Int × List Int)) × Int × Unit)) with
  | some (x0, x1, x2, x3, _) => g n x0 x1 x2 x3 (fun r0 r1 r2 r3 => k (PkS.pack Tslices_IndexFunc_int_impl_slotsOk_c1 (r0, r1, r2, r3, ())))
  | none => none
theorem eslices_IndexFunc_int_impl_slotsOk_c1 (impl_slotsOk_c1 : ∀ {R : Type}, Nat → Int → (List Int) → (List (Int × List Int)) → Int → (Bool → (List Int) → (List (Int × List Int)) → Int → Option R) → Option R) (slices_IndexFunc_int_impl_slotsOk_c1_l2 : ∀ {R : Type}, Nat → (List Int) → Int → Int → (List Int) → (List (Int × List Int)) → Int → (Int → (List Int) → (List (Int × List Int)) → Int → Option R) → ((List Int) → (List (Int × List Int)) → Int → Option R) → Option R) {R : Type} (n : Nat) (x0 : List Int) (x1 : List Int) (x2 : List (Int × List Int)) (x3 : Int) (k : Pk → Option R) : evF tt sig (mkK [(153, Kimpl_slotsOk_c1 @impl_slotsOk_c1 n)] R) (mkL (mkK [(153, Kimpl_slotsOk_c1 @impl_slotsOk_c1 n)]) [(2, Dslices_IndexFunc_int_impl_slotsOk_c1_l2, Pslices_IndexFunc_int_impl_slotsOk_c1_l2 @slices_IndexFunc_int_impl_slotsOk_c1_l2 n)] R) Try.f157 Hslices_IndexFunc_int_impl_slotsOk_c1 (PkS.pack Sslices_IndexFunc_int_impl_slotsOk_c1 (x0, x1, x2, x3, ())) k = (fun (k : Int → (List Int) → (List (Int × List Int)) → Int → Option R) => (slices_IndexFunc_int_impl_slotsOk_c1_l2 n x0 (x0.length : Int) 0 x1 x2 x3 (fun r5 r6 r7 r8 => k r5 r6 r7 r8) (fun r9 r10 r11 => k (-1) r9 r10 r11))) (fun r0 r1 r2 r3 => k (PkS.pack Tslices_IndexFunc_int_impl_slotsOk_c1 (r0, r1, r2, r3, ()))) := by kernel_rfl
theorem okslices_IndexFunc_int_impl_slotsOk_c1 (n : Nat) : FnOk Try.prog 157 (Kslices_IndexFunc_int_impl_slotsOk_c1 @slices_IndexFunc_int_impl_slotsOk_c1 n) := by
  refine fn_ok (sig := sig) mixed ttok (mkK_nat (cslices_IndexFunc_int_impl_slotsOk_c1 n)) (mkK_ok (cslices_IndexFunc_int_impl_slotsOk_c1 n)) (mkL_nat (mkK_nat (cslices_IndexFunc_int_impl_slotsOk_c1 n)) (l := [(2, Dslices_IndexFunc_int_impl_slotsOk_c1_l2, Pslices_IndexFunc_int_impl_slotsOk_c1_l2 @slices_IndexFunc_int_impl_slotsOk_c1_l2 n)]) ⟨nlslices_IndexFunc_int_impl_slotsOk_c1_l2 n, trivial⟩) (fn := Try.f157) (c := bodyOf Try.f157) (by kernel_rfl) (by kernel_rfl) (by kernel_rfl) (.eq (l := [.lo (loopIn 2 (bodyOf Try.f157))]) (by kernel_rfl) ⟨(lkslices_IndexFunc_int_impl_slotsOk_c1_l2 n _ _ (at_id (i := 2) (by kernel_rfl) rfl)), trivial⟩) (shs := Hslices_IndexFunc_int_impl_slotsOk_c1) (S := Sslices_IndexFunc_int_impl_slotsOk_c1) (h1 := by kernel_rfl) fun R p k => ?_
  unfold Kslices_IndexFunc_int_impl_slotsOk_c1
  cases h : (PkS.un Sslices_IndexFunc_int_impl_slotsOk_c1 p) with
  | none => rfl
  | some d =>
    obtain ⟨x0, x1, x2, x3, u⟩ := (d : (List Int) × (List Int) × (List (Int × List Int)) × Int × Unit)
    have hp := PkS.un_pack h
    subst hp
    exact (eslices_IndexFunc_int_impl_slotsOk_c1 @impl_slotsOk_c1 @slices_IndexFunc_int_impl_slotsOk_c1_l2 n x0 x1 x2 x3 k).symm

/-! ### slices.ContainsFunc[[]int,int] -/
theorem cslices_ContainsFunc_int_impl_slotsOk_c1 (n : Nat) : AllOk Try.prog [(157, Kslices_IndexFunc_int_impl_slotsOk_c1 @slices_IndexFunc_int_impl_slotsOk_c1 n)] := ⟨okslices_IndexFunc_int_impl_slotsOk_c1 n, trivial⟩
@[reducible] def Sslices_ContainsFunc_int_impl_slotsOk_c1 : PkS := ⟨[.one (.ro (.int .i64)), .one (.fn 153 [((200000, 1), 0), ((200000, 2), 0), ((200000, 3), 0)])], [((200000, 0), .arr (.int .i64)), ((200000, 1), .box [.whole (200000, 0)]), ((200000, 2), .box [.ro (.pr (.int .i64) (.sl (.int .i64)))]), ((200000, 3), .box [.int .i64])]⟩
@[reducible] def Tslices_ContainsFunc_int_impl_slotsOk_c1 : PkS := ⟨[.one (.bool), .one (.dead), .one (.fn 153 [((300000, 1), 0), ((300000, 2), 0), ((300000, 3), 0)])], [((300000, 0), .arr (.int .i64)), ((300000, 1), .box [.whole (300000, 0)]), ((300000, 2), .box [.ro (.pr (.int .i64) (.sl (.int .i64)))]), ((300000, 3), .box [.int .i64])]⟩
def Hslices_ContainsFunc_int_impl_slotsOk_c1 : List Sh := [.one .any, .skip, .fn 153 [[(.own (.int .i64))], [(.ro (.pr (.int .i64) (.sl (.int .i64))))], [.any]]]
def Kslices_ContainsFunc_int_impl_slotsOk_c1 (g : ∀ {R : Type}, Nat → (List Int) → (List Int) → (List (Int × List Int)) → Int → (Bool → (List Int) → (List (Int × List Int)) → Int → Option R) → Option R) (n : Nat) : KPs := fun R p k => match (PkS.un Sslices_ContainsFunc_int_impl_slotsOk_c1 p : Option ((List Int) × (List Int) × (List (Int × List Int)) × Int × Unit)) with
  | some (x0, x1, x2, x3, _) => g n x0 x1 x2 x3 (fun r0 r1 r2 r3 => k (PkS.pack Tslices_ContainsFunc_int_impl_slotsOk_c1 (r0, r1, r2, r3, ())))
  | none => none
theorem eslices_ContainsFunc_int_impl_slotsOk_c1 (slices_IndexFunc_int_impl_slotsOk_c1 : ∀ {R : Type}, Nat → (List Int) → (List Int) → (List (Int × List Int)) → Int → (Int → (List Int) → (List (Int × List Int)) → Int → Option R) → Option R) {R : Type} (n : Nat) (x0 : List Int) (x1 : List Int) (x2 : List (Int × List Int)) (x3 : Int) (k : Pk → Option R) : evF tt sig (mkK [(157, Kslices_IndexFunc_int_impl_slotsOk_c1 @slices_IndexFunc_int_impl_slotsOk_c1 n)] R) (mkL (mkK [(157, Kslices_IndexFunc_int_impl_slotsOk_c1 @slices_IndexFunc_int_impl_slotsOk_c1 n)]) [] R) Try.f120 Hslices_ContainsFunc_int_impl_slotsOk_c1 (PkS.pack Sslices_ContainsFunc_int_impl_slotsOk_c1 (x0, x1, x2, x3, ())) k = (fun (k : Bool → (List Int) → (List (Int × List Int)) → Int → Option R) => (slices_IndexFunc_int_impl_slotsOk_c1 n x0 x1 x2 x3 fun r1 r2 r3 r4 => k (decide (r1 ≥ 0)) r2 r3 r4)) (fun r0 r1 r2 r3 => k (PkS.pack Tslices_ContainsFunc_int_impl_slotsOk_c1 (r0, r1, r2, r3, ()))) := by kernel_rfl
theorem okslices_ContainsFunc_int_impl_slotsOk_c1 (n : Nat) : FnOk Try.prog 120 (Kslices_ContainsFunc_int_impl_slotsOk_c1 @slices_ContainsFunc_int_impl_slotsOk_c1 n) := by
  refine fn_ok (sig := sig) mixed ttok (mkK_nat (cslices_ContainsFunc_int_impl_slotsOk_c1 n)) (mkK_ok (cslices_ContainsFunc_int_impl_slotsOk_c1 n)) (mkL_nat (mkK_nat (cslices_ContainsFunc_int_impl_slotsOk_c1 n)) (l := []) trivial) (fn := Try.f120) (c := bodyOf Try.f120) (by kernel_rfl) (by kernel_rfl) (by kernel_rfl) (.eq (l := []) (by kernel_rfl) trivial) (shs := Hslices_ContainsFunc_int_impl_slotsOk_c1) (S := Sslices_ContainsFunc_int_impl_slotsOk_c1) (h1 := by kernel_rfl) fun R p k => ?_
  unfold Kslices_ContainsFunc_int_impl_slotsOk_c1
  cases h : (PkS.un Sslices_ContainsFunc_int_impl_slotsOk_c1 p) with
  | none => rfl
  | some d =>
    obtain ⟨x0, x1, x2, x3, u⟩ := (d : (List Int) × (List Int) × (List (Int × List Int)) × Int × Unit)
    have hp := PkS.un_pack h
    subst hp
    exact (eslices_ContainsFunc_int_impl_slotsOk_c1 @slices_IndexFunc_int_impl_slotsOk_c1 n x0 x1 x2 x3 k).symm
end Go.Am.G
