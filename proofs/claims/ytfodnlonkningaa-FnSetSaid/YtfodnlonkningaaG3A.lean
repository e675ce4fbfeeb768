/- The code of the functions that the law reaches does what the plain functions say. -/
import Derived.Test.YtfodnlonkningaaF3
import Derived.Test.YtfodnlonkningaaAmB
import Derived.Test.YtfodnlonkningaaAmW
import Derived.KernelRfl
import Derived.Test.YtfodnlonkningaaProg
set_option linter.unusedVariables false
set_option maxRecDepth 100000
namespace Go.Am.G
open Go Go.Am
open Go.Proofs
def tt : TT := [(3, ⟨1, false, (.int .i64), 0, [], [.int .i64 0], 8, true, false, [], none, false⟩), (4, ⟨1, false, .bool, 0, [], [.bool false], 1, true, false, [], none, false⟩), (5, ⟨1, false, (.int .u8), 0, [], [.int .u8 0], 1, true, false, [], none, false⟩), (22, ⟨1, false, (.sl (.int .u8)), 5, [], [.nil], 24, true, true, [], none, false⟩), (23, ⟨1, false, (.sl (.sl (.pr (.int .i64) (.int .i64)))), 34, [], [.nil], 24, true, true, [], none, false⟩), (25, ⟨2, true, (.pr (.int .i64) (.sl (.sl (.pr (.int .i64) (.int .i64))))), 0, [(0, 1, false), (1, 1, false)], [.int .i64 0, .nil], 32, true, false, [], none, false⟩), (27, ⟨2, true, (.pr (.int .i64) (.int .i64)), 0, [(0, 1, false), (1, 1, false)], [.int .i64 0, .int .i64 0], 16, true, false, [(.int .i64), (.int .i64)], none, false⟩), (34, ⟨1, false, (.sl (.pr (.int .i64) (.int .i64))), 27, [], [.nil], 24, true, true, [], none, false⟩), (41, ⟨1, false, (.sl (.int .i64)), 3, [], [.nil], 24, true, true, [], none, false⟩), (52, ⟨1, false, (.int .u64), 0, [], [.int .u64 0], 8, true, false, [], none, false⟩), (54, ⟨3, true, (.pr (.sl (.int .u8)) (.pr (.int .i64) (.int .u64))), 0, [(0, 1, false), (1, 1, false), (2, 1, false)], [.nil, .int .i64 0, .int .u64 0], 40, true, false, [], none, false⟩), (70, ⟨1, false, .bool, 0, [], [.dead], 8, false, false, [], some (3, 4), false⟩)]
def sig : Sig := sigOf [(3, [.one (.ro (.int .u8)), .one (.ro (.int .u8))]), (5, [.one (.ro (.int .u8))]), (6, [.agg [.any, (.ro (.sl (.pr (.int .i64) (.int .i64))))], .agg [.any, .any]]), (7, [.agg [.any, (.ro (.sl (.pr (.int .i64) (.int .i64))))], .agg [.any, .any]]), (8, [.one .any, .one .any]), (9, [.one .any, .one .any]), (10, [.agg [.any, (.ro (.sl (.pr (.int .i64) (.int .i64))))]]), (11, [.agg [.any, (.ro (.sl (.pr (.int .i64) (.int .i64))))], .one .any]), (12, [.one (.ro (.pr (.int .i64) (.int .i64))), .one (.ro (.pr (.int .i64) (.int .i64)))]), (13, [.agg [.any, (.ro (.sl (.pr (.int .i64) (.int .i64))))]]), (14, [.one (.ro (.int .u8))]), (15, [.agg [.any, (.ro (.sl (.pr (.int .i64) (.int .i64))))]]), (16, [.agg [.any, (.ro (.sl (.pr (.int .i64) (.int .i64))))]]), (17, [.one (.ro (.int .i64)), .one (.ro (.int .i64))]), (18, [.agg [.any, (.ro (.sl (.pr (.int .i64) (.int .i64))))], .one .any]), (20, [.agg [.any, (.ro (.sl (.pr (.int .i64) (.int .i64))))], .one .any]), (22, [.box [(.ro (.int .u8)), .any, .any]]), (23, [.box [(.ro (.int .u8)), .any, .any], .one (.ro (.int .i64))]), (24, [.one .any, .one .any, .one .any]), (25, [.one .any, .one .any]), (26, [.box [.any, (.ro (.sl (.pr (.int .i64) (.int .i64))))], .one .any]), (27, [.box [.any, (.ro (.sl (.pr (.int .i64) (.int .i64))))]]), (28, [.one .any, .one .any]), (29, [.agg [.any, (.ro (.sl (.pr (.int .i64) (.int .i64))))]]), (30, [.agg [.any, (.ro (.sl (.pr (.int .i64) (.int .i64))))]]), (31, [.agg [.any, .any], .one .any]), (32, [.agg [.any, (.ro (.sl (.pr (.int .i64) (.int .i64))))]]), (33, [.one .any, .one .any]), (34, [.agg [.any, (.ro (.sl (.pr (.int .i64) (.int .i64))))]]), (35, [.one .any]), (36, [.one .any, .one .any, .one .any]), (37, [.one (.own (.pr (.int .i64) (.int .i64))), .fn 38 []]), (41, [.one (.own (.pr (.int .i64) (.int .i64))), .fn 42 [[.any]]]), (42, [.agg [.any, .any], .box [.any]]), (43, [.one .any, .one .any, .one .any]), (44, [.one .any, .one .any]), (45, [.one (.ro (.int .u8))]), (46, [.box [.any, (.rr (.pr (.int .i64) (.int .i64)))]]), (47, [.agg [.any, (.rr (.pr (.int .i64) (.int .i64)))]]), (48, [.box [(.ro (.int .u8)), .any, .any], .one .any]), (49, []), (50, [.box [(.ro (.int .u8)), .any, .any], .one .any]), (51, [.agg [.any, (.ro (.sl (.pr (.int .i64) (.int .i64))))], .one .any]), (52, [.one (.ro (.pr (.int .i64) (.int .i64))), .fn 53 [[.any]]]), (53, [.agg [.any, .any], .box [.any]]), (54, [.one (.ro (.sl (.pr (.int .i64) (.int .i64))))]), (55, [.one (.ro (.pr (.int .i64) (.int .i64)))]), (56, [.one (.ro (.int .i64)), .one .any]), (57, [.one .any, .one .any, .one .any]), (58, [.one .any]), (62, [.one (.ro (.pr (.int .i64) (.int .i64))), .fn 42 [[.any]]]), (62, [.one (.ro (.pr (.int .i64) (.int .i64))), .fn 53 [[.any]]]), (63, [.one .any]), (64, [.one (.own (.int .i64))]), (65, [.one (.ro (.int .i64)), .one .any]), (66, [.box [(.ro (.int .u8)), .any, .any]]), (67, [.one (.own (.pr (.int .i64) (.int .i64))), .one .any])]
theorem ttok : TTok Try.prog tt := .of_chk (by kernel_rfl)
theorem mixed : Try.prog.follows .mixedOrders = true := by kernel_rfl

/-! ### loop.example/g00269/spec.NewWheel -/
theorem cspec_NewWheel (n : Nat) : AllOk Try.prog [] := trivial
@[reducible] def Sspec_NewWheel : PkS := ⟨[], []⟩
@[reducible] def Tspec_NewWheel : PkS := ⟨[.agg [.int .i64, .mp (300000, 0)]], [((300000, 0), .rr (.pr (.int .i64) (.int .i64)))]⟩
def Hspec_NewWheel : List Sh := [.agg [.any, (.rr (.pr (.int .i64) (.int .i64)))]]
def Kspec_NewWheel (g : ∀ {R : Type}, Nat → (Int → (List (List (Int × Int))) → Option R) → Option R) (n : Nat) : KPs := fun R p k => match (PkS.un Sspec_NewWheel p : Option (Unit)) with
  | some _ => g n  (fun r0 r1 => k (PkS.pack Tspec_NewWheel (r0, r1, ())))
  | none => none
theorem espec_NewWheel  {R : Type} (n : Nat)  (k : Pk → Option R) : evF tt sig (mkK [] R) (mkL (mkK []) [] R) Try.f49 Hspec_NewWheel (PkS.pack Sspec_NewWheel ()) k = (fun (k : Int → (List (List (Int × Int))) → Option R) => k 0 (List.replicate 24 ([] : List (Int × Int)))) (fun r0 r1 => k (PkS.pack Tspec_NewWheel (r0, r1, ()))) := by kernel_rfl
theorem okspec_NewWheel (n : Nat) : FnOk Try.prog 49 (Kspec_NewWheel @spec_NewWheel n) := by
  refine fn_ok (sig := sig) mixed ttok (mkK_nat (cspec_NewWheel n)) (mkK_ok (cspec_NewWheel n)) (mkL_nat (mkK_nat (cspec_NewWheel n)) (l := []) trivial) (fn := Try.f49) (c := bodyOf Try.f49) (by kernel_rfl) (by kernel_rfl) (by kernel_rfl) (.eq (l := []) (by kernel_rfl) trivial) (shs := Hspec_NewWheel) (S := Sspec_NewWheel) (h1 := by kernel_rfl) fun R p k => ?_
  unfold Kspec_NewWheel
  cases h : (PkS.un Sspec_NewWheel p) with
  | none => rfl
  | some d =>
    obtain ⟨⟩ := (d : Unit)
    have hp := PkS.un_pack h
    subst hp
    exact (espec_NewWheel  n  k).symm

/-! ### (*loop.example/g00269/spec.l1Cur).next -/
theorem cspec_l1Cur_next (n : Nat) : AllOk Try.prog [] := trivial
@[reducible] def Sspec_l1Cur_next : PkS := ⟨[.one (.box (200000, 0) 0)], [((200000, 0), .box [.ro (.int .u8), .int .i64, .int .u64])]⟩
@[reducible] def Tspec_l1Cur_next : PkS := ⟨[.one (.int .i64), .one (.box (300000, 0) 0)], [((300000, 0), .box [.ro (.int .u8), .int .i64, .int .u64])]⟩
def Hspec_l1Cur_next : List Sh := [.one .any, .box [(.ro (.int .u8)), .any, .any]]
def Kspec_l1Cur_next (g : ∀ {R : Type}, Nat → (List Int) → Int → Int → (Int → (List Int) → Int → Int → Option R) → Option R) (n : Nat) : KPs := fun R p k => match (PkS.un Sspec_l1Cur_next p : Option ((List Int) × Int × Int × Unit)) with
  | some (x0, x1, x2, _) => g n x0 x1 x2 (fun r0 r1 r2 r3 => k (PkS.pack Tspec_l1Cur_next (r0, r1, r2, r3, ())))
  | none => none
theorem espec_l1Cur_next  {R : Type} (n : Nat) (x0 : List Int) (x1 : Int) (x2 : Int) (k : Pk → Option R) : evF tt sig (mkK [] R) (mkL (mkK []) [] R) Try.f66 Hspec_l1Cur_next (PkS.pack Sspec_l1Cur_next (x0, x1, x2, ())) k = (fun (k : Int → (List Int) → Int → Int → Option R) => (bif (decide (x1 < (x0.length : Int))) then (bif decide (0 ≤ x1) then (bif decide (x1 < (x0.length : Int)) then (bif (decide ((IntKind.wrap .i64 (x1 + 1)) ≤ (x0.length : Int))) then k (IntKind.wrap .i64 ((x0.getD (Int.toNat x1) 0))) x0 (IntKind.wrap .i64 (x1 + 1)) (IntKind.wrap .u64 ((IntKind.wrap .u64 ((IntKind.wrap .u64 (x2 * 6364136223846793005)) + (IntKind.wrap .u64 ((IntKind.wrap .i64 ((x0.getD (Int.toNat x1) 0))))))) + 1442695040888963407)) else k (IntKind.wrap .i64 ((IntKind.wrap .u64 (Int.ofNat (BitVec.toNat (BitVec.ofInt (IntKind.bits .u64) (Int.fdiv (IntKind.wrap .u64 ((IntKind.wrap .u64 ((IntKind.wrap .u64 (x2 * 6364136223846793005)) + (IntKind.wrap .u64 ((IntKind.wrap .i64 ((x0.getD (Int.toNat x1) 0))))))) + 1442695040888963407)) (2 ^ (min (Int.toNat 40) (IntKind.bits .u64)))) &&& BitVec.ofInt (IntKind.bits .u64) 255)))))) x0 (IntKind.wrap .i64 (x1 + 1)) (IntKind.wrap .u64 ((IntKind.wrap .u64 ((IntKind.wrap .u64 (x2 * 6364136223846793005)) + (IntKind.wrap .u64 ((IntKind.wrap .i64 ((x0.getD (Int.toNat x1) 0))))))) + 1442695040888963407))) else none) else none) else (bif (decide ((IntKind.wrap .i64 (x1 + 1)) ≤ (x0.length : Int))) then k 0 x0 (IntKind.wrap .i64 (x1 + 1)) (IntKind.wrap .u64 ((IntKind.wrap .u64 ((IntKind.wrap .u64 (x2 * 6364136223846793005)) + 0)) + 1442695040888963407)) else k (IntKind.wrap .i64 ((IntKind.wrap .u64 (Int.ofNat (BitVec.toNat (BitVec.ofInt (IntKind.bits .u64) (Int.fdiv (IntKind.wrap .u64 ((IntKind.wrap .u64 ((IntKind.wrap .u64 (x2 * 6364136223846793005)) + 0)) + 1442695040888963407)) (2 ^ (min (Int.toNat 40) (IntKind.bits .u64)))) &&& BitVec.ofInt (IntKind.bits .u64) 255)))))) x0 (IntKind.wrap .i64 (x1 + 1)) (IntKind.wrap .u64 ((IntKind.wrap .u64 ((IntKind.wrap .u64 (x2 * 6364136223846793005)) + 0)) + 1442695040888963407))))) (fun r0 r1 r2 r3 => k (PkS.pack Tspec_l1Cur_next (r0, r1, r2, r3, ()))) := by kernel_rfl
theorem okspec_l1Cur_next (n : Nat) : FnOk Try.prog 66 (Kspec_l1Cur_next @spec_l1Cur_next n) := by
  refine fn_ok (sig := sig) mixed ttok (mkK_nat (cspec_l1Cur_next n)) (mkK_ok (cspec_l1Cur_next n)) (mkL_nat (mkK_nat (cspec_l1Cur_next n)) (l := []) trivial) (fn := Try.f66) (c := bodyOf Try.f66) (by kernel_rfl) (by kernel_rfl) (by kernel_rfl) (.eq (l := []) (by kernel_rfl) trivial) (shs := Hspec_l1Cur_next) (S := Sspec_l1Cur_next) (h1 := by kernel_rfl) fun R p k => ?_
  unfold Kspec_l1Cur_next
  cases h : (PkS.un Sspec_l1Cur_next p) with
  | none => rfl
  | some d =>
    obtain ⟨x0, x1, x2, u⟩ := (d : (List Int) × Int × Int × Unit)
    have hp := PkS.un_pack h
    subst hp
    exact (espec_l1Cur_next  n x0 x1 x2 k).symm

/-! ### (*loop.example/g00269/spec.l1Cur).pick -/
theorem cspec_l1Cur_pick (n : Nat) : AllOk Try.prog [(66, Kspec_l1Cur_next @spec_l1Cur_next n)] := ⟨okspec_l1Cur_next n, trivial⟩
@[reducible] def Sspec_l1Cur_pick : PkS := ⟨[.one (.box (200000, 0) 0), .one (.int .i64)], [((200000, 0), .box [.ro (.int .u8), .int .i64, .int .u64])]⟩
@[reducible] def Tspec_l1Cur_pick : PkS := ⟨[.one (.int .i64), .one (.box (300000, 0) 0), .one (.dead)], [((300000, 0), .box [.ro (.int .u8), .int .i64, .int .u64])]⟩
def Hspec_l1Cur_pick : List Sh := [.one .any, .box [(.ro (.int .u8)), .any, .any], .skip]
def Kspec_l1Cur_pick (g : ∀ {R : Type}, Nat → Int → (List Int) → Int → Int → (Int → (List Int) → Int → Int → Option R) → Option R) (n : Nat) : KPs := fun R p k => match (PkS.un Sspec_l1Cur_pick p : Option (Int × (List Int) × Int × Int × Unit)) with
  | some (x0, x1, x2, x3, _) => g n x0 x1 x2 x3 (fun r0 r1 r2 r3 => k (PkS.pack Tspec_l1Cur_pick (r0, r1, r2, r3, ())))
  | none => none
theorem espec_l1Cur_pick (spec_l1Cur_next : ∀ {R : Type}, Nat → (List Int) → Int → Int → (Int → (List Int) → Int → Int → Option R) → Option R) {R : Type} (n : Nat) (x0 : Int) (x1 : List Int) (x2 : Int) (x3 : Int) (k : Pk → Option R) : evF tt sig (mkK [(66, Kspec_l1Cur_next @spec_l1Cur_next n)] R) (mkL (mkK [(66, Kspec_l1Cur_next @spec_l1Cur_next n)]) [] R) Try.f48 Hspec_l1Cur_pick (PkS.pack Sspec_l1Cur_pick (x0, x1, x2, x3, ())) k = (fun (k : Int → (List Int) → Int → Int → Option R) => (bif (decide (x0 ≤ 1)) then k 0 x1 x2 x3 else (spec_l1Cur_next n x1 x2 x3 fun r1 r2 r3 r4 => (bif (decide (x0 > 200)) then (spec_l1Cur_next n r2 r3 r4 fun r5 r6 r7 r8 => (bif decide (x0 ≠ 0) then k (Int.tmod (IntKind.wrap .i64 ((IntKind.wrap .i64 (r1 * 256)) + r5)) x0) r6 r7 r8 else none)) else (bif decide (x0 ≠ 0) then k (Int.tmod r1 x0) r2 r3 r4 else none))))) (fun r0 r1 r2 r3 => k (PkS.pack Tspec_l1Cur_pick (r0, r1, r2, r3, ()))) := by kernel_rfl
theorem okspec_l1Cur_pick (n : Nat) : FnOk Try.prog 48 (Kspec_l1Cur_pick @spec_l1Cur_pick n) := by
  refine fn_ok (sig := sig) mixed ttok (mkK_nat (cspec_l1Cur_pick n)) (mkK_ok (cspec_l1Cur_pick n)) (mkL_nat (mkK_nat (cspec_l1Cur_pick n)) (l := []) trivial) (fn := Try.f48) (c := bodyOf Try.f48) (by kernel_rfl) (by kernel_rfl) (by kernel_rfl) (.eq (l := []) (by kernel_rfl) trivial) (shs := Hspec_l1Cur_pick) (S := Sspec_l1Cur_pick) (h1 := by kernel_rfl) fun R p k => ?_
  unfold Kspec_l1Cur_pick
  cases h : (PkS.un Sspec_l1Cur_pick p) with
  | none => rfl
  | some d =>
    obtain ⟨x0, x1, x2, x3, u⟩ := (d : Int × (List Int) × Int × Int × Unit)
    have hp := PkS.un_pack h
    subst hp
    exact (espec_l1Cur_pick @spec_l1Cur_next n x0 x1 x2 x3 k).symm

/-! ### (*loop.example/g00269/spec.l1Cur).one -/
theorem cspec_l1Cur_one (n : Nat) : AllOk Try.prog [(48, Kspec_l1Cur_pick @spec_l1Cur_pick n)] := ⟨okspec_l1Cur_pick n, trivial⟩
@[reducible] def Sspec_l1Cur_one : PkS := ⟨[.one (.box (200000, 0) 0), .one (.int .i64)], [((200000, 0), .box [.ro (.int .u8), .int .i64, .int .u64])]⟩
@[reducible] def Tspec_l1Cur_one : PkS := ⟨[.one (.bool), .one (.box (300000, 0) 0), .one (.dead)], [((300000, 0), .box [.ro (.int .u8), .int .i64, .int .u64])]⟩
def Hspec_l1Cur_one : List Sh := [.one .any, .box [(.ro (.int .u8)), .any, .any], .skip]
def Kspec_l1Cur_one (g : ∀ {R : Type}, Nat → Int → (List Int) → Int → Int → (Bool → (List Int) → Int → Int → Option R) → Option R) (n : Nat) : KPs := fun R p k => match (PkS.un Sspec_l1Cur_one p : Option (Int × (List Int) × Int × Int × Unit)) with
  | some (x0, x1, x2, x3, _) => g n x0 x1 x2 x3 (fun r0 r1 r2 r3 => k (PkS.pack Tspec_l1Cur_one (r0, r1, r2, r3, ())))
  | none => none
theorem espec_l1Cur_one (spec_l1Cur_pick : ∀ {R : Type}, Nat → Int → (List Int) → Int → Int → (Int → (List Int) → Int → Int → Option R) → Option R) {R : Type} (n : Nat) (x0 : Int) (x1 : List Int) (x2 : Int) (x3 : Int) (k : Pk → Option R) : evF tt sig (mkK [(48, Kspec_l1Cur_pick @spec_l1Cur_pick n)] R) (mkL (mkK [(48, Kspec_l1Cur_pick @spec_l1Cur_pick n)]) [] R) Try.f50 Hspec_l1Cur_one (PkS.pack Sspec_l1Cur_one (x0, x1, x2, x3, ())) k = (fun (k : Bool → (List Int) → Int → Int → Option R) => (spec_l1Cur_pick n x0 x1 x2 x3 fun r1 r2 r3 r4 => k (r1 == 0) r2 r3 r4)) (fun r0 r1 r2 r3 => k (PkS.pack Tspec_l1Cur_one (r0, r1, r2, r3, ()))) := by kernel_rfl
theorem okspec_l1Cur_one (n : Nat) : FnOk Try.prog 50 (Kspec_l1Cur_one @spec_l1Cur_one n) := by
  refine fn_ok (sig := sig) mixed ttok (mkK_nat (cspec_l1Cur_one n)) (mkK_ok (cspec_l1Cur_one n)) (mkL_nat (mkK_nat (cspec_l1Cur_one n)) (l := []) trivial) (fn := Try.f50) (c := bodyOf Try.f50) (by kernel_rfl) (by kernel_rfl) (by kernel_rfl) (.eq (l := []) (by kernel_rfl) trivial) (shs := Hspec_l1Cur_one) (S := Sspec_l1Cur_one) (h1 := by kernel_rfl) fun R p k => ?_
  unfold Kspec_l1Cur_one
  cases h : (PkS.un Sspec_l1Cur_one p) with
  | none => rfl
  | some d =>
    obtain ⟨x0, x1, x2, x3, u⟩ := (d : Int × (List Int) × Int × Int × Unit)
    have hp := PkS.un_pack h
    subst hp
    exact (espec_l1Cur_one @spec_l1Cur_pick n x0 x1 x2 x3 k).symm

/-! ### loop.example/g00269/spec.l1In -/
theorem cspec_l1In (n : Nat) : AllOk Try.prog [] := trivial
@[reducible] def Sspec_l1In : PkS := ⟨[.one (.int .i64), .one (.int .i64), .one (.int .i64)], []⟩
@[reducible] def Tspec_l1In : PkS := ⟨[.one (.bool), .one (.dead), .one (.dead), .one (.dead)], []⟩
def Hspec_l1In : List Sh := [.one .any, .skip, .skip, .skip]
def Kspec_l1In (g : ∀ {R : Type}, Nat → Int → Int → Int → (Bool → Option R) → Option R) (n : Nat) : KPs := fun R p k => match (PkS.un Sspec_l1In p : Option (Int × Int × Int × Unit)) with
  | some (x0, x1, x2, _) => g n x0 x1 x2 (fun r0 => k (PkS.pack Tspec_l1In (r0, ())))
  | none => none
theorem espec_l1In  {R : Type} (n : Nat) (x0 : Int) (x1 : Int) (x2 : Int) (k : Pk → Option R) : evF tt sig (mkK [] R) (mkL (mkK []) [] R) Try.f36 Hspec_l1In (PkS.pack Sspec_l1In (x0, x1, x2, ())) k = (fun (k : Bool → Option R) => (bif (decide (x0 ≥ x1)) then k (decide (x0 ≤ x2)) else k false)) (fun r0 => k (PkS.pack Tspec_l1In (r0, ()))) := by kernel_rfl
theorem okspec_l1In (n : Nat) : FnOk Try.prog 36 (Kspec_l1In @spec_l1In n) := by
  refine fn_ok (sig := sig) mixed ttok (mkK_nat (cspec_l1In n)) (mkK_ok (cspec_l1In n)) (mkL_nat (mkK_nat (cspec_l1In n)) (l := []) trivial) (fn := Try.f36) (c := bodyOf Try.f36) (by kernel_rfl) (by kernel_rfl) (by kernel_rfl) (.eq (l := []) (by kernel_rfl) trivial) (shs := Hspec_l1In) (S := Sspec_l1In) (h1 := by kernel_rfl) fun R p k => ?_
  unfold Kspec_l1In
  cases h : (PkS.un Sspec_l1In p) with
  | none => rfl
  | some d =>
    obtain ⟨x0, x1, x2, u⟩ := (d : Int × Int × Int × Unit)
    have hp := PkS.un_pack h
    subst hp
    exact (espec_l1In  n x0 x1 x2 k).symm

/-! ### loop.example/g00269/spec.l5Pow -/
theorem cspec_l5Pow (n : Nat) : AllOk Try.prog [] := trivial
@[reducible] def Sspec_l5Pow_l2 : PkS := ⟨[.one (.int .i64), .one (.int .i64), .one (.dead)], []⟩
@[reducible] def Tspec_l5Pow_l2_0 : PkS := ⟨[.one (.int .i64), .one (.dead)], []⟩
def Dspec_l5Pow_l2 : LoopD := ⟨11, [0, 3], [.one .any, .one .any, .skip], fun x => match x with
  | .exit 0 => some ([3], [.one .any, .skip])
  | _ => none⟩
def Pspec_l5Pow_l2 (g : ∀ {R : Type}, Nat → Int → Int → (Int → Option R) → Option R) (n : Nat) : LPs := fun R q kk => match (PkS.un Sspec_l5Pow_l2 q : Option (Int × Int × Unit)) with
  | some (y2_0, y2_1, _) => g n y2_0 y2_1 (fun r0 => kk (.exit 0) (PkS.pack Tspec_l5Pow_l2_0 (r0, ())))
  | none => none
theorem espec_l5Pow_l2 (spec_l5Pow_l2 : ∀ {R : Type}, Nat → Int → Int → (Int → Option R) → Option R) {R : Type} (n : Nat) (y2_0 : Int) (y2_1 : Int) (kk : Ex → Pk → Option R) : Dspec_l5Pow_l2.step tt sig (mkK [] R) (mkL (mkK []) [] R) (loopIn 2 (bodyOf Try.f58)) (fun q' => Pspec_l5Pow_l2 @spec_l5Pow_l2 n R q' kk) (PkS.pack Sspec_l5Pow_l2 (y2_0, y2_1, ())) kk = (fun (kexit0 : Int → Option R) => (bif (decide (y2_0 > 0)) then spec_l5Pow_l2 n (IntKind.wrap .i64 (y2_0 - 1)) (IntKind.wrap .i64 (y2_1 * 8)) kexit0 else kexit0 y2_1)) (fun r0 => kk (.exit 0) (PkS.pack Tspec_l5Pow_l2_0 (r0, ()))) := by kernel_rfl
theorem lespec_l5Pow_l2 : LoopEq tt sig (fun n => mkK []) (fun n => mkL (mkK []) []) Dspec_l5Pow_l2 Sspec_l5Pow_l2 (loopIn 2 (bodyOf Try.f58)) (Pspec_l5Pow_l2 @spec_l5Pow_l2) where
  zero R q kk := by unfold Pspec_l5Pow_l2; cases (PkS.un Sspec_l5Pow_l2 q) <;> rfl
  succ n R q kk := by
    unfold Pspec_l5Pow_l2
    cases h : (PkS.un Sspec_l5Pow_l2 q) with
    | none => rfl
    | some d =>
      obtain ⟨y2_0, y2_1, u⟩ := (d : Int × Int × Unit)
      have hp := PkS.un_pack h
      subst hp
      exact (espec_l5Pow_l2 @spec_l5Pow_l2 n y2_0 y2_1 kk).symm
theorem nlspec_l5Pow_l2 : ∀ n, NatLP (Pspec_l5Pow_l2 @spec_l5Pow_l2 n) := lespec_l5Pow_l2.nat (fun n => mkK_nat (cspec_l5Pow n)) fun n => mkL_nat (mkK_nat (cspec_l5Pow n)) (l := []) trivial
theorem inspec_l5Pow_l2 (n : Nat) (R : Type) : LoopsOk Try.prog (mkL (mkK []) [] R) (loopIn 2 (bodyOf Try.f58)) := .eq (l := []) (by kernel_rfl) trivial
theorem lkspec_l5Pow_l2 (n : Nat) (R : Type) (L0 : LK R) (h0 : ∀ id, firstRegion (loopIn 2 (bodyOf Try.f58)) = some id → L0 id = Dspec_l5Pow_l2.oracle (mkK [] R) (Pspec_l5Pow_l2 @spec_l5Pow_l2 n R)) : LoopOk Try.prog L0 (loopIn 2 (bodyOf Try.f58)) :=
  lespec_l5Pow_l2.ok mixed ttok (fun n => mkK_nat (cspec_l5Pow n)) (fun n => mkK_ok (cspec_l5Pow n)) (fun n => inspec_l5Pow_l2 n R) (mkK_nat (cspec_l5Pow n)) h0
@[reducible] def Sspec_l5Pow : PkS := ⟨[.one (.int .i64)], []⟩
@[reducible] def Tspec_l5Pow : PkS := ⟨[.one (.int .i64), .one (.dead)], []⟩
def Hspec_l5Pow : List Sh := [.one .any, .skip]
def Kspec_l5Pow (g : ∀ {R : Type}, Nat → Int → (Int → Option R) → Option R) (n : Nat) : KPs := fun R p k => match (PkS.un Sspec_l5Pow p : Option (Int × Unit)) with
  | some (x0, _) => g n x0 (fun r0 => k (PkS.pack Tspec_l5Pow (r0, ())))
  | none => none
theorem espec_l5Pow (spec_l5Pow_l2 : ∀ {R : Type}, Nat → Int → Int → (Int → Option R) → Option R) {R : Type} (n : Nat) (x0 : Int) (k : Pk → Option R) : evF tt sig (mkK [] R) (mkL (mkK []) [(2, Dspec_l5Pow_l2, Pspec_l5Pow_l2 @spec_l5Pow_l2 n)] R) Try.f58 Hspec_l5Pow (PkS.pack Sspec_l5Pow (x0, ())) k = (fun (k : Int → Option R) => (spec_l5Pow_l2 n x0 1 (fun r1 => k r1))) (fun r0 => k (PkS.pack Tspec_l5Pow (r0, ()))) := by kernel_rfl
theorem okspec_l5Pow (n : Nat) : FnOk Try.prog 58 (Kspec_l5Pow @spec_l5Pow n) := by
  refine fn_ok (sig := sig) mixed ttok (mkK_nat (cspec_l5Pow n)) (mkK_ok (cspec_l5Pow n)) (mkL_nat (mkK_nat (cspec_l5Pow n)) (l := [(2, Dspec_l5Pow_l2, Pspec_l5Pow_l2 @spec_l5Pow_l2 n)]) ⟨nlspec_l5Pow_l2 n, trivial⟩) (fn := Try.f58) (c := bodyOf Try.f58) (by kernel_rfl) (by kernel_rfl) (by kernel_rfl) (.eq (l := [.lo (loopIn 2 (bodyOf Try.f58))]) (by kernel_rfl) ⟨(lkspec_l5Pow_l2 n _ _ (at_id (i := 2) (by kernel_rfl) rfl)), trivial⟩) (shs := Hspec_l5Pow) (S := Sspec_l5Pow) (h1 := by kernel_rfl) fun R p k => ?_
  unfold Kspec_l5Pow
  cases h : (PkS.un Sspec_l5Pow p) with
  | none => rfl
  | some d =>
    obtain ⟨x0, u⟩ := (d : Int × Unit)
    have hp := PkS.un_pack h
    subst hp
    exact (espec_l5Pow @spec_l5Pow_l2 n x0 k).symm

/-! ### loop.example/g00269/spec.l5Timer -/
theorem cspec_l5Timer (n : Nat) : AllOk Try.prog [(36, Kspec_l1In @spec_l1In n), (58, Kspec_l5Pow @spec_l5Pow n)] := ⟨okspec_l1In n, ⟨okspec_l5Pow n, trivial⟩⟩
@[reducible] def Sspec_l5Timer : PkS := ⟨[.agg [.int .i64, .int .i64], .one (.int .i64)], []⟩
@[reducible] def Tspec_l5Timer : PkS := ⟨[.one (.bool), .one (.dead), .one (.dead)], []⟩
def Hspec_l5Timer : List Sh := [.one .any, .skip, .skip]
def Kspec_l5Timer (g : ∀ {R : Type}, Nat → Int → Int → Int → (Bool → Option R) → Option R) (n : Nat) : KPs := fun R p k => match (PkS.un Sspec_l5Timer p : Option (Int × Int × Int × Unit)) with
  | some (x0, x1, x2, _) => g n x0 x1 x2 (fun r0 => k (PkS.pack Tspec_l5Timer (r0, ())))
  | none => none
theorem espec_l5Timer (spec_l1In : ∀ {R : Type}, Nat → Int → Int → Int → (Bool → Option R) → Option R) (spec_l5Pow : ∀ {R : Type}, Nat → Int → (Int → Option R) → Option R) {R : Type} (n : Nat) (x0 : Int) (x1 : Int) (x2 : Int) (k : Pk → Option R) : evF tt sig (mkK [(36, Kspec_l1In @spec_l1In n), (58, Kspec_l5Pow @spec_l5Pow n)] R) (mkL (mkK [(36, Kspec_l1In @spec_l1In n), (58, Kspec_l5Pow @spec_l5Pow n)]) [] R) Try.f31 Hspec_l5Timer (PkS.pack Sspec_l5Timer (x0, x1, x2, ())) k = (fun (k : Bool → Option R) => (spec_l1In n x1 0 1000 fun r1 => (bif r1 then (bif (decide (x0 > x2)) then (spec_l5Pow n 3 fun r2 => k (decide (x0 < (IntKind.wrap .i64 (x2 + r2))))) else k false) else k false))) (fun r0 => k (PkS.pack Tspec_l5Timer (r0, ()))) := by kernel_rfl
theorem okspec_l5Timer (n : Nat) : FnOk Try.prog 31 (Kspec_l5Timer @spec_l5Timer n) := by
  refine fn_ok (sig := sig) mixed ttok (mkK_nat (cspec_l5Timer n)) (mkK_ok (cspec_l5Timer n)) (mkL_nat (mkK_nat (cspec_l5Timer n)) (l := []) trivial) (fn := Try.f31) (c := bodyOf Try.f31) (by kernel_rfl) (by kernel_rfl) (by kernel_rfl) (.eq (l := []) (by kernel_rfl) trivial) (shs := Hspec_l5Timer) (S := Sspec_l5Timer) (h1 := by kernel_rfl) fun R p k => ?_
  unfold Kspec_l5Timer
  cases h : (PkS.un Sspec_l5Timer p) with
  | none => rfl
  | some d =>
    obtain ⟨x0, x1, x2, u⟩ := (d : Int × Int × Int × Unit)
    have hp := PkS.un_pack h
    subst hp
    exact (espec_l5Timer @spec_l1In @spec_l5Pow n x0 x1 x2 k).symm

/-! ### loop.example/g00269/spec.l1Has -/
theorem cspec_l1Has (n : Nat) : AllOk Try.prog [] := trivial
@[reducible] def Sspec_l1Has_l2 : PkS := ⟨[.one (.int .i64), .one (.ro (.int .i64)), .one (.int .i64), .one (.int .i64), .one (.dead), .one (.dead)], []⟩
@[reducible] def Tspec_l1Has_l2_0 : PkS := ⟨[.one (.bool), .one (.dead), .one (.dead)], []⟩
@[reducible] def Tspec_l1Has_l2_1 : PkS := ⟨[.one (.dead), .one (.dead)], []⟩
def Dspec_l1Has_l2 : LoopD := ⟨17, [1, 7, 8, 9], [.one .any, .one (.ro (.int .i64)), .one .any, .one .any, .skip, .skip], fun x => match x with
  | .ret => some ([4], [.one .any, .skip, .skip])
  | .exit 0 => some ([], [.skip, .skip])
  | _ => none⟩
def Pspec_l1Has_l2 (g : ∀ {R : Type}, Nat → Int → (List Int) → Int → Int → (Bool → Option R) → (Option R) → Option R) (n : Nat) : LPs := fun R q kk => match (PkS.un Sspec_l1Has_l2 q : Option (Int × (List Int) × Int × Int × Unit)) with
  | some (y2_0, y2_1, y2_2, y2_3, _) => g n y2_0 y2_1 y2_2 y2_3 (fun r0 => kk .ret (PkS.pack Tspec_l1Has_l2_0 (r0, ()))) (kk (.exit 0) (PkS.pack Tspec_l1Has_l2_1 ()))
  | none => none
theorem espec_l1Has_l2 (spec_l1Has_l2 : ∀ {R : Type}, Nat → Int → (List Int) → Int → Int → (Bool → Option R) → (Option R) → Option R) {R : Type} (n : Nat) (y2_0 : Int) (y2_1 : List Int) (y2_2 : Int) (y2_3 : Int) (kk : Ex → Pk → Option R) : Dspec_l1Has_l2.step tt sig (mkK [] R) (mkL (mkK []) [] R) (loopIn 2 (bodyOf Try.f56)) (fun q' => Pspec_l1Has_l2 @spec_l1Has_l2 n R q' kk) (PkS.pack Sspec_l1Has_l2 (y2_0, y2_1, y2_2, y2_3, ())) kk = (fun (kret : Bool → Option R) (kexit0 : Option R) => (bif (decide (y2_3 < y2_2)) then (bif decide (0 ≤ y2_3) then (bif decide (y2_3 < (y2_1.length : Int)) then (bif ((y2_1.getD (Int.toNat y2_3) 0) == y2_0) then kret true else spec_l1Has_l2 n y2_0 y2_1 y2_2 (IntKind.wrap .i64 (y2_3 + 1)) kret kexit0) else none) else none) else kexit0)) (fun r0 => kk .ret (PkS.pack Tspec_l1Has_l2_0 (r0, ()))) (kk (.exit 0) (PkS.pack Tspec_l1Has_l2_1 ())) := by kernel_rfl
theorem lespec_l1Has_l2 : LoopEq tt sig (fun n => mkK []) (fun n => mkL (mkK []) []) Dspec_l1Has_l2 Sspec_l1Has_l2 (loopIn 2 (bodyOf Try.f56)) (Pspec_l1Has_l2 @spec_l1Has_l2) where
  zero R q kk := by unfold Pspec_l1Has_l2; cases (PkS.un Sspec_l1Has_l2 q) <;> rfl
  succ n R q kk := by
    unfold Pspec_l1Has_l2
    cases h : (PkS.un Sspec_l1Has_l2 q) with
    | none => rfl
    | some d =>
      obtain ⟨y2_0, y2_1, y2_2, y2_3, u⟩ := (d : Int × (List Int) × Int × Int × Unit)
      have hp := PkS.un_pack h
      subst hp
      exact (espec_l1Has_l2 @spec_l1Has_l2 n y2_0 y2_1 y2_2 y2_3 kk).symm
theorem nlspec_l1Has_l2 : ∀ n, NatLP (Pspec_l1Has_l2 @spec_l1Has_l2 n) := lespec_l1Has_l2.nat (fun n => mkK_nat (cspec_l1Has n)) fun n => mkL_nat (mkK_nat (cspec_l1Has n)) (l := []) trivial
theorem inspec_l1Has_l2 (n : Nat) (R : Type) : LoopsOk Try.prog (mkL (mkK []) [] R) (loopIn 2 (bodyOf Try.f56)) := .eq (l := []) (by kernel_rfl) trivial
theorem lkspec_l1Has_l2 (n : Nat) (R : Type) (L0 : LK R) (h0 : ∀ id, firstRegion (loopIn 2 (bodyOf Try.f56)) = some id → L0 id = Dspec_l1Has_l2.oracle (mkK [] R) (Pspec_l1Has_l2 @spec_l1Has_l2 n R)) : LoopOk Try.prog L0 (loopIn 2 (bodyOf Try.f56)) :=
  lespec_l1Has_l2.ok mixed ttok (fun n => mkK_nat (cspec_l1Has n)) (fun n => mkK_ok (cspec_l1Has n)) (fun n => inspec_l1Has_l2 n R) (mkK_nat (cspec_l1Has n)) h0
@[reducible] def Sspec_l1Has : PkS := ⟨[.one (.ro (.int .i64)), .one (.int .i64)], []⟩
@[reducible] def Tspec_l1Has : PkS := ⟨[.one (.bool), .one (.dead), .one (.dead)], []⟩
def Hspec_l1Has : List Sh := [.one .any, .skip, .skip]
def Kspec_l1Has (g : ∀ {R : Type}, Nat → (List Int) → Int → (Bool → Option R) → Option R) (n : Nat) : KPs := fun R p k => match (PkS.un Sspec_l1Has p : Option ((List Int) × Int × Unit)) with
  | some (x0, x1, _) => g n x0 x1 (fun r0 => k (PkS.pack Tspec_l1Has (r0, ())))
  | none => none
theorem espec_l1Has (spec_l1Has_l2 : ∀ {R : Type}, Nat → Int → (List Int) → Int → Int → (Bool → Option R) → (Option R) → Option R) {R : Type} (n : Nat) (x0 : List Int) (x1 : Int) (k : Pk → Option R) : evF tt sig (mkK [] R) (mkL (mkK []) [(2, Dspec_l1Has_l2, Pspec_l1Has_l2 @spec_l1Has_l2 n)] R) Try.f56 Hspec_l1Has (PkS.pack Sspec_l1Has (x0, x1, ())) k = (fun (k : Bool → Option R) => (spec_l1Has_l2 n x1 x0 (x0.length : Int) 0 (fun r1 => k r1) (k false))) (fun r0 => k (PkS.pack Tspec_l1Has (r0, ()))) := by kernel_rfl
theorem okspec_l1Has (n : Nat) : FnOk Try.prog 56 (Kspec_l1Has @spec_l1Has n) := by
  refine fn_ok (sig := sig) mixed ttok (mkK_nat (cspec_l1Has n)) (mkK_ok (cspec_l1Has n)) (mkL_nat (mkK_nat (cspec_l1Has n)) (l := [(2, Dspec_l1Has_l2, Pspec_l1Has_l2 @spec_l1Has_l2 n)]) ⟨nlspec_l1Has_l2 n, trivial⟩) (fn := Try.f56) (c := bodyOf Try.f56) (by kernel_rfl) (by kernel_rfl) (by kernel_rfl) (.eq (l := [.lo (loopIn 2 (bodyOf Try.f56))]) (by kernel_rfl) ⟨(lkspec_l1Has_l2 n _ _ (at_id (i := 2) (by kernel_rfl) rfl)), trivial⟩) (shs := Hspec_l1Has) (S := Sspec_l1Has) (h1 := by kernel_rfl) fun R p k => ?_
  unfold Kspec_l1Has
  cases h : (PkS.un Sspec_l1Has p) with
  | none => rfl
  | some d =>
    obtain ⟨x0, x1, u⟩ := (d : (List Int) × Int × Unit)
    have hp := PkS.un_pack h
    subst hp
    exact (espec_l1Has @spec_l1Has_l2 n x0 x1 k).symm

/-! ### loop.example/g00269/spec.l5Fits -/
theorem cspec_l5Fits (n : Nat) : AllOk Try.prog [(58, Kspec_l5Pow @spec_l5Pow n), (36, Kspec_l1In @spec_l1In n)] := ⟨okspec_l5Pow n, ⟨okspec_l1In n, trivial⟩⟩
@[reducible] def Sspec_l5Fits : PkS := ⟨[.one (.int .i64), .one (.int .i64), .one (.int .i64)], []⟩
@[reducible] def Tspec_l5Fits : PkS := ⟨[.one (.bool), .one (.dead), .one (.dead), .one (.dead)], []⟩
def Hspec_l5Fits : List Sh := [.one .any, .skip, .skip, .skip]
def Kspec_l5Fits (g : ∀ {R : Type}, Nat → Int → Int → Int → (Bool → Option R) → Option R) (n : Nat) : KPs := fun R p k => match (PkS.un Sspec_l5Fits p : Option (Int × Int × Int × Unit)) with
  | some (x0, x1, x2, _) => g n x0 x1 x2 (fun r0 => k (PkS.pack Tspec_l5Fits (r0, ())))
  | none => none
theorem espec_l5Fits (spec_l5Pow : ∀ {R : Type}, Nat → Int → (Int → Option R) → Option R) (spec_l1In : ∀ {R : Type}, Nat → Int → Int → Int → (Bool → Option R) → Option R) {R : Type} (n : Nat) (x0 : Int) (x1 : Int) (x2 : Int) (k : Pk → Option R) : evF tt sig (mkK [(58, Kspec_l5Pow @spec_l5Pow n), (36, Kspec_l1In @spec_l1In n)] R) (mkL (mkK [(58, Kspec_l5Pow @spec_l5Pow n), (36, Kspec_l1In @spec_l1In n)]) [] R) Try.f57 Hspec_l5Fits (PkS.pack Sspec_l5Fits (x0, x1, x2, ())) k = (fun (k : Bool → Option R) => (spec_l5Pow n x2 fun r1 => (bif decide (r1 ≠ 0) then (spec_l5Pow n x2 fun r2 => (bif decide (r2 ≠ 0) then (spec_l1In n (IntKind.wrap .i64 ((IntKind.wrap .i64 (Int.tdiv x1 r1)) - (IntKind.wrap .i64 (Int.tdiv x0 r2)))) 1 7 fun r3 => k r3) else none)) else none))) (fun r0 => k (PkS.pack Tspec_l5Fits (r0, ()))) := by kernel_rfl
theorem okspec_l5Fits (n : Nat) : FnOk Try.prog 57 (Kspec_l5Fits @spec_l5Fits n) := by
  refine fn_ok (sig := sig) mixed ttok (mkK_nat (cspec_l5Fits n)) (mkK_ok (cspec_l5Fits n)) (mkL_nat (mkK_nat (cspec_l5Fits n)) (l := []) trivial) (fn := Try.f57) (c := bodyOf Try.f57) (by kernel_rfl) (by kernel_rfl) (by kernel_rfl) (.eq (l := []) (by kernel_rfl) trivial) (shs := Hspec_l5Fits) (S := Sspec_l5Fits) (h1 := by kernel_rfl) fun R p k => ?_
  unfold Kspec_l5Fits
  cases h : (PkS.un Sspec_l5Fits p) with
  | none => rfl
  | some d =>
    obtain ⟨x0, x1, x2, u⟩ := (d : Int × Int × Int × Unit)
    have hp := PkS.un_pack h
    subst hp
    exact (espec_l5Fits @spec_l5Pow @spec_l1In n x0 x1 x2 k).symm

/-! ### loop.example/g00269/spec.GoodWheel -/
theorem cspec_GoodWheel (n : Nat) : AllOk Try.prog [(36, Kspec_l1In @spec_l1In n), (31, Kspec_l5Timer @spec_l5Timer n), (56, Kspec_l1Has @spec_l1Has n), (57, Kspec_l5Fits @spec_l5Fits n), (58, Kspec_l5Pow @spec_l5Pow n)] := ⟨okspec_l1In n, ⟨okspec_l5Timer n, ⟨okspec_l1Has n, ⟨okspec_l5Fits n, ⟨okspec_l5Pow n, trivial⟩⟩⟩⟩⟩
@[reducible] def Sspec_GoodWheel_l9 : PkS := ⟨[.one (.box (100000, 0) 0), .one (.whole (100000, 1)), .one (.int .i64), .one (.int .i64), .one (.ro (.sl (.pr (.int .i64) (.int .i64)))), .one (.int .i64), .one (.int .i64), .one (.ro (.pr (.int .i64) (.int .i64))), .one (.int .i64), .one (.int .i64), .one (.dead)], [((100000, 0), .box [.int .i64, .ro (.sl (.pr (.int .i64) (.int .i64)))]), ((100000, 1), .arr (.int .i64))]⟩
@[reducible] def Tspec_GoodWheel_l9_0 : PkS := ⟨[.one (.bool), .one (.dead)], []⟩
@[reducible] def Tspec_GoodWheel_l9_1 : PkS := ⟨[.one (.box (100000, 0) 0), .one (.whole (100000, 1)), .one (.ro (.sl (.pr (.int .i64) (.int .i64)))), .one (.int .i64), .one (.int .i64), .one (.dead)], [((100000, 0), .box [.int .i64, .ro (.sl (.pr (.int .i64) (.int .i64)))]), ((100000, 1), .arr (.int .i64))]⟩
def Dspec_GoodWheel_l9 : LoopD := ⟨76, [1, 3, 4, 6, 20, 21, 22, 29, 30, 31], [.box [.any, (.ro (.sl (.pr (.int .i64) (.int .i64))))], .one (.own (.int .i64)), .one .any, .one .any, .one (.ro (.sl (.pr (.int .i64) (.int .i64)))), .one .any, .one .any, .one (.ro (.pr (.int .i64) (.int .i64))), .one .any, .one .any, .skip], fun x => match x with
  | .ret => some ([2], [.one .any, .skip])
  | .exit 2 => some ([1, 3, 20, 21, 22], [.box [.any, (.ro (.sl (.pr (.int .i64) (.int .i64))))], .one (.own (.int .i64)), .one (.ro (.sl (.pr (.int .i64) (.int .i64)))), .one .any, .one .any, .skip])
  | _ => none⟩
def Pspec_GoodWheel_l9 (g : ∀ {R : Type}, Nat → Int → Int → (List (List (Int × Int))) → Int → Int → (List (Int × Int)) → Int → Int → Int → (List (List (Int × Int))) → (List Int) → (Bool → Option R) → ((List (List (Int × Int))) → Int → Int → Int → (List (List (Int × Int))) → (List Int) → Option R) → Option R) (n : Nat) : LPs := fun R q kk => match (PkS.un Sspec_GoodWheel_l9 q : Option (Int × Int × (List (List (Int × Int))) × Int × Int × (List (Int × Int)) × Int × Int × Int × (List (List (Int × Int))) × (List Int) × Unit)) with
  | some (y9_0, y9_1, y9_2, y9_3, y9_4, y9_5, y9_6, y9_7, y9_8, y9_9, y9_10, _) => g n y9_0 y9_1 y9_2 y9_3 y9_4 y9_5 y9_6 y9_7 y9_8 y9_9 y9_10 (fun r0 => kk .ret (PkS.pack Tspec_GoodWheel_l9_0 (r0, ()))) (fun r0 r1 r2 r3 r4 r5 => kk (.exit 2) (PkS.pack Tspec_GoodWheel_l9_1 (r0, r1, r2, r3, r4, r5, ())))
  | none => none
theorem espec_GoodWheel_l9 (spec_l1In : ∀ {R : Type}, Nat → Int → Int → Int → (Bool → Option R) → Option R) (spec_l5Timer : ∀ {R : Type}, Nat → Int → Int → Int → (Bool → Option R) → Option R) (spec_l1Has : ∀ {R : Type}, Nat → (List Int) → Int → (Bool → Option R) → Option R) (spec_l5Fits : ∀ {R : Type}, Nat → Int → Int → Int → (Bool → Option R) → Option R) (spec_l5Pow : ∀ {R : Type}, Nat → Int → (Int → Option R) → Option R) (spec_GoodWheel_l9 : ∀ {R : Type}, Nat → Int → Int → (List (List (Int × Int))) → Int → Int → (List (Int × Int)) → Int → Int → Int → (List (List (Int × Int))) → (List Int) → (Bool → Option R) → ((List (List (Int × Int))) → Int → Int → Int → (List (List (Int × Int))) → (List Int) → Option R) → Option R) {R : Type} (n : Nat) (y9_0 : Int) (y9_1 : Int) (y9_2 : List (List (Int × Int))) (y9_3 : Int) (y9_4 : Int) (y9_5 : List (Int × Int)) (y9_6 : Int) (y9_7 : Int) (y9_8 : Int) (y9_9 : List (List (Int × Int))) (y9_10 : List Int) (kk : Ex → Pk → Option R) : Dspec_GoodWheel_l9.step tt sig (mkK [(36, Kspec_l1In @spec_l1In n), (31, Kspec_l5Timer @spec_l5Timer n), (56, Kspec_l1Has @spec_l1Has n), (57, Kspec_l5Fits @spec_l5Fits n), (58, Kspec_l5Pow @spec_l5Pow n)] R) (mkL (mkK [(36, Kspec_l1In @spec_l1In n), (31, Kspec_l5Timer @spec_l5Timer n), (56, Kspec_l1Has @spec_l1Has n), (57, Kspec_l5Fits @spec_l5Fits n), (58, Kspec_l5Pow @spec_l5Pow n)]) [] R) (loopIn 9 (bodyOf Try.f30)) (fun q' => Pspec_GoodWheel_l9 @spec_GoodWheel_l9 n R q' kk) (PkS.pack Sspec_GoodWheel_l9 (y9_0, y9_1, y9_2, y9_3, y9_4, y9_5, y9_6, y9_7, y9_8, y9_9, y9_10, ())) kk = (fun (kret : Bool → Option R) (kexit2 : (List (List (Int × Int))) → Int → Int → Int → (List (List (Int × Int))) → (List Int) → Option R) => (bif (decide (y9_7 < y9_6)) then (bif decide (0 ≤ y9_7) then (bif decide (y9_7 < (y9_5.length : Int)) then (spec_l5Timer n ((y9_5.getD (Int.toNat y9_7) (0, 0)).1) ((y9_5.getD (Int.toNat y9_7) (0, 0)).2) y9_8 fun r2 => (bif (!r2) then kret false else (spec_l1Has n y9_10 ((y9_5.getD (Int.toNat y9_7) (0, 0)).2) fun r3 => (bif r3 then kret false else (spec_l5Fits n y9_8 ((y9_5.getD (Int.toNat y9_7) (0, 0)).1) y9_1 fun r4 => (bif (!r4) then kret false else (spec_l5Pow n y9_1 fun r5 => (bif decide (r5 ≠ 0) then (bif ((Int.tmod (IntKind.wrap .i64 (Int.tdiv ((y9_5.getD (Int.toNat y9_7) (0, 0)).1) r5)) 8) != (Int.tmod y9_0 8)) then kret false else (bif decide (y9_10.length + ([(y9_5.getD (Int.toNat y9_7) (0, 0)).2]).length ≤ LIM) then spec_GoodWheel_l9 n y9_0 y9_1 y9_2 y9_3 y9_4 y9_5 y9_6 (IntKind.wrap .i64 (y9_7 + 1)) y9_8 y9_9 (y9_10 ++ [(y9_5.getD (Int.toNat y9_7) (0, 0)).2]) kret kexit2 else none)) else none)))))))) else none) else none) else kexit2 y9_2 y9_3 y9_4 y9_8 y9_9 y9_10)) (fun r0 => kk .ret (PkS.pack Tspec_GoodWheel_l9_0 (r0, ()))) (fun r0 r1 r2 r3 r4 r5 => kk (.exit 2) (PkS.pack Tspec_GoodWheel_l9_1 (r0, r1, r2, r3, r4, r5, ()))) := by kernel_rfl
theorem lespec_GoodWheel_l9 : LoopEq tt sig (fun n => mkK [(36, Kspec_l1In @spec_l1In n), (31, Kspec_l5Timer @spec_l5Timer n), (56, Kspec_l1Has @spec_l1Has n), (57, Kspec_l5Fits @spec_l5Fits n), (58, Kspec_l5Pow @spec_l5Pow n)]) (fun n => mkL (mkK [(36, Kspec_l1In @spec_l1In n), (31, Kspec_l5Timer @spec_l5Timer n), (56, Kspec_l1Has @spec_l1Has n), (57, Kspec_l5Fits @spec_l5Fits n), (58, Kspec_l5Pow @spec_l5Pow n)]) []) Dspec_GoodWheel_l9 Sspec_GoodWheel_l9 (loopIn 9 (bodyOf Try.f30)) (Pspec_GoodWheel_l9 @spec_GoodWheel_l9) where
  zero R q kk := by unfold Pspec_GoodWheel_l9; cases (PkS.un Sspec_GoodWheel_l9 q) <;> rfl
  succ n R q kk := by
    unfold Pspec_GoodWheel_l9
    cases h : (PkS.un Sspec_GoodWheel_l9 q) with
    | none => rfl
    | some d =>
      obtain ⟨y9_0, y9_1, y9_2, y9_3, y9_4, y9_5, y9_6, y9_7, y9_8, y9_9, y9_10, u⟩ := (d : Int × Int × (List (List (Int × Int))) × Int × Int × (List (Int × Int)) × Int × Int × Int × (List (List (Int × Int))) × (List Int) × Unit)
      have hp := PkS.un_pack h
      subst hp
      exact (espec_GoodWheel_l9 @spec_l1In @spec_l5Timer @spec_l1Has @spec_l5Fits @spec_l5Pow @spec_GoodWheel_l9 n y9_0 y9_1 y9_2 y9_3 y9_4 y9_5 y9_6 y9_7 y9_8 y9_9 y9_10 kk).symm
theorem nlspec_GoodWheel_l9 : ∀ n, NatLP (Pspec_GoodWheel_l9 @spec_GoodWheel_l9 n) := lespec_GoodWheel_l9.nat (fun n => mkK_nat (cspec_GoodWheel n)) fun n => mkL_nat (mkK_nat (cspec_GoodWheel n)) (l := []) trivial
theorem inspec_GoodWheel_l9 (n : Nat) (R : Type) : LoopsOk Try.prog (mkL (mkK [(36, Kspec_l1In @spec_l1In n), (31, Kspec_l5Timer @spec_l5Timer n), (56, Kspec_l1Has @spec_l1Has n), (57, Kspec_l5Fits @spec_l5Fits n), (58, Kspec_l5Pow @spec_l5Pow n)]) [] R) (loopIn 9 (bodyOf Try.f30)) := .eq (l := []) (by kernel_rfl) trivial
theorem lkspec_GoodWheel_l9 (n : Nat) (R : Type) (L0 : LK R) (h0 : ∀ id, firstRegion (loopIn 9 (bodyOf Try.f30)) = some id → L0 id = Dspec_GoodWheel_l9.oracle (mkK [(36, Kspec_l1In @spec_l1In n), (31, Kspec_l5Timer @spec_l5Timer n), (56, Kspec_l1Has @spec_l1Has n), (57, Kspec_l5Fits @spec_l5Fits n), (58, Kspec_l5Pow @spec_l5Pow n)] R) (Pspec_GoodWheel_l9 @spec_GoodWheel_l9 n R)) : LoopOk Try.prog L0 (loopIn 9 (bodyOf Try.f30)) :=
  lespec_GoodWheel_l9.ok mixed ttok (fun n => mkK_nat (cspec_GoodWheel n)) (fun n => mkK_ok (cspec_GoodWheel n)) (fun n => inspec_GoodWheel_l9 n R) (mkK_nat (cspec_GoodWheel n)) h0
@[reducible] def Sspec_GoodWheel_l5 : PkS := ⟨[.one (.box (100000, 0) 0), .one (.whole (100000, 1)), .one (.ro (.sl (.pr (.int .i64) (.int .i64)))), .one (.int .i64), .one (.int .i64), .one (.dead)], [((100000, 0), .box [.int .i64, .ro (.sl (.pr (.int .i64) (.int .i64)))]), ((100000, 1), .arr (.int .i64))]⟩
@[reducible] def Tspec_GoodWheel_l5_0 : PkS := ⟨[.one (.bool), .one (.dead)], []⟩
@[reducible] def Tspec_GoodWheel_l5_1 : PkS := ⟨[.one (.whole (100000, 0)), .one (.dead)], [((100000, 0), .arr (.int .i64))]⟩
def Dspec_GoodWheel_l5 : LoopD := ⟨76, [1, 3, 20, 21, 22], [.box [.any, (.ro (.sl (.pr (.int .i64) (.int .i64))))], .one (.own (.int .i64)), .one (.ro (.sl (.pr (.int .i64) (.int .i64)))), .one .any, .one .any, .skip], fun x => match x with
  | .ret => some ([2], [.one .any, .skip])
  | .exit 0 => some ([3], [.one (.own (.int .i64)), .skip])
  | _ => none⟩
def Pspec_GoodWheel_l5 (g : ∀ {R : Type}, Nat → (List (List (Int × Int))) → Int → Int → Int → (List (List (Int × Int))) → (List Int) → (Bool → Option R) → ((List Int) → Option R) → Option R) (n : Nat) : LPs := fun R q kk => match (PkS.un Sspec_GoodWheel_l5 q : Option ((List (List (Int × Int))) × Int × Int × Int × (List (List (Int × Int))) × (List Int) × Unit)) with
  | some (y5_0, y5_1, y5_2, y5_3, y5_4, y5_5, _) => g n y5_0 y5_1 y5_2 y5_3 y5_4 y5_5 (fun r0 => kk .ret (PkS.pack Tspec_GoodWheel_l5_0 (r0, ()))) (fun r0 => kk (.exit 0) (PkS.pack Tspec_GoodWheel_l5_1 (r0, ())))
  | none => none
theorem espec_GoodWheel_l5 (spec_l1In : ∀ {R : Type}, Nat → Int → Int → Int → (Bool → Option R) → Option R) (spec_l5Timer : ∀ {R : Type}, Nat → Int → Int → Int → (Bool → Option R) → Option R) (spec_l1Has : ∀ {R : Type}, Nat → (List Int) → Int → (Bool → Option R) → Option R) (spec_l5Fits : ∀ {R : Type}, Nat → Int → Int → Int → (Bool → Option R) → Option R) (spec_l5Pow : ∀ {R : Type}, Nat → Int → (Int → Option R) → Option R) (spec_GoodWheel_l9 : ∀ {R : Type}, Nat → Int → Int → (List (List (Int × Int))) → Int → Int → (List (Int × Int)) → Int → Int → Int → (List (List (Int × Int))) → (List Int) → (Bool → Option R) → ((List (List (Int × Int))) → Int → Int → Int → (List (List (Int × Int))) → (List Int) → Option R) → Option R) (spec_GoodWheel_l5 : ∀ {R : Type}, Nat → (List (List (Int × Int))) → Int → Int → Int → (List (List (Int × Int))) → (List Int) → (Bool → Option R) → ((List Int) → Option R) → Option R) {R : Type} (n : Nat) (y5_0 : List (List (Int × Int))) (y5_1 : Int) (y5_2 : Int) (y5_3 : Int) (y5_4 : List (List (Int × Int))) (y5_5 : List Int) (kk : Ex → Pk → Option R) : Dspec_GoodWheel_l5.step tt sig (mkK [(36, Kspec_l1In @spec_l1In n), (31, Kspec_l5Timer @spec_l5Timer n), (56, Kspec_l1Has @spec_l1Has n), (57, Kspec_l5Fits @spec_l5Fits n), (58, Kspec_l5Pow @spec_l5Pow n)] R) (mkL (mkK [(36, Kspec_l1In @spec_l1In n), (31, Kspec_l5Timer @spec_l5Timer n), (56, Kspec_l1Has @spec_l1Has n), (57, Kspec_l5Fits @spec_l5Fits n), (58, Kspec_l5Pow @spec_l5Pow n)]) [(9, Dspec_GoodWheel_l9, Pspec_GoodWheel_l9 @spec_GoodWheel_l9 n)] R) (loopIn 5 (bodyOf Try.f30)) (fun q' => Pspec_GoodWheel_l5 @spec_GoodWheel_l5 n R q' kk) (PkS.pack Sspec_GoodWheel_l5 (y5_0, y5_1, y5_2, y5_3, y5_4, y5_5, ())) kk = (fun (kret : Bool → Option R) (kexit0 : (List Int) → Option R) => (bif (decide (y5_2 < y5_1)) then (bif decide (0 ≤ y5_2) then (bif decide (y5_2 < (y5_0.length : Int)) then (spec_GoodWheel_l9 n y5_2 (IntKind.wrap .i64 (Int.tdiv y5_2 8)) y5_0 y5_1 y5_2 (y5_0.getD (Int.toNat y5_2) []) ((y5_0.getD (Int.toNat y5_2) []).length : Int) 0 y5_3 y5_4 y5_5 (fun r6 => kret r6) (fun r7 r8 r9 r10 r11 r12 => spec_GoodWheel_l5 n r7 r8 (IntKind.wrap .i64 (r9 + 1)) r10 r11 r12 kret kexit0)) else none) else none) else kexit0 y5_5)) (fun r0 => kk .ret (PkS.pack Tspec_GoodWheel_l5_0 (r0, ()))) (fun r0 => kk (.exit 0) (PkS.pack Tspec_GoodWheel_l5_1 (r0, ()))) := by kernel_rfl
theorem lespec_GoodWheel_l5 : LoopEq tt sig (fun n => mkK [(36, Kspec_l1In @spec_l1In n), (31, Kspec_l5Timer @spec_l5Timer n), (56, Kspec_l1Has @spec_l1Has n), (57, Kspec_l5Fits @spec_l5Fits n), (58, Kspec_l5Pow @spec_l5Pow n)]) (fun n => mkL (mkK [(36, Kspec_l1In @spec_l1In n), (31, Kspec_l5Timer @spec_l5Timer n), (56, Kspec_l1Has @spec_l1Has n), (57, Kspec_l5Fits @spec_l5Fits n), (58, Kspec_l5Pow @spec_l5Pow n)]) [(9, Dspec_GoodWheel_l9, Pspec_GoodWheel_l9 @spec_GoodWheel_l9 n)]) Dspec_GoodWheel_l5 Sspec_GoodWheel_l5 (loopIn 5 (bodyOf Try.f30)) (Pspec_GoodWheel_l5 @spec_GoodWheel_l5) where
  zero R q kk := by unfold Pspec_GoodWheel_l5; cases (PkS.un Sspec_GoodWheel_l5 q) <;> rfl
  succ n R q kk := by
    unfold Pspec_GoodWheel_l5
    cases h : (PkS.un Sspec_GoodWheel_l5 q) with
    | none => rfl
    | some d =>
      obtain ⟨y5_0, y5_1, y5_2, y5_3, y5_4, y5_5, u⟩ := (d : (List (List (Int × Int))) × Int × Int × Int × (List (List (Int × Int))) × (List Int) × Unit)
      have hp := PkS.un_pack h
      subst hp
      exact (espec_GoodWheel_l5 @spec_l1In @spec_l5Timer @spec_l1Has @spec_l5Fits @spec_l5Pow @spec_GoodWheel_l9 @spec_GoodWheel_l5 n y5_0 y5_1 y5_2 y5_3 y5_4 y5_5 kk).symm
theorem nlspec_GoodWheel_l5 : ∀ n, NatLP (Pspec_GoodWheel_l5 @spec_GoodWheel_l5 n) := lespec_GoodWheel_l5.nat (fun n => mkK_nat (cspec_GoodWheel n)) fun n => mkL_nat (mkK_nat (cspec_GoodWheel n)) (l := [(9, Dspec_GoodWheel_l9, Pspec_GoodWheel_l9 @spec_GoodWheel_l9 n)]) ⟨nlspec_GoodWheel_l9 n, trivial⟩
theorem inspec_GoodWheel_l5 (n : Nat) (R : Type) : LoopsOk Try.prog (mkL (mkK [(36, Kspec_l1In @spec_l1In n), (31, Kspec_l5Timer @spec_l5Timer n), (56, Kspec_l1Has @spec_l1Has n), (57, Kspec_l5Fits @spec_l5Fits n), (58, Kspec_l5Pow @spec_l5Pow n)]) [(9, Dspec_GoodWheel_l9, Pspec_GoodWheel_l9 @spec_GoodWheel_l9 n)] R) (loopIn 5 (bodyOf Try.f30)) := .eq (l := [.lo (loopIn 9 (bodyOf Try.f30))]) (by kernel_rfl) ⟨(lkspec_GoodWheel_l9 n R _ (at_id (i := 9) (by kernel_rfl) rfl)), trivial⟩
theorem lkspec_GoodWheel_l5 (n : Nat) (R : Type) (L0 : LK R) (h0 : ∀ id, firstRegion (loopIn 5 (bodyOf Try.f30)) = some id → L0 id = Dspec_GoodWheel_l5.oracle (mkK [(36, Kspec_l1In @spec_l1In n), (31, Kspec_l5Timer @spec_l5Timer n), (56, Kspec_l1Has @spec_l1Has n), (57, Kspec_l5Fits @spec_l5Fits n), (58, Kspec_l5Pow @spec_l5Pow n)] R) (Pspec_GoodWheel_l5 @spec_GoodWheel_l5 n R)) : LoopOk Try.prog L0 (loopIn 5 (bodyOf Try.f30)) :=
  lespec_GoodWheel_l5.ok mixed ttok (fun n => mkK_nat (cspec_GoodWheel n)) (fun n => mkK_ok (cspec_GoodWheel n)) (fun n => inspec_GoodWheel_l5 n R) (mkK_nat (cspec_GoodWheel n)) h0
@[reducible] def Sspec_GoodWheel : PkS := ⟨[.agg [.int .i64, .ro (.sl (.pr (.int .i64) (.int .i64)))]], []⟩
@[reducible] def Tspec_GoodWheel : PkS := ⟨[.one (.bool), .one (.dead)], []⟩
def Hspec_GoodWheel : List Sh := [.one .any, .skip]
def Kspec_GoodWheel (g : ∀ {R : Type}, Nat → Int → (List (List (Int × Int))) → (Bool → Option R) → Option R) (n : Nat) : KPs := fun R p k => match (PkS.un Sspec_GoodWheel p : Option (Int × (List (List (Int × Int))) × Unit)) with
  | some (x0, x1, _) => g n x0 x1 (fun r0 => k (PkS.pack Tspec_GoodWheel (r0, ())))
  | none => none
theorem espec_GoodWheel (spec_l1In : ∀ {R : Type}, Nat → Int → Int → Int → (Bool → Option R) → Option R) (spec_l5Timer : ∀ {R : Type}, Nat → Int → Int → Int → (Bool → Option R) → Option R) (spec_l1Has : ∀ {R : Type}, Nat → (List Int) → Int → (Bool → Option R) → Option R) (spec_l5Fits : ∀ {R : Type}, Nat → Int → Int → Int → (Bool → Option R) → Option R) (spec_l5Pow : ∀ {R : Type}, Nat → Int → (Int → Option R) → Option R) (spec_GoodWheel_l9 : ∀ {R : Type}, Nat → Int → Int → (List (List (Int × Int))) → Int → Int → (List (Int × Int)) → Int → Int → Int → (List (List (Int × Int))) → (List Int) → (Bool → Option R) → ((List (List (Int × Int))) → Int → Int → Int → (List (List (Int × Int))) → (List Int) → Option R) → Option R) (spec_GoodWheel_l5 : ∀ {R : Type}, Nat → (List (List (Int × Int))) → Int → Int → Int → (List (List (Int × Int))) → (List Int) → (Bool → Option R) → ((List Int) → Option R) → Option R) {R : Type} (n : Nat) (x0 : Int) (x1 : List (List (Int × Int))) (k : Pk → Option R) : evF tt sig (mkK [(36, Kspec_l1In @spec_l1In n), (31, Kspec_l5Timer @spec_l5Timer n), (56, Kspec_l1Has @spec_l1Has n), (57, Kspec_l5Fits @spec_l5Fits n), (58, Kspec_l5Pow @spec_l5Pow n)] R) (mkL (mkK [(36, Kspec_l1In @spec_l1In n), (31, Kspec_l5Timer @spec_l5Timer n), (56, Kspec_l1Has @spec_l1Has n), (57, Kspec_l5Fits @spec_l5Fits n), (58, Kspec_l5Pow @spec_l5Pow n)]) [(9, Dspec_GoodWheel_l9, Pspec_GoodWheel_l9 @spec_GoodWheel_l9 n), (5, Dspec_GoodWheel_l5, Pspec_GoodWheel_l5 @spec_GoodWheel_l5 n)] R) Try.f30 Hspec_GoodWheel (PkS.pack Sspec_GoodWheel (x0, x1, ())) k = (fun (k : Bool → Option R) => (spec_l1In n x0 0 100000 fun r1 => (bif (!r1) then k false else (bif ((x1.length : Int) != 24) then k false else (spec_GoodWheel_l5 n x1 (x1.length : Int) 0 x0 x1 ([] : List Int) (fun r13 => k r13) (fun r14 => k (decide ((r14.length : Int) ≤ 60)))))))) (fun r0 => k (PkS.pack Tspec_GoodWheel (r0, ()))) := by kernel_rfl
theorem okspec_GoodWheel (n : Nat) : FnOk Try.prog 30 (Kspec_GoodWheel @spec_GoodWheel n) := by
  refine fn_ok (sig := sig) mixed ttok (mkK_nat (cspec_GoodWheel n)) (mkK_ok (cspec_GoodWheel n)) (mkL_nat (mkK_nat (cspec_GoodWheel n)) (l := [(9, Dspec_GoodWheel_l9, Pspec_GoodWheel_l9 @spec_GoodWheel_l9 n), (5, Dspec_GoodWheel_l5, Pspec_GoodWheel_l5 @spec_GoodWheel_l5 n)]) ⟨nlspec_GoodWheel_l9 n, ⟨nlspec_GoodWheel_l5 n, trivial⟩⟩) (fn := Try.f30) (c := bodyOf Try.f30) (by kernel_rfl) (by kernel_rfl) (by kernel_rfl) (.eq (l := [.lo (loopIn 5 (bodyOf Try.f30))]) (by kernel_rfl) ⟨(lkspec_GoodWheel_l5 n _ _ (at_id (i := 5) (by kernel_rfl) rfl)), trivial⟩) (shs := Hspec_GoodWheel) (S := Sspec_GoodWheel) (h1 := by kernel_rfl) fun R p k => ?_
  unfold Kspec_GoodWheel
  cases h : (PkS.un Sspec_GoodWheel p) with
  | none => rfl
  | some d =>
    obtain ⟨x0, x1, u⟩ := (d : Int × (List (List (Int × Int))) × Unit)
    have hp := PkS.un_pack h
    subst hp
    exact (espec_GoodWheel @spec_l1In @spec_l5Timer @spec_l1Has @spec_l5Fits @spec_l5Pow @spec_GoodWheel_l9 @spec_GoodWheel_l5 n x0 x1 k).symm

/-! ### loop.example/g00269/spec.l5Own -/
theorem cspec_l5Own (n : Nat) : AllOk Try.prog [] := trivial
@[reducible] def Sspec_l5Own_l3 : PkS := ⟨[.one (.box (100000, 0) 0), .one (.box (100000, 2) 0), .one (.mp (100000, 3)), .one (.ro (.sl (.pr (.int .i64) (.int .i64)))), .one (.int .i64), .one (.int .i64), .one (.dead)], [((100000, 0), .box [.int .i64, .ro (.sl (.pr (.int .i64) (.int .i64)))]), ((100000, 1), .rr (.pr (.int .i64) (.int .i64))), ((100000, 2), .box [.int .i64, .mp (100000, 1)]), ((100000, 3), .rr (.pr (.int .i64) (.int .i64)))]⟩
@[reducible] def Tspec_l5Own_l3_0 : PkS := ⟨[.one (.box (100000, 0) 0), .one (.box (100000, 2) 0), .one (.mp (100000, 3)), .one (.dead)], [((100000, 0), .box [.int .i64, .ro (.sl (.pr (.int .i64) (.int .i64)))]), ((100000, 1), .rr (.pr (.int .i64) (.int .i64))), ((100000, 2), .box [.int .i64, .mp (100000, 1)]), ((100000, 3), .rr (.pr (.int .i64) (.int .i64)))]⟩
def Dspec_l5Own_l3 : LoopD := ⟨23, [1, 2, 3, 7, 8, 9], [.box [.any, (.ro (.sl (.pr (.int .i64) (.int .i64))))], .box [.any, (.rr (.pr (.int .i64) (.int .i64)))], .one (.rr (.pr (.int .i64) (.int .i64))), .one (.ro (.sl (.pr (.int .i64) (.int .i64)))), .one .any, .one .any, .skip], fun x => match x with
  | .exit 0 => some ([1, 2, 3], [.box [.any, (.ro (.sl (.pr (.int .i64) (.int .i64))))], .box [.any, (.rr (.pr (.int .i64) (.int .i64)))], .one (.rr (.pr (.int .i64) (.int .i64))), .skip])
  | _ => none⟩
def Pspec_l5Own_l3 (g : ∀ {R : Type}, Nat → (List (List (Int × Int))) → Int → Int → Int → (List (List (Int × Int))) → (List (List (Int × Int))) → Int → (List (List (Int × Int))) → (Int → (List (List (Int × Int))) → (List (List (Int × Int))) → Int → (List (List (Int × Int))) → Option R) → Option R) (n : Nat) : LPs := fun R q kk => match (PkS.un Sspec_l5Own_l3 q : Option ((List (List (Int × Int))) × Int × Int × Int × (List (List (Int × Int))) × (List (List (Int × Int))) × Int × (List (List (Int × Int))) × Unit)) with
  | some (y3_0, y3_1, y3_2, y3_3, y3_4, y3_5, y3_6, y3_7, _) => g n y3_0 y3_1 y3_2 y3_3 y3_4 y3_5 y3_6 y3_7 (fun r0 r1 r2 r3 r4 => kk (.exit 0) (PkS.pack Tspec_l5Own_l3_0 (r0, r1, r2, r3, r4, ())))
  | none => none
theorem espec_l5Own_l3 (spec_l5Own_l3 : ∀ {R : Type}, Nat → (List (List (Int × Int))) → Int → Int → Int → (List (List (Int × Int))) → (List (List (Int × Int))) → Int → (List (List (Int × Int))) → (Int → (List (List (Int × Int))) → (List (List (Int × Int))) → Int → (List (List (Int × Int))) → Option R) → Option R) {R : Type} (n : Nat) (y3_0 : List (List (Int × Int))) (y3_1 : Int) (y3_2 : Int) (y3_3 : Int) (y3_4 : List (List (Int × Int))) (y3_5 : List (List (Int × Int))) (y3_6 : Int) (y3_7 : List (List (Int × Int))) (kk : Ex → Pk → Option R) : Dspec_l5Own_l3.step tt sig (mkK [] R) (mkL (mkK []) [] R) (loopIn 3 (bodyOf Try.f34)) (fun q' => Pspec_l5Own_l3 @spec_l5Own_l3 n R q' kk) (PkS.pack Sspec_l5Own_l3 (y3_0, y3_1, y3_2, y3_3, y3_4, y3_5, y3_6, y3_7, ())) kk = (fun (kexit0 : Int → (List (List (Int × Int))) → (List (List (Int × Int))) → Int → (List (List (Int × Int))) → Option R) => (bif (decide (y3_2 < y3_1)) then (bif decide (0 ≤ y3_2) then (bif decide (y3_2 < (y3_0.length : Int)) then (bif decide (([] : List (Int × Int)).length + (y3_0.getD (Int.toNat y3_2) []).length ≤ LIM) then (bif decide (y3_7.length + ([(([] : List (Int × Int)) ++ (y3_0.getD (Int.toNat y3_2) []))]).length ≤ LIM) then spec_l5Own_l3 n y3_0 y3_1 (IntKind.wrap .i64 (y3_2 + 1)) y3_3 y3_4 y3_5 y3_6 (y3_7 ++ [(([] : List (Int × Int)) ++ (y3_0.getD (Int.toNat y3_2) []))]) kexit0 else none) else none) else none) else none) else kexit0 y3_3 y3_4 y3_5 y3_6 y3_7)) (fun r0 r1 r2 r3 r4 => kk (.exit 0) (PkS.pack Tspec_l5Own_l3_0 (r0, r1, r2, r3, r4, ()))) := by kernel_rfl
theorem lespec_l5Own_l3 : LoopEq tt sig (fun n => mkK []) (fun n => mkL (mkK []) []) Dspec_l5Own_l3 Sspec_l5Own_l3 (loopIn 3 (bodyOf Try.f34)) (Pspec_l5Own_l3 @spec_l5Own_l3) where
  zero R q kk := by unfold Pspec_l5Own_l3; cases (PkS.un Sspec_l5Own_l3 q) <;> rfl
  succ n R q kk := by
    unfold Pspec_l5Own_l3
    cases h : (PkS.un Sspec_l5Own_l3 q) with
    | none => rfl
    | some d =>
      obtain ⟨y3_0, y3_1, y3_2, y3_3, y3_4, y3_5, y3_6, y3_7, u⟩ := (d : (List (List (Int × Int))) × Int × Int × Int × (List (List (Int × Int))) × (List (List (Int × Int))) × Int × (List (List (Int × Int))) × Unit)
      have hp := PkS.un_pack h
      subst hp
      exact (espec_l5Own_l3 @spec_l5Own_l3 n y3_0 y3_1 y3_2 y3_3 y3_4 y3_5 y3_6 y3_7 kk).symm
theorem nlspec_l5Own_l3 : ∀ n, NatLP (Pspec_l5Own_l3 @spec_l5Own_l3 n) := lespec_l5Own_l3.nat (fun n => mkK_nat (cspec_l5Own n)) fun n => mkL_nat (mkK_nat (cspec_l5Own n)) (l := []) trivial
theorem inspec_l5Own_l3 (n : Nat) (R : Type) : LoopsOk Try.prog (mkL (mkK []) [] R) (loopIn 3 (bodyOf Try.f34)) := .eq (l := []) (by kernel_rfl) trivial
theorem lkspec_l5Own_l3 (n : Nat) (R : Type) (L0 : LK R) (h0 : ∀ id, firstRegion (loopIn 3 (bodyOf Try.f34)) = some id → L0 id = Dspec_l5Own_l3.oracle (mkK [] R) (Pspec_l5Own_l3 @spec_l5Own_l3 n R)) : LoopOk Try.prog L0 (loopIn 3 (bodyOf Try.f34)) :=
  lespec_l5Own_l3.ok mixed ttok (fun n => mkK_nat (cspec_l5Own n)) (fun n => mkK_ok (cspec_l5Own n)) (fun n => inspec_l5Own_l3 n R) (mkK_nat (cspec_l5Own n)) h0
@[reducible] def Sspec_l5Own : PkS := ⟨[.agg [.int .i64, .ro (.sl (.pr (.int .i64) (.int .i64)))]], []⟩
@[reducible] def Tspec_l5Own : PkS := ⟨[.agg [.int .i64, .mp (300000, 0)], .one (.dead)], [((300000, 0), .rr (.pr (.int .i64) (.int .i64)))]⟩
def Hspec_l5Own : List Sh := [.agg [.any, (.rr (.pr (.int .i64) (.int .i64)))], .skip]
def Kspec_l5Own (g : ∀ {R : Type}, Nat → Int → (List (List (Int × Int))) → (Int → (List (List (Int × Int))) → Option R) → Option R) (n : Nat) : KPs := fun R p k => match (PkS.un Sspec_l5Own p : Option (Int × (List (List (Int × Int))) × Unit)) with
  | some (x0, x1, _) => g n x0 x1 (fun r0 r1 => k (PkS.pack Tspec_l5Own (r0, r1, ())))
  | none => none
theorem espec_l5Own (spec_l5Own_l3 : ∀ {R : Type}, Nat → (List (List (Int × Int))) → Int → Int → Int → (List (List (Int × Int))) → (List (List (Int × Int))) → Int → (List (List (Int × Int))) → (Int → (List (List (Int × Int))) → (List (List (Int × Int))) → Int → (List (List (Int × Int))) → Option R) → Option R) {R : Type} (n : Nat) (x0 : Int) (x1 : List (List (Int × Int))) (k : Pk → Option R) : evF tt sig (mkK [] R) (mkL (mkK []) [(3, Dspec_l5Own_l3, Pspec_l5Own_l3 @spec_l5Own_l3 n)] R) Try.f34 Hspec_l5Own (PkS.pack Sspec_l5Own (x0, x1, ())) k = (fun (k : Int → (List (List (Int × Int))) → Option R) => (spec_l5Own_l3 n x1 (x1.length : Int) 0 x0 x1 ([] : List (List (Int × Int))) 0 ([] : List (List (Int × Int))) (fun r1 r2 r3 r4 r5 => k r1 r5))) (fun r0 r1 => k (PkS.pack Tspec_l5Own (r0, r1, ()))) := by kernel_rfl
theorem okspec_l5Own (n : Nat) : FnOk Try.prog 34 (Kspec_l5Own @spec_l5Own n) := by
  refine fn_ok (sig := sig) mixed ttok (mkK_nat (cspec_l5Own n)) (mkK_ok (cspec_l5Own n)) (mkL_nat (mkK_nat (cspec_l5Own n)) (l := [(3, Dspec_l5Own_l3, Pspec_l5Own_l3 @spec_l5Own_l3 n)]) ⟨nlspec_l5Own_l3 n, trivial⟩) (fn := Try.f34) (c := bodyOf Try.f34) (by kernel_rfl) (by kernel_rfl) (by kernel_rfl) (.eq (l := [.lo (loopIn 3 (bodyOf Try.f34))]) (by kernel_rfl) ⟨(lkspec_l5Own_l3 n _ _ (at_id (i := 3) (by kernel_rfl) rfl)), trivial⟩) (shs := Hspec_l5Own) (S := Sspec_l5Own) (h1 := by kernel_rfl) fun R p k => ?_
  unfold Kspec_l5Own
  cases h : (PkS.un Sspec_l5Own p) with
  | none => rfl
  | some d =>
    obtain ⟨x0, x1, u⟩ := (d : Int × (List (List (Int × Int))) × Unit)
    have hp := PkS.un_pack h
    subst hp
    exact (espec_l5Own @spec_l5Own_l3 n x0 x1 k).symm

/-! ### loop.example/g00269/spec.l5PutInt -/
theorem cspec_l5PutInt (n : Nat) : AllOk Try.prog [] := trivial
@[reducible] def Sspec_l5PutInt_l2 : PkS := ⟨[.one (.ro (.int .i64)), .one (.int .i64), .one (.int .i64), .one (.dead), .one (.dead)], []⟩
@[reducible] def Tspec_l5PutInt_l2_0 : PkS := ⟨[.one (.ro (.int .i64)), .one (.int .i64), .one (.int .i64), .one (.dead), .one (.dead)], []⟩
def Dspec_l5PutInt_l2 : LoopD := ⟨35, [0, 1, 5], [.one (.ro (.int .i64)), .one .any, .one .any, .skip, .skip], fun x => match x with
  | .exit 0 => some ([0, 1, 5], [.one (.ro (.int .i64)), .one .any, .one .any, .skip, .skip])
  | _ => none⟩
def Pspec_l5PutInt_l2 (g : ∀ {R : Type}, Nat → (List Int) → Int → Int → ((List Int) → Int → Int → Option R) → Option R) (n : Nat) : LPs := fun R q kk => match (PkS.un Sspec_l5PutInt_l2 q : Option ((List Int) × Int × Int × Unit)) with
  | some (y2_0, y2_1, y2_2, _) => g n y2_0 y2_1 y2_2 (fun r0 r1 r2 => kk (.exit 0) (PkS.pack Tspec_l5PutInt_l2_0 (r0, r1, r2, ())))
  | none => none
theorem espec_l5PutInt_l2 (spec_l5PutInt_l2 : ∀ {R : Type}, Nat → (List Int) → Int → Int → ((List Int) → Int → Int → Option R) → Option R) {R : Type} (n : Nat) (y2_0 : List Int) (y2_1 : Int) (y2_2 : Int) (kk : Ex → Pk → Option R) : Dspec_l5PutInt_l2.step tt sig (mkK [] R) (mkL (mkK []) [] R) (loopIn 2 (bodyOf Try.f65)) (fun q' => Pspec_l5PutInt_l2 @spec_l5PutInt_l2 n R q' kk) (PkS.pack Sspec_l5PutInt_l2 (y2_0, y2_1, y2_2, ())) kk = (fun (kexit0 : (List Int) → Int → Int → Option R) => (bif (decide (y2_2 < (y2_0.length : Int))) then (bif decide (0 ≤ y2_2) then (bif decide (y2_2 < (y2_0.length : Int)) then (bif (decide ((y2_0.getD (Int.toNat y2_2) 0) < y2_1)) then spec_l5PutInt_l2 n y2_0 y2_1 (IntKind.wrap .i64 (y2_2 + 1)) kexit0 else kexit0 y2_0 y2_1 y2_2) else none) else none) else kexit0 y2_0 y2_1 y2_2)) (fun r0 r1 r2 => kk (.exit 0) (PkS.pack Tspec_l5PutInt_l2_0 (r0, r1, r2, ()))) := by kernel_rfl
theorem lespec_l5PutInt_l2 : LoopEq tt sig (fun n => mkK []) (fun n => mkL (mkK []) []) Dspec_l5PutInt_l2 Sspec_l5PutInt_l2 (loopIn 2 (bodyOf Try.f65)) (Pspec_l5PutInt_l2 @spec_l5PutInt_l2) where
  zero R q kk := by unfold Pspec_l5PutInt_l2; cases (PkS.un Sspec_l5PutInt_l2 q) <;> rfl
  succ n R q kk := by
    unfold Pspec_l5PutInt_l2
    cases h : (PkS.un Sspec_l5PutInt_l2 q) with
    | none => rfl
    | some d =>
      obtain ⟨y2_0, y2_1, y2_2, u⟩ := (d : (List Int) × Int × Int × Unit)
      have hp := PkS.un_pack h
      subst hp
      exact (espec_l5PutInt_l2 @spec_l5PutInt_l2 n y2_0 y2_1 y2_2 kk).symm
theorem nlspec_l5PutInt_l2 : ∀ n, NatLP (Pspec_l5PutInt_l2 @spec_l5PutInt_l2 n) := lespec_l5PutInt_l2.nat (fun n => mkK_nat (cspec_l5PutInt n)) fun n => mkL_nat (mkK_nat (cspec_l5PutInt n)) (l := []) trivial
theorem inspec_l5PutInt_l2 (n : Nat) (R : Type) : LoopsOk Try.prog (mkL (mkK []) [] R) (loopIn 2 (bodyOf Try.f65)) := .eq (l := []) (by kernel_rfl) trivial
theorem lkspec_l5PutInt_l2 (n : Nat) (R : Type) (L0 : LK R) (h0 : ∀ id, firstRegion (loopIn 2 (bodyOf Try.f65)) = some id → L0 id = Dspec_l5PutInt_l2.oracle (mkK [] R) (Pspec_l5PutInt_l2 @spec_l5PutInt_l2 n R)) : LoopOk Try.prog L0 (loopIn 2 (bodyOf Try.f65)) :=
  lespec_l5PutInt_l2.ok mixed ttok (fun n => mkK_nat (cspec_l5PutInt n)) (fun n => mkK_ok (cspec_l5PutInt n)) (fun n => inspec_l5PutInt_l2 n R) (mkK_nat (cspec_l5PutInt n)) h0
@[reducible] def Sspec_l5PutInt : PkS := ⟨[.one (.ro (.int .i64)), .one (.int .i64)], []⟩
@[reducible] def Tspec_l5PutInt : PkS := ⟨[.one (.whole (300000, 0)), .one (.dead), .one (.dead)], [((300000, 0), .arr (.int .i64))]⟩
def Hspec_l5PutInt : List Sh := [.one (.own (.int .i64)), .skip, .skip]
def Kspec_l5PutInt (g : ∀ {R : Type}, Nat → (List Int) → Int → ((List Int) → Option R) → Option R) (n : Nat) : KPs := fun R p k => match (PkS.un Sspec_l5PutInt p : Option ((List Int) × Int × Unit)) with
  | some (x0, x1, _) => g n x0 x1 (fun r0 => k (PkS.pack Tspec_l5PutInt (r0, ())))
  | none => none
theorem espec_l5PutInt (spec_l5PutInt_l2 : ∀ {R : Type}, Nat → (List Int) → Int → Int → ((List Int) → Int → Int → Option R) → Option R) {R : Type} (n : Nat) (x0 : List Int) (x1 : Int) (k : Pk → Option R) : evF tt sig (mkK [] R) (mkL (mkK []) [(2, Dspec_l5PutInt_l2, Pspec_l5PutInt_l2 @spec_l5PutInt_l2 n)] R) Try.f65 Hspec_l5PutInt (PkS.pack Sspec_l5PutInt (x0, x1, ())) k = (fun (k : (List Int) → Option R) => (spec_l5PutInt_l2 n x0 x1 0 (fun r1 r2 r3 => (bif decide (0 ≤ r3) then (bif decide (r3 ≤ (r1.length : Int)) then (bif decide (((r1.drop 0).take ((Int.toNat r3) - 0)).length ≤ LIM) then (bif decide (((r1.drop 0).take ((Int.toNat r3) - 0)).length + [r2].length ≤ LIM) then (bif decide (0 ≤ r3) then (bif decide (r3 ≤ (r1.length : Int)) then (bif decide ((r1.length : Int) ≤ (r1.length : Int)) then (bif decide ((((r1.drop 0).take ((Int.toNat r3) - 0)) ++ [r2]).length + ((r1.drop (Int.toNat r3)).take ((Int.toNat (r1.length : Int)) - (Int.toNat r3))).length ≤ LIM) then k ((((r1.drop 0).take ((Int.toNat r3) - 0)) ++ [r2]) ++ ((r1.drop (Int.toNat r3)).take ((Int.toNat (r1.length : Int)) - (Int.toNat r3)))) else none) else none) else none) else none) else none) else none) else none) else none)))) (fun r0 => k (PkS.pack Tspec_l5PutInt (r0, ()))) := by kernel_rfl
theorem okspec_l5PutInt (n : Nat) : FnOk Try.prog 65 (Kspec_l5PutInt @spec_l5PutInt n) := by
  refine fn_ok (sig := sig) mixed ttok (mkK_nat (cspec_l5PutInt n)) (mkK_ok (cspec_l5PutInt n)) (mkL_nat (mkK_nat (cspec_l5PutInt n)) (l := [(2, Dspec_l5PutInt_l2, Pspec_l5PutInt_l2 @spec_l5PutInt_l2 n)]) ⟨nlspec_l5PutInt_l2 n, trivial⟩) (fn := Try.f65) (c := bodyOf Try.f65) (by kernel_rfl) (by kernel_rfl) (by kernel_rfl) (.eq (l := [.lo (loopIn 2 (bodyOf Try.f65))]) (by kernel_rfl) ⟨(lkspec_l5PutInt_l2 n _ _ (at_id (i := 2) (by kernel_rfl) rfl)), trivial⟩) (shs := Hspec_l5PutInt) (S := Sspec_l5PutInt) (h1 := by kernel_rfl) fun R p k => ?_
  unfold Kspec_l5PutInt
  cases h : (PkS.un Sspec_l5PutInt p) with
  | none => rfl
  | some d =>
    obtain ⟨x0, x1, u⟩ := (d : (List Int) × Int × Unit)
    have hp := PkS.un_pack h
    subst hp
    exact (espec_l5PutInt @spec_l5PutInt_l2 n x0 x1 k).symm

/-! ### loop.example/g00269/spec.l5Slot -/
theorem cspec_l5Slot (n : Nat) : AllOk Try.prog [(57, Kspec_l5Fits @spec_l5Fits n), (58, Kspec_l5Pow @spec_l5Pow n)] := ⟨okspec_l5Fits n, ⟨okspec_l5Pow n, trivial⟩⟩
@[reducible] def Sspec_l5Slot_l2 : PkS := ⟨[.one (.int .i64), .one (.int .i64), .one (.int .i64), .one (.dead), .one (.dead)], []⟩
@[reducible] def Tspec_l5Slot_l2_0 : PkS := ⟨[.one (.int .i64), .one (.dead), .one (.dead)], []⟩
@[reducible] def Tspec_l5Slot_l2_1 : PkS := ⟨[.one (.dead), .one (.dead)], []⟩
def Dspec_l5Slot_l2 : LoopD := ⟨22, [0, 1, 5], [.one .any, .one .any, .one .any, .skip, .skip], fun x => match x with
  | .ret => some ([4], [.one .any, .skip, .skip])
  | .exit 0 => some ([], [.skip, .skip])
  | _ => none⟩
def Pspec_l5Slot_l2 (g : ∀ {R : Type}, Nat → Int → Int → Int → (Int → Option R) → (Option R) → Option R) (n : Nat) : LPs := fun R q kk => match (PkS.un Sspec_l5Slot_l2 q : Option (Int × Int × Int × Unit)) with
  | some (y2_0, y2_1, y2_2, _) => g n y2_0 y2_1 y2_2 (fun r0 => kk .ret (PkS.pack Tspec_l5Slot_l2_0 (r0, ()))) (kk (.exit 0) (PkS.pack Tspec_l5Slot_l2_1 ()))
  | none => none
theorem espec_l5Slot_l2 (spec_l5Fits : ∀ {R : Type}, Nat → Int → Int → Int → (Bool → Option R) → Option R) (spec_l5Pow : ∀ {R : Type}, Nat → Int → (Int → Option R) → Option R) (spec_l5Slot_l2 : ∀ {R : Type}, Nat → Int → Int → Int → (Int → Option R) → (Option R) → Option R) {R : Type} (n : Nat) (y2_0 : Int) (y2_1 : Int) (y2_2 : Int) (kk : Ex → Pk → Option R) : Dspec_l5Slot_l2.step tt sig (mkK [(57, Kspec_l5Fits @spec_l5Fits n), (58, Kspec_l5Pow @spec_l5Pow n)] R) (mkL (mkK [(57, Kspec_l5Fits @spec_l5Fits n), (58, Kspec_l5Pow @spec_l5Pow n)]) [] R) (loopIn 2 (bodyOf Try.f33)) (fun q' => Pspec_l5Slot_l2 @spec_l5Slot_l2 n R q' kk) (PkS.pack Sspec_l5Slot_l2 (y2_0, y2_1, y2_2, ())) kk = (fun (kret : Int → Option R) (kexit0 : Option R) => (bif (decide (y2_2 < 3)) then (spec_l5Fits n y2_0 y2_1 y2_2 fun r1 => (bif r1 then (spec_l5Pow n y2_2 fun r2 => (bif decide (r2 ≠ 0) then kret (IntKind.wrap .i64 ((IntKind.wrap .i64 (y2_2 * 8)) + (Int.tmod (IntKind.wrap .i64 (Int.tdiv y2_1 r2)) 8))) else none)) else spec_l5Slot_l2 n y2_0 y2_1 (IntKind.wrap .i64 (y2_2 + 1)) kret kexit0)) else kexit0)) (fun r0 => kk .ret (PkS.pack Tspec_l5Slot_l2_0 (r0, ()))) (kk (.exit 0) (PkS.pack Tspec_l5Slot_l2_1 ())) := by kernel_rfl
theorem lespec_l5Slot_l2 : LoopEq tt sig (fun n => mkK [(57, Kspec_l5Fits @spec_l5Fits n), (58, Kspec_l5Pow @spec_l5Pow n)]) (fun n => mkL (mkK [(57, Kspec_l5Fits @spec_l5Fits n), (58, Kspec_l5Pow @spec_l5Pow n)]) []) Dspec_l5Slot_l2 Sspec_l5Slot_l2 (loopIn 2 (bodyOf Try.f33)) (Pspec_l5Slot_l2 @spec_l5Slot_l2) where
  zero R q kk := by unfold Pspec_l5Slot_l2; cases (PkS.un Sspec_l5Slot_l2 q) <;> rfl
  succ n R q kk := by
    unfold Pspec_l5Slot_l2
    cases h : (PkS.un Sspec_l5Slot_l2 q) with
    | none => rfl
    | some d =>
      obtain ⟨y2_0, y2_1, y2_2, u⟩ := (d : Int × Int × Int × Unit)
      have hp := PkS.un_pack h
      subst hp
      exact (espec_l5Slot_l2 @spec_l5Fits @spec_l5Pow @spec_l5Slot_l2 n y2_0 y2_1 y2_2 kk).symm
theorem nlspec_l5Slot_l2 : ∀ n, NatLP (Pspec_l5Slot_l2 @spec_l5Slot_l2 n) := lespec_l5Slot_l2.nat (fun n => mkK_nat (cspec_l5Slot n)) fun n => mkL_nat (mkK_nat (cspec_l5Slot n)) (l := []) trivial
theorem inspec_l5Slot_l2 (n : Nat) (R : Type) : LoopsOk Try.prog (mkL (mkK [(57, Kspec_l5Fits @spec_l5Fits n), (58, Kspec_l5Pow @spec_l5Pow n)]) [] R) (loopIn 2 (bodyOf Try.f33)) := .eq (l := []) (by kernel_rfl) trivial
theorem lkspec_l5Slot_l2 (n : Nat) (R : Type) (L0 : LK R) (h0 : ∀ id, firstRegion (loopIn 2 (bodyOf Try.f33)) = some id → L0 id = Dspec_l5Slot_l2.oracle (mkK [(57, Kspec_l5Fits @spec_l5Fits n), (58, Kspec_l5Pow @spec_l5Pow n)] R) (Pspec_l5Slot_l2 @spec_l5Slot_l2 n R)) : LoopOk Try.prog L0 (loopIn 2 (bodyOf Try.f33)) :=
  lespec_l5Slot_l2.ok mixed ttok (fun n => mkK_nat (cspec_l5Slot n)) (fun n => mkK_ok (cspec_l5Slot n)) (fun n => inspec_l5Slot_l2 n R) (mkK_nat (cspec_l5Slot n)) h0
@[reducible] def Sspec_l5Slot : PkS := ⟨[.one (.int .i64), .one (.int .i64)], []⟩
@[reducible] def Tspec_l5Slot : PkS := ⟨[.one (.int .i64), .one (.dead), .one (.dead)], []⟩
def Hspec_l5Slot : List Sh := [.one .any, .skip, .skip]
def Kspec_l5Slot (g : ∀ {R : Type}, Nat → Int → Int → (Int → Option R) → Option R) (n : Nat) : KPs := fun R p k => match (PkS.un Sspec_l5Slot p : Option (Int × Int × Unit)) with
  | some (x0, x1, _) => g n x0 x1 (fun r0 => k (PkS.pack Tspec_l5Slot (r0, ())))
  | none => none
theorem espec_l5Slot (spec_l5Fits : ∀ {R : Type}, Nat → Int → Int → Int → (Bool → Option R) → Option R) (spec_l5Pow : ∀ {R : Type}, Nat → Int → (Int → Option R) → Option R) (spec_l5Slot_l2 : ∀ {R : Type}, Nat → Int → Int → Int → (Int → Option R) → (Option R) → Option R) {R : Type} (n : Nat) (x0 : Int) (x1 : Int) (k : Pk → Option R) : evF tt sig (mkK [(57, Kspec_l5Fits @spec_l5Fits n), (58, Kspec_l5Pow @spec_l5Pow n)] R) (mkL (mkK [(57, Kspec_l5Fits @spec_l5Fits n), (58, Kspec_l5Pow @spec_l5Pow n)]) [(2, Dspec_l5Slot_l2, Pspec_l5Slot_l2 @spec_l5Slot_l2 n)] R) Try.f33 Hspec_l5Slot (PkS.pack Sspec_l5Slot (x0, x1, ())) k = (fun (k : Int → Option R) => (spec_l5Slot_l2 n x0 x1 0 (fun r3 => k r3) (k (-1)))) (fun r0 => k (PkS.pack Tspec_l5Slot (r0, ()))) := by kernel_rfl
theorem okspec_l5Slot (n : Nat) : FnOk Try.prog 33 (Kspec_l5Slot @spec_l5Slot n) := by
  refine fn_ok (sig := sig) mixed ttok (mkK_nat (cspec_l5Slot n)) (mkK_ok (cspec_l5Slot n)) (mkL_nat (mkK_nat (cspec_l5Slot n)) (l := [(2, Dspec_l5Slot_l2, Pspec_l5Slot_l2 @spec_l5Slot_l2 n)]) ⟨nlspec_l5Slot_l2 n, trivial⟩) (fn := Try.f33) (c := bodyOf Try.f33) (by kernel_rfl) (by kernel_rfl) (by kernel_rfl) (.eq (l := [.lo (loopIn 2 (bodyOf Try.f33))]) (by kernel_rfl) ⟨(lkspec_l5Slot_l2 n _ _ (at_id (i := 2) (by kernel_rfl) rfl)), trivial⟩) (shs := Hspec_l5Slot) (S := Sspec_l5Slot) (h1 := by kernel_rfl) fun R p k => ?_
  unfold Kspec_l5Slot
  cases h : (PkS.un Sspec_l5Slot p) with
  | none => rfl
  | some d =>
    obtain ⟨x0, x1, u⟩ := (d : Int × Int × Unit)
    have hp := PkS.un_pack h
    subst hp
    exact (espec_l5Slot @spec_l5Fits @spec_l5Pow @spec_l5Slot_l2 n x0 x1 k).symm

/-! ### loop.example/g00269/spec.l5Tick -/
theorem cspec_l5Tick (n : Nat) : AllOk Try.prog [(58, Kspec_l5Pow @spec_l5Pow n), (65, Kspec_l5PutInt @spec_l5PutInt n), (33, Kspec_l5Slot @spec_l5Slot n)] := ⟨okspec_l5Pow n, ⟨okspec_l5PutInt n, ⟨okspec_l5Slot n, trivial⟩⟩⟩
@[reducible] def Sspec_l5Tick_l12 : PkS := ⟨[.one (.box (100000, 1) 0), .one (.box (100000, 3) 0), .one (.whole (100000, 4)), .one (.int .i64), .one (.int .i64), .one (.whole (100000, 5)), .one (.int .i64), .one (.int .i64), .one (.dead)], [((100000, 0), .rr (.pr (.int .i64) (.int .i64))), ((100000, 1), .box [.int .i64, .mp (100000, 0)]), ((100000, 2), .rr (.pr (.int .i64) (.int .i64))), ((100000, 3), .box [.int .i64, .mp (100000, 2)]), ((100000, 4), .arr (.int .i64)), ((100000, 5), .arr (.pr (.int .i64) (.int .i64)))]⟩
@[reducible] def Tspec_l5Tick_l12_0 : PkS := ⟨[.one (.box (100000, 1) 0), .one (.box (100000, 3) 0), .one (.whole (100000, 4)), .one (.int .i64), .one (.int .i64), .one (.dead)], [((100000, 0), .rr (.pr (.int .i64) (.int .i64))), ((100000, 1), .box [.int .i64, .mp (100000, 0)]), ((100000, 2), .rr (.pr (.int .i64) (.int .i64))), ((100000, 3), .box [.int .i64, .mp (100000, 2)]), ((100000, 4), .arr (.int .i64))]⟩
def Dspec_l5Tick_l12 : LoopD := ⟨110, [1, 2, 5, 6, 7, 48, 49, 50], [.box [.any, (.rr (.pr (.int .i64) (.int .i64)))], .box [.any, (.rr (.pr (.int .i64) (.int .i64)))], .one (.own (.int .i64)), .one .any, .one .any, .one (.own (.pr (.int .i64) (.int .i64))), .one .any, .one .any, .skip], fun x => match x with
  | .exit 2 => some ([1, 2, 5, 6, 7], [.box [.any, (.rr (.pr (.int .i64) (.int .i64)))], .box [.any, (.rr (.pr (.int .i64) (.int .i64)))], .one (.own (.int .i64)), .one .any, .one .any, .skip])
  | _ => none⟩
def Pspec_l5Tick_l12 (g : ∀ {R : Type}, Nat → Int → Int → Int → Int → (List (List (Int × Int))) → Int → (List (List (Int × Int))) → Int → (List Int) → (List (Int × Int)) → (Int → Int → (List (List (Int × Int))) → Int → (List (List (Int × Int))) → Int → (List Int) → Option R) → Option R) (n : Nat) : LPs := fun R q kk => match (PkS.un Sspec_l5Tick_l12 q : Option (Int × Int × Int × Int × (List (List (Int × Int))) × Int × (List (List (Int × Int))) × Int × (List Int) × (List (Int × Int)) × Unit)) with
  | some (y12_0, y12_1, y12_2, y12_3, y12_4, y12_5, y12_6, y12_7, y12_8, y12_9, _) => g n y12_0 y12_1 y12_2 y12_3 y12_4 y12_5 y12_6 y12_7 y12_8 y12_9 (fun r0 r1 r2 r3 r4 r5 r6 => kk (.exit 2) (PkS.pack Tspec_l5Tick_l12_0 (r0, r1, r2, r3, r4, r5, r6, ())))
  | none => none
theorem espec_l5Tick_l12 (spec_l5Pow : ∀ {R : Type}, Nat → Int → (Int → Option R) → Option R) (spec_l5PutInt : ∀ {R : Type}, Nat → (List Int) → Int → ((List Int) → Option R) → Option R) (spec_l5Slot : ∀ {R : Type}, Nat → Int → Int → (Int → Option R) → Option R) (spec_l5Tick_l12 : ∀ {R : Type}, Nat → Int → Int → Int → Int → (List (List (Int × Int))) → Int → (List (List (Int × Int))) → Int → (List Int) → (List (Int × Int)) → (Int → Int → (List (List (Int × Int))) → Int → (List (List (Int × Int))) → Int → (List Int) → Option R) → Option R) {R : Type} (n : Nat) (y12_0 : Int) (y12_1 : Int) (y12_2 : Int) (y12_3 : Int) (y12_4 : List (List (Int × Int))) (y12_5 : Int) (y12_6 : List (List (Int × Int))) (y12_7 : Int) (y12_8 : List Int) (y12_9 : List (Int × Int)) (kk : Ex → Pk → Option R) : Dspec_l5Tick_l12.step tt sig (mkK [(58, Kspec_l5Pow @spec_l5Pow n), (65, Kspec_l5PutInt @spec_l5PutInt n), (33, Kspec_l5Slot @spec_l5Slot n)] R) (mkL (mkK [(58, Kspec_l5Pow @spec_l5Pow n), (65, Kspec_l5PutInt @spec_l5PutInt n), (33, Kspec_l5Slot @spec_l5Slot n)]) [] R) (loopIn 12 (bodyOf Try.f47)) (fun q' => Pspec_l5Tick_l12 @spec_l5Tick_l12 n R q' kk) (PkS.pack Sspec_l5Tick_l12 (y12_0, y12_1, y12_2, y12_3, y12_4, y12_5, y12_6, y12_7, y12_8, y12_9, ())) kk = (fun (kexit2 : Int → Int → (List (List (Int × Int))) → Int → (List (List (Int × Int))) → Int → (List Int) → Option R) => (bif (decide (y12_3 < y12_2)) then (bif decide (0 ≤ y12_3) then (bif decide (y12_3 < (y12_9.length : Int)) then (bif ((y12_9.getD (Int.toNat y12_3) (0, 0)).1 == y12_5) then (spec_l5PutInt n y12_8 ((y12_9.getD (Int.toNat y12_3) (0, 0)).2) fun r3 => spec_l5Tick_l12 n (IntKind.wrap .i64 (y12_0 + 1)) y12_1 y12_2 (IntKind.wrap .i64 (y12_3 + 1)) y12_4 y12_5 y12_6 y12_7 r3 y12_9 kexit2) else (spec_l5Slot n y12_5 ((y12_9.getD (Int.toNat y12_3) (0, 0)).1) fun r4 => (bif decide (0 ≤ r4) then (bif decide (r4 < (y12_4.length : Int)) then (bif decide ((y12_4.getD (Int.toNat r4) []).length + ([((y12_9.getD (Int.toNat y12_3) (0, 0)).1, (y12_9.getD (Int.toNat y12_3) (0, 0)).2)]).length ≤ LIM) then (bif decide (0 ≤ r4) then (bif decide (r4 < ((y12_4.set (Int.toNat r4) []).length : Int)) then (bif Nat.beq (Int.toNat r4) (Int.toNat r4) then spec_l5Tick_l12 n (IntKind.wrap .i64 (y12_0 + 1)) y12_1 y12_2 (IntKind.wrap .i64 (y12_3 + 1)) ((y12_4.set (Int.toNat r4) []).set (Int.toNat r4) ((y12_4.getD (Int.toNat r4) []) ++ [((y12_9.getD (Int.toNat y12_3) (0, 0)).1, (y12_9.getD (Int.toNat y12_3) (0, 0)).2)])) y12_5 y12_6 y12_7 y12_8 y12_9 kexit2 else none) else none) else none) else none) else none) else none))) else none) else none) else kexit2 y12_0 y12_1 y12_4 y12_5 y12_6 y12_7 y12_8)) (fun r0 r1 r2 r3 r4 r5 r6 => kk (.exit 2) (PkS.pack Tspec_l5Tick_l12_0 (r0, r1, r2, r3, r4, r5, r6, ()))) := by kernel_rfl
theorem lespec_l5Tick_l12 : LoopEq tt sig (fun n => mkK [(58, Kspec_l5Pow @spec_l5Pow n), (65, Kspec_l5PutInt @spec_l5PutInt n), (33, Kspec_l5Slot @spec_l5Slot n)]) (fun n => mkL (mkK [(58, Kspec_l5Pow @spec_l5Pow n), (65, Kspec_l5PutInt @spec_l5PutInt n), (33, Kspec_l5Slot @spec_l5Slot n)]) []) Dspec_l5Tick_l12 Sspec_l5Tick_l12 (loopIn 12 (bodyOf Try.f47)) (Pspec_l5Tick_l12 @spec_l5Tick_l12) where
  zero R q kk := by unfold Pspec_l5Tick_l12; cases (PkS.un Sspec_l5Tick_l12 q) <;> rfl
  succ n R q kk := by
    unfold Pspec_l5Tick_l12
    cases h : (PkS.un Sspec_l5Tick_l12 q) with
    | none => rfl
    | some d =>
      obtain ⟨y12_0, y12_1, y12_2, y12_3, y12_4, y12_5, y12_6, y12_7, y12_8, y12_9, u⟩ := (d : Int × Int × Int × Int × (List (List (Int × Int))) × Int × (List (List (Int × Int))) × Int × (List Int) × (List (Int × Int)) × Unit)
      have hp := PkS.un_pack h
      subst hp
      exact (espec_l5Tick_l12 @spec_l5Pow @spec_l5PutInt @spec_l5Slot @spec_l5Tick_l12 n y12_0 y12_1 y12_2 y12_3 y12_4 y12_5 y12_6 y12_7 y12_8 y12_9 kk).symm
theorem nlspec_l5Tick_l12 : ∀ n, NatLP (Pspec_l5Tick_l12 @spec_l5Tick_l12 n) := lespec_l5Tick_l12.nat (fun n => mkK_nat (cspec_l5Tick n)) fun n => mkL_nat (mkK_nat (cspec_l5Tick n)) (l := []) trivial
theorem inspec_l5Tick_l12 (n : Nat) (R : Type) : LoopsOk Try.prog (mkL (mkK [(58, Kspec_l5Pow @spec_l5Pow n), (65, Kspec_l5PutInt @spec_l5PutInt n), (33, Kspec_l5Slot @spec_l5Slot n)]) [] R) (loopIn 12 (bodyOf Try.f47)) := .eq (l := []) (by kernel_rfl) trivial
theorem lkspec_l5Tick_l12 (n : Nat) (R : Type) (L0 : LK R) (h0 : ∀ id, firstRegion (loopIn 12 (bodyOf Try.f47)) = some id → L0 id = Dspec_l5Tick_l12.oracle (mkK [(58, Kspec_l5Pow @spec_l5Pow n), (65, Kspec_l5PutInt @spec_l5PutInt n), (33, Kspec_l5Slot @spec_l5Slot n)] R) (Pspec_l5Tick_l12 @spec_l5Tick_l12 n R)) : LoopOk Try.prog L0 (loopIn 12 (bodyOf Try.f47)) :=
  lespec_l5Tick_l12.ok mixed ttok (fun n => mkK_nat (cspec_l5Tick n)) (fun n => mkK_ok (cspec_l5Tick n)) (fun n => inspec_l5Tick_l12 n R) (mkK_nat (cspec_l5Tick n)) h0
@[reducible] def Sspec_l5Tick_l5 : PkS := ⟨[.one (.box (100000, 1) 0), .one (.box (100000, 3) 0), .one (.whole (100000, 4)), .one (.int .i64), .one (.int .i64), .one (.dead)], [((100000, 0), .rr (.pr (.int .i64) (.int .i64))), ((100000, 1), .box [.int .i64, .mp (100000, 0)]), ((100000, 2), .rr (.pr (.int .i64) (.int .i64))), ((100000, 3), .box [.int .i64, .mp (100000, 2)]), ((100000, 4), .arr (.int .i64))]⟩
@[reducible] def Tspec_l5Tick_l5_0 : PkS := ⟨[.one (.box (100000, 1) 0), .one (.box (100000, 3) 0), .one (.whole (100000, 4)), .one (.int .i64), .one (.dead)], [((100000, 0), .rr (.pr (.int .i64) (.int .i64))), ((100000, 1), .box [.int .i64, .mp (100000, 0)]), ((100000, 2), .rr (.pr (.int .i64) (.int .i64))), ((100000, 3), .box [.int .i64, .mp (100000, 2)]), ((100000, 4), .arr (.int .i64))]⟩
def Dspec_l5Tick_l5 : LoopD := ⟨110, [1, 2, 5, 6, 7], [.box [.any, (.rr (.pr (.int .i64) (.int .i64)))], .box [.any, (.rr (.pr (.int .i64) (.int .i64)))], .one (.own (.int .i64)), .one .any, .one .any, .skip], fun x => match x with
  | .exit 0 => some ([1, 2, 5, 6], [.box [.any, (.rr (.pr (.int .i64) (.int .i64)))], .box [.any, (.rr (.pr (.int .i64) (.int .i64)))], .one (.own (.int .i64)), .one .any, .skip])
  | _ => none⟩
def Pspec_l5Tick_l5 (g : ∀ {R : Type}, Nat → Int → Int → (List (List (Int × Int))) → Int → (List (List (Int × Int))) → Int → (List Int) → (Int → (List (List (Int × Int))) → Int → (List (List (Int × Int))) → Int → (List Int) → Option R) → Option R) (n : Nat) : LPs := fun R q kk => match (PkS.un Sspec_l5Tick_l5 q : Option (Int × Int × (List (List (Int × Int))) × Int × (List (List (Int × Int))) × Int × (List Int) × Unit)) with
  | some (y5_0, y5_1, y5_2, y5_3, y5_4, y5_5, y5_6, _) => g n y5_0 y5_1 y5_2 y5_3 y5_4 y5_5 y5_6 (fun r0 r1 r2 r3 r4 r5 => kk (.exit 0) (PkS.pack Tspec_l5Tick_l5_0 (r0, r1, r2, r3, r4, r5, ())))
  | none => none
theorem espec_l5Tick_l5 (spec_l5Pow : ∀ {R : Type}, Nat → Int → (Int → Option R) → Option R) (spec_l5PutInt : ∀ {R : Type}, Nat → (List Int) → Int → ((List Int) → Option R) → Option R) (spec_l5Slot : ∀ {R : Type}, Nat → Int → Int → (Int → Option R) → Option R) (spec_l5Tick_l12 : ∀ {R : Type}, Nat → Int → Int → Int → Int → (List (List (Int × Int))) → Int → (List (List (Int × Int))) → Int → (List Int) → (List (Int × Int)) → (Int → Int → (List (List (Int × Int))) → Int → (List (List (Int × Int))) → Int → (List Int) → Option R) → Option R) (spec_l5Tick_l5 : ∀ {R : Type}, Nat → Int → Int → (List (List (Int × Int))) → Int → (List (List (Int × Int))) → Int → (List Int) → (Int → (List (List (Int × Int))) → Int → (List (List (Int × Int))) → Int → (List Int) → Option R) → Option R) {R : Type} (n : Nat) (y5_0 : Int) (y5_1 : Int) (y5_2 : List (List (Int × Int))) (y5_3 : Int) (y5_4 : List (List (Int × Int))) (y5_5 : Int) (y5_6 : List Int) (kk : Ex → Pk → Option R) : Dspec_l5Tick_l5.step tt sig (mkK [(58, Kspec_l5Pow @spec_l5Pow n), (65, Kspec_l5PutInt @spec_l5PutInt n), (33, Kspec_l5Slot @spec_l5Slot n)] R) (mkL (mkK [(58, Kspec_l5Pow @spec_l5Pow n), (65, Kspec_l5PutInt @spec_l5PutInt n), (33, Kspec_l5Slot @spec_l5Slot n)]) [(12, Dspec_l5Tick_l12, Pspec_l5Tick_l12 @spec_l5Tick_l12 n)] R) (loopIn 5 (bodyOf Try.f47)) (fun q' => Pspec_l5Tick_l5 @spec_l5Tick_l5 n R q' kk) (PkS.pack Sspec_l5Tick_l5 (y5_0, y5_1, y5_2, y5_3, y5_4, y5_5, y5_6, ())) kk = (fun (kexit0 : Int → (List (List (Int × Int))) → Int → (List (List (Int × Int))) → Int → (List Int) → Option R) => (bif (decide (y5_1 > 0)) then (spec_l5Pow n y5_1 fun r1 => (bif decide (r1 ≠ 0) then (bif ((Int.tmod y5_3 r1) != 0) then spec_l5Tick_l5 n y5_0 (IntKind.wrap .i64 (y5_1 - 1)) y5_2 y5_3 y5_4 y5_5 y5_6 kexit0 else (spec_l5Pow n y5_1 fun r2 => (bif decide (r2 ≠ 0) then (bif decide (0 ≤ (IntKind.wrap .i64 ((IntKind.wrap .i64 (y5_1 * 8)) + (Int.tmod (IntKind.wrap .i64 (Int.tdiv y5_3 r2)) 8)))) then (bif decide ((IntKind.wrap .i64 ((IntKind.wrap .i64 (y5_1 * 8)) + (Int.tmod (IntKind.wrap .i64 (Int.tdiv y5_3 r2)) 8))) < (y5_2.length : Int)) then (bif decide (0 ≤ (IntKind.wrap .i64 ((IntKind.wrap .i64 (y5_1 * 8)) + (Int.tmod (IntKind.wrap .i64 (Int.tdiv y5_3 r2)) 8)))) then (bif decide ((IntKind.wrap .i64 ((IntKind.wrap .i64 (y5_1 * 8)) + (Int.tmod (IntKind.wrap .i64 (Int.tdiv y5_3 r2)) 8))) < ((y5_2.set (Int.toNat (IntKind.wrap .i64 ((IntKind.wrap .i64 (y5_1 * 8)) + (Int.tmod (IntKind.wrap .i64 (Int.tdiv y5_3 r2)) 8)))) []).length : Int)) then (bif Nat.beq (Int.toNat (IntKind.wrap .i64 ((IntKind.wrap .i64 (y5_1 * 8)) + (Int.tmod (IntKind.wrap .i64 (Int.tdiv y5_3 r2)) 8)))) (Int.toNat (IntKind.wrap .i64 ((IntKind.wrap .i64 (y5_1 * 8)) + (Int.tmod (IntKind.wrap .i64 (Int.tdiv y5_3 r2)) 8)))) then (spec_l5Tick_l12 n y5_0 y5_1 ((y5_2.getD (Int.toNat (IntKind.wrap .i64 ((IntKind.wrap .i64 (y5_1 * 8)) + (Int.tmod (IntKind.wrap .i64 (Int.tdiv y5_3 r2)) 8)))) []).length : Int) 0 ((y5_2.set (Int.toNat (IntKind.wrap .i64 ((IntKind.wrap .i64 (y5_1 * 8)) + (Int.tmod (IntKind.wrap .i64 (Int.tdiv y5_3 r2)) 8)))) []).set (Int.toNat (IntKind.wrap .i64 ((IntKind.wrap .i64 (y5_1 * 8)) + (Int.tmod (IntKind.wrap .i64 (Int.tdiv y5_3 r2)) 8)))) []) y5_3 y5_4 y5_5 y5_6 (y5_2.getD (Int.toNat (IntKind.wrap .i64 ((IntKind.wrap .i64 (y5_1 * 8)) + (Int.tmod (IntKind.wrap .i64 (Int.tdiv y5_3 r2)) 8)))) []) (fun r5 r6 r7 r8 r9 r10 r11 => spec_l5Tick_l5 n r5 (IntKind.wrap .i64 (r6 - 1)) r7 r8 r9 r10 r11 kexit0)) else none) else none) else none) else none) else none) else none))) else none)) else kexit0 y5_0 y5_2 y5_3 y5_4 y5_5 y5_6)) (fun r0 r1 r2 r3 r4 r5 => kk (.exit 0) (PkS.pack Tspec_l5Tick_l5_0 (r0, r1, r2, r3, r4, r5, ()))) := by kernel_rfl
theorem lespec_l5Tick_l5 : LoopEq tt sig (fun n => mkK [(58, Kspec_l5Pow @spec_l5Pow n), (65, Kspec_l5PutInt @spec_l5PutInt n), (33, Kspec_l5Slot @spec_l5Slot n)]) (fun n => mkL (mkK [(58, Kspec_l5Pow @spec_l5Pow n), (65, Kspec_l5PutInt @spec_l5PutInt n), (33, Kspec_l5Slot @spec_l5Slot n)]) [(12, Dspec_l5Tick_l12, Pspec_l5Tick_l12 @spec_l5Tick_l12 n)]) Dspec_l5Tick_l5 Sspec_l5Tick_l5 (loopIn 5 (bodyOf Try.f47)) (Pspec_l5Tick_l5 @spec_l5Tick_l5) where
  zero R q kk := by unfold Pspec_l5Tick_l5; cases (PkS.un Sspec_l5Tick_l5 q) <;> rfl
  succ n R q kk := by
    unfold Pspec_l5Tick_l5
    cases h : (PkS.un Sspec_l5Tick_l5 q) with
    | none => rfl
    | some d =>
      obtain ⟨y5_0, y5_1, y5_2, y5_3, y5_4, y5_5, y5_6, u⟩ := (d : Int × Int × (List (List (Int × Int))) × Int × (List (List (Int × Int))) × Int × (List Int) × Unit)
      have hp := PkS.un_pack h
      subst hp
      exact (espec_l5Tick_l5 @spec_l5Pow @spec_l5PutInt @spec_l5Slot @spec_l5Tick_l12 @spec_l5Tick_l5 n y5_0 y5_1 y5_2 y5_3 y5_4 y5_5 y5_6 kk).symm
theorem nlspec_l5Tick_l5 : ∀ n, NatLP (Pspec_l5Tick_l5 @spec_l5Tick_l5 n) := lespec_l5Tick_l5.nat (fun n => mkK_nat (cspec_l5Tick n)) fun n => mkL_nat (mkK_nat (cspec_l5Tick n)) (l := [(12, Dspec_l5Tick_l12, Pspec_l5Tick_l12 @spec_l5Tick_l12 n)]) ⟨nlspec_l5Tick_l12 n, trivial⟩
theorem inspec_l5Tick_l5 (n : Nat) (R : Type) : LoopsOk Try.prog (mkL (mkK [(58, Kspec_l5Pow @spec_l5Pow n), (65, Kspec_l5PutInt @spec_l5PutInt n), (33, Kspec_l5Slot @spec_l5Slot n)]) [(12, Dspec_l5Tick_l12, Pspec_l5Tick_l12 @spec_l5Tick_l12 n)] R) (loopIn 5 (bodyOf Try.f47)) := .eq (l := [.lo (loopIn 12 (bodyOf Try.f47))]) (by kernel_rfl) ⟨(lkspec_l5Tick_l12 n R _ (at_id (i := 12) (by kernel_rfl) rfl)), trivial⟩
theorem lkspec_l5Tick_l5 (n : Nat) (R : Type) (L0 : LK R) (h0 : ∀ id, firstRegion (loopIn 5 (bodyOf Try.f47)) = some id → L0 id = Dspec_l5Tick_l5.oracle (mkK [(58, Kspec_l5Pow @spec_l5Pow n), (65, Kspec_l5PutInt @spec_l5PutInt n), (33, Kspec_l5Slot @spec_l5Slot n)] R) (Pspec_l5Tick_l5 @spec_l5Tick_l5 n R)) : LoopOk Try.prog L0 (loopIn 5 (bodyOf Try.f47)) :=
  lespec_l5Tick_l5.ok mixed ttok (fun n => mkK_nat (cspec_l5Tick n)) (fun n => mkK_ok (cspec_l5Tick n)) (fun n => inspec_l5Tick_l5 n R) (mkK_nat (cspec_l5Tick n)) h0
@[reducible] def Sspec_l5Tick_l22 : PkS := ⟨[.one (.box (100000, 2) 0), .one (.box (100000, 4) 0), .one (.whole (100000, 5)), .one (.int .i64), .one (.int .i64), .one (.whole (100000, 0)), .one (.int .i64), .one (.int .i64), .one (.dead)], [((100000, 0), .arr (.pr (.int .i64) (.int .i64))), ((100000, 1), .rrh (.pr (.int .i64) (.int .i64)) (100000, 0)), ((100000, 2), .box [.int .i64, .mp (100000, 1)]), ((100000, 3), .rr (.pr (.int .i64) (.int .i64))), ((100000, 4), .box [.int .i64, .mp (100000, 3)]), ((100000, 5), .arr (.int .i64))]⟩
@[reducible] def Tspec_l5Tick_l22_0 : PkS := ⟨[.one (.box (100000, 1) 0), .one (.box (100000, 3) 0), .one (.whole (100000, 4)), .one (.int .i64), .one (.int .i64), .one (.dead)], [((100000, 0), .rr (.pr (.int .i64) (.int .i64))), ((100000, 1), .box [.int .i64, .mp (100000, 0)]), ((100000, 2), .rr (.pr (.int .i64) (.int .i64))), ((100000, 3), .box [.int .i64, .mp (100000, 2)]), ((100000, 4), .arr (.int .i64))]⟩
def Dspec_l5Tick_l22 : LoopD := ⟨110, [1, 2, 5, 6, 13, 90, 91, 92], [.box [.any, (.rrh (.pr (.int .i64) (.int .i64)))], .box [.any, (.rr (.pr (.int .i64) (.int .i64)))], .one (.own (.int .i64)), .one .any, .one .any, .one (.own (.pr (.int .i64) (.int .i64))), .one .any, .one .any, .skip], fun x => match x with
  | .exit 4 => some ([1, 2, 5, 6, 13], [.box [.any, (.rr (.pr (.int .i64) (.int .i64)))], .box [.any, (.rr (.pr (.int .i64) (.int .i64)))], .one (.own (.int .i64)), .one .any, .one .any, .skip])
  | _ => none⟩
def Pspec_l5Tick_l22 (g : ∀ {R : Type}, Nat → Int → Int → Int → Int → (List (Int × Int)) → (List (List (Int × Int))) → Nat → Int → (List (List (Int × Int))) → Int → (List Int) → (Int → Int → (List (List (Int × Int))) → Int → (List (List (Int × Int))) → Int → (List Int) → Option R) → Option R) (n : Nat) : LPs := fun R q kk => match (PkS.un Sspec_l5Tick_l22 q : Option (Int × Int × Int × Int × (List (Int × Int)) × (List (List (Int × Int))) × Nat × Int × (List (List (Int × Int))) × Int × (List Int) × Unit)) with
  | some (y22_0, y22_1, y22_2, y22_3, y22_4, y22_5, y22_6, y22_7, y22_8, y22_9, y22_10, _) => g n y22_0 y22_1 y22_2 y22_3 y22_4 y22_5 y22_6 y22_7 y22_8 y22_9 y22_10 (fun r0 r1 r2 r3 r4 r5 r6 => kk (.exit 4) (PkS.pack Tspec_l5Tick_l22_0 (r0, r1, r2, r3, r4, r5, r6, ())))
  | none => none
theorem espec_l5Tick_l22 (spec_l5Pow : ∀ {R : Type}, Nat → Int → (Int → Option R) → Option R) (spec_l5PutInt : ∀ {R : Type}, Nat → (List Int) → Int → ((List Int) → Option R) → Option R) (spec_l5Slot : ∀ {R : Type}, Nat → Int → Int → (Int → Option R) → Option R) (spec_l5Tick_l12 : ∀ {R : Type}, Nat → Int → Int → Int → Int → (List (List (Int × Int))) → Int → (List (List (Int × Int))) → Int → (List Int) → (List (Int × Int)) → (Int → Int → (List (List (Int × Int))) → Int → (List (List (Int × Int))) → Int → (List Int) → Option R) → Option R) (spec_l5Tick_l5 : ∀ {R : Type}, Nat → Int → Int → (List (List (Int × Int))) → Int → (List (List (Int × Int))) → Int → (List Int) → (Int → (List (List (Int × Int))) → Int → (List (List (Int × Int))) → Int → (List Int) → Option R) → Option R) (spec_l5Tick_l22 : ∀ {R : Type}, Nat → Int → Int → Int → Int → (List (Int × Int)) → (List (List (Int × Int))) → Nat → Int → (List (List (Int × Int))) → Int → (List Int) → (Int → Int → (List (List (Int × Int))) → Int → (List (List (Int × Int))) → Int → (List Int) → Option R) → Option R) {R : Type} (n : Nat) (y22_0 : Int) (y22_1 : Int) (y22_2 : Int) (y22_3 : Int) (y22_4 : List (Int × Int)) (y22_5 : List (List (Int × Int))) (y22_6 : Nat) (y22_7 : Int) (y22_8 : List (List (Int × Int))) (y22_9 : Int) (y22_10 : List Int) (kk : Ex → Pk → Option R) : Dspec_l5Tick_l22.step tt sig (mkK [(58, Kspec_l5Pow @spec_l5Pow n), (65, Kspec_l5PutInt @spec_l5PutInt n), (33, Kspec_l5Slot @spec_l5Slot n)] R) (mkL (mkK [(58, Kspec_l5Pow @spec_l5Pow n), (65, Kspec_l5PutInt @spec_l5PutInt n), (33, Kspec_l5Slot @spec_l5Slot n)]) [(12, Dspec_l5Tick_l12, Pspec_l5Tick_l12 @spec_l5Tick_l12 n), (5, Dspec_l5Tick_l5, Pspec_l5Tick_l5 @spec_l5Tick_l5 n)] R) (loopIn 22 (bodyOf Try.f47)) (fun q' => Pspec_l5Tick_l22 @spec_l5Tick_l22 n R q' kk) (PkS.pack Sspec_l5Tick_l22 (y22_0, y22_1, y22_2, y22_3, y22_4, y22_5, y22_6, y22_7, y22_8, y22_9, y22_10, ())) kk = (fun (kexit4 : Int → Int → (List (List (Int × Int))) → Int → (List (List (Int × Int))) → Int → (List Int) → Option R) => (bif (decide (y22_3 < y22_2)) then (bif decide (0 ≤ y22_3) then (bif decide (y22_3 < (y22_4.length : Int)) then (spec_l5PutInt n y22_10 ((y22_4.getD (Int.toNat y22_3) (0, 0)).2) fun r18 => spec_l5Tick_l22 n (IntKind.wrap .i64 (y22_0 + 1)) y22_1 y22_2 (IntKind.wrap .i64 (y22_3 + 1)) y22_4 y22_5 y22_6 y22_7 y22_8 y22_9 r18 kexit4) else none) else none) else kexit4 y22_0 y22_1 (y22_5.set y22_6 y22_4) y22_7 y22_8 y22_9 y22_10)) (fun r0 r1 r2 r3 r4 r5 r6 => kk (.exit 4) (PkS.pack Tspec_l5Tick_l22_0 (r0, r1, r2, r3, r4, r5, r6, ()))) := by kernel_rfl
theorem lespec_l5Tick_l22 : LoopEq tt sig (fun n => mkK [(58, Kspec_l5Pow @spec_l5Pow n), (65, Kspec_l5PutInt @spec_l5PutInt n), (33, Kspec_l5Slot @spec_l5Slot n)]) (fun n => mkL (mkK [(58, Kspec_l5Pow @spec_l5Pow n), (65, Kspec_l5PutInt @spec_l5PutInt n), (33, Kspec_l5Slot @spec_l5Slot n)]) [(12, Dspec_l5Tick_l12, Pspec_l5Tick_l12 @spec_l5Tick_l12 n), (5, Dspec_l5Tick_l5, Pspec_l5Tick_l5 @spec_l5Tick_l5 n)]) Dspec_l5Tick_l22 Sspec_l5Tick_l22 (loopIn 22 (bodyOf Try.f47)) (Pspec_l5Tick_l22 @spec_l5Tick_l22) where
  zero R q kk := by unfold Pspec_l5Tick_l22; cases (PkS.un Sspec_l5Tick_l22 q) <;> rfl
  succ n R q kk := by
    unfold Pspec_l5Tick_l22
    cases h : (PkS.un Sspec_l5Tick_l22 q) with
    | none => rfl
    | some d =>
      obtain ⟨y22_0, y22_1, y22_2, y22_3, y22_4, y22_5, y22_6, y22_7, y22_8, y22_9, y22_10, u⟩ := (d : Int × Int × Int × Int × (List (Int × Int)) × (List (List (Int × Int))) × Nat × Int × (List (List (Int × Int))) × Int × (List Int) × Unit)
      have hp := PkS.un_pack h
      subst hp
      exact (espec_l5Tick_l22 @spec_l5Pow @spec_l5PutInt @spec_l5Slot @spec_l5Tick_l12 @spec_l5Tick_l5 @spec_l5Tick_l22 n y22_0 y22_1 y22_2 y22_3 y22_4 y22_5 y22_6 y22_7 y22_8 y22_9 y22_10 kk).symm
theorem nlspec_l5Tick_l22 : ∀ n, NatLP (Pspec_l5Tick_l22 @spec_l5Tick_l22 n) := lespec_l5Tick_l22.nat (fun n => mkK_nat (cspec_l5Tick n)) fun n => mkL_nat (mkK_nat (cspec_l5Tick n)) (l := [(12, Dspec_l5Tick_l12, Pspec_l5Tick_l12 @spec_l5Tick_l12 n), (5, Dspec_l5Tick_l5, Pspec_l5Tick_l5 @spec_l5Tick_l5 n)]) ⟨nlspec_l5Tick_l12 n, ⟨nlspec_l5Tick_l5 n, trivial⟩⟩
theorem inspec_l5Tick_l22 (n : Nat) (R : Type) : LoopsOk Try.prog (mkL (mkK [(58, Kspec_l5Pow @spec_l5Pow n), (65, Kspec_l5PutInt @spec_l5PutInt n), (33, Kspec_l5Slot @spec_l5Slot n)]) [(12, Dspec_l5Tick_l12, Pspec_l5Tick_l12 @spec_l5Tick_l12 n), (5, Dspec_l5Tick_l5, Pspec_l5Tick_l5 @spec_l5Tick_l5 n)] R) (loopIn 22 (bodyOf Try.f47)) := .eq (l := []) (by kernel_rfl) trivial
theorem lkspec_l5Tick_l22 (n : Nat) (R : Type) (L0 : LK R) (h0 : ∀ id, firstRegion (loopIn 22 (bodyOf Try.f47)) = some id → L0 id = Dspec_l5Tick_l22.oracle (mkK [(58, Kspec_l5Pow @spec_l5Pow n), (65, Kspec_l5PutInt @spec_l5PutInt n), (33, Kspec_l5Slot @spec_l5Slot n)] R) (Pspec_l5Tick_l22 @spec_l5Tick_l22 n R)) : LoopOk Try.prog L0 (loopIn 22 (bodyOf Try.f47)) :=
  lespec_l5Tick_l22.ok mixed ttok (fun n => mkK_nat (cspec_l5Tick n)) (fun n => mkK_ok (cspec_l5Tick n)) (fun n => inspec_l5Tick_l22 n R) (mkK_nat (cspec_l5Tick n)) h0
@[reducible] def Sspec_l5Tick : PkS := ⟨[.agg [.int .i64, .mp (200000, 0)]], [((200000, 0), .rr (.pr (.int .i64) (.int .i64)))]⟩
@[reducible] def Tspec_l5Tick : PkS := ⟨[.tup [(true, [.int .i64, .mp (300000, 0)]), (false, [.whole (300000, 1)]), (false, [.int .i64])], .one (.dead)], [((300000, 0), .rr (.pr (.int .i64) (.int .i64))), ((300000, 1), .arr (.int .i64))]⟩
def Hspec_l5Tick : List Sh := [.tup [(true, [.any, (.rr (.pr (.int .i64) (.int .i64)))]), (false, [(.own (.int .i64))]), (false, [.any])], .skip]
def Kspec_l5Tick (g : ∀ {R : Type}, Nat → Int → (List (List (Int × Int))) → (Int → Int → (List (List (Int × Int))) → (List Int) → Option R) → Option R) (n : Nat) : KPs := fun R p k => match (PkS.un Sspec_l5Tick p : Option (Int × (List (List (Int × Int))) × Unit)) with
  | some (x0, x1, _) => g n x0 x1 (fun r0 r1 r2 r3 => k (PkS.pack Tspec_l5Tick (r0, r1, r2, r3, ())))
  | none => none
theorem espec_l5Tick (spec_l5Pow : ∀ {R : Type}, Nat → Int → (Int → Option R) → Option R) (spec_l5PutInt : ∀ {R : Type}, Nat → (List Int) → Int → ((List Int) → Option R) → Option R) (spec_l5Slot : ∀ {R : Type}, Nat → Int → Int → (Int → Option R) → Option R) (spec_l5Tick_l12 : ∀ {R : Type}, Nat → Int → Int → Int → Int → (List (List (Int × Int))) → Int → (List (List (Int × Int))) → Int → (List Int) → (List (Int × Int)) → (Int → Int → (List (List (Int × Int))) → Int → (List (List (Int × Int))) → Int → (List Int) → Option R) → Option R) (spec_l5Tick_l5 : ∀ {R : Type}, Nat → Int → Int → (List (List (Int × Int))) → Int → (List (List (Int × Int))) → Int → (List Int) → (Int → (List (List (Int × Int))) → Int → (List (List (Int × Int))) → Int → (List Int) → Option R) → Option R) (spec_l5Tick_l22 : ∀ {R : Type}, Nat → Int → Int → Int → Int → (List (Int × Int)) → (List (List (Int × Int))) → Nat → Int → (List (List (Int × Int))) → Int → (List Int) → (Int → Int → (List (List (Int × Int))) → Int → (List (List (Int × Int))) → Int → (List Int) → Option R) → Option R) {R : Type} (n : Nat) (x0 : Int) (x1 : List (List (Int × Int))) (k : Pk → Option R) : evF tt sig (mkK [(58, Kspec_l5Pow @spec_l5Pow n), (65, Kspec_l5PutInt @spec_l5PutInt n), (33, Kspec_l5Slot @spec_l5Slot n)] R) (mkL (mkK [(58, Kspec_l5Pow @spec_l5Pow n), (65, Kspec_l5PutInt @spec_l5PutInt n), (33, Kspec_l5Slot @spec_l5Slot n)]) [(12, Dspec_l5Tick_l12, Pspec_l5Tick_l12 @spec_l5Tick_l12 n), (5, Dspec_l5Tick_l5, Pspec_l5Tick_l5 @spec_l5Tick_l5 n), (22, Dspec_l5Tick_l22, Pspec_l5Tick_l22 @spec_l5Tick_l22 n)] R) Try.f47 Hspec_l5Tick (PkS.pack Sspec_l5Tick (x0, x1, ())) k = (fun (k : Int → Int → (List (List (Int × Int))) → (List Int) → Option R) => (spec_l5Tick_l5 n 0 2 x1 (IntKind.wrap .i64 (x0 + 1)) ([] : List (List (Int × Int))) 0 ([] : List Int) (fun r12 r13 r14 r15 r16 r17 => (bif decide (0 ≤ (Int.tmod r14 8)) then (bif decide ((Int.tmod r14 8) < (r13.length : Int)) then (spec_l5Tick_l22 n r12 (Int.tmod r14 8) ((r13.getD (Int.toNat (Int.tmod r14 8)) []).length : Int) 0 (r13.getD (Int.toNat (Int.tmod r14 8)) []) (r13.set (Int.toNat (Int.tmod r14 8)) []) (Int.toNat (Int.tmod r14 8)) r14 r15 r16 r17 (fun r19 r20 r21 r22 r23 r24 r25 => (bif decide (0 ≤ r20) then (bif decide (r20 < (r21.length : Int)) then k r22 r19 (r21.set (Int.toNat r20) []) r25 else none) else none))) else none) else none)))) (fun r0 r1 r2 r3 => k (PkS.pack Tspec_l5Tick (r0, r1, r2, r3, ()))) := by kernel_rfl
theorem okspec_l5Tick (n : Nat) : FnOk Try.prog 47 (Kspec_l5Tick @spec_l5Tick n) := by
  refine fn_ok (sig := sig) mixed ttok (mkK_nat (cspec_l5Tick n)) (mkK_ok (cspec_l5Tick n)) (mkL_nat (mkK_nat (cspec_l5Tick n)) (l := [(12, Dspec_l5Tick_l12, Pspec_l5Tick_l12 @spec_l5Tick_l12 n), (5, Dspec_l5Tick_l5, Pspec_l5Tick_l5 @spec_l5Tick_l5 n), (22, Dspec_l5Tick_l22, Pspec_l5Tick_l22 @spec_l5Tick_l22 n)]) ⟨nlspec_l5Tick_l12 n, ⟨nlspec_l5Tick_l5 n, ⟨nlspec_l5Tick_l22 n, trivial⟩⟩⟩) (fn := Try.f47) (c := bodyOf Try.f47) (by kernel_rfl) (by kernel_rfl) (by kernel_rfl) (.eq (l := [.lo (loopIn 5 (bodyOf Try.f47)), .lo (loopIn 22 (bodyOf Try.f47))]) (by kernel_rfl) ⟨(lkspec_l5Tick_l5 n _ _ (at_id (i := 5) (by kernel_rfl) rfl)), ⟨(lkspec_l5Tick_l22 n _ _ (at_id (i := 22) (by kernel_rfl) rfl)), trivial⟩⟩) (shs := Hspec_l5Tick) (S := Sspec_l5Tick) (h1 := by kernel_rfl) fun R p k => ?_
  unfold Kspec_l5Tick
  cases h : (PkS.un Sspec_l5Tick p) with
  | none => rfl
  | some d =>
    obtain ⟨x0, x1, u⟩ := (d : Int × (List (List (Int × Int))) × Unit)
    have hp := PkS.un_pack h
    subst hp
    exact (espec_l5Tick @spec_l5Pow @spec_l5PutInt @spec_l5Slot @spec_l5Tick_l12 @spec_l5Tick_l5 @spec_l5Tick_l22 n x0 x1 k).symm

/-! ### loop.example/g00269/spec.AdvanceWheel -/
theorem cspec_AdvanceWheel (n : Nat) : AllOk Try.prog [(30, Kspec_GoodWheel @spec_GoodWheel n), (36, Kspec_l1In @spec_l1In n), (34, Kspec_l5Own @spec_l5Own n), (47, Kspec_l5Tick @spec_l5Tick n)] := ⟨okspec_GoodWheel n, ⟨okspec_l1In n, ⟨okspec_l5Own n, ⟨okspec_l5Tick n, trivial⟩⟩⟩⟩
@[reducible] def Sspec_AdvanceWheel_l6 : PkS := ⟨[.one (.int .i64), .one (.box (100000, 1) 0), .one (.box (100000, 3) 0), .one (.whole (100000, 4)), .one (.int .i64), .one (.dead), .one (.dead)], [((100000, 0), .rr (.pr (.int .i64) (.int .i64))), ((100000, 1), .box [.int .i64, .mp (100000, 0)]), ((100000, 2), .rr (.pr (.int .i64) (.int .i64))), ((100000, 3), .box [.int .i64, .mp (100000, 2)]), ((100000, 4), .arr (.int .i64))]⟩
@[reducible] def Tspec_AdvanceWheel_l6_0 : PkS := ⟨[.one (.box (100000, 1) 0), .one (.box (100000, 3) 0), .one (.whole (100000, 4)), .one (.int .i64), .one (.dead), .one (.dead)], [((100000, 0), .rr (.pr (.int .i64) (.int .i64))), ((100000, 1), .box [.int .i64, .mp (100000, 0)]), ((100000, 2), .rr (.pr (.int .i64) (.int .i64))), ((100000, 3), .box [.int .i64, .mp (100000, 2)]), ((100000, 4), .arr (.int .i64))]⟩
def Dspec_AdvanceWheel_l6 : LoopD := ⟨53, [1, 2, 4, 8, 9], [.one .any, .box [.any, (.rr (.pr (.int .i64) (.int .i64)))], .box [.any, (.rr (.pr (.int .i64) (.int .i64)))], .one (.own (.int .i64)), .one .any, .skip, .skip], fun x => match x with
  | .exit 0 => some ([2, 4, 8, 9], [.box [.any, (.rr (.pr (.int .i64) (.int .i64)))], .box [.any, (.rr (.pr (.int .i64) (.int .i64)))], .one (.own (.int .i64)), .one .any, .skip, .skip])
  | _ => none⟩
def Pspec_AdvanceWheel_l6 (g : ∀ {R : Type}, Nat → Int → Int → (List (List (Int × Int))) → Int → (List (List (Int × Int))) → Int → (List Int) → (Int → (List (List (Int × Int))) → Int → (List (List (Int × Int))) → Int → (List Int) → Option R) → Option R) (n : Nat) : LPs := fun R q kk => match (PkS.un Sspec_AdvanceWheel_l6 q : Option (Int × Int × (List (List (Int × Int))) × Int × (List (List (Int × Int))) × Int × (List Int) × Unit)) with
  | some (y6_0, y6_1, y6_2, y6_3, y6_4, y6_5, y6_6, _) => g n y6_0 y6_1 y6_2 y6_3 y6_4 y6_5 y6_6 (fun r0 r1 r2 r3 r4 r5 => kk (.exit 0) (PkS.pack Tspec_AdvanceWheel_l6_0 (r0, r1, r2, r3, r4, r5, ())))
  | none => none
theorem espec_AdvanceWheel_l6 (spec_GoodWheel : ∀ {R : Type}, Nat → Int → (List (List (Int × Int))) → (Bool → Option R) → Option R) (spec_l1In : ∀ {R : Type}, Nat → Int → Int → Int → (Bool → Option R) → Option R) (spec_l5Own : ∀ {R : Type}, Nat → Int → (List (List (Int × Int))) → (Int → (List (List (Int × Int))) → Option R) → Option R) (spec_l5Tick : ∀ {R : Type}, Nat → Int → (List (List (Int × Int))) → (Int → Int → (List (List (Int × Int))) → (List Int) → Option R) → Option R) (spec_AdvanceWheel_l6 : ∀ {R : Type}, Nat → Int → Int → (List (List (Int × Int))) → Int → (List (List (Int × Int))) → Int → (List Int) → (Int → (List (List (Int × Int))) → Int → (List (List (Int × Int))) → Int → (List Int) → Option R) → Option R) {R : Type} (n : Nat) (y6_0 : Int) (y6_1 : Int) (y6_2 : List (List (Int × Int))) (y6_3 : Int) (y6_4 : List (List (Int × Int))) (y6_5 : Int) (y6_6 : List Int) (kk : Ex → Pk → Option R) : Dspec_AdvanceWheel_l6.step tt sig (mkK [(30, Kspec_GoodWheel @spec_GoodWheel n), (36, Kspec_l1In @spec_l1In n), (34, Kspec_l5Own @spec_l5Own n), (47, Kspec_l5Tick @spec_l5Tick n)] R) (mkL (mkK [(30, Kspec_GoodWheel @spec_GoodWheel n), (36, Kspec_l1In @spec_l1In n), (34, Kspec_l5Own @spec_l5Own n), (47, Kspec_l5Tick @spec_l5Tick n)]) [] R) (loopIn 6 (bodyOf Try.f20)) (fun q' => Pspec_AdvanceWheel_l6 @spec_AdvanceWheel_l6 n R q' kk) (PkS.pack Sspec_AdvanceWheel_l6 (y6_0, y6_1, y6_2, y6_3, y6_4, y6_5, y6_6, ())) kk = (fun (kexit0 : Int → (List (List (Int × Int))) → Int → (List (List (Int × Int))) → Int → (List Int) → Option R) => (bif (decide (y6_3 < y6_0)) then (spec_l5Tick n y6_3 y6_2 fun r5 r6 r7 r8 => (bif decide (y6_6.length + r8.length ≤ LIM) then spec_AdvanceWheel_l6 n y6_0 (IntKind.wrap .i64 (y6_1 + r6)) r7 r5 y6_4 y6_5 (y6_6 ++ r8) kexit0 else none)) else kexit0 y6_1 y6_2 y6_3 y6_4 y6_5 y6_6)) (fun r0 r1 r2 r3 r4 r5 => kk (.exit 0) (PkS.pack Tspec_AdvanceWheel_l6_0 (r0, r1, r2, r3, r4, r5, ()))) := by kernel_rfl
theorem lespec_AdvanceWheel_l6 : LoopEq tt sig (fun n => mkK [(30, Kspec_GoodWheel @spec_GoodWheel n), (36, Kspec_l1In @spec_l1In n), (34, Kspec_l5Own @spec_l5Own n), (47, Kspec_l5Tick @spec_l5Tick n)]) (fun n => mkL (mkK [(30, Kspec_GoodWheel @spec_GoodWheel n), (36, Kspec_l1In @spec_l1In n), (34, Kspec_l5Own @spec_l5Own n), (47, Kspec_l5Tick @spec_l5Tick n)]) []) Dspec_AdvanceWheel_l6 Sspec_AdvanceWheel_l6 (loopIn 6 (bodyOf Try.f20)) (Pspec_AdvanceWheel_l6 @spec_AdvanceWheel_l6) where
  zero R q kk := by unfold Pspec_AdvanceWheel_l6; cases (PkS.un Sspec_AdvanceWheel_l6 q) <;> rfl
  succ n R q kk := by
    unfold Pspec_AdvanceWheel_l6
    cases h : (PkS.un Sspec_AdvanceWheel_l6 q) with
    | none => rfl
    | some d =>
      obtain ⟨y6_0, y6_1, y6_2, y6_3, y6_4, y6_5, y6_6, u⟩ := (d : Int × Int × (List (List (Int × Int))) × Int × (List (List (Int × Int))) × Int × (List Int) × Unit)
      have hp := PkS.un_pack h
      subst hp
      exact (espec_AdvanceWheel_l6 @spec_GoodWheel @spec_l1In @spec_l5Own @spec_l5Tick @spec_AdvanceWheel_l6 n y6_0 y6_1 y6_2 y6_3 y6_4 y6_5 y6_6 kk).symm
theorem nlspec_AdvanceWheel_l6 : ∀ n, NatLP (Pspec_AdvanceWheel_l6 @spec_AdvanceWheel_l6 n) := lespec_AdvanceWheel_l6.nat (fun n => mkK_nat (cspec_AdvanceWheel n)) fun n => mkL_nat (mkK_nat (cspec_AdvanceWheel n)) (l := []) trivial
theorem inspec_AdvanceWheel_l6 (n : Nat) (R : Type) : LoopsOk Try.prog (mkL (mkK [(30, Kspec_GoodWheel @spec_GoodWheel n), (36, Kspec_l1In @spec_l1In n), (34, Kspec_l5Own @spec_l5Own n), (47, Kspec_l5Tick @spec_l5Tick n)]) [] R) (loopIn 6 (bodyOf Try.f20)) := .eq (l := []) (by kernel_rfl) trivial
theorem lkspec_AdvanceWheel_l6 (n : Nat) (R : Type) (L0 : LK R) (h0 : ∀ id, firstRegion (loopIn 6 (bodyOf Try.f20)) = some id → L0 id = Dspec_AdvanceWheel_l6.oracle (mkK [(30, Kspec_GoodWheel @spec_GoodWheel n), (36, Kspec_l1In @spec_l1In n), (34, Kspec_l5Own @spec_l5Own n), (47, Kspec_l5Tick @spec_l5Tick n)] R) (Pspec_AdvanceWheel_l6 @spec_AdvanceWheel_l6 n R)) : LoopOk Try.prog L0 (loopIn 6 (bodyOf Try.f20)) :=
  lespec_AdvanceWheel_l6.ok mixed ttok (fun n => mkK_nat (cspec_AdvanceWheel n)) (fun n => mkK_ok (cspec_AdvanceWheel n)) (fun n => inspec_AdvanceWheel_l6 n R) (mkK_nat (cspec_AdvanceWheel n)) h0
@[reducible] def Sspec_AdvanceWheel : PkS := ⟨[.agg [.int .i64, .ro (.sl (.pr (.int .i64) (.int .i64)))], .one (.int .i64)], []⟩
@[reducible] def Tspec_AdvanceWheel : PkS := ⟨[.tup [(true, [.int .i64, .mp (300000, 0)]), (false, [.whole (300000, 1)]), (false, [.int .i64]), (false, [.bool])], .one (.dead), .one (.dead)], [((300000, 0), .rr (.pr (.int .i64) (.int .i64))), ((300000, 1), .arr (.int .i64))]⟩
def Hspec_AdvanceWheel : List Sh := [.tup [(true, [.any, (.rr (.pr (.int .i64) (.int .i64)))]), (false, [(.own (.int .i64))]), (false, [.any]), (false, [.any])], .skip, .skip]
def Kspec_AdvanceWheel (g : ∀ {R : Type}, Nat → Int → (List (List (Int × Int))) → Int → (Int → Int → Bool → (List (List (Int × Int))) → (List Int) → Option R) → Option R) (n : Nat) : KPs := fun R p k => match (PkS.un Sspec_AdvanceWheel p : Option (Int × (List (List (Int × Int))) × Int × Unit)) with
  | some (x0, x1, x2, _) => g n x0 x1 x2 (fun r0 r1 r2 r3 r4 => k (PkS.pack Tspec_AdvanceWheel (r0, r1, r2, r3, r4, ())))
  | none => none
theorem espec_AdvanceWheel (spec_GoodWheel : ∀ {R : Type}, Nat → Int → (List (List (Int × Int))) → (Bool → Option R) → Option R) (spec_l1In : ∀ {R : Type}, Nat → Int → Int → Int → (Bool → Option R) → Option R) (spec_l5Own : ∀ {R : Type}, Nat → Int → (List (List (Int × Int))) → (Int → (List (List (Int × Int))) → Option R) → Option R) (spec_l5Tick : ∀ {R : Type}, Nat → Int → (List (List (Int × Int))) → (Int → Int → (List (List (Int × Int))) → (List Int) → Option R) → Option R) (spec_AdvanceWheel_l6 : ∀ {R : Type}, Nat → Int → Int → (List (List (Int × Int))) → Int → (List (List (Int × Int))) → Int → (List Int) → (Int → (List (List (Int × Int))) → Int → (List (List (Int × Int))) → Int → (List Int) → Option R) → Option R) {R : Type} (n : Nat) (x0 : Int) (x1 : List (List (Int × Int))) (x2 : Int) (k : Pk → Option R) : evF tt sig (mkK [(30, Kspec_GoodWheel @spec_GoodWheel n), (36, Kspec_l1In @spec_l1In n), (34, Kspec_l5Own @spec_l5Own n), (47, Kspec_l5Tick @spec_l5Tick n)] R) (mkL (mkK [(30, Kspec_GoodWheel @spec_GoodWheel n), (36, Kspec_l1In @spec_l1In n), (34, Kspec_l5Own @spec_l5Own n), (47, Kspec_l5Tick @spec_l5Tick n)]) [(6, Dspec_AdvanceWheel_l6, Pspec_AdvanceWheel_l6 @spec_AdvanceWheel_l6 n)] R) Try.f20 Hspec_AdvanceWheel (PkS.pack Sspec_AdvanceWheel (x0, x1, x2, ())) k = (fun (k : Int → Int → Bool → (List (List (Int × Int))) → (List Int) → Option R) => (spec_GoodWheel n x0 x1 fun r1 => (bif (!r1) then k 0 0 false ([] : List (List (Int × Int))) ([] : List Int) else (spec_l1In n x2 x0 (IntKind.wrap .i64 (x0 + 1000)) fun r2 => (bif (!r2) then k 0 0 false ([] : List (List (Int × Int))) ([] : List Int) else (bif (decide (x2 > 100000)) then k 0 0 false ([] : List (List (Int × Int))) ([] : List Int) else (spec_l5Own n x0 x1 fun r3 r4 => (spec_AdvanceWheel_l6 n x2 0 r4 r3 ([] : List (List (Int × Int))) 0 ([] : List Int) (fun r9 r10 r11 r12 r13 r14 => k r11 r9 true r10 r14))))))))) (fun r0 r1 r2 r3 r4 => k (PkS.pack Tspec_AdvanceWheel (r0, r1, r2, r3, r4, ()))) := by kernel_rfl
theorem okspec_AdvanceWheel (n : Nat) : FnOk Try.prog 20 (Kspec_AdvanceWheel @spec_AdvanceWheel n) := by
  refine fn_ok (sig := sig) mixed ttok (mkK_nat (cspec_AdvanceWheel n)) (mkK_ok (cspec_AdvanceWheel n)) (mkL_nat (mkK_nat (cspec_AdvanceWheel n)) (l := [(6, Dspec_AdvanceWheel_l6, Pspec_AdvanceWheel_l6 @spec_AdvanceWheel_l6 n)]) ⟨nlspec_AdvanceWheel_l6 n, trivial⟩) (fn := Try.f20) (c := bodyOf Try.f20) (by kernel_rfl) (by kernel_rfl) (by kernel_rfl) (.eq (l := [.lo (loopIn 6 (bodyOf Try.f20))]) (by kernel_rfl) ⟨(lkspec_AdvanceWheel_l6 n _ _ (at_id (i := 6) (by kernel_rfl) rfl)), trivial⟩) (shs := Hspec_AdvanceWheel) (S := Sspec_AdvanceWheel) (h1 := by kernel_rfl) fun R p k => ?_
  unfold Kspec_AdvanceWheel
  cases h : (PkS.un Sspec_AdvanceWheel p) with
  | none => rfl
  | some d =>
    obtain ⟨x0, x1, x2, u⟩ := (d : Int × (List (List (Int × Int))) × Int × Unit)
    have hp := PkS.un_pack h
    subst hp
    exact (espec_AdvanceWheel @spec_GoodWheel @spec_l1In @spec_l5Own @spec_l5Tick @spec_AdvanceWheel_l6 n x0 x1 x2 k).symm

/-! ### loop.example/g00269/spec.DropTimer -/
theorem cspec_DropTimer (n : Nat) : AllOk Try.prog [(30, Kspec_GoodWheel @spec_GoodWheel n), (34, Kspec_l5Own @spec_l5Own n)] := ⟨okspec_GoodWheel n, ⟨okspec_l5Own n, trivial⟩⟩
@[reducible] def Sspec_DropTimer_l8 : PkS := ⟨[.one (.int .i64), .one (.box (100000, 2) 0), .one (.box (100000, 4) 0), .one (.int .i64), .one (.whole (100000, 0)), .one (.mp (100000, 1)), .one (.int .i64), .one (.int .i64), .one (.whole (100000, 0)), .one (.int .i64), .one (.int .i64), .one (.dead), .one (.dead)], [((100000, 0), .arr (.pr (.int .i64) (.int .i64))), ((100000, 1), .rrh (.pr (.int .i64) (.int .i64)) (100000, 0)), ((100000, 2), .box [.int .i64, .mp (100000, 1)]), ((100000, 3), .rr (.pr (.int .i64) (.int .i64))), ((100000, 4), .box [.int .i64, .mp (100000, 3)])]⟩
@[reducible] def Tspec_DropTimer_l8_0 : PkS := ⟨[.one (.box (100000, 1) 0), .one (.bool), .one (.dead), .one (.dead)], [((100000, 0), .rr (.pr (.int .i64) (.int .i64))), ((100000, 1), .box [.int .i64, .mp (100000, 0)])]⟩
@[reducible] def Tspec_DropTimer_l8_1 : PkS := ⟨[.one (.int .i64), .one (.box (100000, 1) 0), .one (.box (100000, 3) 0), .one (.mp (100000, 0)), .one (.int .i64), .one (.int .i64), .one (.dead), .one (.dead)], [((100000, 0), .rr (.pr (.int .i64) (.int .i64))), ((100000, 1), .box [.int .i64, .mp (100000, 0)]), ((100000, 2), .rr (.pr (.int .i64) (.int .i64))), ((100000, 3), .box [.int .i64, .mp (100000, 2)])]⟩
def Dspec_DropTimer_l8 : LoopD := ⟨53, [1, 2, 4, 6, 7, 17, 18, 19, 24, 25, 26], [.one .any, .box [.any, (.rrh (.pr (.int .i64) (.int .i64)))], .box [.any, (.rr (.pr (.int .i64) (.int .i64)))], .one .any, .one (.own (.pr (.int .i64) (.int .i64))), .one (.rrh (.pr (.int .i64) (.int .i64))), .one .any, .one .any, .one (.own (.pr (.int .i64) (.int .i64))), .one .any, .one .any, .skip, .skip], fun x => match x with
  | .ret => some ([4, 5], [.box [.any, (.rr (.pr (.int .i64) (.int .i64)))], .one .any, .skip, .skip])
  | .exit 2 => some ([1, 2, 4, 17, 18, 19], [.one .any, .box [.any, (.rr (.pr (.int .i64) (.int .i64)))], .box [.any, (.rr (.pr (.int .i64) (.int .i64)))], .one (.rr (.pr (.int .i64) (.int .i64))), .one .any, .one .any, .skip, .skip])
  | _ => none⟩
def Pspec_DropTimer_l8 (g : ∀ {R : Type}, Nat → Int → Int → Int → Int → Int → Int → (List (Int × Int)) → (List (List (Int × Int))) → Nat → Int → (List (List (Int × Int))) → Int → (Bool → (List (List (Int × Int))) → Int → Option R) → (Int → Int → Int → (List (List (Int × Int))) → Int → (List (List (Int × Int))) → Int → Option R) → Option R) (n : Nat) : LPs := fun R q kk => match (PkS.un Sspec_DropTimer_l8 q : Option (Int × Int × Int × Int × Int × Int × (List (Int × Int)) × (List (List (Int × Int))) × Nat × Int × (List (List (Int × Int))) × Int × Unit)) with
  | some (y8_0, y8_1, y8_2, y8_3, y8_4, y8_5, y8_6, y8_7, y8_8, y8_9, y8_10, y8_11, _) => g n y8_0 y8_1 y8_2 y8_3 y8_4 y8_5 y8_6 y8_7 y8_8 y8_9 y8_10 y8_11 (fun r0 r1 r2 => kk .ret (PkS.pack Tspec_DropTimer_l8_0 (r0, r1, r2, ()))) (fun r0 r1 r2 r3 r4 r5 r6 => kk (.exit 2) (PkS.pack Tspec_DropTimer_l8_1 (r0, r1, r2, r3, r4, r5, r6, ())))
  | none => none
theorem espec_DropTimer_l8 (spec_GoodWheel : ∀ {R : Type}, Nat → Int → (List (List (Int × Int))) → (Bool → Option R) → Option R) (spec_l5Own : ∀ {R : Type}, Nat → Int → (List (List (Int × Int))) → (Int → (List (List (Int × Int))) → Option R) → Option R) (spec_DropTimer_l8 : ∀ {R : Type}, Nat → Int → Int → Int → Int → Int → Int → (List (Int × Int)) → (List (List (Int × Int))) → Nat → Int → (List (List (Int × Int))) → Int → (Bool → (List (List (Int × Int))) → Int → Option R) → (Int → Int → Int → (List (List (Int × Int))) → Int → (List (List (Int × Int))) → Int → Option R) → Option R) {R : Type} (n : Nat) (y8_0 : Int) (y8_1 : Int) (y8_2 : Int) (y8_3 : Int) (y8_4 : Int) (y8_5 : Int) (y8_6 : List (Int × Int)) (y8_7 : List (List (Int × Int))) (y8_8 : Nat) (y8_9 : Int) (y8_10 : List (List (Int × Int))) (y8_11 : Int) (kk : Ex → Pk → Option R) : Dspec_DropTimer_l8.step tt sig (mkK [(30, Kspec_GoodWheel @spec_GoodWheel n), (34, Kspec_l5Own @spec_l5Own n)] R) (mkL (mkK [(30, Kspec_GoodWheel @spec_GoodWheel n), (34, Kspec_l5Own @spec_l5Own n)]) [] R) (loopIn 8 (bodyOf Try.f51)) (fun q' => Pspec_DropTimer_l8 @spec_DropTimer_l8 n R q' kk) (PkS.pack Sspec_DropTimer_l8 (y8_0, y8_1, y8_2, y8_3, y8_4, y8_5, y8_6, y8_7, y8_8, y8_9, y8_10, y8_11, ())) kk = (fun (kret : Bool → (List (List (Int × Int))) → Int → Option R) (kexit2 : Int → Int → Int → (List (List (Int × Int))) → Int → (List (List (Int × Int))) → Int → Option R) => (bif (decide (y8_5 < y8_4)) then (bif decide (0 ≤ y8_5) then (bif decide (y8_5 < (y8_6.length : Int)) then (bif ((y8_6.getD (Int.toNat y8_5) (0, 0)).2 == y8_0) then (bif decide (0 ≤ y8_5) then (bif decide (y8_5 ≤ (y8_6.length : Int)) then (bif decide (([] : List (Int × Int)).length + ((y8_6.drop 0).take ((Int.toNat y8_5) - 0)).length ≤ LIM) then (bif decide (0 ≤ (IntKind.wrap .i64 (y8_5 + 1))) then (bif decide ((IntKind.wrap .i64 (y8_5 + 1)) ≤ (y8_6.length : Int)) then (bif decide ((y8_6.length : Int) ≤ (y8_6.length : Int)) then (bif decide ((([] : List (Int × Int)) ++ ((y8_6.drop 0).take ((Int.toNat y8_5) - 0))).length + ((y8_6.drop (Int.toNat (IntKind.wrap .i64 (y8_5 + 1)))).take ((Int.toNat (y8_6.length : Int)) - (Int.toNat (IntKind.wrap .i64 (y8_5 + 1))))).length ≤ LIM) then (bif decide (0 ≤ y8_1) then (bif decide (y8_1 < (y8_7.length : Int)) then (bif Nat.beq y8_8 (Int.toNat y8_1) then kret true (y8_7.set (Int.toNat y8_1) ((([] : List (Int × Int)) ++ ((y8_6.drop 0).take ((Int.toNat y8_5) - 0))) ++ ((y8_6.drop (Int.toNat (IntKind.wrap .i64 (y8_5 + 1)))).take ((Int.toNat (y8_6.length : Int)) - (Int.toNat (IntKind.wrap .i64 (y8_5 + 1))))))) y8_9 else none) else none) else none) else none) else none) else none) else none) else none) else none) else none) else spec_DropTimer_l8 n y8_0 y8_1 y8_2 y8_3 y8_4 (IntKind.wrap .i64 (y8_5 + 1)) y8_6 y8_7 y8_8 y8_9 y8_10 y8_11 kret kexit2) else none) else none) else kexit2 y8_0 y8_2 y8_3 (y8_7.set y8_8 y8_6) y8_9 y8_10 y8_11)) (fun r0 r1 r2 => kk .ret (PkS.pack Tspec_DropTimer_l8_0 (r0, r1, r2, ()))) (fun r0 r1 r2 r3 r4 r5 r6 => kk (.exit 2) (PkS.pack Tspec_DropTimer_l8_1 (r0, r1, r2, r3, r4, r5, r6, ()))) := by kernel_rfl
theorem lespec_DropTimer_l8 : LoopEq tt sig (fun n => mkK [(30, Kspec_GoodWheel @spec_GoodWheel n), (34, Kspec_l5Own @spec_l5Own n)]) (fun n => mkL (mkK [(30, Kspec_GoodWheel @spec_GoodWheel n), (34, Kspec_l5Own @spec_l5Own n)]) []) Dspec_DropTimer_l8 Sspec_DropTimer_l8 (loopIn 8 (bodyOf Try.f51)) (Pspec_DropTimer_l8 @spec_DropTimer_l8) where
  zero R q kk := by unfold Pspec_DropTimer_l8; cases (PkS.un Sspec_DropTimer_l8 q) <;> rfl
  succ n R q kk := by
    unfold Pspec_DropTimer_l8
    cases h : (PkS.un Sspec_DropTimer_l8 q) with
    | none => rfl
    | some d =>
      obtain ⟨y8_0, y8_1, y8_2, y8_3, y8_4, y8_5, y8_6, y8_7, y8_8, y8_9, y8_10, y8_11, u⟩ := (d : Int × Int × Int × Int × Int × Int × (List (Int × Int)) × (List (List (Int × Int))) × Nat × Int × (List (List (Int × Int))) × Int × Unit)
      have hp := PkS.un_pack h
      subst hp
      exact (espec_DropTimer_l8 @spec_GoodWheel @spec_l5Own @spec_DropTimer_l8 n y8_0 y8_1 y8_2 y8_3 y8_4 y8_5 y8_6 y8_7 y8_8 y8_9 y8_10 y8_11 kk).symm
theorem nlspec_DropTimer_l8 : ∀ n, NatLP (Pspec_DropTimer_l8 @spec_DropTimer_l8 n) := lespec_DropTimer_l8.nat (fun n => mkK_nat (cspec_DropTimer n)) fun n => mkL_nat (mkK_nat (cspec_DropTimer n)) (l := []) trivial
theorem inspec_DropTimer_l8 (n : Nat) (R : Type) : LoopsOk Try.prog (mkL (mkK [(30, Kspec_GoodWheel @spec_GoodWheel n), (34, Kspec_l5Own @spec_l5Own n)]) [] R) (loopIn 8 (bodyOf Try.f51)) := .eq (l := []) (by kernel_rfl) trivial
theorem lkspec_DropTimer_l8 (n : Nat) (R : Type) (L0 : LK R) (h0 : ∀ id, firstRegion (loopIn 8 (bodyOf Try.f51)) = some id → L0 id = Dspec_DropTimer_l8.oracle (mkK [(30, Kspec_GoodWheel @spec_GoodWheel n), (34, Kspec_l5Own @spec_l5Own n)] R) (Pspec_DropTimer_l8 @spec_DropTimer_l8 n R)) : LoopOk Try.prog L0 (loopIn 8 (bodyOf Try.f51)) :=
  lespec_DropTimer_l8.ok mixed ttok (fun n => mkK_nat (cspec_DropTimer n)) (fun n => mkK_ok (cspec_DropTimer n)) (fun n => inspec_DropTimer_l8 n R) (mkK_nat (cspec_DropTimer n)) h0
@[reducible] def Sspec_DropTimer_l5 : PkS := ⟨[.one (.int .i64), .one (.box (100000, 1) 0), .one (.box (100000, 3) 0), .one (.mp (100000, 0)), .one (.int .i64), .one (.int .i64), .one (.dead), .one (.dead)], [((100000, 0), .rr (.pr (.int .i64) (.int .i64))), ((100000, 1), .box [.int .i64, .mp (100000, 0)]), ((100000, 2), .rr (.pr (.int .i64) (.int .i64))), ((100000, 3), .box [.int .i64, .mp (100000, 2)])]⟩
@[reducible] def Tspec_DropTimer_l5_0 : PkS := ⟨[.one (.box (100000, 1) 0), .one (.bool), .one (.dead), .one (.dead)], [((100000, 0), .rr (.pr (.int .i64) (.int .i64))), ((100000, 1), .box [.int .i64, .mp (100000, 0)])]⟩
@[reducible] def Tspec_DropTimer_l5_1 : PkS := ⟨[.one (.box (100000, 1) 0), .one (.dead), .one (.dead)], [((100000, 0), .rr (.pr (.int .i64) (.int .i64))), ((100000, 1), .box [.int .i64, .mp (100000, 0)])]⟩
def Dspec_DropTimer_l5 : LoopD := ⟨53, [1, 2, 4, 17, 18, 19], [.one .any, .box [.any, (.rr (.pr (.int .i64) (.int .i64)))], .box [.any, (.rr (.pr (.int .i64) (.int .i64)))], .one (.rr (.pr (.int .i64) (.int .i64))), .one .any, .one .any, .skip, .skip], fun x => match x with
  | .ret => some ([4, 5], [.box [.any, (.rr (.pr (.int .i64) (.int .i64)))], .one .any, .skip, .skip])
  | .exit 0 => some ([4], [.box [.any, (.rr (.pr (.int .i64) (.int .i64)))], .skip, .skip])
  | _ => none⟩
def Pspec_DropTimer_l5 (g : ∀ {R : Type}, Nat → Int → Int → Int → (List (List (Int × Int))) → Int → (List (List (Int × Int))) → Int → (Bool → (List (List (Int × Int))) → Int → Option R) → ((List (List (Int × Int))) → Int → Option R) → Option R) (n : Nat) : LPs := fun R q kk => match (PkS.un Sspec_DropTimer_l5 q : Option (Int × Int × Int × (List (List (Int × Int))) × Int × (List (List (Int × Int))) × Int × Unit)) with
  | some (y5_0, y5_1, y5_2, y5_3, y5_4, y5_5, y5_6, _) => g n y5_0 y5_1 y5_2 y5_3 y5_4 y5_5 y5_6 (fun r0 r1 r2 => kk .ret (PkS.pack Tspec_DropTimer_l5_0 (r0, r1, r2, ()))) (fun r0 r1 => kk (.exit 0) (PkS.pack Tspec_DropTimer_l5_1 (r0, r1, ())))
  | none => none
theorem espec_DropTimer_l5 (spec_GoodWheel : ∀ {R : Type}, Nat → Int → (List (List (Int × Int))) → (Bool → Option R) → Option R) (spec_l5Own : ∀ {R : Type}, Nat → Int → (List (List (Int × Int))) → (Int → (List (List (Int × Int))) → Option R) → Option R) (spec_DropTimer_l8 : ∀ {R : Type}, Nat → Int → Int → Int → Int → Int → Int → (List (Int × Int)) → (List (List (Int × Int))) → Nat → Int → (List (List (Int × Int))) → Int → (Bool → (List (List (Int × Int))) → Int → Option R) → (Int → Int → Int → (List (List (Int × Int))) → Int → (List (List (Int × Int))) → Int → Option R) → Option R) (spec_DropTimer_l5 : ∀ {R : Type}, Nat → Int → Int → Int → (List (List (Int × Int))) → Int → (List (List (Int × Int))) → Int → (Bool → (List (List (Int × Int))) → Int → Option R) → ((List (List (Int × Int))) → Int → Option R) → Option R) {R : Type} (n : Nat) (y5_0 : Int) (y5_1 : Int) (y5_2 : Int) (y5_3 : List (List (Int × Int))) (y5_4 : Int) (y5_5 : List (List (Int × Int))) (y5_6 : Int) (kk : Ex → Pk → Option R) : Dspec_DropTimer_l5.step tt sig (mkK [(30, Kspec_GoodWheel @spec_GoodWheel n), (34, Kspec_l5Own @spec_l5Own n)] R) (mkL (mkK [(30, Kspec_GoodWheel @spec_GoodWheel n), (34, Kspec_l5Own @spec_l5Own n)]) [(8, Dspec_DropTimer_l8, Pspec_DropTimer_l8 @spec_DropTimer_l8 n)] R) (loopIn 5 (bodyOf Try.f51)) (fun q' => Pspec_DropTimer_l5 @spec_DropTimer_l5 n R q' kk) (PkS.pack Sspec_DropTimer_l5 (y5_0, y5_1, y5_2, y5_3, y5_4, y5_5, y5_6, ())) kk = (fun (kret : Bool → (List (List (Int × Int))) → Int → Option R) (kexit0 : (List (List (Int × Int))) → Int → Option R) => (bif (decide (y5_2 < y5_1)) then (bif decide (0 ≤ y5_2) then (bif decide (y5_2 < (y5_3.length : Int)) then (spec_DropTimer_l8 n y5_0 y5_2 y5_1 y5_2 ((y5_3.getD (Int.toNat y5_2) []).length : Int) 0 (y5_3.getD (Int.toNat y5_2) []) (y5_3.set (Int.toNat y5_2) []) (Int.toNat y5_2) y5_4 y5_5 y5_6 (fun r4 r5 r6 => kret r4 r5 r6) (fun r7 r8 r9 r10 r11 r12 r13 => spec_DropTimer_l5 n r7 r8 (IntKind.wrap .i64 (r9 + 1)) r10 r11 r12 r13 kret kexit0)) else none) else none) else kexit0 y5_5 y5_6)) (fun r0 r1 r2 => kk .ret (PkS.pack Tspec_DropTimer_l5_0 (r0, r1, r2, ()))) (fun r0 r1 => kk (.exit 0) (PkS.pack Tspec_DropTimer_l5_1 (r0, r1, ()))) := by kernel_rfl
theorem lespec_DropTimer_l5 : LoopEq tt sig (fun n => mkK [(30, Kspec_GoodWheel @spec_GoodWheel n), (34, Kspec_l5Own @spec_l5Own n)]) (fun n => mkL (mkK [(30, Kspec_GoodWheel @spec_GoodWheel n), (34, Kspec_l5Own @spec_l5Own n)]) [(8, Dspec_DropTimer_l8, Pspec_DropTimer_l8 @spec_DropTimer_l8 n)]) Dspec_DropTimer_l5 Sspec_DropTimer_l5 (loopIn 5 (bodyOf Try.f51)) (Pspec_DropTimer_l5 @spec_DropTimer_l5) where
  zero R q kk := by unfold Pspec_DropTimer_l5; cases (PkS.un Sspec_DropTimer_l5 q) <;> rfl
  succ n R q kk := by
    unfold Pspec_DropTimer_l5
    cases h : (PkS.un Sspec_DropTimer_l5 q) with
    | none => rfl
    | some d =>
      obtain ⟨y5_0, y5_1, y5_2, y5_3, y5_4, y5_5, y5_6, u⟩ := (d : Int × Int × Int × (List (List (Int × Int))) × Int × (List (List (Int × Int))) × Int × Unit)
      have hp := PkS.un_pack h
      subst hp
      exact (espec_DropTimer_l5 @spec_GoodWheel @spec_l5Own @spec_DropTimer_l8 @spec_DropTimer_l5 n y5_0 y5_1 y5_2 y5_3 y5_4 y5_5 y5_6 kk).symm
theorem nlspec_DropTimer_l5 : ∀ n, NatLP (Pspec_DropTimer_l5 @spec_DropTimer_l5 n) := lespec_DropTimer_l5.nat (fun n => mkK_nat (cspec_DropTimer n)) fun n => mkL_nat (mkK_nat (cspec_DropTimer n)) (l := [(8, Dspec_DropTimer_l8, Pspec_DropTimer_l8 @spec_DropTimer_l8 n)]) ⟨nlspec_DropTimer_l8 n, trivial⟩
theorem inspec_DropTimer_l5 (n : Nat) (R : Type) : LoopsOk Try.prog (mkL (mkK [(30, Kspec_GoodWheel @spec_GoodWheel n), (34, Kspec_l5Own @spec_l5Own n)]) [(8, Dspec_DropTimer_l8, Pspec_DropTimer_l8 @spec_DropTimer_l8 n)] R) (loopIn 5 (bodyOf Try.f51)) := .eq (l := [.lo (loopIn 8 (bodyOf Try.f51))]) (by kernel_rfl) ⟨(lkspec_DropTimer_l8 n R _ (at_id (i := 8) (by kernel_rfl) rfl)), trivial⟩
theorem lkspec_DropTimer_l5 (n : Nat) (R : Type) (L0 : LK R) (h0 : ∀ id, firstRegion (loopIn 5 (bodyOf Try.f51)) = some id → L0 id = Dspec_DropTimer_l5.oracle (mkK [(30, Kspec_GoodWheel @spec_GoodWheel n), (34, Kspec_l5Own @spec_l5Own n)] R) (Pspec_DropTimer_l5 @spec_DropTimer_l5 n R)) : LoopOk Try.prog L0 (loopIn 5 (bodyOf Try.f51)) :=
  lespec_DropTimer_l5.ok mixed ttok (fun n => mkK_nat (cspec_DropTimer n)) (fun n => mkK_ok (cspec_DropTimer n)) (fun n => inspec_DropTimer_l5 n R) (mkK_nat (cspec_DropTimer n)) h0
@[reducible] def Sspec_DropTimer : PkS := ⟨[.agg [.int .i64, .ro (.sl (.pr (.int .i64) (.int .i64)))], .one (.int .i64)], []⟩
@[reducible] def Tspec_DropTimer : PkS := ⟨[.tup [(true, [.int .i64, .mp (300000, 0)]), (false, [.bool])], .one (.dead), .one (.dead)], [((300000, 0), .rr (.pr (.int .i64) (.int .i64)))]⟩
def Hspec_DropTimer : List Sh := [.tup [(true, [.any, (.rr (.pr (.int .i64) (.int .i64)))]), (false, [.any])], .skip, .skip]
def Kspec_DropTimer (g : ∀ {R : Type}, Nat → Int → (List (List (Int × Int))) → Int → (Int → Bool → (List (List (Int × Int))) → Option R) → Option R) (n : Nat) : KPs := fun R p k => match (PkS.un Sspec_DropTimer p : Option (Int × (List (List (Int × Int))) × Int × Unit)) with
  | some (x0, x1, x2, _) => g n x0 x1 x2 (fun r0 r1 r2 => k (PkS.pack Tspec_DropTimer (r0, r1, r2, ())))
  | none => none
theorem espec_DropTimer (spec_GoodWheel : ∀ {R : Type}, Nat → Int → (List (List (Int × Int))) → (Bool → Option R) → Option R) (spec_l5Own : ∀ {R : Type}, Nat → Int → (List (List (Int × Int))) → (Int → (List (List (Int × Int))) → Option R) → Option R) (spec_DropTimer_l8 : ∀ {R : Type}, Nat → Int → Int → Int → Int → Int → Int → (List (Int × Int)) → (List (List (Int × Int))) → Nat → Int → (List (List (Int × Int))) → Int → (Bool → (List (List (Int × Int))) → Int → Option R) → (Int → Int → Int → (List (List (Int × Int))) → Int → (List (List (Int × Int))) → Int → Option R) → Option R) (spec_DropTimer_l5 : ∀ {R : Type}, Nat → Int → Int → Int → (List (List (Int × Int))) → Int → (List (List (Int × Int))) → Int → (Bool → (List (List (Int × Int))) → Int → Option R) → ((List (List (Int × Int))) → Int → Option R) → Option R) {R : Type} (n : Nat) (x0 : Int) (x1 : List (List (Int × Int))) (x2 : Int) (k : Pk → Option R) : evF tt sig (mkK [(30, Kspec_GoodWheel @spec_GoodWheel n), (34, Kspec_l5Own @spec_l5Own n)] R) (mkL (mkK [(30, Kspec_GoodWheel @spec_GoodWheel n), (34, Kspec_l5Own @spec_l5Own n)]) [(8, Dspec_DropTimer_l8, Pspec_DropTimer_l8 @spec_DropTimer_l8 n), (5, Dspec_DropTimer_l5, Pspec_DropTimer_l5 @spec_DropTimer_l5 n)] R) Try.f51 Hspec_DropTimer (PkS.pack Sspec_DropTimer (x0, x1, x2, ())) k = (fun (k : Int → Bool → (List (List (Int × Int))) → Option R) => (spec_GoodWheel n x0 x1 fun r1 => (bif (!r1) then k 0 false ([] : List (List (Int × Int))) else (spec_l5Own n x0 x1 fun r2 r3 => (spec_DropTimer_l5 n x2 (r3.length : Int) 0 r3 r2 ([] : List (List (Int × Int))) 0 (fun r14 r15 r16 => k r16 r14 r15) (fun r17 r18 => k 0 false ([] : List (List (Int × Int))))))))) (fun r0 r1 r2 => k (PkS.pack Tspec_DropTimer (r0, r1, r2, ()))) := by kernel_rfl
theorem okspec_DropTimer (n : Nat) : FnOk Try.prog 51 (Kspec_DropTimer @spec_DropTimer n) := by
  refine fn_ok (sig := sig) mixed ttok (mkK_nat (cspec_DropTimer n)) (mkK_ok (cspec_DropTimer n)) (mkL_nat (mkK_nat (cspec_DropTimer n)) (l := [(8, Dspec_DropTimer_l8, Pspec_DropTimer_l8 @spec_DropTimer_l8 n), (5, Dspec_DropTimer_l5, Pspec_DropTimer_l5 @spec_DropTimer_l5 n)]) ⟨nlspec_DropTimer_l8 n, ⟨nlspec_DropTimer_l5 n, trivial⟩⟩) (fn := Try.f51) (c := bodyOf Try.f51) (by kernel_rfl) (by kernel_rfl) (by kernel_rfl) (.eq (l := [.lo (loopIn 5 (bodyOf Try.f51))]) (by kernel_rfl) ⟨(lkspec_DropTimer_l5 n _ _ (at_id (i := 5) (by kernel_rfl) rfl)), trivial⟩) (shs := Hspec_DropTimer) (S := Sspec_DropTimer) (h1 := by kernel_rfl) fun R p k => ?_
  unfold Kspec_DropTimer
  cases h : (PkS.un Sspec_DropTimer p) with
  | none => rfl
  | some d =>
    obtain ⟨x0, x1, x2, u⟩ := (d : Int × (List (List (Int × Int))) × Int × Unit)
    have hp := PkS.un_pack h
    subst hp
    exact (espec_DropTimer @spec_GoodWheel @spec_l5Own @spec_DropTimer_l8 @spec_DropTimer_l5 n x0 x1 x2 k).symm

/-! ### (*loop.example/g00269/spec.l1Cur).among -/
theorem cspec_l1Cur_among (n : Nat) : AllOk Try.prog [(48, Kspec_l1Cur_pick @spec_l1Cur_pick n)] := ⟨okspec_l1Cur_pick n, trivial⟩
@[reducible] def Sspec_l1Cur_among : PkS := ⟨[.one (.box (200000, 0) 0), .one (.ro (.int .i64))], [((200000, 0), .box [.ro (.int .u8), .int .i64, .int .u64])]⟩
@[reducible] def Tspec_l1Cur_among : PkS := ⟨[.one (.int .i64), .one (.box (300000, 0) 0), .one (.dead)], [((300000, 0), .box [.ro (.int .u8), .int .i64, .int .u64])]⟩
def Hspec_l1Cur_among : List Sh := [.one .any, .box [(.ro (.int .u8)), .any, .any], .skip]
def Kspec_l1Cur_among (g : ∀ {R : Type}, Nat → (List Int) → (List Int) → Int → Int → (Int → (List Int) → Int → Int → Option R) → Option R) (n : Nat) : KPs := fun R p k => match (PkS.un Sspec_l1Cur_among p : Option ((List Int) × (List Int) × Int × Int × Unit)) with
  | some (x0, x1, x2, x3, _) => g n x0 x1 x2 x3 (fun r0 r1 r2 r3 => k (PkS.pack Tspec_l1Cur_among (r0, r1, r2, r3, ())))
  | none => none
theorem espec_l1Cur_among (spec_l1Cur_pick : ∀ {R : Type}, Nat → Int → (List Int) → Int → Int → (Int → (List Int) → Int → Int → Option R) → Option R) {R : Type} (n : Nat) (x0 : List Int) (x1 : List Int) (x2 : Int) (x3 : Int) (k : Pk → Option R) : evF tt sig (mkK [(48, Kspec_l1Cur_pick @spec_l1Cur_pick n)] R) (mkL (mkK [(48, Kspec_l1Cur_pick @spec_l1Cur_pick n)]) [] R) Try.f23 Hspec_l1Cur_among (PkS.pack Sspec_l1Cur_among (x0, x1, x2, x3, ())) k = (fun (k : Int → (List Int) → Int → Int → Option R) => (spec_l1Cur_pick n (x0.length : Int) x1 x2 x3 fun r1 r2 r3 r4 => (bif decide (0 ≤ r1) then (bif decide (r1 < (x0.length : Int)) then k (x0.getD (Int.toNat r1) 0) r2 r3 r4 else none) else none))) (fun r0 r1 r2 r3 => k (PkS.pack Tspec_l1Cur_among (r0, r1, r2, r3, ()))) := by kernel_rfl
theorem okspec_l1Cur_among (n : Nat) : FnOk Try.prog 23 (Kspec_l1Cur_among @spec_l1Cur_among n) := by
  refine fn_ok (sig := sig) mixed ttok (mkK_nat (cspec_l1Cur_among n)) (mkK_ok (cspec_l1Cur_among n)) (mkL_nat (mkK_nat (cspec_l1Cur_among n)) (l := []) trivial) (fn := Try.f23) (c := bodyOf Try.f23) (by kernel_rfl) (by kernel_rfl) (by kernel_rfl) (.eq (l := []) (by kernel_rfl) trivial) (shs := Hspec_l1Cur_among) (S := Sspec_l1Cur_among) (h1 := by kernel_rfl) fun R p k => ?_
  unfold Kspec_l1Cur_among
  cases h : (PkS.un Sspec_l1Cur_among p) with
  | none => rfl
  | some d =>
    obtain ⟨x0, x1, x2, x3, u⟩ := (d : (List Int) × (List Int) × Int × Int × Unit)
    have hp := PkS.un_pack h
    subst hp
    exact (espec_l1Cur_among @spec_l1Cur_pick n x0 x1 x2 x3 k).symm

/-! ### loop.example/g00269/spec.l5Many -/
theorem cspec_l5Many (n : Nat) : AllOk Try.prog [] := trivial
@[reducible] def Sspec_l5Many_l3 : PkS := ⟨[.one (.int .i64), .one (.ro (.sl (.pr (.int .i64) (.int .i64)))), .one (.int .i64), .one (.int .i64), .one (.dead)], []⟩
@[reducible] def Tspec_l5Many_l3_0 : PkS := ⟨[.one (.int .i64), .one (.dead)], []⟩
def Dspec_l5Many_l3 : LoopD := ⟨19, [3, 7, 8, 9], [.one .any, .one (.ro (.sl (.pr (.int .i64) (.int .i64)))), .one .any, .one .any, .skip], fun x => match x with
  | .exit 0 => some ([3], [.one .any, .skip])
  | _ => none⟩
def Pspec_l5Many_l3 (g : ∀ {R : Type}, Nat → Int → (List (List (Int × Int))) → Int → Int → (Int → Option R) → Option R) (n : Nat) : LPs := fun R q kk => match (PkS.un Sspec_l5Many_l3 q : Option (Int × (List (List (Int × Int))) × Int × Int × Unit)) with
  | some (y3_0, y3_1, y3_2, y3_3, _) => g n y3_0 y3_1 y3_2 y3_3 (fun r0 => kk (.exit 0) (PkS.pack Tspec_l5Many_l3_0 (r0, ())))
  | none => none
theorem espec_l5Many_l3 (spec_l5Many_l3 : ∀ {R : Type}, Nat → Int → (List (List (Int × Int))) → Int → Int → (Int → Option R) → Option R) {R : Type} (n : Nat) (y3_0 : Int) (y3_1 : List (List (Int × Int))) (y3_2 : Int) (y3_3 : Int) (kk : Ex → Pk → Option R) : Dspec_l5Many_l3.step tt sig (mkK [] R) (mkL (mkK []) [] R) (loopIn 3 (bodyOf Try.f32)) (fun q' => Pspec_l5Many_l3 @spec_l5Many_l3 n R q' kk) (PkS.pack Sspec_l5Many_l3 (y3_0, y3_1, y3_2, y3_3, ())) kk = (fun (kexit0 : Int → Option R) => (bif (decide (y3_3 < y3_2)) then (bif decide (0 ≤ y3_3) then (bif decide (y3_3 < (y3_1.length : Int)) then spec_l5Many_l3 n (IntKind.wrap .i64 (y3_0 + ((y3_1.getD (Int.toNat y3_3) []).length : Int))) y3_1 y3_2 (IntKind.wrap .i64 (y3_3 + 1)) kexit0 else none) else none) else kexit0 y3_0)) (fun r0 => kk (.exit 0) (PkS.pack Tspec_l5Many_l3_0 (r0, ()))) := by kernel_rfl
theorem lespec_l5Many_l3 : LoopEq tt sig (fun n => mkK []) (fun n => mkL (mkK []) []) Dspec_l5Many_l3 Sspec_l5Many_l3 (loopIn 3 (bodyOf Try.f32)) (Pspec_l5Many_l3 @spec_l5Many_l3) where
  zero R q kk := by unfold Pspec_l5Many_l3; cases (PkS.un Sspec_l5Many_l3 q) <;> rfl
  succ n R q kk := by
    unfold Pspec_l5Many_l3
    cases h : (PkS.un Sspec_l5Many_l3 q) with
    | none => rfl
    | some d =>
      obtain ⟨y3_0, y3_1, y3_2, y3_3, u⟩ := (d : Int × (List (List (Int × Int))) × Int × Int × Unit)
      have hp := PkS.un_pack h
      subst hp
      exact (espec_l5Many_l3 @spec_l5Many_l3 n y3_0 y3_1 y3_2 y3_3 kk).symm
theorem nlspec_l5Many_l3 : ∀ n, NatLP (Pspec_l5Many_l3 @spec_l5Many_l3 n) := lespec_l5Many_l3.nat (fun n => mkK_nat (cspec_l5Many n)) fun n => mkL_nat (mkK_nat (cspec_l5Many n)) (l := []) trivial
theorem inspec_l5Many_l3 (n : Nat) (R : Type) : LoopsOk Try.prog (mkL (mkK []) [] R) (loopIn 3 (bodyOf Try.f32)) := .eq (l := []) (by kernel_rfl) trivial
theorem lkspec_l5Many_l3 (n : Nat) (R : Type) (L0 : LK R) (h0 : ∀ id, firstRegion (loopIn 3 (bodyOf Try.f32)) = some id → L0 id = Dspec_l5Many_l3.oracle (mkK [] R) (Pspec_l5Many_l3 @spec_l5Many_l3 n R)) : LoopOk Try.prog L0 (loopIn 3 (bodyOf Try.f32)) :=
  lespec_l5Many_l3.ok mixed ttok (fun n => mkK_nat (cspec_l5Many n)) (fun n => mkK_ok (cspec_l5Many n)) (fun n => inspec_l5Many_l3 n R) (mkK_nat (cspec_l5Many n)) h0
@[reducible] def Sspec_l5Many : PkS := ⟨[.agg [.int .i64, .ro (.sl (.pr (.int .i64) (.int .i64)))]], []⟩
@[reducible] def Tspec_l5Many : PkS := ⟨[.one (.int .i64), .one (.dead)], []⟩
def Hspec_l5Many : List Sh := [.one .any, .skip]
def Kspec_l5Many (g : ∀ {R : Type}, Nat → Int → (List (List (Int × Int))) → (Int → Option R) → Option R) (n : Nat) : KPs := fun R p k => match (PkS.un Sspec_l5Many p : Option (Int × (List (List (Int × Int))) × Unit)) with
  | some (x0, x1, _) => g n x0 x1 (fun r0 => k (PkS.pack Tspec_l5Many (r0, ())))
  | none => none
theorem espec_l5Many (spec_l5Many_l3 : ∀ {R : Type}, Nat → Int → (List (List (Int × Int))) → Int → Int → (Int → Option R) → Option R) {R : Type} (n : Nat) (x0 : Int) (x1 : List (List (Int × Int))) (k : Pk → Option R) : evF tt sig (mkK [] R) (mkL (mkK []) [(3, Dspec_l5Many_l3, Pspec_l5Many_l3 @spec_l5Many_l3 n)] R) Try.f32 Hspec_l5Many (PkS.pack Sspec_l5Many (x0, x1, ())) k = (fun (k : Int → Option R) => (spec_l5Many_l3 n 0 x1 (x1.length : Int) 0 (fun r1 => k r1))) (fun r0 => k (PkS.pack Tspec_l5Many (r0, ()))) := by kernel_rfl
theorem okspec_l5Many (n : Nat) : FnOk Try.prog 32 (Kspec_l5Many @spec_l5Many n) := by
  refine fn_ok (sig := sig) mixed ttok (mkK_nat (cspec_l5Many n)) (mkK_ok (cspec_l5Many n)) (mkL_nat (mkK_nat (cspec_l5Many n)) (l := [(3, Dspec_l5Many_l3, Pspec_l5Many_l3 @spec_l5Many_l3 n)]) ⟨nlspec_l5Many_l3 n, trivial⟩) (fn := Try.f32) (c := bodyOf Try.f32) (by kernel_rfl) (by kernel_rfl) (by kernel_rfl) (.eq (l := [.lo (loopIn 3 (bodyOf Try.f32))]) (by kernel_rfl) ⟨(lkspec_l5Many_l3 n _ _ (at_id (i := 3) (by kernel_rfl) rfl)), trivial⟩) (shs := Hspec_l5Many) (S := Sspec_l5Many) (h1 := by kernel_rfl) fun R p k => ?_
  unfold Kspec_l5Many
  cases h : (PkS.un Sspec_l5Many p) with
  | none => rfl
  | some d =>
    obtain ⟨x0, x1, u⟩ := (d : Int × (List (List (Int × Int))) × Unit)
    have hp := PkS.un_pack h
    subst hp
    exact (espec_l5Many @spec_l5Many_l3 n x0 x1 k).symm

/-! ### loop.example/g00269/spec.SetTimer -/
theorem cspec_SetTimer (n : Nat) : AllOk Try.prog [(30, Kspec_GoodWheel @spec_GoodWheel n), (31, Kspec_l5Timer @spec_l5Timer n), (32, Kspec_l5Many @spec_l5Many n), (33, Kspec_l5Slot @spec_l5Slot n), (34, Kspec_l5Own @spec_l5Own n)] := ⟨okspec_GoodWheel n, ⟨okspec_l5Timer n, ⟨okspec_l5Many n, ⟨okspec_l5Slot n, ⟨okspec_l5Own n, trivial⟩⟩⟩⟩⟩
@[reducible] def Sspec_SetTimer : PkS := ⟨[.agg [.int .i64, .ro (.sl (.pr (.int .i64) (.int .i64)))], .agg [.int .i64, .int .i64]], []⟩
@[reducible] def Tspec_SetTimer : PkS := ⟨[.tup [(true, [.int .i64, .mp (300000, 0)]), (false, [.bool])], .one (.dead), .one (.dead)], [((300000, 0), .rr (.pr (.int .i64) (.int .i64)))]⟩
def Hspec_SetTimer : List Sh := [.tup [(true, [.any, (.rr (.pr (.int .i64) (.int .i64)))]), (false, [.any])], .skip, .skip]
def Kspec_SetTimer (g : ∀ {R : Type}, Nat → Int → (List (List (Int × Int))) → Int → Int → (Int → Bool → (List (List (Int × Int))) → Option R) → Option R) (n : Nat) : KPs := fun R p k => match (PkS.un Sspec_SetTimer p : Option (Int × (List (List (Int × Int))) × Int × Int × Unit)) with
  | some (x0, x1, x2, x3, _) => g n x0 x1 x2 x3 (fun r0 r1 r2 => k (PkS.pack Tspec_SetTimer (r0, r1, r2, ())))
  | none => none
theorem espec_SetTimer (spec_GoodWheel : ∀ {R : Type}, Nat → Int → (List (List (Int × Int))) → (Bool → Option R) → Option R) (spec_l5Timer : ∀ {R : Type}, Nat → Int → Int → Int → (Bool → Option R) → Option R) (spec_l5Many : ∀ {R : Type}, Nat → Int → (List (List (Int × Int))) → (Int → Option R) → Option R) (spec_l5Slot : ∀ {R : Type}, Nat → Int → Int → (Int → Option R) → Option R) (spec_l5Own : ∀ {R : Type}, Nat → Int → (List (List (Int × Int))) → (Int → (List (List (Int × Int))) → Option R) → Option R) {R : Type} (n : Nat) (x0 : Int) (x1 : List (List (Int × Int))) (x2 : Int) (x3 : Int) (k : Pk → Option R) : evF tt sig (mkK [(30, Kspec_GoodWheel @spec_GoodWheel n), (31, Kspec_l5Timer @spec_l5Timer n), (32, Kspec_l5Many @spec_l5Many n), (33, Kspec_l5Slot @spec_l5Slot n), (34, Kspec_l5Own @spec_l5Own n)] R) (mkL (mkK [(30, Kspec_GoodWheel @spec_GoodWheel n), (31, Kspec_l5Timer @spec_l5Timer n), (32, Kspec_l5Many @spec_l5Many n), (33, Kspec_l5Slot @spec_l5Slot n), (34, Kspec_l5Own @spec_l5Own n)]) [] R) Try.f7 Hspec_SetTimer (PkS.pack Sspec_SetTimer (x0, x1, x2, x3, ())) k = (fun (k : Int → Bool → (List (List (Int × Int))) → Option R) => (spec_GoodWheel n x0 x1 fun r1 => (bif (!r1) then k 0 false ([] : List (List (Int × Int))) else (spec_l5Timer n x2 x3 x0 fun r2 => (bif (!r2) then k 0 false ([] : List (List (Int × Int))) else (spec_l5Many n x0 x1 fun r3 => (bif (r3 == 60) then k 0 false ([] : List (List (Int × Int))) else (spec_l5Slot n x0 x2 fun r4 => (bif (decide (r4 < 0)) then k 0 false ([] : List (List (Int × Int))) else (spec_l5Own n x0 x1 fun r5 r6 => (bif decide (0 ≤ r4) then (bif decide (r4 < (r6.length : Int)) then (bif decide ((r6.getD (Int.toNat r4) []).length + ([(x2, x3)]).length ≤ LIM) then (bif decide (0 ≤ r4) then (bif decide (r4 < ((r6.set (Int.toNat r4) []).length : Int)) then (bif Nat.beq (Int.toNat r4) (Int.toNat r4) then (spec_GoodWheel n r5 ((r6.set (Int.toNat r4) []).set (Int.toNat r4) ((r6.getD (Int.toNat r4) []) ++ [(x2, x3)])) fun r7 => (bif (!r7) then k 0 false ([] : List (List (Int × Int))) else k r5 true ((r6.set (Int.toNat r4) []).set (Int.toNat r4) ((r6.getD (Int.toNat r4) []) ++ [(x2, x3)])))) else none) else none) else none) else none) else none) else none))))))))))) (fun r0 r1 r2 => k (PkS.pack Tspec_SetTimer (r0, r1, r2, ()))) := by kernel_rfl
theorem okspec_SetTimer (n : Nat) : FnOk Try.prog 7 (Kspec_SetTimer @spec_SetTimer n) := by
  refine fn_ok (sig := sig) mixed ttok (mkK_nat (cspec_SetTimer n)) (mkK_ok (cspec_SetTimer n)) (mkL_nat (mkK_nat (cspec_SetTimer n)) (l := []) trivial) (fn := Try.f7) (c := bodyOf Try.f7) (by kernel_rfl) (by kernel_rfl) (by kernel_rfl) (.eq (l := []) (by kernel_rfl) trivial) (shs := Hspec_SetTimer) (S := Sspec_SetTimer) (h1 := by kernel_rfl) fun R p k => ?_
  unfold Kspec_SetTimer
  cases h : (PkS.un Sspec_SetTimer p) with
  | none => rfl
  | some d =>
    obtain ⟨x0, x1, x2, x3, u⟩ := (d : Int × (List (List (Int × Int))) × Int × Int × Unit)
    have hp := PkS.un_pack h
    subst hp
    exact (espec_SetTimer @spec_GoodWheel @spec_l5Timer @spec_l5Many @spec_l5Slot @spec_l5Own n x0 x1 x2 x3 k).symm

/-! ### (*loop.example/g00269/spec.l1Cur).wheel -/
theorem cspec_l1Cur_wheel (n : Nat) : AllOk Try.prog [(49, Kspec_NewWheel @spec_NewWheel n), (50, Kspec_l1Cur_one @spec_l1Cur_one n), (48, Kspec_l1Cur_pick @spec_l1Cur_pick n), (20, Kspec_AdvanceWheel @spec_AdvanceWheel n), (51, Kspec_DropTimer @spec_DropTimer n), (23, Kspec_l1Cur_among @spec_l1Cur_among n), (7, Kspec_SetTimer @spec_SetTimer n)] := ⟨okspec_NewWheel n, ⟨okspec_l1Cur_one n, ⟨okspec_l1Cur_pick n, ⟨okspec_AdvanceWheel n, ⟨okspec_DropTimer n, ⟨okspec_l1Cur_among n, ⟨okspec_SetTimer n, trivial⟩⟩⟩⟩⟩⟩⟩
@[reducible] def Sspec_l1Cur_wheel_l6 : PkS := ⟨[.one (.box (100000, 0) 0), .one (.box (100000, 2) 0), .one (.box (100000, 4) 0), .one (.int .i64), .one (.int .i64), .one (.box (100000, 0) 0)], [((100000, 0), .box [.ro (.int .u8), .int .i64, .int .u64]), ((100000, 1), .rr (.pr (.int .i64) (.int .i64))), ((100000, 2), .box [.int .i64, .mp (100000, 1)]), ((100000, 3), .rr (.pr (.int .i64) (.int .i64))), ((100000, 4), .box [.int .i64, .mp (100000, 3)])]⟩
@[reducible] def Tspec_l1Cur_wheel_l6_0 : PkS := ⟨[.one (.box (100000, 0) 0), .one (.box (100000, 2) 0), .one (.box (100000, 4) 0), .one (.box (100000, 0) 0)], [((100000, 0), .box [.ro (.int .u8), .int .i64, .int .u64]), ((100000, 1), .rr (.pr (.int .i64) (.int .i64))), ((100000, 2), .box [.int .i64, .mp (100000, 1)]), ((100000, 3), .rr (.pr (.int .i64) (.int .i64))), ((100000, 4), .box [.int .i64, .mp (100000, 3)])]⟩
def Dspec_l1Cur_wheel_l6 : LoopD := ⟨102, [0, 2, 3, 4, 5], [.box [(.ro (.int .u8)), .any, .any], .box [.any, (.rr (.pr (.int .i64) (.int .i64)))], .box [.any, (.rr (.pr (.int .i64) (.int .i64)))], .one .any, .one .any, .box [(.ro (.int .u8)), .any, .any]], fun x => match x with
  | .exit 0 => some ([0, 2, 3], [.box [(.ro (.int .u8)), .any, .any], .box [.any, (.rr (.pr (.int .i64) (.int .i64)))], .box [.any, (.rr (.pr (.int .i64) (.int .i64)))], .box [(.ro (.int .u8)), .any, .any]])
  | _ => none⟩
def Pspec_l1Cur_wheel_l6 (g : ∀ {R : Type}, Nat → Int → Int → (List Int) → Int → Int → (List (List (Int × Int))) → Int → (List (List (Int × Int))) → Int → ((List Int) → Int → Int → (List (List (Int × Int))) → Int → (List (List (Int × Int))) → Int → Option R) → Option R) (n : Nat) : LPs := fun R q kk => match (PkS.un Sspec_l1Cur_wheel_l6 q : Option (Int × Int × (List Int) × Int × Int × (List (List (Int × Int))) × Int × (List (List (Int × Int))) × Int × Unit)) with
  | some (y6_0, y6_1, y6_2, y6_3, y6_4, y6_5, y6_6, y6_7, y6_8, _) => g n y6_0 y6_1 y6_2 y6_3 y6_4 y6_5 y6_6 y6_7 y6_8 (fun r0 r1 r2 r3 r4 r5 r6 => kk (.exit 0) (PkS.pack Tspec_l1Cur_wheel_l6_0 (r0, r1, r2, r3, r4, r5, r6, ())))
  | none => none
theorem espec_l1Cur_wheel_l6 (spec_NewWheel : ∀ {R : Type}, Nat → (Int → (List (List (Int × Int))) → Option R) → Option R) (spec_l1Cur_one : ∀ {R : Type}, Nat → Int → (List Int) → Int → Int → (Bool → (List Int) → Int → Int → Option R) → Option R) (spec_l1Cur_pick : ∀ {R : Type}, Nat → Int → (List Int) → Int → Int → (Int → (List Int) → Int → Int → Option R) → Option R) (spec_AdvanceWheel : ∀ {R : Type}, Nat → Int → (List (List (Int × Int))) → Int → (Int → Int → Bool → (List (List (Int × Int))) → (List Int) → Option R) → Option R) (spec_DropTimer : ∀ {R : Type}, Nat → Int → (List (List (Int × Int))) → Int → (Int → Bool → (List (List (Int × Int))) → Option R) → Option R) (spec_l1Cur_among : ∀ {R : Type}, Nat → (List Int) → (List Int) → Int → Int → (Int → (List Int) → Int → Int → Option R) → Option R) (spec_SetTimer : ∀ {R : Type}, Nat → Int → (List (List (Int × Int))) → Int → Int → (Int → Bool → (List (List (Int × Int))) → Option R) → Option R) (spec_l1Cur_wheel_l6 : ∀ {R : Type}, Nat → Int → Int → (List Int) → Int → Int → (List (List (Int × Int))) → Int → (List (List (Int × Int))) → Int → ((List Int) → Int → Int → (List (List (Int × Int))) → Int → (List (List (Int × Int))) → Int → Option R) → Option R) {R : Type} (n : Nat) (y6_0 : Int) (y6_1 : Int) (y6_2 : List Int) (y6_3 : Int) (y6_4 : Int) (y6_5 : List (List (Int × Int))) (y6_6 : Int) (y6_7 : List (List (Int × Int))) (y6_8 : Int) (kk : Ex → Pk → Option R) : Dspec_l1Cur_wheel_l6.step tt sig (mkK [(49, Kspec_NewWheel @spec_NewWheel n), (50, Kspec_l1Cur_one @spec_l1Cur_one n), (48, Kspec_l1Cur_pick @spec_l1Cur_pick n), (20, Kspec_AdvanceWheel @spec_AdvanceWheel n), (51, Kspec_DropTimer @spec_DropTimer n), (23, Kspec_l1Cur_among @spec_l1Cur_among n), (7, Kspec_SetTimer @spec_SetTimer n)] R) (mkL (mkK [(49, Kspec_NewWheel @spec_NewWheel n), (50, Kspec_l1Cur_one @spec_l1Cur_one n), (48, Kspec_l1Cur_pick @spec_l1Cur_pick n), (20, Kspec_AdvanceWheel @spec_AdvanceWheel n), (51, Kspec_DropTimer @spec_DropTimer n), (23, Kspec_l1Cur_among @spec_l1Cur_among n), (7, Kspec_SetTimer @spec_SetTimer n)]) [] R) (loopIn 6 (bodyOf Try.f22)) (fun q' => Pspec_l1Cur_wheel_l6 @spec_l1Cur_wheel_l6 n R q' kk) (PkS.pack Sspec_l1Cur_wheel_l6 (y6_0, y6_1, y6_2, y6_3, y6_4, y6_5, y6_6, y6_7, y6_8, ())) kk = (fun (kexit0 : (List Int) → Int → Int → (List (List (Int × Int))) → Int → (List (List (Int × Int))) → Int → Option R) => (bif (decide (y6_1 > 0)) then (spec_l1Cur_pick n 5 y6_2 y6_3 y6_4 fun r15 r16 r17 r18 => (bif (r15 == 0) then (spec_l1Cur_pick n 30 r16 r17 r18 fun r19 r20 r21 r22 => (spec_AdvanceWheel n y6_8 y6_7 (IntKind.wrap .i64 (y6_8 + r19)) fun r23 r24 r25 r26 r27 => (bif r25 then spec_l1Cur_wheel_l6 n y6_0 (IntKind.wrap .i64 (y6_1 - 1)) r20 r21 r22 y6_5 y6_6 r26 r23 kexit0 else spec_l1Cur_wheel_l6 n y6_0 (IntKind.wrap .i64 (y6_1 - 1)) r20 r21 r22 y6_5 y6_6 y6_7 y6_8 kexit0))) else (bif (r15 == 1) then (spec_l1Cur_pick n 10 r16 r17 r18 fun r28 r29 r30 r31 => (spec_DropTimer n y6_8 y6_7 r28 fun r32 r33 r34 => (bif r33 then spec_l1Cur_wheel_l6 n y6_0 (IntKind.wrap .i64 (y6_1 - 1)) r29 r30 r31 y6_5 y6_6 r34 r32 kexit0 else spec_l1Cur_wheel_l6 n y6_0 (IntKind.wrap .i64 (y6_1 - 1)) r29 r30 r31 y6_5 y6_6 y6_7 y6_8 kexit0))) else (spec_l1Cur_among n ([8, 60, 440]) r16 r17 r18 fun r35 r36 r37 r38 => (spec_l1Cur_pick n r35 r36 r37 r38 fun r39 r40 r41 r42 => (spec_SetTimer n y6_8 y6_7 (IntKind.wrap .i64 ((IntKind.wrap .i64 (y6_8 + 1)) + r39)) (IntKind.wrap .i64 (y6_0 + 1)) fun r43 r44 r45 => (bif r44 then spec_l1Cur_wheel_l6 n (IntKind.wrap .i64 (y6_0 + 1)) (IntKind.wrap .i64 (y6_1 - 1)) r40 r41 r42 y6_5 y6_6 r45 r43 kexit0 else spec_l1Cur_wheel_l6 n (IntKind.wrap .i64 (y6_0 + 1)) (IntKind.wrap .i64 (y6_1 - 1)) r40 r41 r42 y6_5 y6_6 y6_7 y6_8 kexit0))))))) else kexit0 y6_2 y6_3 y6_4 y6_5 y6_6 y6_7 y6_8)) (fun r0 r1 r2 r3 r4 r5 r6 => kk (.exit 0) (PkS.pack Tspec_l1Cur_wheel_l6_0 (r0, r1, r2, r3, r4, r5, r6, ()))) := by kernel_rfl
theorem lespec_l1Cur_wheel_l6 : LoopEq tt sig (fun n => mkK [(49, Kspec_NewWheel @spec_NewWheel n), (50, Kspec_l1Cur_one @spec_l1Cur_one n), (48, Kspec_l1Cur_pick @spec_l1Cur_pick n), (20, Kspec_AdvanceWheel @spec_AdvanceWheel n), (51, Kspec_DropTimer @spec_DropTimer n), (23, Kspec_l1Cur_among @spec_l1Cur_among n), (7, Kspec_SetTimer @spec_SetTimer n)]) (fun n => mkL (mkK [(49, Kspec_NewWheel @spec_NewWheel n), (50, Kspec_l1Cur_one @spec_l1Cur_one n), (48, Kspec_l1Cur_pick @spec_l1Cur_pick n), (20, Kspec_AdvanceWheel @spec_AdvanceWheel n), (51, Kspec_DropTimer @spec_DropTimer n), (23, Kspec_l1Cur_among @spec_l1Cur_among n), (7, Kspec_SetTimer @spec_SetTimer n)]) []) Dspec_l1Cur_wheel_l6 Sspec_l1Cur_wheel_l6 (loopIn 6 (bodyOf Try.f22)) (Pspec_l1Cur_wheel_l6 @spec_l1Cur_wheel_l6) where
  zero R q kk := by unfold Pspec_l1Cur_wheel_l6; cases (PkS.un Sspec_l1Cur_wheel_l6 q) <;> rfl
  succ n R q kk := by
    unfold Pspec_l1Cur_wheel_l6
    cases h : (PkS.un Sspec_l1Cur_wheel_l6 q) with
    | none => rfl
    | some d =>
      obtain ⟨y6_0, y6_1, y6_2, y6_3, y6_4, y6_5, y6_6, y6_7, y6_8, u⟩ := (d : Int × Int × (List Int) × Int × Int × (List (List (Int × Int))) × Int × (List (List (Int × Int))) × Int × Unit)
      have hp := PkS.un_pack h
      subst hp
      exact (espec_l1Cur_wheel_l6 @spec_NewWheel @spec_l1Cur_one @spec_l1Cur_pick @spec_AdvanceWheel @spec_DropTimer @spec_l1Cur_among @spec_SetTimer @spec_l1Cur_wheel_l6 n y6_0 y6_1 y6_2 y6_3 y6_4 y6_5 y6_6 y6_7 y6_8 kk).symm
theorem nlspec_l1Cur_wheel_l6 : ∀ n, NatLP (Pspec_l1Cur_wheel_l6 @spec_l1Cur_wheel_l6 n) := lespec_l1Cur_wheel_l6.nat (fun n => mkK_nat (cspec_l1Cur_wheel n)) fun n => mkL_nat (mkK_nat (cspec_l1Cur_wheel n)) (l := []) trivial
theorem inspec_l1Cur_wheel_l6 (n : Nat) (R : Type) : LoopsOk Try.prog (mkL (mkK [(49, Kspec_NewWheel @spec_NewWheel n), (50, Kspec_l1Cur_one @spec_l1Cur_one n), (48, Kspec_l1Cur_pick @spec_l1Cur_pick n), (20, Kspec_AdvanceWheel @spec_AdvanceWheel n), (51, Kspec_DropTimer @spec_DropTimer n), (23, Kspec_l1Cur_among @spec_l1Cur_among n), (7, Kspec_SetTimer @spec_SetTimer n)]) [] R) (loopIn 6 (bodyOf Try.f22)) := .eq (l := []) (by kernel_rfl) trivial
theorem lkspec_l1Cur_wheel_l6 (n : Nat) (R : Type) (L0 : LK R) (h0 : ∀ id, firstRegion (loopIn 6 (bodyOf Try.f22)) = some id → L0 id = Dspec_l1Cur_wheel_l6.oracle (mkK [(49, Kspec_NewWheel @spec_NewWheel n), (50, Kspec_l1Cur_one @spec_l1Cur_one n), (48, Kspec_l1Cur_pick @spec_l1Cur_pick n), (20, Kspec_AdvanceWheel @spec_AdvanceWheel n), (51, Kspec_DropTimer @spec_DropTimer n), (23, Kspec_l1Cur_among @spec_l1Cur_among n), (7, Kspec_SetTimer @spec_SetTimer n)] R) (Pspec_l1Cur_wheel_l6 @spec_l1Cur_wheel_l6 n R)) : LoopOk Try.prog L0 (loopIn 6 (bodyOf Try.f22)) :=
  lespec_l1Cur_wheel_l6.ok mixed ttok (fun n => mkK_nat (cspec_l1Cur_wheel n)) (fun n => mkK_ok (cspec_l1Cur_wheel n)) (fun n => inspec_l1Cur_wheel_l6 n R) (mkK_nat (cspec_l1Cur_wheel n)) h0
@[reducible] def Sspec_l1Cur_wheel : PkS := ⟨[.one (.box (200000, 0) 0)], [((200000, 0), .box [.ro (.int .u8), .int .i64, .int .u64])]⟩
@[reducible] def Tspec_l1Cur_wheel : PkS := ⟨[.agg [.int .i64, .mp (300000, 0)], .one (.box (300000, 1) 0)], [((300000, 0), .rr (.pr (.int .i64) (.int .i64))), ((300000, 1), .box [.ro (.int .u8), .int .i64, .int .u64])]⟩
def Hspec_l1Cur_wheel : List Sh := [.agg [.any, (.rr (.pr (.int .i64) (.int .i64)))], .box [(.ro (.int .u8)), .any, .any]]
def Kspec_l1Cur_wheel (g : ∀ {R : Type}, Nat → (List Int) → Int → Int → (Int → (List (List (Int × Int))) → (List Int) → Int → Int → Option R) → Option R) (n : Nat) : KPs := fun R p k => match (PkS.un Sspec_l1Cur_wheel p : Option ((List Int) × Int × Int × Unit)) with
  | some (x0, x1, x2, _) => g n x0 x1 x2 (fun r0 r1 r2 r3 r4 => k (PkS.pack Tspec_l1Cur_wheel (r0, r1, r2, r3, r4, ())))
  | none => none
theorem espec_l1Cur_wheel (spec_NewWheel : ∀ {R : Type}, Nat → (Int → (List (List (Int × Int))) → Option R) → Option R) (spec_l1Cur_one : ∀ {R : Type}, Nat → Int → (List Int) → Int → Int → (Bool → (List Int) → Int → Int → Option R) → Option R) (spec_l1Cur_pick : ∀ {R : Type}, Nat → Int → (List Int) → Int → Int → (Int → (List Int) → Int → Int → Option R) → Option R) (spec_AdvanceWheel : ∀ {R : Type}, Nat → Int → (List (List (Int × Int))) → Int → (Int → Int → Bool → (List (List (Int × Int))) → (List Int) → Option R) → Option R) (spec_DropTimer : ∀ {R : Type}, Nat → Int → (List (List (Int × Int))) → Int → (Int → Bool → (List (List (Int × Int))) → Option R) → Option R) (spec_l1Cur_among : ∀ {R : Type}, Nat → (List Int) → (List Int) → Int → Int → (Int → (List Int) → Int → Int → Option R) → Option R) (spec_SetTimer : ∀ {R : Type}, Nat → Int → (List (List (Int × Int))) → Int → Int → (Int → Bool → (List (List (Int × Int))) → Option R) → Option R) (spec_l1Cur_wheel_l6 : ∀ {R : Type}, Nat → Int → Int → (List Int) → Int → Int → (List (List (Int × Int))) → Int → (List (List (Int × Int))) → Int → ((List Int) → Int → Int → (List (List (Int × Int))) → Int → (List (List (Int × Int))) → Int → Option R) → Option R) {R : Type} (n : Nat) (x0 : List Int) (x1 : Int) (x2 : Int) (k : Pk → Option R) : evF tt sig (mkK [(49, Kspec_NewWheel @spec_NewWheel n), (50, Kspec_l1Cur_one @spec_l1Cur_one n), (48, Kspec_l1Cur_pick @spec_l1Cur_pick n), (20, Kspec_AdvanceWheel @spec_AdvanceWheel n), (51, Kspec_DropTimer @spec_DropTimer n), (23, Kspec_l1Cur_among @spec_l1Cur_among n), (7, Kspec_SetTimer @spec_SetTimer n)] R) (mkL (mkK [(49, Kspec_NewWheel @spec_NewWheel n), (50, Kspec_l1Cur_one @spec_l1Cur_one n), (48, Kspec_l1Cur_pick @spec_l1Cur_pick n), (20, Kspec_AdvanceWheel @spec_AdvanceWheel n), (51, Kspec_DropTimer @spec_DropTimer n), (23, Kspec_l1Cur_among @spec_l1Cur_among n), (7, Kspec_SetTimer @spec_SetTimer n)]) [(6, Dspec_l1Cur_wheel_l6, Pspec_l1Cur_wheel_l6 @spec_l1Cur_wheel_l6 n)] R) Try.f22 Hspec_l1Cur_wheel (PkS.pack Sspec_l1Cur_wheel (x0, x1, x2, ())) k = (fun (k : Int → (List (List (Int × Int))) → (List Int) → Int → Int → Option R) => (spec_NewWheel n fun r1 r2 => (spec_l1Cur_one n 2 x0 x1 x2 fun r3 r4 r5 r6 => (bif r3 then (spec_l1Cur_pick n 600 r4 r5 r6 fun r7 r8 r9 r10 => (spec_l1Cur_pick n 14 r8 r9 r10 fun r11 r12 r13 r14 => (spec_l1Cur_wheel_l6 n 0 r11 r12 r13 r14 ([] : List (List (Int × Int))) 0 r2 r7 (fun r46 r47 r48 r49 r50 r51 r52 => (spec_l1Cur_pick n 40 r46 r47 r48 fun r53 r54 r55 r56 => (bif (r53 == 0) then (spec_l1Cur_pick n 9 r54 r55 r56 fun r57 r58 r59 r60 => k (IntKind.wrap .i64 (r52 + r57)) r51 r58 r59 r60) else (bif (r53 == 1) then (spec_l1Cur_pick n (r51.length : Int) r54 r55 r56 fun r61 r62 r63 r64 => (bif decide (0 ≤ r61) then (bif decide (r61 < (r51.length : Int)) then (spec_l1Cur_pick n 9 r62 r63 r64 fun r65 r66 r67 r68 => (bif decide ((r51.getD (Int.toNat r61) []).length + ([((IntKind.wrap .i64 (r52 + r65)), 99)]).length ≤ LIM) then (bif decide (0 ≤ r61) then (bif decide (r61 < ((r51.set (Int.toNat r61) []).length : Int)) then (bif Nat.beq (Int.toNat r61) (Int.toNat r61) then k r52 ((r51.set (Int.toNat r61) []).set (Int.toNat r61) ((r51.getD (Int.toNat r61) []) ++ [((IntKind.wrap .i64 (r52 + r65)), 99)])) r66 r67 r68 else none) else none) else none) else none)) else none) else none)) else k r52 r51 r54 r55 r56))))))) else (spec_l1Cur_pick n 14 r4 r5 r6 fun r69 r70 r71 r72 => (spec_l1Cur_wheel_l6 n 0 r69 r70 r71 r72 ([] : List (List (Int × Int))) 0 r2 r1 (fun r73 r74 r75 r76 r77 r78 r79 => (spec_l1Cur_pick n 40 r73 r74 r75 fun r80 r81 r82 r83 => (bif (r80 == 0) then (spec_l1Cur_pick n 9 r81 r82 r83 fun r84 r85 r86 r87 => k (IntKind.wrap .i64 (r79 + r84)) r78 r85 r86 r87) else (bif (r80 == 1) then (spec_l1Cur_pick n (r78.length : Int) r81 r82 r83 fun r88 r89 r90 r91 => (bif decide (0 ≤ r88) then (bif decide (r88 < (r78.length : Int)) then (spec_l1Cur_pick n 9 r89 r90 r91 fun r92 r93 r94 r95 => (bif decide ((r78.getD (Int.toNat r88) []).length + ([((IntKind.wrap .i64 (r79 + r92)), 99)]).length ≤ LIM) then (bif decide (0 ≤ r88) then (bif decide (r88 < ((r78.set (Int.toNat r88) []).length : Int)) then (bif Nat.beq (Int.toNat r88) (Int.toNat r88) then k r79 ((r78.set (Int.toNat r88) []).set (Int.toNat r88) ((r78.getD (Int.toNat r88) []) ++ [((IntKind.wrap .i64 (r79 + r92)), 99)])) r93 r94 r95 else none) else none) else none) else none)) else none) else none)) else k r79 r78 r81 r82 r83)))))))))) (fun r0 r1 r2 r3 r4 => k (PkS.pack Tspec_l1Cur_wheel (r0, r1, r2, r3, r4, ()))) := by kernel_rfl
theorem okspec_l1Cur_wheel (n : Nat) : FnOk Try.prog 22 (Kspec_l1Cur_wheel @spec_l1Cur_wheel n) := by
  refine fn_ok (sig := sig) mixed ttok (mkK_nat (cspec_l1Cur_wheel n)) (mkK_ok (cspec_l1Cur_wheel n)) (mkL_nat (mkK_nat (cspec_l1Cur_wheel n)) (l := [(6, Dspec_l1Cur_wheel_l6, Pspec_l1Cur_wheel_l6 @spec_l1Cur_wheel_l6 n)]) ⟨nlspec_l1Cur_wheel_l6 n, trivial⟩) (fn := Try.f22) (c := bodyOf Try.f22) (by kernel_rfl) (by kernel_rfl) (by kernel_rfl) (.eq (l := [.lo (loopIn 6 (bodyOf Try.f22))]) (by kernel_rfl) ⟨(lkspec_l1Cur_wheel_l6 n _ _ (at_id (i := 6) (by kernel_rfl) rfl)), trivial⟩) (shs := Hspec_l1Cur_wheel) (S := Sspec_l1Cur_wheel) (h1 := by kernel_rfl) fun R p k => ?_
  unfold Kspec_l1Cur_wheel
  cases h : (PkS.un Sspec_l1Cur_wheel p) with
  | none => rfl
  | some d =>
    obtain ⟨x0, x1, x2, u⟩ := (d : (List Int) × Int × Int × Unit)
    have hp := PkS.un_pack h
    subst hp
    exact (espec_l1Cur_wheel @spec_NewWheel @spec_l1Cur_one @spec_l1Cur_pick @spec_AdvanceWheel @spec_DropTimer @spec_l1Cur_among @spec_SetTimer @spec_l1Cur_wheel_l6 n x0 x1 x2 k).symm

/-! ### loop.example/g00269/spec.DrawSetTimer -/
theorem cspec_DrawSetTimer (n : Nat) : AllOk Try.prog [(22, Kspec_l1Cur_wheel @spec_l1Cur_wheel n), (23, Kspec_l1Cur_among @spec_l1Cur_among n)] := ⟨okspec_l1Cur_wheel n, ⟨okspec_l1Cur_among n, trivial⟩⟩
@[reducible] def Sspec_DrawSetTimer : PkS := ⟨[.one (.ro (.int .u8))], []⟩
@[reducible] def Tspec_DrawSetTimer : PkS := ⟨[.tup [(true, [.int .i64, .mp (300000, 0)]), (true, [.int .i64, .int .i64])], .one (.dead)], [((300000, 0), .rr (.pr (.int .i64) (.int .i64)))]⟩
def Hspec_DrawSetTimer : List Sh := [.tup [(true, [.any, (.rr (.pr (.int .i64) (.int .i64)))]), (true, [.any, .any])], .skip]
def Kspec_DrawSetTimer (g : ∀ {R : Type}, Nat → (List Int) → (Int → Int → Int → (List (List (Int × Int))) → Option R) → Option R) (n : Nat) : KPs := fun R p k => match (PkS.un Sspec_DrawSetTimer p : Option ((List Int) × Unit)) with
  | some (x0, _) => g n x0 (fun r0 r1 r2 r3 => k (PkS.pack Tspec_DrawSetTimer (r0, r1, r2, r3, ())))
  | none => none
theorem espec_DrawSetTimer (spec_l1Cur_wheel : ∀ {R : Type}, Nat → (List Int) → Int → Int → (Int → (List (List (Int × Int))) → (List Int) → Int → Int → Option R) → Option R) (spec_l1Cur_among : ∀ {R : Type}, Nat → (List Int) → (List Int) → Int → Int → (Int → (List Int) → Int → Int → Option R) → Option R) {R : Type} (n : Nat) (x0 : List Int) (k : Pk → Option R) : evF tt sig (mkK [(22, Kspec_l1Cur_wheel @spec_l1Cur_wheel n), (23, Kspec_l1Cur_among @spec_l1Cur_among n)] R) (mkL (mkK [(22, Kspec_l1Cur_wheel @spec_l1Cur_wheel n), (23, Kspec_l1Cur_among @spec_l1Cur_among n)]) [] R) Try.f5 Hspec_DrawSetTimer (PkS.pack Sspec_DrawSetTimer (x0, ())) k = (fun (k : Int → Int → Int → (List (List (Int × Int))) → Option R) => (spec_l1Cur_wheel n x0 0 0 fun r1 r2 r3 r4 r5 => (spec_l1Cur_among n ([0, 1, 7, 8, 63, 64, 440, 511, 512]) r3 r4 r5 fun r6 r7 r8 r9 => (spec_l1Cur_among n ([500, 1, 2, 1000, 1001]) r7 r8 r9 fun r10 r11 r12 r13 => k r1 (IntKind.wrap .i64 (r1 + r6)) r10 r2)))) (fun r0 r1 r2 r3 => k (PkS.pack Tspec_DrawSetTimer (r0, r1, r2, r3, ()))) := by kernel_rfl
theorem okspec_DrawSetTimer (n : Nat) : FnOk Try.prog 5 (Kspec_DrawSetTimer @spec_DrawSetTimer n) := by
  refine fn_ok (sig := sig) mixed ttok (mkK_nat (cspec_DrawSetTimer n)) (mkK_ok (cspec_DrawSetTimer n)) (mkL_nat (mkK_nat (cspec_DrawSetTimer n)) (l := []) trivial) (fn := Try.f5) (c := bodyOf Try.f5) (by kernel_rfl) (by kernel_rfl) (by kernel_rfl) (.eq (l := []) (by kernel_rfl) trivial) (shs := Hspec_DrawSetTimer) (S := Sspec_DrawSetTimer) (h1 := by kernel_rfl) fun R p k => ?_
  unfold Kspec_DrawSetTimer
  cases h : (PkS.un Sspec_DrawSetTimer p) with
  | none => rfl
  | some d =>
    obtain ⟨x0, u⟩ := (d : (List Int) × Unit)
    have hp := PkS.un_pack h
    subst hp
    exact (espec_DrawSetTimer @spec_l1Cur_wheel @spec_l1Cur_among n x0 k).symm

/-! ### loop.example/g00269/impl.in -/
theorem cimpl_in (n : Nat) : AllOk Try.prog [] := trivial
@[reducible] def Simpl_in : PkS := ⟨[.one (.int .i64), .one (.int .i64), .one (.int .i64)], []⟩
@[reducible] def Timpl_in : PkS := ⟨[.one (.bool), .one (.dead), .one (.dead), .one (.dead)], []⟩
def Himpl_in : List Sh := [.one .any, .skip, .skip, .skip]
def Kimpl_in (g : ∀ {R : Type}, Nat → Int → Int → Int → (Bool → Option R) → Option R) (n : Nat) : KPs := fun R p k => match (PkS.un Simpl_in p : Option (Int × Int × Int × Unit)) with
  | some (x0, x1, x2, _) => g n x0 x1 x2 (fun r0 => k (PkS.pack Timpl_in (r0, ())))
  | none => none
theorem eimpl_in  {R : Type} (n : Nat) (x0 : Int) (x1 : Int) (x2 : Int) (k : Pk → Option R) : evF tt sig (mkK [] R) (mkL (mkK []) [] R) Try.f24 Himpl_in (PkS.pack Simpl_in (x0, x1, x2, ())) k = (fun (k : Bool → Option R) => (bif (decide (x0 ≥ x1)) then k (decide (x0 ≤ x2)) else k false)) (fun r0 => k (PkS.pack Timpl_in (r0, ()))) := by kernel_rfl
theorem okimpl_in (n : Nat) : FnOk Try.prog 24 (Kimpl_in @impl_in n) := by
  refine fn_ok (sig := sig) mixed ttok (mkK_nat (cimpl_in n)) (mkK_ok (cimpl_in n)) (mkL_nat (mkK_nat (cimpl_in n)) (l := []) trivial) (fn := Try.f24) (c := bodyOf Try.f24) (by kernel_rfl) (by kernel_rfl) (by kernel_rfl) (.eq (l := []) (by kernel_rfl) trivial) (shs := Himpl_in) (S := Simpl_in) (h1 := by kernel_rfl) fun R p k => ?_
  unfold Kimpl_in
  cases h : (PkS.un Simpl_in p) with
  | none => rfl
  | some d =>
    obtain ⟨x0, x1, x2, u⟩ := (d : Int × Int × Int × Unit)
    have hp := PkS.un_pack h
    subst hp
    exact (eimpl_in  n x0 x1 x2 k).symm

/-! ### loop.example/g00269/impl.isNow -/
theorem cimpl_isNow (n : Nat) : AllOk Try.prog [(24, Kimpl_in @impl_in n)] := ⟨okimpl_in n, trivial⟩
@[reducible] def Simpl_isNow : PkS := ⟨[.one (.int .i64)], []⟩
@[reducible] def Timpl_isNow : PkS := ⟨[.one (.bool), .one (.dead)], []⟩
def Himpl_isNow : List Sh := [.one .any, .skip]
def Kimpl_isNow (g : ∀ {R : Type}, Nat → Int → (Bool → Option R) → Option R) (n : Nat) : KPs := fun R p k => match (PkS.un Simpl_isNow p : Option (Int × Unit)) with
  | some (x0, _) => g n x0 (fun r0 => k (PkS.pack Timpl_isNow (r0, ())))
  | none => none
theorem eimpl_isNow (impl_in : ∀ {R : Type}, Nat → Int → Int → Int → (Bool → Option R) → Option R) {R : Type} (n : Nat) (x0 : Int) (k : Pk → Option R) : evF tt sig (mkK [(24, Kimpl_in @impl_in n)] R) (mkL (mkK [(24, Kimpl_in @impl_in n)]) [] R) Try.f35 Himpl_isNow (PkS.pack Simpl_isNow (x0, ())) k = (fun (k : Bool → Option R) => (impl_in n x0 0 100000 fun r1 => k r1)) (fun r0 => k (PkS.pack Timpl_isNow (r0, ()))) := by kernel_rfl
theorem okimpl_isNow (n : Nat) : FnOk Try.prog 35 (Kimpl_isNow @impl_isNow n) := by
  refine fn_ok (sig := sig) mixed ttok (mkK_nat (cimpl_isNow n)) (mkK_ok (cimpl_isNow n)) (mkL_nat (mkK_nat (cimpl_isNow n)) (l := []) trivial) (fn := Try.f35) (c := bodyOf Try.f35) (by kernel_rfl) (by kernel_rfl) (by kernel_rfl) (.eq (l := []) (by kernel_rfl) trivial) (shs := Himpl_isNow) (S := Simpl_isNow) (h1 := by kernel_rfl) fun R p k => ?_
  unfold Kimpl_isNow
  cases h : (PkS.un Simpl_isNow p) with
  | none => rfl
  | some d =>
    obtain ⟨x0, u⟩ := (d : Int × Unit)
    have hp := PkS.un_pack h
    subst hp
    exact (eimpl_isNow @impl_in n x0 k).symm

/-! ### loop.example/g00269/impl.reach -/
theorem cimpl_reach (n : Nat) : AllOk Try.prog [] := trivial
@[reducible] def Simpl_reach : PkS := ⟨[.one (.int .i64), .one (.int .i64)], []⟩
@[reducible] def Timpl_reach : PkS := ⟨[.one (.bool), .one (.dead), .one (.dead)], []⟩
def Himpl_reach : List Sh := [.one .any, .skip, .skip]
def Kimpl_reach (g : ∀ {R : Type}, Nat → Int → Int → (Bool → Option R) → Option R) (n : Nat) : KPs := fun R p k => match (PkS.un Simpl_reach p : Option (Int × Int × Unit)) with
  | some (x0, x1, _) => g n x0 x1 (fun r0 => k (PkS.pack Timpl_reach (r0, ())))
  | none => none
theorem eimpl_reach  {R : Type} (n : Nat) (x0 : Int) (x1 : Int) (k : Pk → Option R) : evF tt sig (mkK [] R) (mkL (mkK []) [] R) Try.f25 Himpl_reach (PkS.pack Simpl_reach (x0, x1, ())) k = (fun (k : Bool → Option R) => (bif (decide (x1 > x0)) then k (decide (x1 < (IntKind.wrap .i64 (x0 + 512)))) else k false)) (fun r0 => k (PkS.pack Timpl_reach (r0, ()))) := by kernel_rfl
theorem okimpl_reach (n : Nat) : FnOk Try.prog 25 (Kimpl_reach @impl_reach n) := by
  refine fn_ok (sig := sig) mixed ttok (mkK_nat (cimpl_reach n)) (mkK_ok (cimpl_reach n)) (mkL_nat (mkK_nat (cimpl_reach n)) (l := []) trivial) (fn := Try.f25) (c := bodyOf Try.f25) (by kernel_rfl) (by kernel_rfl) (by kernel_rfl) (.eq (l := []) (by kernel_rfl) trivial) (shs := Himpl_reach) (S := Simpl_reach) (h1 := by kernel_rfl) fun R p k => ?_
  unfold Kimpl_reach
  cases h : (PkS.un Simpl_reach p) with
  | none => rfl
  | some d =>
    obtain ⟨x0, x1, u⟩ := (d : Int × Int × Unit)
    have hp := PkS.un_pack h
    subst hp
    exact (eimpl_reach  n x0 x1 k).symm

/-! ### loop.example/g00269/impl.units -/
theorem cimpl_units (n : Nat) : AllOk Try.prog [] := trivial
@[reducible] def Simpl_units_l3 : PkS := ⟨[.one (.int .i64), .one (.int .i64), .one (.int .i64), .one (.dead)], []⟩
@[reducible] def Timpl_units_l3_0 : PkS := ⟨[.one (.int .i64), .one (.dead)], []⟩
def Dimpl_units_l3 : LoopD := ⟨11, [3, 4, 5], [.one .any, .one .any, .one .any, .skip], fun x => match x with
  | .exit 0 => some ([3], [.one .any, .skip])
  | _ => none⟩
def Pimpl_units_l3 (g : ∀ {R : Type}, Nat → Int → Int → Int → (Int → Option R) → Option R) (n : Nat) : LPs := fun R q kk => match (PkS.un Simpl_units_l3 q : Option (Int × Int × Int × Unit)) with
  | some (y3_0, y3_1, y3_2, _) => g n y3_0 y3_1 y3_2 (fun r0 => kk (.exit 0) (PkS.pack Timpl_units_l3_0 (r0, ())))
  | none => none
theorem eimpl_units_l3 (impl_units_l3 : ∀ {R : Type}, Nat → Int → Int → Int → (Int → Option R) → Option R) {R : Type} (n : Nat) (y3_0 : Int) (y3_1 : Int) (y3_2 : Int) (kk : Ex → Pk → Option R) : Dimpl_units_l3.step tt sig (mkK [] R) (mkL (mkK []) [] R) (loopIn 3 (bodyOf Try.f63)) (fun q' => Pimpl_units_l3 @impl_units_l3 n R q' kk) (PkS.pack Simpl_units_l3 (y3_0, y3_1, y3_2, ())) kk = (fun (kexit0 : Int → Option R) => (bif (decide (y3_2 < y3_1)) then impl_units_l3 n (IntKind.wrap .i64 (y3_0 * 8)) y3_1 (IntKind.wrap .i64 (y3_2 + 1)) kexit0 else kexit0 y3_0)) (fun r0 => kk (.exit 0) (PkS.pack Timpl_units_l3_0 (r0, ()))) := by kernel_rfl
theorem leimpl_units_l3 : LoopEq tt sig (fun n => mkK []) (fun n => mkL (mkK []) []) Dimpl_units_l3 Simpl_units_l3 (loopIn 3 (bodyOf Try.f63)) (Pimpl_units_l3 @impl_units_l3) where
  zero R q kk := by unfold Pimpl_units_l3; cases (PkS.un Simpl_units_l3 q) <;> rfl
  succ n R q kk := by
    unfold Pimpl_units_l3
    cases h : (PkS.un Simpl_units_l3 q) with
    | none => rfl
    | some d =>
      obtain ⟨y3_0, y3_1, y3_2, u⟩ := (d : Int × Int × Int × Unit)
      have hp := PkS.un_pack h
      subst hp
      exact (eimpl_units_l3 @impl_units_l3 n y3_0 y3_1 y3_2 kk).symm
theorem nlimpl_units_l3 : ∀ n, NatLP (Pimpl_units_l3 @impl_units_l3 n) := leimpl_units_l3.nat (fun n => mkK_nat (cimpl_units n)) fun n => mkL_nat (mkK_nat (cimpl_units n)) (l := []) trivial
theorem inimpl_units_l3 (n : Nat) (R : Type) : LoopsOk Try.prog (mkL (mkK []) [] R) (loopIn 3 (bodyOf Try.f63)) := .eq (l := []) (by kernel_rfl) trivial
theorem lkimpl_units_l3 (n : Nat) (R : Type) (L0 : LK R) (h0 : ∀ id, firstRegion (loopIn 3 (bodyOf Try.f63)) = some id → L0 id = Dimpl_units_l3.oracle (mkK [] R) (Pimpl_units_l3 @impl_units_l3 n R)) : LoopOk Try.prog L0 (loopIn 3 (bodyOf Try.f63)) :=
  leimpl_units_l3.ok mixed ttok (fun n => mkK_nat (cimpl_units n)) (fun n => mkK_ok (cimpl_units n)) (fun n => inimpl_units_l3 n R) (mkK_nat (cimpl_units n)) h0
@[reducible] def Simpl_units : PkS := ⟨[.one (.int .i64)], []⟩
@[reducible] def Timpl_units : PkS := ⟨[.one (.int .i64), .one (.dead)], []⟩
def Himpl_units : List Sh := [.one .any, .skip]
def Kimpl_units (g : ∀ {R : Type}, Nat → Int → (Int → Option R) → Option R) (n : Nat) : KPs := fun R p k => match (PkS.un Simpl_units p : Option (Int × Unit)) with
  | some (x0, _) => g n x0 (fun r0 => k (PkS.pack Timpl_units (r0, ())))
  | none => none
theorem eimpl_units (impl_units_l3 : ∀ {R : Type}, Nat → Int → Int → Int → (Int → Option R) → Option R) {R : Type} (n : Nat) (x0 : Int) (k : Pk → Option R) : evF tt sig (mkK [] R) (mkL (mkK []) [(3, Dimpl_units_l3, Pimpl_units_l3 @impl_units_l3 n)] R) Try.f63 Himpl_units (PkS.pack Simpl_units (x0, ())) k = (fun (k : Int → Option R) => (impl_units_l3 n 1 x0 0 (fun r1 => k r1))) (fun r0 => k (PkS.pack Timpl_units (r0, ()))) := by kernel_rfl
theorem okimpl_units (n : Nat) : FnOk Try.prog 63 (Kimpl_units @impl_units n) := by
  refine fn_ok (sig := sig) mixed ttok (mkK_nat (cimpl_units n)) (mkK_ok (cimpl_units n)) (mkL_nat (mkK_nat (cimpl_units n)) (l := [(3, Dimpl_units_l3, Pimpl_units_l3 @impl_units_l3 n)]) ⟨nlimpl_units_l3 n, trivial⟩) (fn := Try.f63) (c := bodyOf Try.f63) (by kernel_rfl) (by kernel_rfl) (by kernel_rfl) (.eq (l := [.lo (loopIn 3 (bodyOf Try.f63))]) (by kernel_rfl) ⟨(lkimpl_units_l3 n _ _ (at_id (i := 3) (by kernel_rfl) rfl)), trivial⟩) (shs := Himpl_units) (S := Simpl_units) (h1 := by kernel_rfl) fun R p k => ?_
  unfold Kimpl_units
  cases h : (PkS.un Simpl_units p) with
  | none => rfl
  | some d =>
    obtain ⟨x0, u⟩ := (d : Int × Unit)
    have hp := PkS.un_pack h
    subst hp
    exact (eimpl_units @impl_units_l3 n x0 k).symm

/-! ### loop.example/g00269/impl.fitsLevel -/
theorem cimpl_fitsLevel (n : Nat) : AllOk Try.prog [(63, Kimpl_units @impl_units n), (24, Kimpl_in @impl_in n)] := ⟨okimpl_units n, ⟨okimpl_in n, trivial⟩⟩
@[reducible] def Simpl_fitsLevel : PkS := ⟨[.one (.int .i64), .one (.int .i64), .one (.int .i64)], []⟩
@[reducible] def Timpl_fitsLevel : PkS := ⟨[.one (.bool), .one (.dead), .one (.dead), .one (.dead)], []⟩
def Himpl_fitsLevel : List Sh := [.one .any, .skip, .skip, .skip]
def Kimpl_fitsLevel (g : ∀ {R : Type}, Nat → Int → Int → Int → (Bool → Option R) → Option R) (n : Nat) : KPs := fun R p k => match (PkS.un Simpl_fitsLevel p : Option (Int × Int × Int × Unit)) with
  | some (x0, x1, x2, _) => g n x0 x1 x2 (fun r0 => k (PkS.pack Timpl_fitsLevel (r0, ())))
  | none => none
theorem eimpl_fitsLevel (impl_units : ∀ {R : Type}, Nat → Int → (Int → Option R) → Option R) (impl_in : ∀ {R : Type}, Nat → Int → Int → Int → (Bool → Option R) → Option R) {R : Type} (n : Nat) (x0 : Int) (x1 : Int) (x2 : Int) (k : Pk → Option R) : evF tt sig (mkK [(63, Kimpl_units @impl_units n), (24, Kimpl_in @impl_in n)] R) (mkL (mkK [(63, Kimpl_units @impl_units n), (24, Kimpl_in @impl_in n)]) [] R) Try.f43 Himpl_fitsLevel (PkS.pack Simpl_fitsLevel (x0, x1, x2, ())) k = (fun (k : Bool → Option R) => (impl_units n x2 fun r1 => (bif decide (r1 ≠ 0) then (impl_units n x2 fun r2 => (bif decide (r2 ≠ 0) then (impl_in n (IntKind.wrap .i64 ((IntKind.wrap .i64 (Int.tdiv x1 r1)) - (IntKind.wrap .i64 (Int.tdiv x0 r2)))) 1 7 fun r3 => k r3) else none)) else none))) (fun r0 => k (PkS.pack Timpl_fitsLevel (r0, ()))) := by kernel_rfl
theorem okimpl_fitsLevel (n : Nat) : FnOk Try.prog 43 (Kimpl_fitsLevel @impl_fitsLevel n) := by
  refine fn_ok (sig := sig) mixed ttok (mkK_nat (cimpl_fitsLevel n)) (mkK_ok (cimpl_fitsLevel n)) (mkL_nat (mkK_nat (cimpl_fitsLevel n)) (l := []) trivial) (fn := Try.f43) (c := bodyOf Try.f43) (by kernel_rfl) (by kernel_rfl) (by kernel_rfl) (.eq (l := []) (by kernel_rfl) trivial) (shs := Himpl_fitsLevel) (S := Simpl_fitsLevel) (h1 := by kernel_rfl) fun R p k => ?_
  unfold Kimpl_fitsLevel
  cases h : (PkS.un Simpl_fitsLevel p) with
  | none => rfl
  | some d =>
    obtain ⟨x0, x1, x2, u⟩ := (d : Int × Int × Int × Unit)
    have hp := PkS.un_pack h
    subst hp
    exact (eimpl_fitsLevel @impl_units @impl_in n x0 x1 x2 k).symm

/-! ### loop.example/g00269/impl.slotAt -/
theorem cimpl_slotAt (n : Nat) : AllOk Try.prog [(63, Kimpl_units @impl_units n)] := ⟨okimpl_units n, trivial⟩
@[reducible] def Simpl_slotAt : PkS := ⟨[.one (.int .i64), .one (.int .i64)], []⟩
@[reducible] def Timpl_slotAt : PkS := ⟨[.one (.int .i64), .one (.dead), .one (.dead)], []⟩
def Himpl_slotAt : List Sh := [.one .any, .skip, .skip]
def Kimpl_slotAt (g : ∀ {R : Type}, Nat → Int → Int → (Int → Option R) → Option R) (n : Nat) : KPs := fun R p k => match (PkS.un Simpl_slotAt p : Option (Int × Int × Unit)) with
  | some (x0, x1, _) => g n x0 x1 (fun r0 => k (PkS.pack Timpl_slotAt (r0, ())))
  | none => none
theorem eimpl_slotAt (impl_units : ∀ {R : Type}, Nat → Int → (Int → Option R) → Option R) {R : Type} (n : Nat) (x0 : Int) (x1 : Int) (k : Pk → Option R) : evF tt sig (mkK [(63, Kimpl_units @impl_units n)] R) (mkL (mkK [(63, Kimpl_units @impl_units n)]) [] R) Try.f44 Himpl_slotAt (PkS.pack Simpl_slotAt (x0, x1, ())) k = (fun (k : Int → Option R) => (impl_units n x1 fun r1 => (bif decide (r1 ≠ 0) then k (IntKind.wrap .i64 ((IntKind.wrap .i64 (x1 * 8)) + (Int.tmod (IntKind.wrap .i64 (Int.tdiv x0 r1)) 8))) else none))) (fun r0 => k (PkS.pack Timpl_slotAt (r0, ()))) := by kernel_rfl
theorem okimpl_slotAt (n : Nat) : FnOk Try.prog 44 (Kimpl_slotAt @impl_slotAt n) := by
  refine fn_ok (sig := sig) mixed ttok (mkK_nat (cimpl_slotAt n)) (mkK_ok (cimpl_slotAt n)) (mkL_nat (mkK_nat (cimpl_slotAt n)) (l := []) trivial) (fn := Try.f44) (c := bodyOf Try.f44) (by kernel_rfl) (by kernel_rfl) (by kernel_rfl) (.eq (l := []) (by kernel_rfl) trivial) (shs := Himpl_slotAt) (S := Simpl_slotAt) (h1 := by kernel_rfl) fun R p k => ?_
  unfold Kimpl_slotAt
  cases h : (PkS.un Simpl_slotAt p) with
  | none => rfl
  | some d =>
    obtain ⟨x0, x1, u⟩ := (d : Int × Int × Unit)
    have hp := PkS.un_pack h
    subst hp
    exact (eimpl_slotAt @impl_units n x0 x1 k).symm

/-! ### loop.example/g00269/impl.GoodWheel -/
theorem cimpl_GoodWheel (n : Nat) : AllOk Try.prog [(35, Kimpl_isNow @impl_isNow n), (25, Kimpl_reach @impl_reach n), (43, Kimpl_fitsLevel @impl_fitsLevel n), (44, Kimpl_slotAt @impl_slotAt n), (24, Kimpl_in @impl_in n)] := ⟨okimpl_isNow n, ⟨okimpl_reach n, ⟨okimpl_fitsLevel n, ⟨okimpl_slotAt n, ⟨okimpl_in n, trivial⟩⟩⟩⟩⟩
@[reducible] def Simpl_GoodWheel_l9 : PkS := ⟨[.one (.box (100000, 0) 0), .one (.mp (100000, 1)), .one (.int .i64), .one (.int .i64), .one (.ro (.sl (.pr (.int .i64) (.int .i64)))), .one (.int .i64), .one (.int .i64), .one (.ro (.pr (.int .i64) (.int .i64))), .one (.int .i64), .one (.int .i64), .one (.dead)], [((100000, 0), .box [.int .i64, .ro (.sl (.pr (.int .i64) (.int .i64)))]), ((100000, 1), .si)]⟩
@[reducible] def Timpl_GoodWheel_l9_0 : PkS := ⟨[.one (.bool), .one (.dead)], []⟩
@[reducible] def Timpl_GoodWheel_l9_1 : PkS := ⟨[.one (.box (100000, 0) 0), .one (.mp (100000, 1)), .one (.ro (.sl (.pr (.int .i64) (.int .i64)))), .one (.int .i64), .one (.int .i64), .one (.dead)], [((100000, 0), .box [.int .i64, .ro (.sl (.pr (.int .i64) (.int .i64)))]), ((100000, 1), .si)]⟩
def Dimpl_GoodWheel_l9 : LoopD := ⟨80, [1, 3, 4, 6, 22, 23, 24, 31, 32, 33], [.box [.any, (.ro (.sl (.pr (.int .i64) (.int .i64))))], .one .map, .one .any, .one .any, .one (.ro (.sl (.pr (.int .i64) (.int .i64)))), .one .any, .one .any, .one (.ro (.pr (.int .i64) (.int .i64))), .one .any, .one .any, .skip], fun x => match x with
  | .ret => some ([2], [.one .any, .skip])
  | .exit 2 => some ([1, 3, 22, 23, 24], [.box [.any, (.ro (.sl (.pr (.int .i64) (.int .i64))))], .one .map, .one (.ro (.sl (.pr (.int .i64) (.int .i64)))), .one .any, .one .any, .skip])
  | _ => none⟩
def Pimpl_GoodWheel_l9 (g : ∀ {R : Type}, Nat → Int → Int → (List (List (Int × Int))) → Int → Int → (List (Int × Int)) → Int → Int → Int → (List (List (Int × Int))) → (List Int) → (Bool → Option R) → ((List (List (Int × Int))) → Int → Int → Int → (List (List (Int × Int))) → (List Int) → Option R) → Option R) (n : Nat) : LPs := fun R q kk => match (PkS.un Simpl_GoodWheel_l9 q : Option (Int × Int × (List (List (Int × Int))) × Int × Int × (List (Int × Int)) × Int × Int × Int × (List (List (Int × Int))) × (List Int) × Unit)) with
  | some (y9_0, y9_1, y9_2, y9_3, y9_4, y9_5, y9_6, y9_7, y9_8, y9_9, y9_10, _) => g n y9_0 y9_1 y9_2 y9_3 y9_4 y9_5 y9_6 y9_7 y9_8 y9_9 y9_10 (fun r0 => kk .ret (PkS.pack Timpl_GoodWheel_l9_0 (r0, ()))) (fun r0 r1 r2 r3 r4 r5 => kk (.exit 2) (PkS.pack Timpl_GoodWheel_l9_1 (r0, r1, r2, r3, r4, r5, ())))
  | none => none
theorem eimpl_GoodWheel_l9 (impl_isNow : ∀ {R : Type}, Nat → Int → (Bool → Option R) → Option R) (impl_reach : ∀ {R : Type}, Nat → Int → Int → (Bool → Option R) → Option R) (impl_fitsLevel : ∀ {R : Type}, Nat → Int → Int → Int → (Bool → Option R) → Option R) (impl_slotAt : ∀ {R : Type}, Nat → Int → Int → (Int → Option R) → Option R) (impl_in : ∀ {R : Type}, Nat → Int → Int → Int → (Bool → Option R) → Option R) (impl_GoodWheel_l9 : ∀ {R : Type}, Nat → Int → Int → (List (List (Int × Int))) → Int → Int → (List (Int × Int)) → Int → Int → Int → (List (List (Int × Int))) → (List Int) → (Bool → Option R) → ((List (List (Int × Int))) → Int → Int → Int → (List (List (Int × Int))) → (List Int) → Option R) → Option R) {R : Type} (n : Nat) (y9_0 : Int) (y9_1 : Int) (y9_2 : List (List (Int × Int))) (y9_3 : Int) (y9_4 : Int) (y9_5 : List (Int × Int)) (y9_6 : Int) (y9_7 : Int) (y9_8 : Int) (y9_9 : List (List (Int × Int))) (y9_10 : List Int) (kk : Ex → Pk → Option R) : Dimpl_GoodWheel_l9.step tt sig (mkK [(35, Kimpl_isNow @impl_isNow n), (25, Kimpl_reach @impl_reach n), (43, Kimpl_fitsLevel @impl_fitsLevel n), (44, Kimpl_slotAt @impl_slotAt n), (24, Kimpl_in @impl_in n)] R) (mkL (mkK [(35, Kimpl_isNow @impl_isNow n), (25, Kimpl_reach @impl_reach n), (43, Kimpl_fitsLevel @impl_fitsLevel n), (44, Kimpl_slotAt @impl_slotAt n), (24, Kimpl_in @impl_in n)]) [] R) (loopIn 9 (bodyOf Try.f13)) (fun q' => Pimpl_GoodWheel_l9 @impl_GoodWheel_l9 n R q' kk) (PkS.pack Simpl_GoodWheel_l9 (y9_0, y9_1, y9_2, y9_3, y9_4, y9_5, y9_6, y9_7, y9_8, y9_9, y9_10, ())) kk = (fun (kret : Bool → Option R) (kexit2 : (List (List (Int × Int))) → Int → Int → Int → (List (List (Int × Int))) → (List Int) → Option R) => (bif (decide (y9_7 < y9_6)) then (bif decide (0 ≤ y9_7) then (bif decide (y9_7 < (y9_5.length : Int)) then (impl_reach n y9_8 ((y9_5.getD (Int.toNat y9_7) (0, 0)).1) fun r2 => (bif r2 then (impl_fitsLevel n y9_8 ((y9_5.getD (Int.toNat y9_7) (0, 0)).1) y9_1 fun r3 => (bif r3 then (impl_slotAt n ((y9_5.getD (Int.toNat y9_7) (0, 0)).1) y9_1 fun r4 => (impl_in n ((y9_5.getD (Int.toNat y9_7) (0, 0)).2) 0 1000 fun r5 => (bif (!r5) then kret false else (bif (!(r4 == y9_0)) then kret false else (bif (List.contains y9_10 ((y9_5.getD (Int.toNat y9_7) (0, 0)).2)) then kret false else (bif !List.contains y9_10 ((y9_5.getD (Int.toNat y9_7) (0, 0)).2) then impl_GoodWheel_l9 n y9_0 y9_1 y9_2 y9_3 y9_4 y9_5 y9_6 (IntKind.wrap .i64 (y9_7 + 1)) y9_8 y9_9 ((y9_5.getD (Int.toNat y9_7) (0, 0)).2 :: y9_10) kret kexit2 else none)))))) else (impl_in n ((y9_5.getD (Int.toNat y9_7) (0, 0)).2) 0 1000 fun r6 => (bif (!r6) then kret false else kret false)))) else (impl_in n ((y9_5.getD (Int.toNat y9_7) (0, 0)).2) 0 1000 fun r7 => (bif (!r7) then kret false else kret false)))) else none) else none) else kexit2 y9_2 y9_3 y9_4 y9_8 y9_9 y9_10)) (fun r0 => kk .ret (PkS.pack Timpl_GoodWheel_l9_0 (r0, ()))) (fun r0 r1 r2 r3 r4 r5 => kk (.exit 2) (PkS.pack Timpl_GoodWheel_l9_1 (r0, r1, r2, r3, r4, r5, ()))) := by kernel_rfl
theorem leimpl_GoodWheel_l9 : LoopEq tt sig (fun n => mkK [(35, Kimpl_isNow @impl_isNow n), (25, Kimpl_reach @impl_reach n), (43, Kimpl_fitsLevel @impl_fitsLevel n), (44, Kimpl_slotAt @impl_slotAt n), (24, Kimpl_in @impl_in n)]) (fun n => mkL (mkK [(35, Kimpl_isNow @impl_isNow n), (25, Kimpl_reach @impl_reach n), (43, Kimpl_fitsLevel @impl_fitsLevel n), (44, Kimpl_slotAt @impl_slotAt n), (24, Kimpl_in @impl_in n)]) []) Dimpl_GoodWheel_l9 Simpl_GoodWheel_l9 (loopIn 9 (bodyOf Try.f13)) (Pimpl_GoodWheel_l9 @impl_GoodWheel_l9) where
  zero R q kk := by unfold Pimpl_GoodWheel_l9; cases (PkS.un Simpl_GoodWheel_l9 q) <;> rfl
  succ n R q kk := by
    unfold Pimpl_GoodWheel_l9
    cases h : (PkS.un Simpl_GoodWheel_l9 q) with
    | none => rfl
    | some d =>
      obtain ⟨y9_0, y9_1, y9_2, y9_3, y9_4, y9_5, y9_6, y9_7, y9_8, y9_9, y9_10, u⟩ := (d : Int × Int × (List (List (Int × Int))) × Int × Int × (List (Int × Int)) × Int × Int × Int × (List (List (Int × Int))) × (List Int) × Unit)
      have hp := PkS.un_pack h
      subst hp
      exact (eimpl_GoodWheel_l9 @impl_isNow @impl_reach @impl_fitsLevel @impl_slotAt @impl_in @impl_GoodWheel_l9 n y9_0 y9_1 y9_2 y9_3 y9_4 y9_5 y9_6 y9_7 y9_8 y9_9 y9_10 kk).symm
theorem nlimpl_GoodWheel_l9 : ∀ n, NatLP (Pimpl_GoodWheel_l9 @impl_GoodWheel_l9 n) := leimpl_GoodWheel_l9.nat (fun n => mkK_nat (cimpl_GoodWheel n)) fun n => mkL_nat (mkK_nat (cimpl_GoodWheel n)) (l := []) trivial
theorem inimpl_GoodWheel_l9 (n : Nat) (R : Type) : LoopsOk Try.prog (mkL (mkK [(35, Kimpl_isNow @impl_isNow n), (25, Kimpl_reach @impl_reach n), (43, Kimpl_fitsLevel @impl_fitsLevel n), (44, Kimpl_slotAt @impl_slotAt n), (24, Kimpl_in @impl_in n)]) [] R) (loopIn 9 (bodyOf Try.f13)) := .eq (l := []) (by kernel_rfl) trivial
theorem lkimpl_GoodWheel_l9 (n : Nat) (R : Type) (L0 : LK R) (h0 : ∀ id, firstRegion (loopIn 9 (bodyOf Try.f13)) = some id → L0 id = Dimpl_GoodWheel_l9.oracle (mkK [(35, Kimpl_isNow @impl_isNow n), (25, Kimpl_reach @impl_reach n), (43, Kimpl_fitsLevel @impl_fitsLevel n), (44, Kimpl_slotAt @impl_slotAt n), (24, Kimpl_in @impl_in n)] R) (Pimpl_GoodWheel_l9 @impl_GoodWheel_l9 n R)) : LoopOk Try.prog L0 (loopIn 9 (bodyOf Try.f13)) :=
  leimpl_GoodWheel_l9.ok mixed ttok (fun n => mkK_nat (cimpl_GoodWheel n)) (fun n => mkK_ok (cimpl_GoodWheel n)) (fun n => inimpl_GoodWheel_l9 n R) (mkK_nat (cimpl_GoodWheel n)) h0
@[reducible] def Simpl_GoodWheel_l5 : PkS := ⟨[.one (.box (100000, 0) 0), .one (.mp (100000, 1)), .one (.ro (.sl (.pr (.int .i64) (.int .i64)))), .one (.int .i64), .one (.int .i64), .one (.dead)], [((100000, 0), .box [.int .i64, .ro (.sl (.pr (.int .i64) (.int .i64)))]), ((100000, 1), .si)]⟩
@[reducible] def Timpl_GoodWheel_l5_0 : PkS := ⟨[.one (.bool), .one (.dead)], []⟩
@[reducible] def Timpl_GoodWheel_l5_1 : PkS := ⟨[.one (.mp (100000, 0)), .one (.dead)], [((100000, 0), .si)]⟩
def Dimpl_GoodWheel_l5 : LoopD := ⟨80, [1, 3, 22, 23, 24], [.box [.any, (.ro (.sl (.pr (.int .i64) (.int .i64))))], .one .map, .one (.ro (.sl (.pr (.int .i64) (.int .i64)))), .one .any, .one .any, .skip], fun x => match x with
  | .ret => some ([2], [.one .any, .skip])
  | .exit 0 => some ([3], [.one .map, .skip])
  | _ => none⟩
def Pimpl_GoodWheel_l5 (g : ∀ {R : Type}, Nat → (List (List (Int × Int))) → Int → Int → Int → (List (List (Int × Int))) → (List Int) → (Bool → Option R) → ((List Int) → Option R) → Option R) (n : Nat) : LPs := fun R q kk => match (PkS.un Simpl_GoodWheel_l5 q : Option ((List (List (Int × Int))) × Int × Int × Int × (List (List (Int × Int))) × (List Int) × Unit)) with
  | some (y5_0, y5_1, y5_2, y5_3, y5_4, y5_5, _) => g n y5_0 y5_1 y5_2 y5_3 y5_4 y5_5 (fun r0 => kk .ret (PkS.pack Timpl_GoodWheel_l5_0 (r0, ()))) (fun r0 => kk (.exit 0) (PkS.pack Timpl_GoodWheel_l5_1 (r0, ())))
  | none => none
theorem eimpl_GoodWheel_l5 (impl_isNow : ∀ {R : Type}, Nat → Int → (Bool → Option R) → Option R) (impl_reach : ∀ {R : Type}, Nat → Int → Int → (Bool → Option R) → Option R) (impl_fitsLevel : ∀ {R : Type}, Nat → Int → Int → Int → (Bool → Option R) → Option R) (impl_slotAt : ∀ {R : Type}, Nat → Int → Int → (Int → Option R) → Option R) (impl_in : ∀ {R : Type}, Nat → Int → Int → Int → (Bool → Option R) → Option R) (impl_GoodWheel_l9 : ∀ {R : Type}, Nat → Int → Int → (List (List (Int × Int))) → Int → Int → (List (Int × Int)) → Int → Int → Int → (List (List (Int × Int))) → (List Int) → (Bool → Option R) → ((List (List (Int × Int))) → Int → Int → Int → (List (List (Int × Int))) → (List Int) → Option R) → Option R) (impl_GoodWheel_l5 : ∀ {R : Type}, Nat → (List (List (Int × Int))) → Int → Int → Int → (List (List (Int × Int))) → (List Int) → (Bool → Option R) → ((List Int) → Option R) → Option R) {R : Type} (n : Nat) (y5_0 : List (List (Int × Int))) (y5_1 : Int) (y5_2 : Int) (y5_3 : Int) (y5_4 : List (List (Int × Int))) (y5_5 : List Int) (kk : Ex → Pk → Option R) : Dimpl_GoodWheel_l5.step tt sig (mkK [(35, Kimpl_isNow @impl_isNow n), (25, Kimpl_reach @impl_reach n), (43, Kimpl_fitsLevel @impl_fitsLevel n), (44, Kimpl_slotAt @impl_slotAt n), (24, Kimpl_in @impl_in n)] R) (mkL (mkK [(35, Kimpl_isNow @impl_isNow n), (25, Kimpl_reach @impl_reach n), (43, Kimpl_fitsLevel @impl_fitsLevel n), (44, Kimpl_slotAt @impl_slotAt n), (24, Kimpl_in @impl_in n)]) [(9, Dimpl_GoodWheel_l9, Pimpl_GoodWheel_l9 @impl_GoodWheel_l9 n)] R) (loopIn 5 (bodyOf Try.f13)) (fun q' => Pimpl_GoodWheel_l5 @impl_GoodWheel_l5 n R q' kk) (PkS.pack Simpl_GoodWheel_l5 (y5_0, y5_1, y5_2, y5_3, y5_4, y5_5, ())) kk = (fun (kret : Bool → Option R) (kexit0 : (List Int) → Option R) => (bif (decide (y5_2 < y5_1)) then (bif decide (0 ≤ y5_2) then (bif decide (y5_2 < (y5_0.length : Int)) then (impl_GoodWheel_l9 n y5_2 (IntKind.wrap .i64 (Int.tdiv y5_2 8)) y5_0 y5_1 y5_2 (y5_0.getD (Int.toNat y5_2) []) ((y5_0.getD (Int.toNat y5_2) []).length : Int) 0 y5_3 y5_4 y5_5 (fun r8 => kret r8) (fun r9 r10 r11 r12 r13 r14 => impl_GoodWheel_l5 n r9 r10 (IntKind.wrap .i64 (r11 + 1)) r12 r13 r14 kret kexit0)) else none) else none) else kexit0 y5_5)) (fun r0 => kk .ret (PkS.pack Timpl_GoodWheel_l5_0 (r0, ()))) (fun r0 => kk (.exit 0) (PkS.pack Timpl_GoodWheel_l5_1 (r0, ()))) := by kernel_rfl
theorem leimpl_GoodWheel_l5 : LoopEq tt sig (fun n => mkK [(35, Kimpl_isNow @impl_isNow n), (25, Kimpl_reach @impl_reach n), (43, Kimpl_fitsLevel @impl_fitsLevel n), (44, Kimpl_slotAt @impl_slotAt n), (24, Kimpl_in @impl_in n)]) (fun n => mkL (mkK [(35, Kimpl_isNow @impl_isNow n), (25, Kimpl_reach @impl_reach n), (43, Kimpl_fitsLevel @impl_fitsLevel n), (44, Kimpl_slotAt @impl_slotAt n), (24, Kimpl_in @impl_in n)]) [(9, Dimpl_GoodWheel_l9, Pimpl_GoodWheel_l9 @impl_GoodWheel_l9 n)]) Dimpl_GoodWheel_l5 Simpl_GoodWheel_l5 (loopIn 5 (bodyOf Try.f13)) (Pimpl_GoodWheel_l5 @impl_GoodWheel_l5) where
  zero R q kk := by unfold Pimpl_GoodWheel_l5; cases (PkS.un Simpl_GoodWheel_l5 q) <;> rfl
  succ n R q kk := by
    unfold Pimpl_GoodWheel_l5
    cases h : (PkS.un Simpl_GoodWheel_l5 q) with
    | none => rfl
    | some d =>
      obtain ⟨y5_0, y5_1, y5_2, y5_3, y5_4, y5_5, u⟩ := (d : (List (List (Int × Int))) × Int × Int × Int × (List (List (Int × Int))) × (List Int) × Unit)
      have hp := PkS.un_pack h
      subst hp
      exact (eimpl_GoodWheel_l5 @impl_isNow @impl_reach @impl_fitsLevel @impl_slotAt @impl_in @impl_GoodWheel_l9 @impl_GoodWheel_l5 n y5_0 y5_1 y5_2 y5_3 y5_4 y5_5 kk).symm
theorem nlimpl_GoodWheel_l5 : ∀ n, NatLP (Pimpl_GoodWheel_l5 @impl_GoodWheel_l5 n) := leimpl_GoodWheel_l5.nat (fun n => mkK_nat (cimpl_GoodWheel n)) fun n => mkL_nat (mkK_nat (cimpl_GoodWheel n)) (l := [(9, Dimpl_GoodWheel_l9, Pimpl_GoodWheel_l9 @impl_GoodWheel_l9 n)]) ⟨nlimpl_GoodWheel_l9 n, trivial⟩
theorem inimpl_GoodWheel_l5 (n : Nat) (R : Type) : LoopsOk Try.prog (mkL (mkK [(35, Kimpl_isNow @impl_isNow n), (25, Kimpl_reach @impl_reach n), (43, Kimpl_fitsLevel @impl_fitsLevel n), (44, Kimpl_slotAt @impl_slotAt n), (24, Kimpl_in @impl_in n)]) [(9, Dimpl_GoodWheel_l9, Pimpl_GoodWheel_l9 @impl_GoodWheel_l9 n)] R) (loopIn 5 (bodyOf Try.f13)) := .eq (l := [.lo (loopIn 9 (bodyOf Try.f13))]) (by kernel_rfl) ⟨(lkimpl_GoodWheel_l9 n R _ (at_id (i := 9) (by kernel_rfl) rfl)), trivial⟩
theorem lkimpl_GoodWheel_l5 (n : Nat) (R : Type) (L0 : LK R) (h0 : ∀ id, firstRegion (loopIn 5 (bodyOf Try.f13)) = some id → L0 id = Dimpl_GoodWheel_l5.oracle (mkK [(35, Kimpl_isNow @impl_isNow n), (25, Kimpl_reach @impl_reach n), (43, Kimpl_fitsLevel @impl_fitsLevel n), (44, Kimpl_slotAt @impl_slotAt n), (24, Kimpl_in @impl_in n)] R) (Pimpl_GoodWheel_l5 @impl_GoodWheel_l5 n R)) : LoopOk Try.prog L0 (loopIn 5 (bodyOf Try.f13)) :=
  leimpl_GoodWheel_l5.ok mixed ttok (fun n => mkK_nat (cimpl_GoodWheel n)) (fun n => mkK_ok (cimpl_GoodWheel n)) (fun n => inimpl_GoodWheel_l5 n R) (mkK_nat (cimpl_GoodWheel n)) h0
@[reducible] def Simpl_GoodWheel : PkS := ⟨[.agg [.int .i64, .ro (.sl (.pr (.int .i64) (.int .i64)))]], []⟩
@[reducible] def Timpl_GoodWheel : PkS := ⟨[.one (.bool), .one (.dead)], []⟩
def Himpl_GoodWheel : List Sh := [.one .any, .skip]
def Kimpl_GoodWheel (g : ∀ {R : Type}, Nat → Int → (List (List (Int × Int))) → (Bool → Option R) → Option R) (n : Nat) : KPs := fun R p k => match (PkS.un Simpl_GoodWheel p : Option (Int × (List (List (Int × Int))) × Unit)) with
  | some (x0, x1, _) => g n x0 x1 (fun r0 => k (PkS.pack Timpl_GoodWheel (r0, ())))
  | none => none
theorem eimpl_GoodWheel (impl_isNow : ∀ {R : Type}, Nat → Int → (Bool → Option R) → Option R) (impl_reach : ∀ {R : Type}, Nat → Int → Int → (Bool → Option R) → Option R) (impl_fitsLevel : ∀ {R : Type}, Nat → Int → Int → Int → (Bool → Option R) → Option R) (impl_slotAt : ∀ {R : Type}, Nat → Int → Int → (Int → Option R) → Option R) (impl_in : ∀ {R : Type}, Nat → Int → Int → Int → (Bool → Option R) → Option R) (impl_GoodWheel_l9 : ∀ {R : Type}, Nat → Int → Int → (List (List (Int × Int))) → Int → Int → (List (Int × Int)) → Int → Int → Int → (List (List (Int × Int))) → (List Int) → (Bool → Option R) → ((List (List (Int × Int))) → Int → Int → Int → (List (List (Int × Int))) → (List Int) → Option R) → Option R) (impl_GoodWheel_l5 : ∀ {R : Type}, Nat → (List (List (Int × Int))) → Int → Int → Int → (List (List (Int × Int))) → (List Int) → (Bool → Option R) → ((List Int) → Option R) → Option R) {R : Type} (n : Nat) (x0 : Int) (x1 : List (List (Int × Int))) (k : Pk → Option R) : evF tt sig (mkK [(35, Kimpl_isNow @impl_isNow n), (25, Kimpl_reach @impl_reach n), (43, Kimpl_fitsLevel @impl_fitsLevel n), (44, Kimpl_slotAt @impl_slotAt n), (24, Kimpl_in @impl_in n)] R) (mkL (mkK [(35, Kimpl_isNow @impl_isNow n), (25, Kimpl_reach @impl_reach n), (43, Kimpl_fitsLevel @impl_fitsLevel n), (44, Kimpl_slotAt @impl_slotAt n), (24, Kimpl_in @impl_in n)]) [(9, Dimpl_GoodWheel_l9, Pimpl_GoodWheel_l9 @impl_GoodWheel_l9 n), (5, Dimpl_GoodWheel_l5, Pimpl_GoodWheel_l5 @impl_GoodWheel_l5 n)] R) Try.f13 Himpl_GoodWheel (PkS.pack Simpl_GoodWheel (x0, x1, ())) k = (fun (k : Bool → Option R) => (impl_isNow n x0 fun r1 => (bif (!r1) then k false else (bif ((x1.length : Int) != 24) then k false else (impl_GoodWheel_l5 n x1 (x1.length : Int) 0 x0 x1 ([] : List Int) (fun r15 => k r15) (fun r16 => k (decide ((r16.length : Int) ≤ 60)))))))) (fun r0 => k (PkS.pack Timpl_GoodWheel (r0, ()))) := by kernel_rfl
theorem okimpl_GoodWheel (n : Nat) : FnOk Try.prog 13 (Kimpl_GoodWheel @impl_GoodWheel n) := by
  refine fn_ok (sig := sig) mixed ttok (mkK_nat (cimpl_GoodWheel n)) (mkK_ok (cimpl_GoodWheel n)) (mkL_nat (mkK_nat (cimpl_GoodWheel n)) (l := [(9, Dimpl_GoodWheel_l9, Pimpl_GoodWheel_l9 @impl_GoodWheel_l9 n), (5, Dimpl_GoodWheel_l5, Pimpl_GoodWheel_l5 @impl_GoodWheel_l5 n)]) ⟨nlimpl_GoodWheel_l9 n, ⟨nlimpl_GoodWheel_l5 n, trivial⟩⟩) (fn := Try.f13) (c := bodyOf Try.f13) (by kernel_rfl) (by kernel_rfl) (by kernel_rfl) (.eq (l := [.lo (loopIn 5 (bodyOf Try.f13))]) (by kernel_rfl) ⟨(lkimpl_GoodWheel_l5 n _ _ (at_id (i := 5) (by kernel_rfl) rfl)), trivial⟩) (shs := Himpl_GoodWheel) (S := Simpl_GoodWheel) (h1 := by kernel_rfl) fun R p k => ?_
  unfold Kimpl_GoodWheel
  cases h : (PkS.un Simpl_GoodWheel p) with
  | none => rfl
  | some d =>
    obtain ⟨x0, x1, u⟩ := (d : Int × (List (List (Int × Int))) × Unit)
    have hp := PkS.un_pack h
    subst hp
    exact (eimpl_GoodWheel @impl_isNow @impl_reach @impl_fitsLevel @impl_slotAt @impl_in @impl_GoodWheel_l9 @impl_GoodWheel_l5 n x0 x1 k).symm

/-! ### slices.Grow[[]loop.example/g00269/impl.Timer,loop.example/g00269/impl.Timer] -/
theorem cslices_Grow_impl_Timer (n : Nat) : AllOk Try.prog [] := trivial
@[reducible] def Sslices_Grow_impl_Timer : PkS := ⟨[.one (.whole (200000, 0)), .one (.int .i64)], [((200000, 0), .arr (.pr (.int .i64) (.int .i64)))]⟩
@[reducible] def Tslices_Grow_impl_Timer : PkS := ⟨[.one (.whole (300000, 0)), .one (.dead), .one (.dead)], [((300000, 0), .arr (.pr (.int .i64) (.int .i64)))]⟩
def Kslices_Grow_impl_Timer (g : ∀ {R : Type}, Nat → Int → (List (Int × Int)) → ((List (Int × Int)) → Option R) → Option R) (n : Nat) : KPs := fun R p k => match (PkS.un Sslices_Grow_impl_Timer p : Option (Int × (List (Int × Int)) × Unit)) with
  | some (x0, x1, _) => g n x0 x1 (fun r0 => k (PkS.pack Tslices_Grow_impl_Timer (r0, ())))
  | none => none
theorem okslices_Grow_impl_Timer (n : Nat) : FnOk Try.prog 67 (Kslices_Grow_impl_Timer @slices_Grow_impl_Timer n) := by
  have e : Kslices_Grow_impl_Timer @slices_Grow_impl_Timer n = growTK := by kernel_rfl
  rw [e]
  exact growT_ok (fn := Try.f67) (c := bodyOf Try.f67) (by kernel_rfl) (by kernel_rfl) (by kernel_rfl)

/-! ### slices.Concat[[]loop.example/g00269/impl.Timer,loop.example/g00269/impl.Timer] -/
theorem cslices_Concat_impl_Timer (n : Nat) : AllOk Try.prog [(67, Kslices_Grow_impl_Timer @slices_Grow_impl_Timer n)] := ⟨okslices_Grow_impl_Timer n, trivial⟩
@[reducible] def Sslices_Concat_impl_Timer_l3 : PkS := ⟨[.one (.ro (.sl (.pr (.int .i64) (.int .i64)))), .one (.int .i64), .one (.ro (.sl (.pr (.int .i64) (.int .i64)))), .one (.int .i64), .one (.int .i64), .one (.dead)], []⟩
@[reducible] def Tslices_Concat_impl_Timer_l3_0 : PkS := ⟨[.one (.ro (.sl (.pr (.int .i64) (.int .i64)))), .one (.int .i64), .one (.dead)], []⟩
def Dslices_Concat_impl_Timer_l3 : LoopD := ⟨36, [0, 3, 9, 10, 11], [.one (.ro (.sl (.pr (.int .i64) (.int .i64)))), .one .any, .one (.ro (.sl (.pr (.int .i64) (.int .i64)))), .one .any, .one .any, .skip], fun x => match x with
  | .exit 0 => some ([0, 3], [.one (.ro (.sl (.pr (.int .i64) (.int .i64)))), .one .any, .skip])
  | _ => none⟩
def Pslices_Concat_impl_Timer_l3 (g : ∀ {R : Type}, Nat → (List (List (Int × Int))) → Int → (List (List (Int × Int))) → Int → Int → ((List (List (Int × Int))) → Int → Option R) → Option R) (n : Nat) : LPs := fun R q kk => match (PkS.un Sslices_Concat_impl_Timer_l3 q : Option ((List (List (Int × Int))) × Int × (List (List (Int × Int))) × Int × Int × Unit)) with
  | some (y3_0, y3_1, y3_2, y3_3, y3_4, _) => g n y3_0 y3_1 y3_2 y3_3 y3_4 (fun r0 r1 => kk (.exit 0) (PkS.pack Tslices_Concat_impl_Timer_l3_0 (r0, r1, ())))
  | none => none
theorem eslices_Concat_impl_Timer_l3 (slices_Grow_impl_Timer : ∀ {R : Type}, Nat → Int → (List (Int × Int)) → ((List (Int × Int)) → Option R) → Option R) (slices_Concat_impl_Timer_l3 : ∀ {R : Type}, Nat → (List (List (Int × Int))) → Int → (List (List (Int × Int))) → Int → Int → ((List (List (Int × Int))) → Int → Option R) → Option R) {R : Type} (n : Nat) (y3_0 : List (List (Int × Int))) (y3_1 : Int) (y3_2 : List (List (Int × Int))) (y3_3 : Int) (y3_4 : Int) (kk : Ex → Pk → Option R) : Dslices_Concat_impl_Timer_l3.step tt sig (mkK [(67, Kslices_Grow_impl_Timer @slices_Grow_impl_Timer n)] R) (mkL (mkK [(67, Kslices_Grow_impl_Timer @slices_Grow_impl_Timer n)]) [] R) (loopIn 3 (bodyOf Try.f54)) (fun q' => Pslices_Concat_impl_Timer_l3 @slices_Concat_impl_Timer_l3 n R q' kk) (PkS.pack Sslices_Concat_impl_Timer_l3 (y3_0, y3_1, y3_2, y3_3, y3_4, ())) kk = (fun (kexit0 : (List (List (Int × Int))) → Int → Option R) => (bif (decide (y3_4 < y3_3)) then (bif decide (0 ≤ y3_4) then (bif decide (y3_4 < (y3_2.length : Int)) then (bif (decide ((IntKind.wrap .i64 (y3_1 + ((y3_2.getD (Int.toNat y3_4) []).length : Int))) < 0)) then none else slices_Concat_impl_Timer_l3 n y3_0 (IntKind.wrap .i64 (y3_1 + ((y3_2.getD (Int.toNat y3_4) []).length : Int))) y3_2 y3_3 (IntKind.wrap .i64 (y3_4 + 1)) kexit0) else none) else none) else kexit0 y3_0 y3_1)) (fun r0 r1 => kk (.exit 0) (PkS.pack Tslices_Concat_impl_Timer_l3_0 (r0, r1, ()))) := by kernel_rfl
theorem leslices_Concat_impl_Timer_l3 : LoopEq tt sig (fun n => mkK [(67, Kslices_Grow_impl_Timer @slices_Grow_impl_Timer n)]) (fun n => mkL (mkK [(67, Kslices_Grow_impl_Timer @slices_Grow_impl_Timer n)]) []) Dslices_Concat_impl_Timer_l3 Sslices_Concat_impl_Timer_l3 (loopIn 3 (bodyOf Try.f54)) (Pslices_Concat_impl_Timer_l3 @slices_Concat_impl_Timer_l3) where
  zero R q kk := by unfold Pslices_Concat_impl_Timer_l3; cases (PkS.un Sslices_Concat_impl_Timer_l3 q) <;> rfl
  succ n R q kk := by
    unfold Pslices_Concat_impl_Timer_l3
    cases h : (PkS.un Sslices_Concat_impl_Timer_l3 q) with
    | none => rfl
    | some d =>
      obtain ⟨y3_0, y3_1, y3_2, y3_3, y3_4, u⟩ := (d : (List (List (Int × Int))) × Int × (List (List (Int × Int))) × Int × Int × Unit)
      have hp := PkS.un_pack h
      subst hp
      exact (eslices_Concat_impl_Timer_l3 @slices_Grow_impl_Timer @slices_Concat_impl_Timer_l3 n y3_0 y3_1 y3_2 y3_3 y3_4 kk).symm
theorem nlslices_Concat_impl_Timer_l3 : ∀ n, NatLP (Pslices_Concat_impl_Timer_l3 @slices_Concat_impl_Timer_l3 n) := leslices_Concat_impl_Timer_l3.nat (fun n => mkK_nat (cslices_Concat_impl_Timer n)) fun n => mkL_nat (mkK_nat (cslices_Concat_impl_Timer n)) (l := []) trivial
theorem inslices_Concat_impl_Timer_l3 (n : Nat) (R : Type) : LoopsOk Try.prog (mkL (mkK [(67, Kslices_Grow_impl_Timer @slices_Grow_impl_Timer n)]) [] R) (loopIn 3 (bodyOf Try.f54)) := .eq (l := []) (by kernel_rfl) trivial
theorem lkslices_Concat_impl_Timer_l3 (n : Nat) (R : Type) (L0 : LK R) (h0 : ∀ id, firstRegion (loopIn 3 (bodyOf Try.f54)) = some id → L0 id = Dslices_Concat_impl_Timer_l3.oracle (mkK [(67, Kslices_Grow_impl_Timer @slices_Grow_impl_Timer n)] R) (Pslices_Concat_impl_Timer_l3 @slices_Concat_impl_Timer_l3 n R)) : LoopOk Try.prog L0 (loopIn 3 (bodyOf Try.f54)) :=
  leslices_Concat_impl_Timer_l3.ok mixed ttok (fun n => mkK_nat (cslices_Concat_impl_Timer n)) (fun n => mkK_ok (cslices_Concat_impl_Timer n)) (fun n => inslices_Concat_impl_Timer_l3 n R) (mkK_nat (cslices_Concat_impl_Timer n)) h0
@[reducible] def Sslices_Concat_impl_Timer_l11 : PkS := ⟨[.one (.whole (100000, 0)), .one (.ro (.sl (.pr (.int .i64) (.int .i64)))), .one (.int .i64), .one (.int .i64), .one (.dead)], [((100000, 0), .arr (.pr (.int .i64) (.int .i64)))]⟩
@[reducible] def Tslices_Concat_impl_Timer_l11_0 : PkS := ⟨[.one (.whole (100000, 0)), .one (.dead)], [((100000, 0), .arr (.pr (.int .i64) (.int .i64)))]⟩
def Dslices_Concat_impl_Timer_l11 : LoopD := ⟨36, [6, 25, 26, 27], [.one (.own (.pr (.int .i64) (.int .i64))), .one (.ro (.sl (.pr (.int .i64) (.int .i64)))), .one .any, .one .any, .skip], fun x => match x with
  | .exit 2 => some ([6], [.one (.own (.pr (.int .i64) (.int .i64))), .skip])
  | _ => none⟩
def Pslices_Concat_impl_Timer_l11 (g : ∀ {R : Type}, Nat → (List (List (Int × Int))) → Int → Int → (List (Int × Int)) → ((List (Int × Int)) → Option R) → Option R) (n : Nat) : LPs := fun R q kk => match (PkS.un Sslices_Concat_impl_Timer_l11 q : Option ((List (List (Int × Int))) × Int × Int × (List (Int × Int)) × Unit)) with
  | some (y11_0, y11_1, y11_2, y11_3, _) => g n y11_0 y11_1 y11_2 y11_3 (fun r0 => kk (.exit 2) (PkS.pack Tslices_Concat_impl_Timer_l11_0 (r0, ())))
  | none => none
theorem eslices_Concat_impl_Timer_l11 (slices_Grow_impl_Timer : ∀ {R : Type}, Nat → Int → (List (Int × Int)) → ((List (Int × Int)) → Option R) → Option R) (slices_Concat_impl_Timer_l3 : ∀ {R : Type}, Nat → (List (List (Int × Int))) → Int → (List (List (Int × Int))) → Int → Int → ((List (List (Int × Int))) → Int → Option R) → Option R) (slices_Concat_impl_Timer_l11 : ∀ {R : Type}, Nat → (List (List (Int × Int))) → Int → Int → (List (Int × Int)) → ((List (Int × Int)) → Option R) → Option R) {R : Type} (n : Nat) (y11_0 : List (List (Int × Int))) (y11_1 : Int) (y11_2 : Int) (y11_3 : List (Int × Int)) (kk : Ex → Pk → Option R) : Dslices_Concat_impl_Timer_l11.step tt sig (mkK [(67, Kslices_Grow_impl_Timer @slices_Grow_impl_Timer n)] R) (mkL (mkK [(67, Kslices_Grow_impl_Timer @slices_Grow_impl_Timer n)]) [(3, Dslices_Concat_impl_Timer_l3, Pslices_Concat_impl_Timer_l3 @slices_Concat_impl_Timer_l3 n)] R) (loopIn 11 (bodyOf Try.f54)) (fun q' => Pslices_Concat_impl_Timer_l11 @slices_Concat_impl_Timer_l11 n R q' kk) (PkS.pack Sslices_Concat_impl_Timer_l11 (y11_0, y11_1, y11_2, y11_3, ())) kk = (fun (kexit2 : (List (Int × Int)) → Option R) => (bif (decide (y11_2 < y11_1)) then (bif decide (0 ≤ y11_2) then (bif decide (y11_2 < (y11_0.length : Int)) then (bif decide (y11_3.length + (y11_0.getD (Int.toNat y11_2) []).length ≤ LIM) then slices_Concat_impl_Timer_l11 n y11_0 y11_1 (IntKind.wrap .i64 (y11_2 + 1)) (y11_3 ++ (y11_0.getD (Int.toNat y11_2) [])) kexit2 else none) else none) else none) else kexit2 y11_3)) (fun r0 => kk (.exit 2) (PkS.pack Tslices_Concat_impl_Timer_l11_0 (r0, ()))) := by kernel_rfl
theorem leslices_Concat_impl_Timer_l11 : LoopEq tt sig (fun n => mkK [(67, Kslices_Grow_impl_Timer @slices_Grow_impl_Timer n)]) (fun n => mkL (mkK [(67, Kslices_Grow_impl_Timer @slices_Grow_impl_Timer n)]) [(3, Dslices_Concat_impl_Timer_l3, Pslices_Concat_impl_Timer_l3 @slices_Concat_impl_Timer_l3 n)]) Dslices_Concat_impl_Timer_l11 Sslices_Concat_impl_Timer_l11 (loopIn 11 (bodyOf Try.f54)) (Pslices_Concat_impl_Timer_l11 @slices_Concat_impl_Timer_l11) where
  zero R q kk := by unfold Pslices_Concat_impl_Timer_l11; cases (PkS.un Sslices_Concat_impl_Timer_l11 q) <;> rfl
  succ n R q kk := by
    unfold Pslices_Concat_impl_Timer_l11
    cases h : (PkS.un Sslices_Concat_impl_Timer_l11 q) with
    | none => rfl
    | some d =>
      obtain ⟨y11_0, y11_1, y11_2, y11_3, u⟩ := (d : (List (List (Int × Int))) × Int × Int × (List (Int × Int)) × Unit)
      have hp := PkS.un_pack h
      subst hp
      exact (eslices_Concat_impl_Timer_l11 @slices_Grow_impl_Timer @slices_Concat_impl_Timer_l3 @slices_Concat_impl_Timer_l11 n y11_0 y11_1 y11_2 y11_3 kk).symm
theorem nlslices_Concat_impl_Timer_l11 : ∀ n, NatLP (Pslices_Concat_impl_Timer_l11 @slices_Concat_impl_Timer_l11 n) := leslices_Concat_impl_Timer_l11.nat (fun n => mkK_nat (cslices_Concat_impl_Timer n)) fun n => mkL_nat (mkK_nat (cslices_Concat_impl_Timer n)) (l := [(3, Dslices_Concat_impl_Timer_l3, Pslices_Concat_impl_Timer_l3 @slices_Concat_impl_Timer_l3 n)]) ⟨nlslices_Concat_impl_Timer_l3 n, trivial⟩
theorem inslices_Concat_impl_Timer_l11 (n : Nat) (R : Type) : LoopsOk Try.prog (mkL (mkK [(67, Kslices_Grow_impl_Timer @slices_Grow_impl_Timer n)]) [(3, Dslices_Concat_impl_Timer_l3, Pslices_Concat_impl_Timer_l3 @slices_Concat_impl_Timer_l3 n)] R) (loopIn 11 (bodyOf Try.f54)) := .eq (l := []) (by kernel_rfl) trivial
theorem lkslices_Concat_impl_Timer_l11 (n : Nat) (R : Type) (L0 : LK R) (h0 : ∀ id, firstRegion (loopIn 11 (bodyOf Try.f54)) = some id → L0 id = Dslices_Concat_impl_Timer_l11.oracle (mkK [(67, Kslices_Grow_impl_Timer @slices_Grow_impl_Timer n)] R) (Pslices_Concat_impl_Timer_l11 @slices_Concat_impl_Timer_l11 n R)) : LoopOk Try.prog L0 (loopIn 11 (bodyOf Try.f54)) :=
  leslices_Concat_impl_Timer_l11.ok mixed ttok (fun n => mkK_nat (cslices_Concat_impl_Timer n)) (fun n => mkK_ok (cslices_Concat_impl_Timer n)) (fun n => inslices_Concat_impl_Timer_l11 n R) (mkK_nat (cslices_Concat_impl_Timer n)) h0
@[reducible] def Sslices_Concat_impl_Timer : PkS := ⟨[.one (.ro (.sl (.pr (.int .i64) (.int .i64))))], []⟩
@[reducible] def Tslices_Concat_impl_Timer : PkS := ⟨[.one (.whole (300000, 0)), .one (.dead)], [((300000, 0), .arr (.pr (.int .i64) (.int .i64)))]⟩
def Hslices_Concat_impl_Timer : List Sh := [.one (.own (.pr (.int .i64) (.int .i64))), .skip]
def Kslices_Concat_impl_Timer (g : ∀ {R : Type}, Nat → (List (List (Int × Int))) → ((List (Int × Int)) → Option R) → Option R) (n : Nat) : KPs := fun R p k => match (PkS.un Sslices_Concat_impl_Timer p : Option ((List (List (Int × Int))) × Unit)) with
  | some (x0, _) => g n x0 (fun r0 => k (PkS.pack Tslices_Concat_impl_Timer (r0, ())))
  | none => none
theorem eslices_Concat_impl_Timer (slices_Grow_impl_Timer : ∀ {R : Type}, Nat → Int → (List (Int × Int)) → ((List (Int × Int)) → Option R) → Option R) (slices_Concat_impl_Timer_l3 : ∀ {R : Type}, Nat → (List (List (Int × Int))) → Int → (List (List (Int × Int))) → Int → Int → ((List (List (Int × Int))) → Int → Option R) → Option R) (slices_Concat_impl_Timer_l11 : ∀ {R : Type}, Nat → (List (List (Int × Int))) → Int → Int → (List (Int × Int)) → ((List (Int × Int)) → Option R) → Option R) {R : Type} (n : Nat) (x0 : List (List (Int × Int))) (k : Pk → Option R) : evF tt sig (mkK [(67, Kslices_Grow_impl_Timer @slices_Grow_impl_Timer n)] R) (mkL (mkK [(67, Kslices_Grow_impl_Timer @slices_Grow_impl_Timer n)]) [(3, Dslices_Concat_impl_Timer_l3, Pslices_Concat_impl_Timer_l3 @slices_Concat_impl_Timer_l3 n), (11, Dslices_Concat_impl_Timer_l11, Pslices_Concat_impl_Timer_l11 @slices_Concat_impl_Timer_l11 n)] R) Try.f54 Hslices_Concat_impl_Timer (PkS.pack Sslices_Concat_impl_Timer (x0, ())) k = (fun (k : (List (Int × Int)) → Option R) => (slices_Concat_impl_Timer_l3 n x0 0 x0 (x0.length : Int) 0 (fun r1 r2 => (slices_Grow_impl_Timer n r2 ([] : List (Int × Int)) fun r3 => (slices_Concat_impl_Timer_l11 n r1 (r1.length : Int) 0 r3 (fun r4 => k r4)))))) (fun r0 => k (PkS.pack Tslices_Concat_impl_Timer (r0, ()))) := by kernel_rfl
theorem okslices_Concat_impl_Timer (n : Nat) : FnOk Try.prog 54 (Kslices_Concat_impl_Timer @slices_Concat_impl_Timer n) := by
  refine fn_ok (sig := sig) mixed ttok (mkK_nat (cslices_Concat_impl_Timer n)) (mkK_ok (cslices_Concat_impl_Timer n)) (mkL_nat (mkK_nat (cslices_Concat_impl_Timer n)) (l := [(3, Dslices_Concat_impl_Timer_l3, Pslices_Concat_impl_Timer_l3 @slices_Concat_impl_Timer_l3 n), (11, Dslices_Concat_impl_Timer_l11, Pslices_Concat_impl_Timer_l11 @slices_Concat_impl_Timer_l11 n)]) ⟨nlslices_Concat_impl_Timer_l3 n, ⟨nlslices_Concat_impl_Timer_l11 n, trivial⟩⟩) (fn := Try.f54) (c := bodyOf Try.f54) (by kernel_rfl) (by kernel_rfl) (by kernel_rfl) (.eq (l := [.lo (loopIn 3 (bodyOf Try.f54)), .lo (loopIn 11 (bodyOf Try.f54))]) (by kernel_rfl) ⟨(lkslices_Concat_impl_Timer_l3 n _ _ (at_id (i := 3) (by kernel_rfl) rfl)), ⟨(lkslices_Concat_impl_Timer_l11 n _ _ (at_id (i := 11) (by kernel_rfl) rfl)), trivial⟩⟩) (shs := Hslices_Concat_impl_Timer) (S := Sslices_Concat_impl_Timer) (h1 := by kernel_rfl) fun R p k => ?_
  unfold Kslices_Concat_impl_Timer
  cases h : (PkS.un Sslices_Concat_impl_Timer p) with
  | none => rfl
  | some d =>
    obtain ⟨x0, u⟩ := (d : (List (List (Int × Int))) × Unit)
    have hp := PkS.un_pack h
    subst hp
    exact (eslices_Concat_impl_Timer @slices_Grow_impl_Timer @slices_Concat_impl_Timer_l3 @slices_Concat_impl_Timer_l11 n x0 k).symm

/-! ### (*loop.example/g00269/impl.Wheel).timers -/
theorem cimpl_Wheel_timers (n : Nat) : AllOk Try.prog [(54, Kslices_Concat_impl_Timer @slices_Concat_impl_Timer n)] := ⟨okslices_Concat_impl_Timer n, trivial⟩
@[reducible] def Simpl_Wheel_timers : PkS := ⟨[.one (.box (200000, 0) 0)], [((200000, 0), .box [.int .i64, .ro (.sl (.pr (.int .i64) (.int .i64)))])]⟩
@[reducible] def Timpl_Wheel_timers : PkS := ⟨[.one (.whole (300000, 0)), .one (.box (300000, 1) 0)], [((300000, 0), .arr (.pr (.int .i64) (.int .i64))), ((300000, 1), .box [.int .i64, .ro (.sl (.pr (.int .i64) (.int .i64)))])]⟩
def Himpl_Wheel_timers : List Sh := [.one (.own (.pr (.int .i64) (.int .i64))), .box [.any, (.ro (.sl (.pr (.int .i64) (.int .i64))))]]
def Kimpl_Wheel_timers (g : ∀ {R : Type}, Nat → Int → (List (List (Int × Int))) → ((List (Int × Int)) → Int → (List (List (Int × Int))) → Option R) → Option R) (n : Nat) : KPs := fun R p k => match (PkS.un Simpl_Wheel_timers p : Option (Int × (List (List (Int × Int))) × Unit)) with
  | some (x0, x1, _) => g n x0 x1 (fun r0 r1 r2 => k (PkS.pack Timpl_Wheel_timers (r0, r1, r2, ())))
  | none => none
theorem eimpl_Wheel_timers (slices_Concat_impl_Timer : ∀ {R : Type}, Nat → (List (List (Int × Int))) → ((List (Int × Int)) → Option R) → Option R) {R : Type} (n : Nat) (x0 : Int) (x1 : List (List (Int × Int))) (k : Pk → Option R) : evF tt sig (mkK [(54, Kslices_Concat_impl_Timer @slices_Concat_impl_Timer n)] R) (mkL (mkK [(54, Kslices_Concat_impl_Timer @slices_Concat_impl_Timer n)]) [] R) Try.f27 Himpl_Wheel_timers (PkS.pack Simpl_Wheel_timers (x0, x1, ())) k = (fun (k : (List (Int × Int)) → Int → (List (List (Int × Int))) → Option R) => (slices_Concat_impl_Timer n x1 fun r1 => k r1 x0 x1)) (fun r0 r1 r2 => k (PkS.pack Timpl_Wheel_timers (r0, r1, r2, ()))) := by kernel_rfl
theorem okimpl_Wheel_timers (n : Nat) : FnOk Try.prog 27 (Kimpl_Wheel_timers @impl_Wheel_timers n) := by
  refine fn_ok (sig := sig) mixed ttok (mkK_nat (cimpl_Wheel_timers n)) (mkK_ok (cimpl_Wheel_timers n)) (mkL_nat (mkK_nat (cimpl_Wheel_timers n)) (l := []) trivial) (fn := Try.f27) (c := bodyOf Try.f27) (by kernel_rfl) (by kernel_rfl) (by kernel_rfl) (.eq (l := []) (by kernel_rfl) trivial) (shs := Himpl_Wheel_timers) (S := Simpl_Wheel_timers) (h1 := by kernel_rfl) fun R p k => ?_
  unfold Kimpl_Wheel_timers
  cases h : (PkS.un Simpl_Wheel_timers p) with
  | none => rfl
  | some d =>
    obtain ⟨x0, x1, u⟩ := (d : Int × (List (List (Int × Int))) × Unit)
    have hp := PkS.un_pack h
    subst hp
    exact (eimpl_Wheel_timers @slices_Concat_impl_Timer n x0 x1 k).symm

/-! ### (*loop.example/g00269/impl.Wheel).has$1 -/
theorem cimpl_Wheel_has_c1 (n : Nat) : AllOk Try.prog [] := trivial
@[reducible] def Simpl_Wheel_has_c1 : PkS := ⟨[.agg [.int .i64, .int .i64], .one (.box (200000, 0) 0)], [((200000, 0), .box [.int .i64])]⟩
@[reducible] def Timpl_Wheel_has_c1 : PkS := ⟨[.one (.bool), .one (.dead), .one (.box (300000, 0) 0)], [((300000, 0), .box [.int .i64])]⟩
def Himpl_Wheel_has_c1 : List Sh := [.one .any, .skip, .box [.any]]
def Kimpl_Wheel_has_c1 (g : ∀ {R : Type}, Nat → Int → Int → Int → (Bool → Int → Option R) → Option R) (n : Nat) : KPs := fun R p k => match (PkS.un Simpl_Wheel_has_c1 p : Option (Int × Int × Int × Unit)) with
  | some (x0, x1, x2, _) => g n x0 x1 x2 (fun r0 r1 => k (PkS.pack Timpl_Wheel_has_c1 (r0, r1, ())))
  | none => none
theorem eimpl_Wheel_has_c1  {R : Type} (n : Nat) (x0 : Int) (x1 : Int) (x2 : Int) (k : Pk → Option R) : evF tt sig (mkK [] R) (mkL (mkK []) [] R) Try.f53 Himpl_Wheel_has_c1 (PkS.pack Simpl_Wheel_has_c1 (x0, x1, x2, ())) k = (fun (k : Bool → Int → Option R) => k (x1 == x2) x2) (fun r0 r1 => k (PkS.pack Timpl_Wheel_has_c1 (r0, r1, ()))) := by kernel_rfl
theorem okimpl_Wheel_has_c1 (n : Nat) : FnOk Try.prog 53 (Kimpl_Wheel_has_c1 @impl_Wheel_has_c1 n) := by
  refine fn_ok (sig := sig) mixed ttok (mkK_nat (cimpl_Wheel_has_c1 n)) (mkK_ok (cimpl_Wheel_has_c1 n)) (mkL_nat (mkK_nat (cimpl_Wheel_has_c1 n)) (l := []) trivial) (fn := Try.f53) (c := bodyOf Try.f53) (by kernel_rfl) (by kernel_rfl) (by kernel_rfl) (.eq (l := []) (by kernel_rfl) trivial) (shs := Himpl_Wheel_has_c1) (S := Simpl_Wheel_has_c1) (h1 := by kernel_rfl) fun R p k => ?_
  unfold Kimpl_Wheel_has_c1
  cases h : (PkS.un Simpl_Wheel_has_c1 p) with
  | none => rfl
  | some d =>
    obtain ⟨x0, x1, x2, u⟩ := (d : Int × Int × Int × Unit)
    have hp := PkS.un_pack h
    subst hp
    exact (eimpl_Wheel_has_c1  n x0 x1 x2 k).symm

/-! ### slices.IndexFunc[[]loop.example/g00269/impl.Timer,loop.example/g00269/impl.Timer] -/
theorem cslices_IndexFunc_impl_Timer_impl_Wheel_has_c1 (n : Nat) : AllOk Try.prog [(53, Kimpl_Wheel_has_c1 @impl_Wheel_has_c1 n)] := ⟨okimpl_Wheel_has_c1 n, trivial⟩
@[reducible] def Sslices_IndexFunc_impl_Timer_impl_Wheel_has_c1_l2 : PkS := ⟨[.one (.ro (.pr (.int .i64) (.int .i64))), .one (.fn 53 [((100000, 0), 0)]), .one (.int .i64), .one (.int .i64), .one (.dead), .one (.fn 53 [((100000, 0), 0)])], [((100000, 0), .box [.int .i64])]⟩
@[reducible] def Tslices_IndexFunc_impl_Timer_impl_Wheel_has_c1_l2_0 : PkS := ⟨[.one (.int .i64), .one (.dead), .one (.fn 53 [((100000, 0), 0)])], [((100000, 0), .box [.int .i64])]⟩
@[reducible] def Tslices_IndexFunc_impl_Timer_impl_Wheel_has_c1_l2_1 : PkS := ⟨[.one (.dead), .one (.fn 53 [((100000, 0), 0)])], [((100000, 0), .box [.int .i64])]⟩
def Dslices_IndexFunc_impl_Timer_impl_Wheel_has_c1_l2 : LoopD := ⟨19, [0, 1, 7, 8], [.one (.ro (.pr (.int .i64) (.int .i64))), .fn 53 [[.any]], .one .any, .one .any, .skip, .fn 53 [[.any]]], fun x => match x with
  | .ret => some ([4], [.one .any, .skip, .fn 53 [[.any]]])
  | .exit 0 => some ([], [.skip, .fn 53 [[.any]]])
  | _ => none⟩
def Pslices_IndexFunc_impl_Timer_impl_Wheel_has_c1_l2 (g : ∀ {R : Type}, Nat → (List (Int × Int)) → Int → Int → Int → (Int → Int → Option R) → (Int → Option R) → Option R) (n : Nat) : LPs := fun R q kk => match (PkS.un Sslices_IndexFunc_impl_Timer_impl_Wheel_has_c1_l2 q : Option ((List (Int × Int)) × Int × Int × Int × Unit)) with
  | some (y2_0, y2_1, y2_2, y2_3, _) => g n y2_0 y2_1 y2_2 y2_3 (fun r0 r1 => kk .ret (PkS.pack Tslices_IndexFunc_impl_Timer_impl_Wheel_has_c1_l2_0 (r0, r1, ()))) (fun r0 => kk (.exit 0) (PkS.pack Tslices_IndexFunc_impl_Timer_impl_Wheel_has_c1_l2_1 (r0, ())))
  | none => none
theorem eslices_IndexFunc_impl_Timer_impl_Wheel_has_c1_l2 (impl_Wheel_has_c1 : ∀ {R : Type}, Nat → Int → Int → Int → (Bool → Int → Option R) → Option R) (slices_IndexFunc_impl_Timer_impl_Wheel_has_c1_l2 : ∀ {R : Type}, Nat → (List (Int × Int)) → Int → Int → Int → (Int → Int → Option R) → (Int → Option R) → Option R) {R : Type} (n : Nat) (y2_0 : List (Int × Int)) (y2_1 : Int) (y2_2 : Int) (y2_3 : Int) (kk : Ex → Pk → Option R) : Dslices_IndexFunc_impl_Timer_impl_Wheel_has_c1_l2.step tt sig (mkK [(53, Kimpl_Wheel_has_c1 @impl_Wheel_has_c1 n)] R) (mkL (mkK [(53, Kimpl_Wheel_has_c1 @impl_Wheel_has_c1 n)]) [] R) (loopIn 2 (bodyOf Try.f62)) (fun q' => Pslices_IndexFunc_impl_Timer_impl_Wheel_has_c1_l2 @slices_IndexFunc_impl_Timer_impl_Wheel_has_c1_l2 n R q' kk) (PkS.pack Sslices_IndexFunc_impl_Timer_impl_Wheel_has_c1_l2 (y2_0, y2_1, y2_2, y2_3, ())) kk = (fun (kret : Int → Int → Option R) (kexit0 : Int → Option R) => (bif (decide (y2_2 < y2_1)) then (bif decide (0 ≤ y2_2) then (bif decide (y2_2 < (y2_0.length : Int)) then (impl_Wheel_has_c1 n ((y2_0.getD (Int.toNat y2_2) (0, 0)).1) ((y2_0.getD (Int.toNat y2_2) (0, 0)).2) y2_3 fun r1 r2 => (bif r1 then kret y2_2 r2 else slices_IndexFunc_impl_Timer_impl_Wheel_has_c1_l2 n y2_0 y2_1 (IntKind.wrap .i64 (y2_2 + 1)) r2 kret kexit0)) else none) else none) else kexit0 y2_3)) (fun r0 r1 => kk .ret (PkS.pack Tslices_IndexFunc_impl_Timer_impl_Wheel_has_c1_l2_0 (r0, r1, ()))) (fun r0 => kk (.exit 0) (PkS.pack Tslices_IndexFunc_impl_Timer_impl_Wheel_has_c1_l2_1 (r0, ()))) := by kernel_rfl
theorem leslices_IndexFunc_impl_Timer_impl_Wheel_has_c1_l2 : LoopEq tt sig (fun n => mkK [(53, Kimpl_Wheel_has_c1 @impl_Wheel_has_c1 n)]) (fun n => mkL (mkK [(53, Kimpl_Wheel_has_c1 @impl_Wheel_has_c1 n)]) []) Dslices_IndexFunc_impl_Timer_impl_Wheel_has_c1_l2 Sslices_IndexFunc_impl_Timer_impl_Wheel_has_c1_l2 (loopIn 2 (bodyOf Try.f62)) (Pslices_IndexFunc_impl_Timer_impl_Wheel_has_c1_l2 @slices_IndexFunc_impl_Timer_impl_Wheel_has_c1_l2) where
  zero R q kk := by unfold Pslices_IndexFunc_impl_Timer_impl_Wheel_has_c1_l2; cases (PkS.un Sslices_IndexFunc_impl_Timer_impl_Wheel_has_c1_l2 q) <;> rfl
  succ n R q kk := by
    unfold Pslices_IndexFunc_impl_Timer_impl_Wheel_has_c1_l2
    cases h : (PkS.un Sslices_IndexFunc_impl_Timer_impl_Wheel_has_c1_l2 q) with
    | none => rfl
    | some d =>
      obtain ⟨y2_0, y2_1, y2_2, y2_3, u⟩ := (d : (List (Int × Int)) × Int × Int × Int × Unit)
      have hp := PkS.un_pack h
      subst hp
      exact (eslices_IndexFunc_impl_Timer_impl_Wheel_has_c1_l2 @impl_Wheel_has_c1 @slices_IndexFunc_impl_Timer_impl_Wheel_has_c1_l2 n y2_0 y2_1 y2_2 y2_3 kk).symm
theorem nlslices_IndexFunc_impl_Timer_impl_Wheel_has_c1_l2 : ∀ n, NatLP (Pslices_IndexFunc_impl_Timer_impl_Wheel_has_c1_l2 @slices_IndexFunc_impl_Timer_impl_Wheel_has_c1_l2 n) := leslices_IndexFunc_impl_Timer_impl_Wheel_has_c1_l2.nat (fun n => mkK_nat (cslices_IndexFunc_impl_Timer_impl_Wheel_has_c1 n)) fun n => mkL_nat (mkK_nat (cslices_IndexFunc_impl_Timer_impl_Wheel_has_c1 n)) (l := []) trivial
theorem inslices_IndexFunc_impl_Timer_impl_Wheel_has_c1_l2 (n : Nat) (R : Type) : LoopsOk Try.prog (mkL (mkK [(53, Kimpl_Wheel_has_c1 @impl_Wheel_has_c1 n)]) [] R) (loopIn 2 (bodyOf Try.f62)) := .eq (l := []) (by kernel_rfl) trivial
theorem lkslices_IndexFunc_impl_Timer_impl_Wheel_has_c1_l2 (n : Nat) (R : Type) (L0 : LK R) (h0 : ∀ id, firstRegion (loopIn 2 (bodyOf Try.f62)) = some id → L0 id = Dslices_IndexFunc_impl_Timer_impl_Wheel_has_c1_l2.oracle (mkK [(53, Kimpl_Wheel_has_c1 @impl_Wheel_has_c1 n)] R) (Pslices_IndexFunc_impl_Timer_impl_Wheel_has_c1_l2 @slices_IndexFunc_impl_Timer_impl_Wheel_has_c1_l2 n R)) : LoopOk Try.prog L0 (loopIn 2 (bodyOf Try.f62)) :=
  leslices_IndexFunc_impl_Timer_impl_Wheel_has_c1_l2.ok mixed ttok (fun n => mkK_nat (cslices_IndexFunc_impl_Timer_impl_Wheel_has_c1 n)) (fun n => mkK_ok (cslices_IndexFunc_impl_Timer_impl_Wheel_has_c1 n)) (fun n => inslices_IndexFunc_impl_Timer_impl_Wheel_has_c1_l2 n R) (mkK_nat (cslices_IndexFunc_impl_Timer_impl_Wheel_has_c1 n)) h0
@[reducible] def Sslices_IndexFunc_impl_Timer_impl_Wheel_has_c1 : PkS := ⟨[.one (.ro (.pr (.int .i64) (.int .i64))), .one (.fn 53 [((200000, 0), 0)])], [((200000, 0), .box [.int .i64])]⟩
@[reducible] def Tslices_IndexFunc_impl_Timer_impl_Wheel_has_c1 : PkS := ⟨[.one (.int .i64), .one (.dead), .one (.fn 53 [((300000, 0), 0)])], [((300000, 0), .box [.int .i64])]⟩
def Hslices_IndexFunc_impl_Timer_impl_Wheel_has_c1 : List Sh := [.one .any, .skip, .fn 53 [[.any]]]
def Kslices_IndexFunc_impl_Timer_impl_Wheel_has_c1 (g : ∀ {R : Type}, Nat → (List (Int × Int)) → Int → (Int → Int → Option R) → Option R) (n : Nat) : KPs := fun R p k => match (PkS.un Sslices_IndexFunc_impl_Timer_impl_Wheel_has_c1 p : Option ((List (Int × Int)) × Int × Unit)) with
  | some (x0, x1, _) => g n x0 x1 (fun r0 r1 => k (PkS.pack Tslices_IndexFunc_impl_Timer_impl_Wheel_has_c1 (r0, r1, ())))
  | none => none
theorem eslices_IndexFunc_impl_Timer_impl_Wheel_has_c1 (impl_Wheel_has_c1 : ∀ {R : Type}, Nat → Int → Int → Int → (Bool → Int → Option R) → Option R) (slices_IndexFunc_impl_Timer_impl_Wheel_has_c1_l2 : ∀ {R : Type}, Nat → (List (Int × Int)) → Int → Int → Int → (Int → Int → Option R) → (Int → Option R) → Option R) {R : Type} (n : Nat) (x0 : List (Int × Int)) (x1 : Int) (k : Pk → Option R) : evF tt sig (mkK [(53, Kimpl_Wheel_has_c1 @impl_Wheel_has_c1 n)] R) (mkL (mkK [(53, Kimpl_Wheel_has_c1 @impl_Wheel_has_c1 n)]) [(2, Dslices_IndexFunc_impl_Timer_impl_Wheel_has_c1_l2, Pslices_IndexFunc_impl_Timer_impl_Wheel_has_c1_l2 @slices_IndexFunc_impl_Timer_impl_Wheel_has_c1_l2 n)] R) Try.f62 Hslices_IndexFunc_impl_Timer_impl_Wheel_has_c1 (PkS.pack Sslices_IndexFunc_impl_Timer_impl_Wheel_has_c1 (x0, x1, ())) k = (fun (k : Int → Int → Option R) => (slices_IndexFunc_impl_Timer_impl_Wheel_has_c1_l2 n x0 (x0.length : Int) 0 x1 (fun r3 r4 => k r3 r4) (fun r5 => k (-1) r5))) (fun r0 r1 => k (PkS.pack Tslices_IndexFunc_impl_Timer_impl_Wheel_has_c1 (r0, r1, ()))) := by kernel_rfl
theorem okslices_IndexFunc_impl_Timer_impl_Wheel_has_c1 (n : Nat) : FnOk Try.prog 62 (Kslices_IndexFunc_impl_Timer_impl_Wheel_has_c1 @slices_IndexFunc_impl_Timer_impl_Wheel_has_c1 n) := by
  refine fn_ok (sig := sig) mixed ttok (mkK_nat (cslices_IndexFunc_impl_Timer_impl_Wheel_has_c1 n)) (mkK_ok (cslices_IndexFunc_impl_Timer_impl_Wheel_has_c1 n)) (mkL_nat (mkK_nat (cslices_IndexFunc_impl_Timer_impl_Wheel_has_c1 n)) (l := [(2, Dslices_IndexFunc_impl_Timer_impl_Wheel_has_c1_l2, Pslices_IndexFunc_impl_Timer_impl_Wheel_has_c1_l2 @slices_IndexFunc_impl_Timer_impl_Wheel_has_c1_l2 n)]) ⟨nlslices_IndexFunc_impl_Timer_impl_Wheel_has_c1_l2 n, trivial⟩) (fn := Try.f62) (c := bodyOf Try.f62) (by kernel_rfl) (by kernel_rfl) (by kernel_rfl) (.eq (l := [.lo (loopIn 2 (bodyOf Try.f62))]) (by kernel_rfl) ⟨(lkslices_IndexFunc_impl_Timer_impl_Wheel_has_c1_l2 n _ _ (at_id (i := 2) (by kernel_rfl) rfl)), trivial⟩) (shs := Hslices_IndexFunc_impl_Timer_impl_Wheel_has_c1) (S := Sslices_IndexFunc_impl_Timer_impl_Wheel_has_c1) (h1 := by kernel_rfl) fun R p k => ?_
  unfold Kslices_IndexFunc_impl_Timer_impl_Wheel_has_c1
  cases h : (PkS.un Sslices_IndexFunc_impl_Timer_impl_Wheel_has_c1 p) with
  | none => rfl
  | some d =>
    obtain ⟨x0, x1, u⟩ := (d : (List (Int × Int)) × Int × Unit)
    have hp := PkS.un_pack h
    subst hp
    exact (eslices_IndexFunc_impl_Timer_impl_Wheel_has_c1 @impl_Wheel_has_c1 @slices_IndexFunc_impl_Timer_impl_Wheel_has_c1_l2 n x0 x1 k).symm

/-! ### slices.ContainsFunc[[]loop.example/g00269/impl.Timer,loop.example/g00269/impl.Timer] -/
theorem cslices_ContainsFunc_impl_Timer_impl_Wheel_has_c1 (n : Nat) : AllOk Try.prog [(62, Kslices_IndexFunc_impl_Timer_impl_Wheel_has_c1 @slices_IndexFunc_impl_Timer_impl_Wheel_has_c1 n)] := ⟨okslices_IndexFunc_impl_Timer_impl_Wheel_has_c1 n, trivial⟩
@[reducible] def Sslices_ContainsFunc_impl_Timer_impl_Wheel_has_c1 : PkS := ⟨[.one (.ro (.pr (.int .i64) (.int .i64))), .one (.fn 53 [((200000, 0), 0)])], [((200000, 0), .box [.int .i64])]⟩
@[reducible] def Tslices_ContainsFunc_impl_Timer_impl_Wheel_has_c1 : PkS := ⟨[.one (.bool), .one (.dead), .one (.fn 53 [((300000, 0), 0)])], [((300000, 0), .box [.int .i64])]⟩
def Hslices_ContainsFunc_impl_Timer_impl_Wheel_has_c1 : List Sh := [.one .any, .skip, .fn 53 [[.any]]]
def Kslices_ContainsFunc_impl_Timer_impl_Wheel_has_c1 (g : ∀ {R : Type}, Nat → (List (Int × Int)) → Int → (Bool → Int → Option R) → Option R) (n : Nat) : KPs := fun R p k => match (PkS.un Sslices_ContainsFunc_impl_Timer_impl_Wheel_has_c1 p : Option ((List (Int × Int)) × Int × Unit)) with
  | some (x0, x1, _) => g n x0 x1 (fun r0 r1 => k (PkS.pack Tslices_ContainsFunc_impl_Timer_impl_Wheel_has_c1 (r0, r1, ())))
  | none => none
theorem eslices_ContainsFunc_impl_Timer_impl_Wheel_has_c1 (slices_IndexFunc_impl_Timer_impl_Wheel_has_c1 : ∀ {R : Type}, Nat → (List (Int × Int)) → Int → (Int → Int → Option R) → Option R) {R : Type} (n : Nat) (x0 : List (Int × Int)) (x1 : Int) (k : Pk → Option R) : evF tt sig (mkK [(62, Kslices_IndexFunc_impl_Timer_impl_Wheel_has_c1 @slices_IndexFunc_impl_Timer_impl_Wheel_has_c1 n)] R) (mkL (mkK [(62, Kslices_IndexFunc_impl_Timer_impl_Wheel_has_c1 @slices_IndexFunc_impl_Timer_impl_Wheel_has_c1 n)]) [] R) Try.f52 Hslices_ContainsFunc_impl_Timer_impl_Wheel_has_c1 (PkS.pack Sslices_ContainsFunc_impl_Timer_impl_Wheel_has_c1 (x0, x1, ())) k = (fun (k : Bool → Int → Option R) => (slices_IndexFunc_impl_Timer_impl_Wheel_has_c1 n x0 x1 fun r1 r2 => k (decide (r1 ≥ 0)) r2)) (fun r0 r1 => k (PkS.pack Tslices_ContainsFunc_impl_Timer_impl_Wheel_has_c1 (r0, r1, ()))) := by kernel_rfl
theorem okslices_ContainsFunc_impl_Timer_impl_Wheel_has_c1 (n : Nat) : FnOk Try.prog 52 (Kslices_ContainsFunc_impl_Timer_impl_Wheel_has_c1 @slices_ContainsFunc_impl_Timer_impl_Wheel_has_c1 n) := by
  refine fn_ok (sig := sig) mixed ttok (mkK_nat (cslices_ContainsFunc_impl_Timer_impl_Wheel_has_c1 n)) (mkK_ok (cslices_ContainsFunc_impl_Timer_impl_Wheel_has_c1 n)) (mkL_nat (mkK_nat (cslices_ContainsFunc_impl_Timer_impl_Wheel_has_c1 n)) (l := []) trivial) (fn := Try.f52) (c := bodyOf Try.f52) (by kernel_rfl) (by kernel_rfl) (by kernel_rfl) (.eq (l := []) (by kernel_rfl) trivial) (shs := Hslices_ContainsFunc_impl_Timer_impl_Wheel_has_c1) (S := Sslices_ContainsFunc_impl_Timer_impl_Wheel_has_c1) (h1 := by kernel_rfl) fun R p k => ?_
  unfold Kslices_ContainsFunc_impl_Timer_impl_Wheel_has_c1
  cases h : (PkS.un Sslices_ContainsFunc_impl_Timer_impl_Wheel_has_c1 p) with
  | none => rfl
  | some d =>
    obtain ⟨x0, x1, u⟩ := (d : (List (Int × Int)) × Int × Unit)
    have hp := PkS.un_pack h
    subst hp
    exact (eslices_ContainsFunc_impl_Timer_impl_Wheel_has_c1 @slices_IndexFunc_impl_Timer_impl_Wheel_has_c1 n x0 x1 k).symm

/-! ### (*loop.example/g00269/impl.Wheel).has -/
theorem cimpl_Wheel_has (n : Nat) : AllOk Try.prog [(27, Kimpl_Wheel_timers @impl_Wheel_timers n), (52, Kslices_ContainsFunc_impl_Timer_impl_Wheel_has_c1 @slices_ContainsFunc_impl_Timer_impl_Wheel_has_c1 n)] := ⟨okimpl_Wheel_timers n, ⟨okslices_ContainsFunc_impl_Timer_impl_Wheel_has_c1 n, trivial⟩⟩
@[reducible] def Simpl_Wheel_has : PkS := ⟨[.one (.box (200000, 0) 0), .one (.int .i64)], [((200000, 0), .box [.int .i64, .ro (.sl (.pr (.int .i64) (.int .i64)))])]⟩
@[reducible] def Timpl_Wheel_has : PkS := ⟨[.one (.bool), .one (.box (300000, 0) 0), .one (.dead)], [((300000, 0), .box [.int .i64, .ro (.sl (.pr (.int .i64) (.int .i64)))])]⟩
def Himpl_Wheel_has : List Sh := [.one .any, .box [.any, (.ro (.sl (.pr (.int .i64) (.int .i64))))], .skip]
def Kimpl_Wheel_has (g : ∀ {R : Type}, Nat → Int → Int → (List (List (Int × Int))) → (Bool → Int → (List (List (Int × Int))) → Option R) → Option R) (n : Nat) : KPs := fun R p k => match (PkS.un Simpl_Wheel_has p : Option (Int × Int × (List (List (Int × Int))) × Unit)) with
  | some (x0, x1, x2, _) => g n x0 x1 x2 (fun r0 r1 r2 => k (PkS.pack Timpl_Wheel_has (r0, r1, r2, ())))
  | none => none
theorem eimpl_Wheel_has (impl_Wheel_timers : ∀ {R : Type}, Nat → Int → (List (List (Int × Int))) → ((List (Int × Int)) → Int → (List (List (Int × Int))) → Option R) → Option R) (slices_ContainsFunc_impl_Timer_impl_Wheel_has_c1 : ∀ {R : Type}, Nat → (List (Int × Int)) → Int → (Bool → Int → Option R) → Option R) {R : Type} (n : Nat) (x0 : Int) (x1 : Int) (x2 : List (List (Int × Int))) (k : Pk → Option R) : evF tt sig (mkK [(27, Kimpl_Wheel_timers @impl_Wheel_timers n), (52, Kslices_ContainsFunc_impl_Timer_impl_Wheel_has_c1 @slices_ContainsFunc_impl_Timer_impl_Wheel_has_c1 n)] R) (mkL (mkK [(27, Kimpl_Wheel_timers @impl_Wheel_timers n), (52, Kslices_ContainsFunc_impl_Timer_impl_Wheel_has_c1 @slices_ContainsFunc_impl_Timer_impl_Wheel_has_c1 n)]) [] R) Try.f26 Himpl_Wheel_has (PkS.pack Simpl_Wheel_has (x0, x1, x2, ())) k = (fun (k : Bool → Int → (List (List (Int × Int))) → Option R) => (impl_Wheel_timers n x1 x2 fun r1 r2 r3 => (slices_ContainsFunc_impl_Timer_impl_Wheel_has_c1 n r1 x0 fun r4 r5 => k r4 r2 r3))) (fun r0 r1 r2 => k (PkS.pack Timpl_Wheel_has (r0, r1, r2, ()))) := by kernel_rfl
theorem okimpl_Wheel_has (n : Nat) : FnOk Try.prog 26 (Kimpl_Wheel_has @impl_Wheel_has n) := by
  refine fn_ok (sig := sig) mixed ttok (mkK_nat (cimpl_Wheel_has n)) (mkK_ok (cimpl_Wheel_has n)) (mkL_nat (mkK_nat (cimpl_Wheel_has n)) (l := []) trivial) (fn := Try.f26) (c := bodyOf Try.f26) (by kernel_rfl) (by kernel_rfl) (by kernel_rfl) (.eq (l := []) (by kernel_rfl) trivial) (shs := Himpl_Wheel_has) (S := Simpl_Wheel_has) (h1 := by kernel_rfl) fun R p k => ?_
  unfold Kimpl_Wheel_has
  cases h : (PkS.un Simpl_Wheel_has p) with
  | none => rfl
  | some d =>
    obtain ⟨x0, x1, x2, u⟩ := (d : Int × Int × (List (List (Int × Int))) × Unit)
    have hp := PkS.un_pack h
    subst hp
    exact (eimpl_Wheel_has @impl_Wheel_timers @slices_ContainsFunc_impl_Timer_impl_Wheel_has_c1 n x0 x1 x2 k).symm

/-! ### loop.example/g00269/impl.slotFor -/
theorem cimpl_slotFor (n : Nat) : AllOk Try.prog [(43, Kimpl_fitsLevel @impl_fitsLevel n), (44, Kimpl_slotAt @impl_slotAt n)] := ⟨okimpl_fitsLevel n, ⟨okimpl_slotAt n, trivial⟩⟩
@[reducible] def Simpl_slotFor_l2 : PkS := ⟨[.one (.int .i64), .one (.int .i64), .one (.int .i64), .one (.dead), .one (.dead)], []⟩
@[reducible] def Timpl_slotFor_l2_0 : PkS := ⟨[.one (.int .i64), .one (.bool), .one (.dead), .one (.dead)], []⟩
@[reducible] def Timpl_slotFor_l2_1 : PkS := ⟨[.one (.dead), .one (.dead)], []⟩
def Dimpl_slotFor_l2 : LoopD := ⟨18, [0, 1, 7], [.one .any, .one .any, .one .any, .skip, .skip], fun x => match x with
  | .ret => some ([4, 5], [.one .any, .one .any, .skip, .skip])
  | .exit 0 => some ([], [.skip, .skip])
  | _ => none⟩
def Pimpl_slotFor_l2 (g : ∀ {R : Type}, Nat → Int → Int → Int → (Int → Bool → Option R) → (Option R) → Option R) (n : Nat) : LPs := fun R q kk => match (PkS.un Simpl_slotFor_l2 q : Option (Int × Int × Int × Unit)) with
  | some (y2_0, y2_1, y2_2, _) => g n y2_0 y2_1 y2_2 (fun r0 r1 => kk .ret (PkS.pack Timpl_slotFor_l2_0 (r0, r1, ()))) (kk (.exit 0) (PkS.pack Timpl_slotFor_l2_1 ()))
  | none => none
theorem eimpl_slotFor_l2 (impl_fitsLevel : ∀ {R : Type}, Nat → Int → Int → Int → (Bool → Option R) → Option R) (impl_slotAt : ∀ {R : Type}, Nat → Int → Int → (Int → Option R) → Option R) (impl_slotFor_l2 : ∀ {R : Type}, Nat → Int → Int → Int → (Int → Bool → Option R) → (Option R) → Option R) {R : Type} (n : Nat) (y2_0 : Int) (y2_1 : Int) (y2_2 : Int) (kk : Ex → Pk → Option R) : Dimpl_slotFor_l2.step tt sig (mkK [(43, Kimpl_fitsLevel @impl_fitsLevel n), (44, Kimpl_slotAt @impl_slotAt n)] R) (mkL (mkK [(43, Kimpl_fitsLevel @impl_fitsLevel n), (44, Kimpl_slotAt @impl_slotAt n)]) [] R) (loopIn 2 (bodyOf Try.f28)) (fun q' => Pimpl_slotFor_l2 @impl_slotFor_l2 n R q' kk) (PkS.pack Simpl_slotFor_l2 (y2_0, y2_1, y2_2, ())) kk = (fun (kret : Int → Bool → Option R) (kexit0 : Option R) => (bif (decide (y2_2 < 3)) then (impl_fitsLevel n y2_0 y2_1 y2_2 fun r1 => (bif r1 then (impl_slotAt n y2_1 y2_2 fun r2 => kret r2 true) else impl_slotFor_l2 n y2_0 y2_1 (IntKind.wrap .i64 (y2_2 + 1)) kret kexit0)) else kexit0)) (fun r0 r1 => kk .ret (PkS.pack Timpl_slotFor_l2_0 (r0, r1, ()))) (kk (.exit 0) (PkS.pack Timpl_slotFor_l2_1 ())) := by kernel_rfl
theorem leimpl_slotFor_l2 : LoopEq tt sig (fun n => mkK [(43, Kimpl_fitsLevel @impl_fitsLevel n), (44, Kimpl_slotAt @impl_slotAt n)]) (fun n => mkL (mkK [(43, Kimpl_fitsLevel @impl_fitsLevel n), (44, Kimpl_slotAt @impl_slotAt n)]) []) Dimpl_slotFor_l2 Simpl_slotFor_l2 (loopIn 2 (bodyOf Try.f28)) (Pimpl_slotFor_l2 @impl_slotFor_l2) where
  zero R q kk := by unfold Pimpl_slotFor_l2; cases (PkS.un Simpl_slotFor_l2 q) <;> rfl
  succ n R q kk := by
    unfold Pimpl_slotFor_l2
    cases h : (PkS.un Simpl_slotFor_l2 q) with
    | none => rfl
    | some d =>
      obtain ⟨y2_0, y2_1, y2_2, u⟩ := (d : Int × Int × Int × Unit)
      have hp := PkS.un_pack h
      subst hp
      exact (eimpl_slotFor_l2 @impl_fitsLevel @impl_slotAt @impl_slotFor_l2 n y2_0 y2_1 y2_2 kk).symm
theorem nlimpl_slotFor_l2 : ∀ n, NatLP (Pimpl_slotFor_l2 @impl_slotFor_l2 n) := leimpl_slotFor_l2.nat (fun n => mkK_nat (cimpl_slotFor n)) fun n => mkL_nat (mkK_nat (cimpl_slotFor n)) (l := []) trivial
theorem inimpl_slotFor_l2 (n : Nat) (R : Type) : LoopsOk Try.prog (mkL (mkK [(43, Kimpl_fitsLevel @impl_fitsLevel n), (44, Kimpl_slotAt @impl_slotAt n)]) [] R) (loopIn 2 (bodyOf Try.f28)) := .eq (l := []) (by kernel_rfl) trivial
theorem lkimpl_slotFor_l2 (n : Nat) (R : Type) (L0 : LK R) (h0 : ∀ id, firstRegion (loopIn 2 (bodyOf Try.f28)) = some id → L0 id = Dimpl_slotFor_l2.oracle (mkK [(43, Kimpl_fitsLevel @impl_fitsLevel n), (44, Kimpl_slotAt @impl_slotAt n)] R) (Pimpl_slotFor_l2 @impl_slotFor_l2 n R)) : LoopOk Try.prog L0 (loopIn 2 (bodyOf Try.f28)) :=
  leimpl_slotFor_l2.ok mixed ttok (fun n => mkK_nat (cimpl_slotFor n)) (fun n => mkK_ok (cimpl_slotFor n)) (fun n => inimpl_slotFor_l2 n R) (mkK_nat (cimpl_slotFor n)) h0
@[reducible] def Simpl_slotFor : PkS := ⟨[.one (.int .i64), .one (.int .i64)], []⟩
@[reducible] def Timpl_slotFor : PkS := ⟨[.tup [(false, [.int .i64]), (false, [.bool])], .one (.dead), .one (.dead)], []⟩
def Himpl_slotFor : List Sh := [.tup [(false, [.any]), (false, [.any])], .skip, .skip]
def Kimpl_slotFor (g : ∀ {R : Type}, Nat → Int → Int → (Int → Bool → Option R) → Option R) (n : Nat) : KPs := fun R p k => match (PkS.un Simpl_slotFor p : Option (Int × Int × Unit)) with
  | some (x0, x1, _) => g n x0 x1 (fun r0 r1 => k (PkS.pack Timpl_slotFor (r0, r1, ())))
  | none => none
theorem eimpl_slotFor (impl_fitsLevel : ∀ {R : Type}, Nat → Int → Int → Int → (Bool → Option R) → Option R) (impl_slotAt : ∀ {R : Type}, Nat → Int → Int → (Int → Option R) → Option R) (impl_slotFor_l2 : ∀ {R : Type}, Nat → Int → Int → Int → (Int → Bool → Option R) → (Option R) → Option R) {R : Type} (n : Nat) (x0 : Int) (x1 : Int) (k : Pk → Option R) : evF tt sig (mkK [(43, Kimpl_fitsLevel @impl_fitsLevel n), (44, Kimpl_slotAt @impl_slotAt n)] R) (mkL (mkK [(43, Kimpl_fitsLevel @impl_fitsLevel n), (44, Kimpl_slotAt @impl_slotAt n)]) [(2, Dimpl_slotFor_l2, Pimpl_slotFor_l2 @impl_slotFor_l2 n)] R) Try.f28 Himpl_slotFor (PkS.pack Simpl_slotFor (x0, x1, ())) k = (fun (k : Int → Bool → Option R) => (impl_slotFor_l2 n x0 x1 0 (fun r3 r4 => k r3 r4) (k 0 false))) (fun r0 r1 => k (PkS.pack Timpl_slotFor (r0, r1, ()))) := by kernel_rfl
theorem okimpl_slotFor (n : Nat) : FnOk Try.prog 28 (Kimpl_slotFor @impl_slotFor n) := by
  refine fn_ok (sig := sig) mixed ttok (mkK_nat (cimpl_slotFor n)) (mkK_ok (cimpl_slotFor n)) (mkL_nat (mkK_nat (cimpl_slotFor n)) (l := [(2, Dimpl_slotFor_l2, Pimpl_slotFor_l2 @impl_slotFor_l2 n)]) ⟨nlimpl_slotFor_l2 n, trivial⟩) (fn := Try.f28) (c := bodyOf Try.f28) (by kernel_rfl) (by kernel_rfl) (by kernel_rfl) (.eq (l := [.lo (loopIn 2 (bodyOf Try.f28))]) (by kernel_rfl) ⟨(lkimpl_slotFor_l2 n _ _ (at_id (i := 2) (by kernel_rfl) rfl)), trivial⟩) (shs := Himpl_slotFor) (S := Simpl_slotFor) (h1 := by kernel_rfl) fun R p k => ?_
  unfold Kimpl_slotFor
  cases h : (PkS.un Simpl_slotFor p) with
  | none => rfl
  | some d =>
    obtain ⟨x0, x1, u⟩ := (d : Int × Int × Unit)
    have hp := PkS.un_pack h
    subst hp
    exact (eimpl_slotFor @impl_fitsLevel @impl_slotAt @impl_slotFor_l2 n x0 x1 k).symm

/-! ### slices.Clone[[]loop.example/g00269/impl.Timer,loop.example/g00269/impl.Timer] -/
theorem cslices_Clone_impl_Timer (n : Nat) : AllOk Try.prog [] := trivial
@[reducible] def Sslices_Clone_impl_Timer : PkS := ⟨[.one (.ro (.pr (.int .i64) (.int .i64)))], []⟩
@[reducible] def Tslices_Clone_impl_Timer : PkS := ⟨[.one (.whole (300000, 0)), .one (.dead)], [((300000, 0), .arr (.pr (.int .i64) (.int .i64)))]⟩
def Kslices_Clone_impl_Timer (g : ∀ {R : Type}, Nat → (List (Int × Int)) → ((List (Int × Int)) → Option R) → Option R) (n : Nat) : KPs := fun R p k => match (PkS.un Sslices_Clone_impl_Timer p : Option ((List (Int × Int)) × Unit)) with
  | some (x0, _) => g n x0 (fun r0 => k (PkS.pack Tslices_Clone_impl_Timer (r0, ())))
  | none => none
theorem okslices_Clone_impl_Timer (n : Nat) : FnOk Try.prog 55 (Kslices_Clone_impl_Timer @slices_Clone_impl_Timer n) := by
  have e : Kslices_Clone_impl_Timer @slices_Clone_impl_Timer n = cloneK (.pr (.int .i64) (.int .i64)) := by kernel_rfl
  rw [e]
  exact clone_ok (sig := sig) mixed ttok (fn := Try.f55) (c := bodyOf Try.f55) (by kernel_rfl) (by kernel_rfl) (by kernel_rfl) (.pr (.int .i64) (.int .i64)) [.one (.own (.pr (.int .i64) (.int .i64))), .skip] (.eq (l := []) (by kernel_rfl) trivial) (fun xs => by kernel_rfl) (by kernel_rfl) (by kernel_rfl)

/-! ### loop.example/g00269/impl.cloneWheel -/
theorem cimpl_cloneWheel (n : Nat) : AllOk Try.prog [(55, Kslices_Clone_impl_Timer @slices_Clone_impl_Timer n)] := ⟨okslices_Clone_impl_Timer n, trivial⟩
@[reducible] def Simpl_cloneWheel_l3 : PkS := ⟨[.one (.box (100000, 1) 0), .one (.box (100000, 3) 0), .one (.ro (.sl (.pr (.int .i64) (.int .i64)))), .one (.int .i64), .one (.int .i64), .one (.dead)], [((100000, 0), .rr (.pr (.int .i64) (.int .i64))), ((100000, 1), .box [.int .i64, .mp (100000, 0)]), ((100000, 2), .rr (.pr (.int .i64) (.int .i64))), ((100000, 3), .box [.int .i64, .mp (100000, 2)])]⟩
@[reducible] def Timpl_cloneWheel_l3_0 : PkS := ⟨[.one (.box (100000, 1) 0), .one (.box (100000, 3) 0), .one (.dead)], [((100000, 0), .rr (.pr (.int .i64) (.int .i64))), ((100000, 1), .box [.int .i64, .mp (100000, 0)]), ((100000, 2), .rr (.pr (.int .i64) (.int .i64))), ((100000, 3), .box [.int .i64, .mp (100000, 2)])]⟩
def Dimpl_cloneWheel_l3 : LoopD := ⟨25, [2, 3, 10, 11, 12], [.box [.any, (.rr (.pr (.int .i64) (.int .i64)))], .box [.any, (.rr (.pr (.int .i64) (.int .i64)))], .one (.ro (.sl (.pr (.int .i64) (.int .i64)))), .one .any, .one .any, .skip], fun x => match x with
  | .exit 0 => some ([2, 3], [.box [.any, (.rr (.pr (.int .i64) (.int .i64)))], .box [.any, (.rr (.pr (.int .i64) (.int .i64)))], .skip])
  | _ => none⟩
def Pimpl_cloneWheel_l3 (g : ∀ {R : Type}, Nat → (List (List (Int × Int))) → Int → Int → (List (List (Int × Int))) → Int → (List (List (Int × Int))) → Int → ((List (List (Int × Int))) → Int → (List (List (Int × Int))) → Int → Option R) → Option R) (n : Nat) : LPs := fun R q kk => match (PkS.un Simpl_cloneWheel_l3 q : Option ((List (List (Int × Int))) × Int × Int × (List (List (Int × Int))) × Int × (List (List (Int × Int))) × Int × Unit)) with
  | some (y3_0, y3_1, y3_2, y3_3, y3_4, y3_5, y3_6, _) => g n y3_0 y3_1 y3_2 y3_3 y3_4 y3_5 y3_6 (fun r0 r1 r2 r3 => kk (.exit 0) (PkS.pack Timpl_cloneWheel_l3_0 (r0, r1, r2, r3, ())))
  | none => none
theorem eimpl_cloneWheel_l3 (slices_Clone_impl_Timer : ∀ {R : Type}, Nat → (List (Int × Int)) → ((List (Int × Int)) → Option R) → Option R) (impl_cloneWheel_l3 : ∀ {R : Type}, Nat → (List (List (Int × Int))) → Int → Int → (List (List (Int × Int))) → Int → (List (List (Int × Int))) → Int → ((List (List (Int × Int))) → Int → (List (List (Int × Int))) → Int → Option R) → Option R) {R : Type} (n : Nat) (y3_0 : List (List (Int × Int))) (y3_1 : Int) (y3_2 : Int) (y3_3 : List (List (Int × Int))) (y3_4 : Int) (y3_5 : List (List (Int × Int))) (y3_6 : Int) (kk : Ex → Pk → Option R) : Dimpl_cloneWheel_l3.step tt sig (mkK [(55, Kslices_Clone_impl_Timer @slices_Clone_impl_Timer n)] R) (mkL (mkK [(55, Kslices_Clone_impl_Timer @slices_Clone_impl_Timer n)]) [] R) (loopIn 3 (bodyOf Try.f29)) (fun q' => Pimpl_cloneWheel_l3 @impl_cloneWheel_l3 n R q' kk) (PkS.pack Simpl_cloneWheel_l3 (y3_0, y3_1, y3_2, y3_3, y3_4, y3_5, y3_6, ())) kk = (fun (kexit0 : (List (List (Int × Int))) → Int → (List (List (Int × Int))) → Int → Option R) => (bif (decide (y3_2 < y3_1)) then (bif decide (0 ≤ y3_2) then (bif decide (y3_2 < (y3_0.length : Int)) then (slices_Clone_impl_Timer n (y3_0.getD (Int.toNat y3_2) []) fun r1 => (bif decide (y3_5.length + [r1].length ≤ LIM) then impl_cloneWheel_l3 n y3_0 y3_1 (IntKind.wrap .i64 (y3_2 + 1)) y3_3 y3_4 (y3_5 ++ [r1]) y3_6 kexit0 else none)) else none) else none) else kexit0 y3_3 y3_4 y3_5 y3_6)) (fun r0 r1 r2 r3 => kk (.exit 0) (PkS.pack Timpl_cloneWheel_l3_0 (r0, r1, r2, r3, ()))) := by kernel_rfl
theorem leimpl_cloneWheel_l3 : LoopEq tt sig (fun n => mkK [(55, Kslices_Clone_impl_Timer @slices_Clone_impl_Timer n)]) (fun n => mkL (mkK [(55, Kslices_Clone_impl_Timer @slices_Clone_impl_Timer n)]) []) Dimpl_cloneWheel_l3 Simpl_cloneWheel_l3 (loopIn 3 (bodyOf Try.f29)) (Pimpl_cloneWheel_l3 @impl_cloneWheel_l3) where
  zero R q kk := by unfold Pimpl_cloneWheel_l3; cases (PkS.un Simpl_cloneWheel_l3 q) <;> rfl
  succ n R q kk := by
    unfold Pimpl_cloneWheel_l3
    cases h : (PkS.un Simpl_cloneWheel_l3 q) with
    | none => rfl
    | some d =>
      obtain ⟨y3_0, y3_1, y3_2, y3_3, y3_4, y3_5, y3_6, u⟩ := (d : (List (List (Int × Int))) × Int × Int × (List (List (Int × Int))) × Int × (List (List (Int × Int))) × Int × Unit)
      have hp := PkS.un_pack h
      subst hp
      exact (eimpl_cloneWheel_l3 @slices_Clone_impl_Timer @impl_cloneWheel_l3 n y3_0 y3_1 y3_2 y3_3 y3_4 y3_5 y3_6 kk).symm
theorem nlimpl_cloneWheel_l3 : ∀ n, NatLP (Pimpl_cloneWheel_l3 @impl_cloneWheel_l3 n) := leimpl_cloneWheel_l3.nat (fun n => mkK_nat (cimpl_cloneWheel n)) fun n => mkL_nat (mkK_nat (cimpl_cloneWheel n)) (l := []) trivial
theorem inimpl_cloneWheel_l3 (n : Nat) (R : Type) : LoopsOk Try.prog (mkL (mkK [(55, Kslices_Clone_impl_Timer @slices_Clone_impl_Timer n)]) [] R) (loopIn 3 (bodyOf Try.f29)) := .eq (l := []) (by kernel_rfl) trivial
theorem lkimpl_cloneWheel_l3 (n : Nat) (R : Type) (L0 : LK R) (h0 : ∀ id, firstRegion (loopIn 3 (bodyOf Try.f29)) = some id → L0 id = Dimpl_cloneWheel_l3.oracle (mkK [(55, Kslices_Clone_impl_Timer @slices_Clone_impl_Timer n)] R) (Pimpl_cloneWheel_l3 @impl_cloneWheel_l3 n R)) : LoopOk Try.prog L0 (loopIn 3 (bodyOf Try.f29)) :=
  leimpl_cloneWheel_l3.ok mixed ttok (fun n => mkK_nat (cimpl_cloneWheel n)) (fun n => mkK_ok (cimpl_cloneWheel n)) (fun n => inimpl_cloneWheel_l3 n R) (mkK_nat (cimpl_cloneWheel n)) h0
@[reducible] def Simpl_cloneWheel : PkS := ⟨[.agg [.int .i64, .ro (.sl (.pr (.int .i64) (.int .i64)))]], []⟩
@[reducible] def Timpl_cloneWheel : PkS := ⟨[.agg [.int .i64, .mp (300000, 0)], .one (.dead)], [((300000, 0), .rr (.pr (.int .i64) (.int .i64)))]⟩
def Himpl_cloneWheel : List Sh := [.agg [.any, (.rr (.pr (.int .i64) (.int .i64)))], .skip]
def Kimpl_cloneWheel (g : ∀ {R : Type}, Nat → Int → (List (List (Int × Int))) → (Int → (List (List (Int × Int))) → Option R) → Option R) (n : Nat) : KPs := fun R p k => match (PkS.un Simpl_cloneWheel p : Option (Int × (List (List (Int × Int))) × Unit)) with
  | some (x0, x1, _) => g n x0 x1 (fun r0 r1 => k (PkS.pack Timpl_cloneWheel (r0, r1, ())))
  | none => none
theorem eimpl_cloneWheel (slices_Clone_impl_Timer : ∀ {R : Type}, Nat → (List (Int × Int)) → ((List (Int × Int)) → Option R) → Option R) (impl_cloneWheel_l3 : ∀ {R : Type}, Nat → (List (List (Int × Int))) → Int → Int → (List (List (Int × Int))) → Int → (List (List (Int × Int))) → Int → ((List (List (Int × Int))) → Int → (List (List (Int × Int))) → Int → Option R) → Option R) {R : Type} (n : Nat) (x0 : Int) (x1 : List (List (Int × Int))) (k : Pk → Option R) : evF tt sig (mkK [(55, Kslices_Clone_impl_Timer @slices_Clone_impl_Timer n)] R) (mkL (mkK [(55, Kslices_Clone_impl_Timer @slices_Clone_impl_Timer n)]) [(3, Dimpl_cloneWheel_l3, Pimpl_cloneWheel_l3 @impl_cloneWheel_l3 n)] R) Try.f29 Himpl_cloneWheel (PkS.pack Simpl_cloneWheel (x0, x1, ())) k = (fun (k : Int → (List (List (Int × Int))) → Option R) => (impl_cloneWheel_l3 n x1 (x1.length : Int) 0 ([] : List (List (Int × Int))) 0 ([] : List (List (Int × Int))) x0 (fun r2 r3 r4 r5 => k r5 r4))) (fun r0 r1 => k (PkS.pack Timpl_cloneWheel (r0, r1, ()))) := by kernel_rfl
theorem okimpl_cloneWheel (n : Nat) : FnOk Try.prog 29 (Kimpl_cloneWheel @impl_cloneWheel n) := by
  refine fn_ok (sig := sig) mixed ttok (mkK_nat (cimpl_cloneWheel n)) (mkK_ok (cimpl_cloneWheel n)) (mkL_nat (mkK_nat (cimpl_cloneWheel n)) (l := [(3, Dimpl_cloneWheel_l3, Pimpl_cloneWheel_l3 @impl_cloneWheel_l3 n)]) ⟨nlimpl_cloneWheel_l3 n, trivial⟩) (fn := Try.f29) (c := bodyOf Try.f29) (by kernel_rfl) (by kernel_rfl) (by kernel_rfl) (.eq (l := [.lo (loopIn 3 (bodyOf Try.f29))]) (by kernel_rfl) ⟨(lkimpl_cloneWheel_l3 n _ _ (at_id (i := 3) (by kernel_rfl) rfl)), trivial⟩) (shs := Himpl_cloneWheel) (S := Simpl_cloneWheel) (h1 := by kernel_rfl) fun R p k => ?_
  unfold Kimpl_cloneWheel
  cases h : (PkS.un Simpl_cloneWheel p) with
  | none => rfl
  | some d =>
    obtain ⟨x0, x1, u⟩ := (d : Int × (List (List (Int × Int))) × Unit)
    have hp := PkS.un_pack h
    subst hp
    exact (eimpl_cloneWheel @slices_Clone_impl_Timer @impl_cloneWheel_l3 n x0 x1 k).symm

/-! ### loop.example/g00269/impl.SetTimer -/
theorem cimpl_SetTimer (n : Nat) : AllOk Try.prog [(13, Kimpl_GoodWheel @impl_GoodWheel n), (24, Kimpl_in @impl_in n), (25, Kimpl_reach @impl_reach n), (26, Kimpl_Wheel_has @impl_Wheel_has n), (27, Kimpl_Wheel_timers @impl_Wheel_timers n), (28, Kimpl_slotFor @impl_slotFor n), (29, Kimpl_cloneWheel @impl_cloneWheel n)] := ⟨okimpl_GoodWheel n, ⟨okimpl_in n, ⟨okimpl_reach n, ⟨okimpl_Wheel_has n, ⟨okimpl_Wheel_timers n, ⟨okimpl_slotFor n, ⟨okimpl_cloneWheel n, trivial⟩⟩⟩⟩⟩⟩⟩
@[reducible] def Simpl_SetTimer : PkS := ⟨[.agg [.int .i64, .ro (.sl (.pr (.int .i64) (.int .i64)))], .agg [.int .i64, .int .i64]], []⟩
@[reducible] def Timpl_SetTimer : PkS := ⟨[.tup [(true, [.int .i64, .mp (300000, 0)]), (false, [.bool])], .one (.dead), .one (.dead)], [((300000, 0), .rr (.pr (.int .i64) (.int .i64)))]⟩
def Himpl_SetTimer : List Sh := [.tup [(true, [.any, (.rr (.pr (.int .i64) (.int .i64)))]), (false, [.any])], .skip, .skip]
def Kimpl_SetTimer (g : ∀ {R : Type}, Nat → Int → (List (List (Int × Int))) → Int → Int → (Int → Bool → (List (List (Int × Int))) → Option R) → Option R) (n : Nat) : KPs := fun R p k => match (PkS.un Simpl_SetTimer p : Option (Int × (List (List (Int × Int))) × Int × Int × Unit)) with
  | some (x0, x1, x2, x3, _) => g n x0 x1 x2 x3 (fun r0 r1 r2 => k (PkS.pack Timpl_SetTimer (r0, r1, r2, ())))
  | none => none
theorem eimpl_SetTimer (impl_GoodWheel : ∀ {R : Type}, Nat → Int → (List (List (Int × Int))) → (Bool → Option R) → Option R) (impl_in : ∀ {R : Type}, Nat → Int → Int → Int → (Bool → Option R) → Option R) (impl_reach : ∀ {R : Type}, Nat → Int → Int → (Bool → Option R) → Option R) (impl_Wheel_has : ∀ {R : Type}, Nat → Int → Int → (List (List (Int × Int))) → (Bool → Int → (List (List (Int × Int))) → Option R) → Option R) (impl_Wheel_timers : ∀ {R : Type}, Nat → Int → (List (List (Int × Int))) → ((List (Int × Int)) → Int → (List (List (Int × Int))) → Option R) → Option R) (impl_slotFor : ∀ {R : Type}, Nat → Int → Int → (Int → Bool → Option R) → Option R) (impl_cloneWheel : ∀ {R : Type}, Nat → Int → (List (List (Int × Int))) → (Int → (List (List (Int × Int))) → Option R) → Option R) {R : Type} (n : Nat) (x0 : Int) (x1 : List (List (Int × Int))) (x2 : Int) (x3 : Int) (k : Pk → Option R) : evF tt sig (mkK [(13, Kimpl_GoodWheel @impl_GoodWheel n), (24, Kimpl_in @impl_in n), (25, Kimpl_reach @impl_reach n), (26, Kimpl_Wheel_has @impl_Wheel_has n), (27, Kimpl_Wheel_timers @impl_Wheel_timers n), (28, Kimpl_slotFor @impl_slotFor n), (29, Kimpl_cloneWheel @impl_cloneWheel n)] R) (mkL (mkK [(13, Kimpl_GoodWheel @impl_GoodWheel n), (24, Kimpl_in @impl_in n), (25, Kimpl_reach @impl_reach n), (26, Kimpl_Wheel_has @impl_Wheel_has n), (27, Kimpl_Wheel_timers @impl_Wheel_timers n), (28, Kimpl_slotFor @impl_slotFor n), (29, Kimpl_cloneWheel @impl_cloneWheel n)]) [] R) Try.f6 Himpl_SetTimer (PkS.pack Simpl_SetTimer (x0, x1, x2, x3, ())) k = (fun (k : Int → Bool → (List (List (Int × Int))) → Option R) => (impl_GoodWheel n x0 x1 fun r1 => (bif (!r1) then k 0 false ([] : List (List (Int × Int))) else (impl_in n x3 0 1000 fun r2 => (bif (!r2) then k 0 false ([] : List (List (Int × Int))) else (impl_reach n x0 x2 fun r3 => (bif (!r3) then k 0 false ([] : List (List (Int × Int))) else (impl_Wheel_has n x3 x0 x1 fun r4 r5 r6 => (bif r4 then k 0 false ([] : List (List (Int × Int))) else (impl_Wheel_timers n r5 r6 fun r7 r8 r9 => (bif ((r7.length : Int) == 60) then k 0 false ([] : List (List (Int × Int))) else (impl_slotFor n r8 x2 fun r10 r11 => (bif (!r11) then k 0 false ([] : List (List (Int × Int))) else (impl_cloneWheel n r8 r9 fun r12 r13 => (bif decide (0 ≤ r10) then (bif decide (r10 < (r13.length : Int)) then (bif decide ((r13.getD (Int.toNat r10) []).length + ([(x2, x3)]).length ≤ LIM) then (bif decide (0 ≤ r10) then (bif decide (r10 < ((r13.set (Int.toNat r10) []).length : Int)) then (bif Nat.beq (Int.toNat r10) (Int.toNat r10) then k r12 true ((r13.set (Int.toNat r10) []).set (Int.toNat r10) ((r13.getD (Int.toNat r10) []) ++ [(x2, x3)])) else none) else none) else none) else none) else none) else none))))))))))))))) (fun r0 r1 r2 => k (PkS.pack Timpl_SetTimer (r0, r1, r2, ()))) := by kernel_rfl
theorem okimpl_SetTimer (n : Nat) : FnOk Try.prog 6 (Kimpl_SetTimer @impl_SetTimer n) := by
  refine fn_ok (sig := sig) mixed ttok (mkK_nat (cimpl_SetTimer n)) (mkK_ok (cimpl_SetTimer n)) (mkL_nat (mkK_nat (cimpl_SetTimer n)) (l := []) trivial) (fn := Try.f6) (c := bodyOf Try.f6) (by kernel_rfl) (by kernel_rfl) (by kernel_rfl) (.eq (l := []) (by kernel_rfl) trivial) (shs := Himpl_SetTimer) (S := Simpl_SetTimer) (h1 := by kernel_rfl) fun R p k => ?_
  unfold Kimpl_SetTimer
  cases h : (PkS.un Simpl_SetTimer p) with
  | none => rfl
  | some d =>
    obtain ⟨x0, x1, x2, x3, u⟩ := (d : Int × (List (List (Int × Int))) × Int × Int × Unit)
    have hp := PkS.un_pack h
    subst hp
    exact (eimpl_SetTimer @impl_GoodWheel @impl_in @impl_reach @impl_Wheel_has @impl_Wheel_timers @impl_slotFor @impl_cloneWheel n x0 x1 x2 x3 k).symm

/-! ### loop.example/g00269/impl.SlotFor -/
theorem cimpl_SlotFor (n : Nat) : AllOk Try.prog [(35, Kimpl_isNow @impl_isNow n), (25, Kimpl_reach @impl_reach n), (28, Kimpl_slotFor @impl_slotFor n)] := ⟨okimpl_isNow n, ⟨okimpl_reach n, ⟨okimpl_slotFor n, trivial⟩⟩⟩
@[reducible] def Simpl_SlotFor : PkS := ⟨[.one (.int .i64), .one (.int .i64)], []⟩
@[reducible] def Timpl_SlotFor : PkS := ⟨[.tup [(false, [.int .i64]), (false, [.bool])], .one (.dead), .one (.dead)], []⟩
def Himpl_SlotFor : List Sh := [.tup [(false, [.any]), (false, [.any])], .skip, .skip]
def Kimpl_SlotFor (g : ∀ {R : Type}, Nat → Int → Int → (Int → Bool → Option R) → Option R) (n : Nat) : KPs := fun R p k => match (PkS.un Simpl_SlotFor p : Option (Int × Int × Unit)) with
  | some (x0, x1, _) => g n x0 x1 (fun r0 r1 => k (PkS.pack Timpl_SlotFor (r0, r1, ())))
  | none => none
theorem eimpl_SlotFor (impl_isNow : ∀ {R : Type}, Nat → Int → (Bool → Option R) → Option R) (impl_reach : ∀ {R : Type}, Nat → Int → Int → (Bool → Option R) → Option R) (impl_slotFor : ∀ {R : Type}, Nat → Int → Int → (Int → Bool → Option R) → Option R) {R : Type} (n : Nat) (x0 : Int) (x1 : Int) (k : Pk → Option R) : evF tt sig (mkK [(35, Kimpl_isNow @impl_isNow n), (25, Kimpl_reach @impl_reach n), (28, Kimpl_slotFor @impl_slotFor n)] R) (mkL (mkK [(35, Kimpl_isNow @impl_isNow n), (25, Kimpl_reach @impl_reach n), (28, Kimpl_slotFor @impl_slotFor n)]) [] R) Try.f8 Himpl_SlotFor (PkS.pack Simpl_SlotFor (x0, x1, ())) k = (fun (k : Int → Bool → Option R) => (impl_isNow n x0 fun r1 => (bif (!r1) then k 0 false else (impl_reach n x0 x1 fun r2 => (bif (!r2) then k 0 false else (impl_slotFor n x0 x1 fun r3 r4 => k r3 r4)))))) (fun r0 r1 => k (PkS.pack Timpl_SlotFor (r0, r1, ()))) := by kernel_rfl
theorem okimpl_SlotFor (n : Nat) : FnOk Try.prog 8 (Kimpl_SlotFor @impl_SlotFor n) := by
  refine fn_ok (sig := sig) mixed ttok (mkK_nat (cimpl_SlotFor n)) (mkK_ok (cimpl_SlotFor n)) (mkL_nat (mkK_nat (cimpl_SlotFor n)) (l := []) trivial) (fn := Try.f8) (c := bodyOf Try.f8) (by kernel_rfl) (by kernel_rfl) (by kernel_rfl) (.eq (l := []) (by kernel_rfl) trivial) (shs := Himpl_SlotFor) (S := Simpl_SlotFor) (h1 := by kernel_rfl) fun R p k => ?_
  unfold Kimpl_SlotFor
  cases h : (PkS.un Simpl_SlotFor p) with
  | none => rfl
  | some d =>
    obtain ⟨x0, x1, u⟩ := (d : Int × Int × Unit)
    have hp := PkS.un_pack h
    subst hp
    exact (eimpl_SlotFor @impl_isNow @impl_reach @impl_slotFor n x0 x1 k).symm

/-! ### loop.example/g00269/spec.SlotFor -/
theorem cspec_SlotFor (n : Nat) : AllOk Try.prog [(36, Kspec_l1In @spec_l1In n), (31, Kspec_l5Timer @spec_l5Timer n), (33, Kspec_l5Slot @spec_l5Slot n)] := ⟨okspec_l1In n, ⟨okspec_l5Timer n, ⟨okspec_l5Slot n, trivial⟩⟩⟩
@[reducible] def Sspec_SlotFor : PkS := ⟨[.one (.int .i64), .one (.int .i64)], []⟩
@[reducible] def Tspec_SlotFor : PkS := ⟨[.tup [(false, [.int .i64]), (false, [.bool])], .one (.dead), .one (.dead)], []⟩
def Hspec_SlotFor : List Sh := [.tup [(false, [.any]), (false, [.any])], .skip, .skip]
def Kspec_SlotFor (g : ∀ {R : Type}, Nat → Int → Int → (Int → Bool → Option R) → Option R) (n : Nat) : KPs := fun R p k => match (PkS.un Sspec_SlotFor p : Option (Int × Int × Unit)) with
  | some (x0, x1, _) => g n x0 x1 (fun r0 r1 => k (PkS.pack Tspec_SlotFor (r0, r1, ())))
  | none => none
theorem espec_SlotFor (spec_l1In : ∀ {R : Type}, Nat → Int → Int → Int → (Bool → Option R) → Option R) (spec_l5Timer : ∀ {R : Type}, Nat → Int → Int → Int → (Bool → Option R) → Option R) (spec_l5Slot : ∀ {R : Type}, Nat → Int → Int → (Int → Option R) → Option R) {R : Type} (n : Nat) (x0 : Int) (x1 : Int) (k : Pk → Option R) : evF tt sig (mkK [(36, Kspec_l1In @spec_l1In n), (31, Kspec_l5Timer @spec_l5Timer n), (33, Kspec_l5Slot @spec_l5Slot n)] R) (mkL (mkK [(36, Kspec_l1In @spec_l1In n), (31, Kspec_l5Timer @spec_l5Timer n), (33, Kspec_l5Slot @spec_l5Slot n)]) [] R) Try.f9 Hspec_SlotFor (PkS.pack Sspec_SlotFor (x0, x1, ())) k = (fun (k : Int → Bool → Option R) => (spec_l1In n x0 0 100000 fun r1 => (bif (!r1) then k 0 false else (spec_l5Timer n x1 0 x0 fun r2 => (bif (!r2) then k 0 false else (spec_l5Slot n x0 x1 fun r3 => (bif (decide (r3 < 0)) then k 0 false else k r3 true))))))) (fun r0 r1 => k (PkS.pack Tspec_SlotFor (r0, r1, ()))) := by kernel_rfl
theorem okspec_SlotFor (n : Nat) : FnOk Try.prog 9 (Kspec_SlotFor @spec_SlotFor n) := by
  refine fn_ok (sig := sig) mixed ttok (mkK_nat (cspec_SlotFor n)) (mkK_ok (cspec_SlotFor n)) (mkL_nat (mkK_nat (cspec_SlotFor n)) (l := []) trivial) (fn := Try.f9) (c := bodyOf Try.f9) (by kernel_rfl) (by kernel_rfl) (by kernel_rfl) (.eq (l := []) (by kernel_rfl) trivial) (shs := Hspec_SlotFor) (S := Sspec_SlotFor) (h1 := by kernel_rfl) fun R p k => ?_
  unfold Kspec_SlotFor
  cases h : (PkS.un Sspec_SlotFor p) with
  | none => rfl
  | some d =>
    obtain ⟨x0, x1, u⟩ := (d : Int × Int × Unit)
    have hp := PkS.un_pack h
    subst hp
    exact (espec_SlotFor @spec_l1In @spec_l5Timer @spec_l5Slot n x0 x1 k).symm

/-! ### slices.SortFunc[[]loop.example/g00269/impl.Timer,loop.example/g00269/impl.Timer] -/
theorem cslices_SortFunc_impl_Timer_impl_TimersIn_c1 (n : Nat) : AllOk Try.prog [] := trivial
@[reducible] def Sslices_SortFunc_impl_Timer_impl_TimersIn_c1 : PkS := ⟨[.one (.whole (200000, 0)), .one (.fn 38 [])], [((200000, 0), .arr (.pr (.int .i64) (.int .i64)))]⟩
@[reducible] def Tslices_SortFunc_impl_Timer_impl_TimersIn_c1 : PkS := ⟨[.tup [], .one (.whole (300000, 0)), .one (.dead)], [((300000, 0), .arr (.pr (.int .i64) (.int .i64)))]⟩
def Kslices_SortFunc_impl_Timer_impl_TimersIn_c1 (g : ∀ {R : Type}, Nat → (List (Int × Int)) → ((List (Int × Int)) → Option R) → Option R) (n : Nat) : KPs := fun R p k => match (PkS.un Sslices_SortFunc_impl_Timer_impl_TimersIn_c1 p : Option ((List (Int × Int)) × Unit)) with
  | some (x0, _) => g n x0 (fun r0 => k (PkS.pack Tslices_SortFunc_impl_Timer_impl_TimersIn_c1 (r0, ())))
  | none => none
theorem okslices_SortFunc_impl_Timer_impl_TimersIn_c1 (n : Nat) : FnOk Try.prog 37 (Kslices_SortFunc_impl_Timer_impl_TimersIn_c1 @slices_SortFunc_impl_Timer_impl_TimersIn_c1 n) := by
  have e : Kslices_SortFunc_impl_Timer_impl_TimersIn_c1 @slices_SortFunc_impl_Timer_impl_TimersIn_c1 n = sortTK := by kernel_rfl
  rw [e]
  exact sortT_ok (fn := Try.f37) (c := bodyOf Try.f37) (by kernel_rfl) (by kernel_rfl) (by kernel_rfl)

/-! ### loop.example/g00269/impl.TimersIn -/
theorem cimpl_TimersIn (n : Nat) : AllOk Try.prog [(13, Kimpl_GoodWheel @impl_GoodWheel n), (27, Kimpl_Wheel_timers @impl_Wheel_timers n), (37, Kslices_SortFunc_impl_Timer_impl_TimersIn_c1 @slices_SortFunc_impl_Timer_impl_TimersIn_c1 n)] := ⟨okimpl_GoodWheel n, ⟨okimpl_Wheel_timers n, ⟨okslices_SortFunc_impl_Timer_impl_TimersIn_c1 n, trivial⟩⟩⟩
@[reducible] def Simpl_TimersIn : PkS := ⟨[.agg [.int .i64, .ro (.sl (.pr (.int .i64) (.int .i64)))]], []⟩
@[reducible] def Timpl_TimersIn : PkS := ⟨[.tup [(false, [.whole (300000, 0)]), (false, [.bool])], .one (.dead)], [((300000, 0), .arr (.pr (.int .i64) (.int .i64)))]⟩
def Himpl_TimersIn : List Sh := [.tup [(false, [(.own (.pr (.int .i64) (.int .i64)))]), (false, [.any])], .skip]
def Kimpl_TimersIn (g : ∀ {R : Type}, Nat → Int → (List (List (Int × Int))) → (Bool → (List (Int × Int)) → Option R) → Option R) (n : Nat) : KPs := fun R p k => match (PkS.un Simpl_TimersIn p : Option (Int × (List (List (Int × Int))) × Unit)) with
  | some (x0, x1, _) => g n x0 x1 (fun r0 r1 => k (PkS.pack Timpl_TimersIn (r0, r1, ())))
  | none => none
theorem eimpl_TimersIn (impl_GoodWheel : ∀ {R : Type}, Nat → Int → (List (List (Int × Int))) → (Bool → Option R) → Option R) (impl_Wheel_timers : ∀ {R : Type}, Nat → Int → (List (List (Int × Int))) → ((List (Int × Int)) → Int → (List (List (Int × Int))) → Option R) → Option R) (slices_SortFunc_impl_Timer_impl_TimersIn_c1 : ∀ {R : Type}, Nat → (List (Int × Int)) → ((List (Int × Int)) → Option R) → Option R) {R : Type} (n : Nat) (x0 : Int) (x1 : List (List (Int × Int))) (k : Pk → Option R) : evF tt sig (mkK [(13, Kimpl_GoodWheel @impl_GoodWheel n), (27, Kimpl_Wheel_timers @impl_Wheel_timers n), (37, Kslices_SortFunc_impl_Timer_impl_TimersIn_c1 @slices_SortFunc_impl_Timer_impl_TimersIn_c1 n)] R) (mkL (mkK [(13, Kimpl_GoodWheel @impl_GoodWheel n), (27, Kimpl_Wheel_timers @impl_Wheel_timers n), (37, Kslices_SortFunc_impl_Timer_impl_TimersIn_c1 @slices_SortFunc_impl_Timer_impl_TimersIn_c1 n)]) [] R) Try.f10 Himpl_TimersIn (PkS.pack Simpl_TimersIn (x0, x1, ())) k = (fun (k : Bool → (List (Int × Int)) → Option R) => (impl_GoodWheel n x0 x1 fun r1 => (bif (!r1) then k false ([] : List (Int × Int)) else (impl_Wheel_timers n x0 x1 fun r2 r3 r4 => (slices_SortFunc_impl_Timer_impl_TimersIn_c1 n r2 fun r5 => k true r5))))) (fun r0 r1 => k (PkS.pack Timpl_TimersIn (r0, r1, ()))) := by kernel_rfl
theorem okimpl_TimersIn (n : Nat) : FnOk Try.prog 10 (Kimpl_TimersIn @impl_TimersIn n) := by
  refine fn_ok (sig := sig) mixed ttok (mkK_nat (cimpl_TimersIn n)) (mkK_ok (cimpl_TimersIn n)) (mkL_nat (mkK_nat (cimpl_TimersIn n)) (l := []) trivial) (fn := Try.f10) (c := bodyOf Try.f10) (by kernel_rfl) (by kernel_rfl) (by kernel_rfl) (.eq (l := []) (by kernel_rfl) trivial) (shs := Himpl_TimersIn) (S := Simpl_TimersIn) (h1 := by kernel_rfl) fun R p k => ?_
  unfold Kimpl_TimersIn
  cases h : (PkS.un Simpl_TimersIn p) with
  | none => rfl
  | some d =>
    obtain ⟨x0, x1, u⟩ := (d : Int × (List (List (Int × Int))) × Unit)
    have hp := PkS.un_pack h
    subst hp
    exact (eimpl_TimersIn @impl_GoodWheel @impl_Wheel_timers @slices_SortFunc_impl_Timer_impl_TimersIn_c1 n x0 x1 k).symm

/-! ### loop.example/g00269/impl.DropTimer$1 -/
theorem cimpl_DropTimer_c1 (n : Nat) : AllOk Try.prog [] := trivial
@[reducible] def Simpl_DropTimer_c1 : PkS := ⟨[.agg [.int .i64, .int .i64], .one (.box (200000, 0) 0)], [((200000, 0), .box [.int .i64])]⟩
@[reducible] def Timpl_DropTimer_c1 : PkS := ⟨[.one (.bool), .one (.dead), .one (.box (300000, 0) 0)], [((300000, 0), .box [.int .i64])]⟩
def Himpl_DropTimer_c1 : List Sh := [.one .any, .skip, .box [.any]]
def Kimpl_DropTimer_c1 (g : ∀ {R : Type}, Nat → Int → Int → Int → (Bool → Int → Option R) → Option R) (n : Nat) : KPs := fun R p k => match (PkS.un Simpl_DropTimer_c1 p : Option (Int × Int × Int × Unit)) with
  | some (x0, x1, x2, _) => g n x0 x1 x2 (fun r0 r1 => k (PkS.pack Timpl_DropTimer_c1 (r0, r1, ())))
  | none => none
theorem eimpl_DropTimer_c1  {R : Type} (n : Nat) (x0 : Int) (x1 : Int) (x2 : Int) (k : Pk → Option R) : evF tt sig (mkK [] R) (mkL (mkK []) [] R) Try.f42 Himpl_DropTimer_c1 (PkS.pack Simpl_DropTimer_c1 (x0, x1, x2, ())) k = (fun (k : Bool → Int → Option R) => k (x1 == x2) x2) (fun r0 r1 => k (PkS.pack Timpl_DropTimer_c1 (r0, r1, ()))) := by kernel_rfl
theorem okimpl_DropTimer_c1 (n : Nat) : FnOk Try.prog 42 (Kimpl_DropTimer_c1 @impl_DropTimer_c1 n) := by
  refine fn_ok (sig := sig) mixed ttok (mkK_nat (cimpl_DropTimer_c1 n)) (mkK_ok (cimpl_DropTimer_c1 n)) (mkL_nat (mkK_nat (cimpl_DropTimer_c1 n)) (l := []) trivial) (fn := Try.f42) (c := bodyOf Try.f42) (by kernel_rfl) (by kernel_rfl) (by kernel_rfl) (.eq (l := []) (by kernel_rfl) trivial) (shs := Himpl_DropTimer_c1) (S := Simpl_DropTimer_c1) (h1 := by kernel_rfl) fun R p k => ?_
  unfold Kimpl_DropTimer_c1
  cases h : (PkS.un Simpl_DropTimer_c1 p) with
  | none => rfl
  | some d =>
    obtain ⟨x0, x1, x2, u⟩ := (d : Int × Int × Int × Unit)
    have hp := PkS.un_pack h
    subst hp
    exact (eimpl_DropTimer_c1  n x0 x1 x2 k).symm
end Go.Am.G
