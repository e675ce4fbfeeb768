/- The code of the functions that the law reaches does what the plain functions say. -/
import Derived.Test.YtkbaenelfhakbaaF6
import Derived.Test.YtkbaenelfhakbaaAmB
import Derived.KernelRfl
import Derived.Test.YtkbaenelfhakbaaProg
set_option linter.unusedVariables false
set_option maxRecDepth 100000
namespace Go.Am.G
open Go Go.Am
open Go.Proofs
def tt : TT := [(3, ⟨1, false, (.int .i64), 0, [], [.int .i64 0], 8, true, false, []⟩), (4, ⟨1, false, .bool, 0, [], [.bool false], 1, true, false, []⟩), (5, ⟨1, false, (.int .u8), 0, [], [.int .u8 0], 1, true, false, []⟩), (26, ⟨1, false, (.sl (.pr (.int .i64) (.int .i64))), 35, [], [.nil], 24, true, true, []⟩), (35, ⟨2, true, (.pr (.int .i64) (.int .i64)), 0, [(0, 1, false), (1, 1, false)], [.int .i64 0, .int .i64 0], 16, true, false, [(.int .i64), (.int .i64)]⟩), (39, ⟨1, false, (.sl (.int .u8)), 5, [], [.nil], 24, true, true, []⟩), (54, ⟨1, false, (.int .u64), 0, [], [.int .u64 0], 8, true, false, []⟩), (56, ⟨3, true, (.pr (.sl (.int .u8)) (.pr (.int .i64) (.int .u64))), 0, [(0, 1, false), (1, 1, false), (2, 1, false)], [.nil, .int .i64 0, .int .u64 0], 40, true, false, []⟩), (65, ⟨1, false, (.sl (.int .i64)), 3, [], [.nil], 24, true, true, []⟩)]
def sig : Sig := sigOf [(6, [.one (.ro (.int .u8))]), (10, [.one (.ro (.pr (.int .i64) (.int .i64))), .one (.ro (.pr (.int .i64) (.int .i64)))]), (13, [.one (.ro (.pr (.int .i64) (.int .i64))), .one .any]), (16, [.one (.ro (.pr (.int .i64) (.int .i64))), .one (.ro (.pr (.int .i64) (.int .i64)))]), (17, [.one (.ro (.pr (.int .i64) (.int .i64))), .one (.ro (.pr (.int .i64) (.int .i64)))]), (19, [.one (.ro (.int .u8))]), (20, [.one (.ro (.pr (.int .i64) (.int .i64))), .one (.ro (.pr (.int .i64) (.int .i64)))]), (21, [.one (.ro (.pr (.int .i64) (.int .i64))), .one (.ro (.pr (.int .i64) (.int .i64)))]), (22, [.one (.ro (.pr (.int .i64) (.int .i64)))]), (23, [.one (.ro (.pr (.int .i64) (.int .i64)))]), (24, [.one (.ro (.pr (.int .i64) (.int .i64))), .one .any]), (25, [.one (.ro (.pr (.int .i64) (.int .i64))), .one (.ro (.pr (.int .i64) (.int .i64)))]), (26, [.one (.ro (.pr (.int .i64) (.int .i64))), .one (.ro (.pr (.int .i64) (.int .i64)))]), (27, [.one (.ro (.pr (.int .i64) (.int .i64)))]), (29, [.one (.ro (.pr (.int .i64) (.int .i64))), .one (.ro (.pr (.int .i64) (.int .i64)))]), (30, [.one (.ro (.pr (.int .i64) (.int .i64)))]), (31, [.one .any, .one .any, .one .any]), (32, [.one (.ro (.pr (.int .i64) (.int .i64))), .one .any]), (33, [.one .any, .one .any, .one .any]), (34, [.one (.ro (.pr (.int .i64) (.int .i64))), .one .any]), (35, [.one (.ro (.pr (.int .i64) (.int .i64))), .one .any]), (36, [.box [(.ro (.int .u8)), .any, .any]]), (37, [.one (.ro (.pr (.int .i64) (.int .i64)))]), (38, [.one .any]), (39, [.one (.ro (.pr (.int .i64) (.int .i64))), .fn 40 [[.any]]]), (40, [.agg [.any, .any], .box [.any]]), (41, [.box [(.ro (.int .u8)), .any, .any]]), (42, [.box [(.ro (.int .u8)), .any, .any], .one .any]), (43, [.box [(.ro (.int .u8)), .any, .any], .one .any]), (44, [.one (.ro (.pr (.int .i64) (.int .i64))), .one .any, .one .any]), (45, [.box [(.ro (.int .u8)), .any, .any], .one (.ro (.int .i64))]), (46, [.box [(.ro (.int .u8)), .any, .any]]), (47, [.one (.ro (.pr (.int .i64) (.int .i64))), .one .any, .one .any])]
theorem ttok : TTok Try.prog tt := .of_chk (by kernel_rfl)
theorem mixed : Try.prog.follows .mixedOrders = true := by kernel_rfl

/-! ### (*loop.example/g00269/spec.l1Cur).next -/
theorem cspec_l1Cur_next (n : Nat) : AllOk Try.prog [] := trivial
@[reducible] def Sspec_l1Cur_next : PkS := ⟨[.one (.box (200000, 0) 0)], [((200000, 0), .box [.ro (.int .u8), .int .i64, .int .u64])]⟩
@[reducible] def Tspec_l1Cur_next : PkS := ⟨[.one (.int .i64), .one (.box (300000, 0) 0)], [((300000, 0), .box [.ro (.int .u8), .int .i64, .int .u64])]⟩
def Hspec_l1Cur_next : List Sh := [.one .any, .box [(.ro (.int .u8)), .any, .any]]
def Kspec_l1Cur_next (g : ∀ {R : Type}, Nat → (List Int) → Int → Int → (Int → (List Int) → Int → Int → Option R) → Option R) (n : Nat) : KPs := fun R p k => match (PkS.un Sspec_l1Cur_next p : Option ((List Int) × Int × Int × Unit)) with
  | some (x0, x1, x2, _) => g n x0 x1 x2 (fun r0 r1 r2 r3 => k (PkS.pack Tspec_l1Cur_next (r0, r1, r2, r3, ())))
  | none => none
theorem espec_l1Cur_next  {R : Type} (n : Nat) (x0 : List Int) (x1 : Int) (x2 : Int) (k : Pk → Option R) : evF tt sig (mkK [] R) (mkL (mkK []) [] R) Try.f46 Hspec_l1Cur_next (PkS.pack Sspec_l1Cur_next (x0, x1, x2, ())) k = (fun (k : Int → (List Int) → Int → Int → Option R) => (bif (decide (x1 < (x0.length : Int))) then (bif decide (0 ≤ x1) then (bif decide (x1 < (x0.length : Int)) then (bif (decide ((IntKind.wrap .i64 (x1 + 1)) ≤ (x0.length : Int))) then k (IntKind.wrap .i64 ((x0.getD (Int.toNat x1) 0))) x0 (IntKind.wrap .i64 (x1 + 1)) (IntKind.wrap .u64 ((IntKind.wrap .u64 ((IntKind.wrap .u64 (x2 * 6364136223846793005)) + (IntKind.wrap .u64 ((IntKind.wrap .i64 ((x0.getD (Int.toNat x1) 0))))))) + 1442695040888963407)) else k (IntKind.wrap .i64 ((IntKind.wrap .u64 (Int.ofNat (BitVec.toNat (BitVec.ofInt (IntKind.bits .u64) (Int.fdiv (IntKind.wrap .u64 ((IntKind.wrap .u64 ((IntKind.wrap .u64 (x2 * 6364136223846793005)) + (IntKind.wrap .u64 ((IntKind.wrap .i64 ((x0.getD (Int.toNat x1) 0))))))) + 1442695040888963407)) (2 ^ (min (Int.toNat 40) (IntKind.bits .u64)))) &&& BitVec.ofInt (IntKind.bits .u64) 255)))))) x0 (IntKind.wrap .i64 (x1 + 1)) (IntKind.wrap .u64 ((IntKind.wrap .u64 ((IntKind.wrap .u64 (x2 * 6364136223846793005)) + (IntKind.wrap .u64 ((IntKind.wrap .i64 ((x0.getD (Int.toNat x1) 0))))))) + 1442695040888963407))) else none) else none) else (bif (decide ((IntKind.wrap .i64 (x1 + 1)) ≤ (x0.length : Int))) then k 0 x0 (IntKind.wrap .i64 (x1 + 1)) (IntKind.wrap .u64 ((IntKind.wrap .u64 ((IntKind.wrap .u64 (x2 * 6364136223846793005)) + 0)) + 1442695040888963407)) else k (IntKind.wrap .i64 ((IntKind.wrap .u64 (Int.ofNat (BitVec.toNat (BitVec.ofInt (IntKind.bits .u64) (Int.fdiv (IntKind.wrap .u64 ((IntKind.wrap .u64 ((IntKind.wrap .u64 (x2 * 6364136223846793005)) + 0)) + 1442695040888963407)) (2 ^ (min (Int.toNat 40) (IntKind.bits .u64)))) &&& BitVec.ofInt (IntKind.bits .u64) 255)))))) x0 (IntKind.wrap .i64 (x1 + 1)) (IntKind.wrap .u64 ((IntKind.wrap .u64 ((IntKind.wrap .u64 (x2 * 6364136223846793005)) + 0)) + 1442695040888963407))))) (fun r0 r1 r2 r3 => k (PkS.pack Tspec_l1Cur_next (r0, r1, r2, r3, ()))) := by kernel_rfl
theorem okspec_l1Cur_next (n : Nat) : FnOk Try.prog 46 (Kspec_l1Cur_next @spec_l1Cur_next n) := by
  refine fn_ok (sig := sig) mixed ttok (mkK_nat (cspec_l1Cur_next n)) (mkK_ok (cspec_l1Cur_next n)) (mkL_nat (mkK_nat (cspec_l1Cur_next n)) (l := []) trivial) (fn := Try.f46) (c := bodyOf Try.f46) (by kernel_rfl) (by kernel_rfl) (by kernel_rfl) (.eq (l := []) (by kernel_rfl) trivial) (shs := Hspec_l1Cur_next) (S := Sspec_l1Cur_next) fun R p k => ?_
  unfold Kspec_l1Cur_next
  cases h : (PkS.un Sspec_l1Cur_next p) with
  | none => rfl
  | some d =>
    obtain ⟨x0, x1, x2, u⟩ := (d : (List Int) × Int × Int × Unit)
    have hp := PkS.un_pack h
    subst hp
    exact (espec_l1Cur_next  n x0 x1 x2 k).symm

/-! ### (*loop.example/g00269/spec.l1Cur).pick -/
theorem cspec_l1Cur_pick (n : Nat) : AllOk Try.prog [(46, Kspec_l1Cur_next @spec_l1Cur_next n)] := ⟨okspec_l1Cur_next n, trivial⟩
@[reducible] def Sspec_l1Cur_pick : PkS := ⟨[.one (.box (200000, 0) 0), .one (.int .i64)], [((200000, 0), .box [.ro (.int .u8), .int .i64, .int .u64])]⟩
@[reducible] def Tspec_l1Cur_pick : PkS := ⟨[.one (.int .i64), .one (.box (300000, 0) 0), .one (.dead)], [((300000, 0), .box [.ro (.int .u8), .int .i64, .int .u64])]⟩
def Hspec_l1Cur_pick : List Sh := [.one .any, .box [(.ro (.int .u8)), .any, .any], .skip]
def Kspec_l1Cur_pick (g : ∀ {R : Type}, Nat → Int → (List Int) → Int → Int → (Int → (List Int) → Int → Int → Option R) → Option R) (n : Nat) : KPs := fun R p k => match (PkS.un Sspec_l1Cur_pick p : Option (Int × (List Int) × Int × Int × Unit)) with
  | some (x0, x1, x2, x3, _) => g n x0 x1 x2 x3 (fun r0 r1 r2 r3 => k (PkS.pack Tspec_l1Cur_pick (r0, r1, r2, r3, ())))
  | none => none
theorem espec_l1Cur_pick (spec_l1Cur_next : ∀ {R : Type}, Nat → (List Int) → Int → Int → (Int → (List Int) → Int → Int → Option R) → Option R) {R : Type} (n : Nat) (x0 : Int) (x1 : List Int) (x2 : Int) (x3 : Int) (k : Pk → Option R) : evF tt sig (mkK [(46, Kspec_l1Cur_next @spec_l1Cur_next n)] R) (mkL (mkK [(46, Kspec_l1Cur_next @spec_l1Cur_next n)]) [] R) Try.f43 Hspec_l1Cur_pick (PkS.pack Sspec_l1Cur_pick (x0, x1, x2, x3, ())) k = (fun (k : Int → (List Int) → Int → Int → Option R) => (bif (decide (x0 ≤ 1)) then k 0 x1 x2 x3 else (spec_l1Cur_next n x1 x2 x3 fun r1 r2 r3 r4 => (bif (decide (x0 > 200)) then (spec_l1Cur_next n r2 r3 r4 fun r5 r6 r7 r8 => (bif decide (x0 ≠ 0) then k (Int.tmod (IntKind.wrap .i64 ((IntKind.wrap .i64 (r1 * 256)) + r5)) x0) r6 r7 r8 else none)) else (bif decide (x0 ≠ 0) then k (Int.tmod r1 x0) r2 r3 r4 else none))))) (fun r0 r1 r2 r3 => k (PkS.pack Tspec_l1Cur_pick (r0, r1, r2, r3, ()))) := by kernel_rfl
theorem okspec_l1Cur_pick (n : Nat) : FnOk Try.prog 43 (Kspec_l1Cur_pick @spec_l1Cur_pick n) := by
  refine fn_ok (sig := sig) mixed ttok (mkK_nat (cspec_l1Cur_pick n)) (mkK_ok (cspec_l1Cur_pick n)) (mkL_nat (mkK_nat (cspec_l1Cur_pick n)) (l := []) trivial) (fn := Try.f43) (c := bodyOf Try.f43) (by kernel_rfl) (by kernel_rfl) (by kernel_rfl) (.eq (l := []) (by kernel_rfl) trivial) (shs := Hspec_l1Cur_pick) (S := Sspec_l1Cur_pick) fun R p k => ?_
  unfold Kspec_l1Cur_pick
  cases h : (PkS.un Sspec_l1Cur_pick p) with
  | none => rfl
  | some d =>
    obtain ⟨x0, x1, x2, x3, u⟩ := (d : Int × (List Int) × Int × Int × Unit)
    have hp := PkS.un_pack h
    subst hp
    exact (espec_l1Cur_pick @spec_l1Cur_next n x0 x1 x2 x3 k).symm

/-! ### (*loop.example/g00269/spec.l1Cur).one -/
theorem cspec_l1Cur_one (n : Nat) : AllOk Try.prog [(43, Kspec_l1Cur_pick @spec_l1Cur_pick n)] := ⟨okspec_l1Cur_pick n, trivial⟩
@[reducible] def Sspec_l1Cur_one : PkS := ⟨[.one (.box (200000, 0) 0), .one (.int .i64)], [((200000, 0), .box [.ro (.int .u8), .int .i64, .int .u64])]⟩
@[reducible] def Tspec_l1Cur_one : PkS := ⟨[.one (.bool), .one (.box (300000, 0) 0), .one (.dead)], [((300000, 0), .box [.ro (.int .u8), .int .i64, .int .u64])]⟩
def Hspec_l1Cur_one : List Sh := [.one .any, .box [(.ro (.int .u8)), .any, .any], .skip]
def Kspec_l1Cur_one (g : ∀ {R : Type}, Nat → Int → (List Int) → Int → Int → (Bool → (List Int) → Int → Int → Option R) → Option R) (n : Nat) : KPs := fun R p k => match (PkS.un Sspec_l1Cur_one p : Option (Int × (List Int) × Int × Int × Unit)) with
  | some (x0, x1, x2, x3, _) => g n x0 x1 x2 x3 (fun r0 r1 r2 r3 => k (PkS.pack Tspec_l1Cur_one (r0, r1, r2, r3, ())))
  | none => none
theorem espec_l1Cur_one (spec_l1Cur_pick : ∀ {R : Type}, Nat → Int → (List Int) → Int → Int → (Int → (List Int) → Int → Int → Option R) → Option R) {R : Type} (n : Nat) (x0 : Int) (x1 : List Int) (x2 : Int) (x3 : Int) (k : Pk → Option R) : evF tt sig (mkK [(43, Kspec_l1Cur_pick @spec_l1Cur_pick n)] R) (mkL (mkK [(43, Kspec_l1Cur_pick @spec_l1Cur_pick n)]) [] R) Try.f42 Hspec_l1Cur_one (PkS.pack Sspec_l1Cur_one (x0, x1, x2, x3, ())) k = (fun (k : Bool → (List Int) → Int → Int → Option R) => (spec_l1Cur_pick n x0 x1 x2 x3 fun r1 r2 r3 r4 => k (r1 == 0) r2 r3 r4)) (fun r0 r1 r2 r3 => k (PkS.pack Tspec_l1Cur_one (r0, r1, r2, r3, ()))) := by kernel_rfl
theorem okspec_l1Cur_one (n : Nat) : FnOk Try.prog 42 (Kspec_l1Cur_one @spec_l1Cur_one n) := by
  refine fn_ok (sig := sig) mixed ttok (mkK_nat (cspec_l1Cur_one n)) (mkK_ok (cspec_l1Cur_one n)) (mkL_nat (mkK_nat (cspec_l1Cur_one n)) (l := []) trivial) (fn := Try.f42) (c := bodyOf Try.f42) (by kernel_rfl) (by kernel_rfl) (by kernel_rfl) (.eq (l := []) (by kernel_rfl) trivial) (shs := Hspec_l1Cur_one) (S := Sspec_l1Cur_one) fun R p k => ?_
  unfold Kspec_l1Cur_one
  cases h : (PkS.un Sspec_l1Cur_one p) with
  | none => rfl
  | some d =>
    obtain ⟨x0, x1, x2, x3, u⟩ := (d : Int × (List Int) × Int × Int × Unit)
    have hp := PkS.un_pack h
    subst hp
    exact (espec_l1Cur_one @spec_l1Cur_pick n x0 x1 x2 x3 k).symm

/-! ### (*loop.example/g00269/spec.l1Cur).among -/
theorem cspec_l1Cur_among (n : Nat) : AllOk Try.prog [(43, Kspec_l1Cur_pick @spec_l1Cur_pick n)] := ⟨okspec_l1Cur_pick n, trivial⟩
@[reducible] def Sspec_l1Cur_among : PkS := ⟨[.one (.box (200000, 0) 0), .one (.ro (.int .i64))], [((200000, 0), .box [.ro (.int .u8), .int .i64, .int .u64])]⟩
@[reducible] def Tspec_l1Cur_among : PkS := ⟨[.one (.int .i64), .one (.box (300000, 0) 0), .one (.dead)], [((300000, 0), .box [.ro (.int .u8), .int .i64, .int .u64])]⟩
def Hspec_l1Cur_among : List Sh := [.one .any, .box [(.ro (.int .u8)), .any, .any], .skip]
def Kspec_l1Cur_among (g : ∀ {R : Type}, Nat → (List Int) → (List Int) → Int → Int → (Int → (List Int) → Int → Int → Option R) → Option R) (n : Nat) : KPs := fun R p k => match (PkS.un Sspec_l1Cur_among p : Option ((List Int) × (List Int) × Int × Int × Unit)) with
  | some (x0, x1, x2, x3, _) => g n x0 x1 x2 x3 (fun r0 r1 r2 r3 => k (PkS.pack Tspec_l1Cur_among (r0, r1, r2, r3, ())))
  | none => none
theorem espec_l1Cur_among (spec_l1Cur_pick : ∀ {R : Type}, Nat → Int → (List Int) → Int → Int → (Int → (List Int) → Int → Int → Option R) → Option R) {R : Type} (n : Nat) (x0 : List Int) (x1 : List Int) (x2 : Int) (x3 : Int) (k : Pk → Option R) : evF tt sig (mkK [(43, Kspec_l1Cur_pick @spec_l1Cur_pick n)] R) (mkL (mkK [(43, Kspec_l1Cur_pick @spec_l1Cur_pick n)]) [] R) Try.f45 Hspec_l1Cur_among (PkS.pack Sspec_l1Cur_among (x0, x1, x2, x3, ())) k = (fun (k : Int → (List Int) → Int → Int → Option R) => (spec_l1Cur_pick n (x0.length : Int) x1 x2 x3 fun r1 r2 r3 r4 => (bif decide (0 ≤ r1) then (bif decide (r1 < (x0.length : Int)) then k (x0.getD (Int.toNat r1) 0) r2 r3 r4 else none) else none))) (fun r0 r1 r2 r3 => k (PkS.pack Tspec_l1Cur_among (r0, r1, r2, r3, ()))) := by kernel_rfl
theorem okspec_l1Cur_among (n : Nat) : FnOk Try.prog 45 (Kspec_l1Cur_among @spec_l1Cur_among n) := by
  refine fn_ok (sig := sig) mixed ttok (mkK_nat (cspec_l1Cur_among n)) (mkK_ok (cspec_l1Cur_among n)) (mkL_nat (mkK_nat (cspec_l1Cur_among n)) (l := []) trivial) (fn := Try.f45) (c := bodyOf Try.f45) (by kernel_rfl) (by kernel_rfl) (by kernel_rfl) (.eq (l := []) (by kernel_rfl) trivial) (shs := Hspec_l1Cur_among) (S := Sspec_l1Cur_among) fun R p k => ?_
  unfold Kspec_l1Cur_among
  cases h : (PkS.un Sspec_l1Cur_among p) with
  | none => rfl
  | some d =>
    obtain ⟨x0, x1, x2, x3, u⟩ := (d : (List Int) × (List Int) × Int × Int × Unit)
    have hp := PkS.un_pack h
    subst hp
    exact (espec_l1Cur_among @spec_l1Cur_pick n x0 x1 x2 x3 k).symm

/-! ### (*loop.example/g00269/spec.l1Cur).items -/
theorem cspec_l1Cur_items (n : Nat) : AllOk Try.prog [(43, Kspec_l1Cur_pick @spec_l1Cur_pick n), (42, Kspec_l1Cur_one @spec_l1Cur_one n), (45, Kspec_l1Cur_among @spec_l1Cur_among n)] := ⟨okspec_l1Cur_pick n, ⟨okspec_l1Cur_one n, ⟨okspec_l1Cur_among n, trivial⟩⟩⟩
@[reducible] def Sspec_l1Cur_items_l7 : PkS := ⟨[.one (.box (100000, 0) 0), .one (.whole (100000, 1)), .one (.int .i64), .one (.int .i64), .one (.int .i64), .one (.box (100000, 0) 0)], [((100000, 0), .box [.ro (.int .u8), .int .i64, .int .u64]), ((100000, 1), .arr (.pr (.int .i64) (.int .i64)))]⟩
@[reducible] def Tspec_l1Cur_items_l7_0 : PkS := ⟨[.one (.box (100000, 0) 0), .one (.whole (100000, 1)), .one (.box (100000, 0) 0)], [((100000, 0), .box [.ro (.int .u8), .int .i64, .int .u64]), ((100000, 1), .arr (.pr (.int .i64) (.int .i64)))]⟩
def Dspec_l1Cur_items_l7 : LoopD := ⟨50, [0, 3, 4, 5, 6], [.box [(.ro (.int .u8)), .any, .any], .one (.own (.pr (.int .i64) (.int .i64))), .one .any, .one .any, .one .any, .box [(.ro (.int .u8)), .any, .any]], fun x => match x with
  | .exit 0 => some ([0, 3], [.box [(.ro (.int .u8)), .any, .any], .one (.own (.pr (.int .i64) (.int .i64))), .box [(.ro (.int .u8)), .any, .any]])
  | _ => none⟩
def Pspec_l1Cur_items_l7 (g : ∀ {R : Type}, Nat → Int → Int → Int → (List Int) → Int → Int → (List (Int × Int)) → ((List Int) → Int → Int → (List (Int × Int)) → Option R) → Option R) (n : Nat) : LPs := fun R q kk => match (PkS.un Sspec_l1Cur_items_l7 q : Option (Int × Int × Int × (List Int) × Int × Int × (List (Int × Int)) × Unit)) with
  | some (y7_0, y7_1, y7_2, y7_3, y7_4, y7_5, y7_6, _) => g n y7_0 y7_1 y7_2 y7_3 y7_4 y7_5 y7_6 (fun r0 r1 r2 r3 => kk (.exit 0) (PkS.pack Tspec_l1Cur_items_l7_0 (r0, r1, r2, r3, ())))
  | none => none
theorem espec_l1Cur_items_l7 (spec_l1Cur_pick : ∀ {R : Type}, Nat → Int → (List Int) → Int → Int → (Int → (List Int) → Int → Int → Option R) → Option R) (spec_l1Cur_one : ∀ {R : Type}, Nat → Int → (List Int) → Int → Int → (Bool → (List Int) → Int → Int → Option R) → Option R) (spec_l1Cur_among : ∀ {R : Type}, Nat → (List Int) → (List Int) → Int → Int → (Int → (List Int) → Int → Int → Option R) → Option R) (spec_l1Cur_items_l7 : ∀ {R : Type}, Nat → Int → Int → Int → (List Int) → Int → Int → (List (Int × Int)) → ((List Int) → Int → Int → (List (Int × Int)) → Option R) → Option R) {R : Type} (n : Nat) (y7_0 : Int) (y7_1 : Int) (y7_2 : Int) (y7_3 : List Int) (y7_4 : Int) (y7_5 : Int) (y7_6 : List (Int × Int)) (kk : Ex → Pk → Option R) : Dspec_l1Cur_items_l7.step tt sig (mkK [(43, Kspec_l1Cur_pick @spec_l1Cur_pick n), (42, Kspec_l1Cur_one @spec_l1Cur_one n), (45, Kspec_l1Cur_among @spec_l1Cur_among n)] R) (mkL (mkK [(43, Kspec_l1Cur_pick @spec_l1Cur_pick n), (42, Kspec_l1Cur_one @spec_l1Cur_one n), (45, Kspec_l1Cur_among @spec_l1Cur_among n)]) [] R) (loopIn 7 (bodyOf Try.f41)) (fun q' => Pspec_l1Cur_items_l7 @spec_l1Cur_items_l7 n R q' kk) (PkS.pack Sspec_l1Cur_items_l7 (y7_0, y7_1, y7_2, y7_3, y7_4, y7_5, y7_6, ())) kk = (fun (kexit0 : (List Int) → Int → Int → (List (Int × Int)) → Option R) => (bif (decide (y7_2 > 0)) then (spec_l1Cur_pick n 4 y7_3 y7_4 y7_5 fun r17 r18 r19 r20 => (bif decide (y7_6.length + ([((IntKind.wrap .i64 (y7_0 + (IntKind.wrap .i64 (1 + r17)))), y7_1)]).length ≤ LIM) then (spec_l1Cur_pick n 3 r18 r19 r20 fun r21 r22 r23 r24 => spec_l1Cur_items_l7 n (IntKind.wrap .i64 (y7_0 + (IntKind.wrap .i64 (1 + r17)))) (IntKind.wrap .i64 (y7_1 + (IntKind.wrap .i64 (1 + r21)))) (IntKind.wrap .i64 (y7_2 - 1)) r22 r23 r24 (y7_6 ++ [((IntKind.wrap .i64 (y7_0 + (IntKind.wrap .i64 (1 + r17)))), y7_1)]) kexit0) else none)) else kexit0 y7_3 y7_4 y7_5 y7_6)) (fun r0 r1 r2 r3 => kk (.exit 0) (PkS.pack Tspec_l1Cur_items_l7_0 (r0, r1, r2, r3, ()))) := by kernel_rfl
theorem lespec_l1Cur_items_l7 : LoopEq tt sig (fun n => mkK [(43, Kspec_l1Cur_pick @spec_l1Cur_pick n), (42, Kspec_l1Cur_one @spec_l1Cur_one n), (45, Kspec_l1Cur_among @spec_l1Cur_among n)]) (fun n => mkL (mkK [(43, Kspec_l1Cur_pick @spec_l1Cur_pick n), (42, Kspec_l1Cur_one @spec_l1Cur_one n), (45, Kspec_l1Cur_among @spec_l1Cur_among n)]) []) Dspec_l1Cur_items_l7 Sspec_l1Cur_items_l7 (loopIn 7 (bodyOf Try.f41)) (Pspec_l1Cur_items_l7 @spec_l1Cur_items_l7) where
  zero R q kk := by unfold Pspec_l1Cur_items_l7; cases (PkS.un Sspec_l1Cur_items_l7 q) <;> rfl
  succ n R q kk := by
    unfold Pspec_l1Cur_items_l7
    cases h : (PkS.un Sspec_l1Cur_items_l7 q) with
    | none => rfl
    | some d =>
      obtain ⟨y7_0, y7_1, y7_2, y7_3, y7_4, y7_5, y7_6, u⟩ := (d : Int × Int × Int × (List Int) × Int × Int × (List (Int × Int)) × Unit)
      have hp := PkS.un_pack h
      subst hp
      exact (espec_l1Cur_items_l7 @spec_l1Cur_pick @spec_l1Cur_one @spec_l1Cur_among @spec_l1Cur_items_l7 n y7_0 y7_1 y7_2 y7_3 y7_4 y7_5 y7_6 kk).symm
theorem nlspec_l1Cur_items_l7 : ∀ n, NatLP (Pspec_l1Cur_items_l7 @spec_l1Cur_items_l7 n) := lespec_l1Cur_items_l7.nat (fun n => mkK_nat (cspec_l1Cur_items n)) fun n => mkL_nat (mkK_nat (cspec_l1Cur_items n)) (l := []) trivial
theorem inspec_l1Cur_items_l7 (n : Nat) (R : Type) : LoopsOk Try.prog (mkL (mkK [(43, Kspec_l1Cur_pick @spec_l1Cur_pick n), (42, Kspec_l1Cur_one @spec_l1Cur_one n), (45, Kspec_l1Cur_among @spec_l1Cur_among n)]) [] R) (loopIn 7 (bodyOf Try.f41)) := .eq (l := []) (by kernel_rfl) trivial
theorem lkspec_l1Cur_items_l7 (n : Nat) (R : Type) (L0 : LK R) (h0 : ∀ id, firstRegion (loopIn 7 (bodyOf Try.f41)) = some id → L0 id = Dspec_l1Cur_items_l7.oracle (mkK [(43, Kspec_l1Cur_pick @spec_l1Cur_pick n), (42, Kspec_l1Cur_one @spec_l1Cur_one n), (45, Kspec_l1Cur_among @spec_l1Cur_among n)] R) (Pspec_l1Cur_items_l7 @spec_l1Cur_items_l7 n R)) : LoopOk Try.prog L0 (loopIn 7 (bodyOf Try.f41)) :=
  lespec_l1Cur_items_l7.ok mixed ttok (fun n => mkK_nat (cspec_l1Cur_items n)) (fun n => mkK_ok (cspec_l1Cur_items n)) (fun n => inspec_l1Cur_items_l7 n R) (mkK_nat (cspec_l1Cur_items n)) h0
@[reducible] def Sspec_l1Cur_items : PkS := ⟨[.one (.box (200000, 0) 0)], [((200000, 0), .box [.ro (.int .u8), .int .i64, .int .u64])]⟩
@[reducible] def Tspec_l1Cur_items : PkS := ⟨[.one (.whole (300000, 0)), .one (.box (300000, 1) 0)], [((300000, 0), .arr (.pr (.int .i64) (.int .i64))), ((300000, 1), .box [.ro (.int .u8), .int .i64, .int .u64])]⟩
def Hspec_l1Cur_items : List Sh := [.one (.own (.pr (.int .i64) (.int .i64))), .box [(.ro (.int .u8)), .any, .any]]
def Kspec_l1Cur_items (g : ∀ {R : Type}, Nat → (List Int) → Int → Int → ((List (Int × Int)) → (List Int) → Int → Int → Option R) → Option R) (n : Nat) : KPs := fun R p k => match (PkS.un Sspec_l1Cur_items p : Option ((List Int) × Int × Int × Unit)) with
  | some (x0, x1, x2, _) => g n x0 x1 x2 (fun r0 r1 r2 r3 => k (PkS.pack Tspec_l1Cur_items (r0, r1, r2, r3, ())))
  | none => none
theorem espec_l1Cur_items (spec_l1Cur_pick : ∀ {R : Type}, Nat → Int → (List Int) → Int → Int → (Int → (List Int) → Int → Int → Option R) → Option R) (spec_l1Cur_one : ∀ {R : Type}, Nat → Int → (List Int) → Int → Int → (Bool → (List Int) → Int → Int → Option R) → Option R) (spec_l1Cur_among : ∀ {R : Type}, Nat → (List Int) → (List Int) → Int → Int → (Int → (List Int) → Int → Int → Option R) → Option R) (spec_l1Cur_items_l7 : ∀ {R : Type}, Nat → Int → Int → Int → (List Int) → Int → Int → (List (Int × Int)) → ((List Int) → Int → Int → (List (Int × Int)) → Option R) → Option R) {R : Type} (n : Nat) (x0 : List Int) (x1 : Int) (x2 : Int) (k : Pk → Option R) : evF tt sig (mkK [(43, Kspec_l1Cur_pick @spec_l1Cur_pick n), (42, Kspec_l1Cur_one @spec_l1Cur_one n), (45, Kspec_l1Cur_among @spec_l1Cur_among n)] R) (mkL (mkK [(43, Kspec_l1Cur_pick @spec_l1Cur_pick n), (42, Kspec_l1Cur_one @spec_l1Cur_one n), (45, Kspec_l1Cur_among @spec_l1Cur_among n)]) [(7, Dspec_l1Cur_items_l7, Pspec_l1Cur_items_l7 @spec_l1Cur_items_l7 n)] R) Try.f41 Hspec_l1Cur_items (PkS.pack Sspec_l1Cur_items (x0, x1, x2, ())) k = (fun (k : (List (Int × Int)) → (List Int) → Int → Int → Option R) => (spec_l1Cur_pick n 3 x0 x1 x2 fun r1 r2 r3 r4 => (spec_l1Cur_pick n 5 r2 r3 r4 fun r5 r6 r7 r8 => (spec_l1Cur_one n 20 r6 r7 r8 fun r9 r10 r11 r12 => (bif r9 then (spec_l1Cur_pick n 2 r10 r11 r12 fun r13 r14 r15 r16 => (spec_l1Cur_items_l7 n 0 r1 (IntKind.wrap .i64 (20 + r13)) r14 r15 r16 ([] : List (Int × Int)) (fun r25 r26 r27 r28 => (bif (decide ((r28.length : Int) > 0)) then (spec_l1Cur_one n 30 r25 r26 r27 fun r29 r30 r31 r32 => (bif r29 then (spec_l1Cur_among n ([0, 5, 1001]) r30 r31 r32 fun r33 r34 r35 r36 => (bif decide (0 < (r28.length : Int)) then k (r28.set 0 (r33, (r28.getD 0 (0, 0)).2)) r34 r35 r36 else none)) else k r28 r30 r31 r32)) else k r28 r25 r26 r27)))) else (spec_l1Cur_items_l7 n 0 r1 r5 r10 r11 r12 ([] : List (Int × Int)) (fun r37 r38 r39 r40 => (bif (decide ((r40.length : Int) > 0)) then (spec_l1Cur_one n 30 r37 r38 r39 fun r41 r42 r43 r44 => (bif r41 then (spec_l1Cur_among n ([0, 5, 1001]) r42 r43 r44 fun r45 r46 r47 r48 => (bif decide (0 < (r40.length : Int)) then k (r40.set 0 (r45, (r40.getD 0 (0, 0)).2)) r46 r47 r48 else none)) else k r40 r42 r43 r44)) else k r40 r37 r38 r39)))))))) (fun r0 r1 r2 r3 => k (PkS.pack Tspec_l1Cur_items (r0, r1, r2, r3, ()))) := by kernel_rfl
theorem okspec_l1Cur_items (n : Nat) : FnOk Try.prog 41 (Kspec_l1Cur_items @spec_l1Cur_items n) := by
  refine fn_ok (sig := sig) mixed ttok (mkK_nat (cspec_l1Cur_items n)) (mkK_ok (cspec_l1Cur_items n)) (mkL_nat (mkK_nat (cspec_l1Cur_items n)) (l := [(7, Dspec_l1Cur_items_l7, Pspec_l1Cur_items_l7 @spec_l1Cur_items_l7 n)]) ⟨nlspec_l1Cur_items_l7 n, trivial⟩) (fn := Try.f41) (c := bodyOf Try.f41) (by kernel_rfl) (by kernel_rfl) (by kernel_rfl) (.eq (l := [loopIn 7 (bodyOf Try.f41)]) (by kernel_rfl) ⟨(lkspec_l1Cur_items_l7 n _ _ (at_id (i := 7) (by kernel_rfl) rfl)), trivial⟩) (shs := Hspec_l1Cur_items) (S := Sspec_l1Cur_items) fun R p k => ?_
  unfold Kspec_l1Cur_items
  cases h : (PkS.un Sspec_l1Cur_items p) with
  | none => rfl
  | some d =>
    obtain ⟨x0, x1, x2, u⟩ := (d : (List Int) × Int × Int × Unit)
    have hp := PkS.un_pack h
    subst hp
    exact (espec_l1Cur_items @spec_l1Cur_pick @spec_l1Cur_one @spec_l1Cur_among @spec_l1Cur_items_l7 n x0 x1 x2 k).symm

/-! ### loop.example/g00269/spec.l1In -/
theorem cspec_l1In (n : Nat) : AllOk Try.prog [] := trivial
@[reducible] def Sspec_l1In : PkS := ⟨[.one (.int .i64), .one (.int .i64), .one (.int .i64)], []⟩
@[reducible] def Tspec_l1In : PkS := ⟨[.one (.bool), .one (.dead), .one (.dead), .one (.dead)], []⟩
def Hspec_l1In : List Sh := [.one .any, .skip, .skip, .skip]
def Kspec_l1In (g : ∀ {R : Type}, Nat → Int → Int → Int → (Bool → Option R) → Option R) (n : Nat) : KPs := fun R p k => match (PkS.un Sspec_l1In p : Option (Int × Int × Int × Unit)) with
  | some (x0, x1, x2, _) => g n x0 x1 x2 (fun r0 => k (PkS.pack Tspec_l1In (r0, ())))
  | none => none
theorem espec_l1In  {R : Type} (n : Nat) (x0 : Int) (x1 : Int) (x2 : Int) (k : Pk → Option R) : evF tt sig (mkK [] R) (mkL (mkK []) [] R) Try.f31 Hspec_l1In (PkS.pack Sspec_l1In (x0, x1, x2, ())) k = (fun (k : Bool → Option R) => (bif (decide (x0 ≥ x1)) then k (decide (x0 ≤ x2)) else k false)) (fun r0 => k (PkS.pack Tspec_l1In (r0, ()))) := by kernel_rfl
theorem okspec_l1In (n : Nat) : FnOk Try.prog 31 (Kspec_l1In @spec_l1In n) := by
  refine fn_ok (sig := sig) mixed ttok (mkK_nat (cspec_l1In n)) (mkK_ok (cspec_l1In n)) (mkL_nat (mkK_nat (cspec_l1In n)) (l := []) trivial) (fn := Try.f31) (c := bodyOf Try.f31) (by kernel_rfl) (by kernel_rfl) (by kernel_rfl) (.eq (l := []) (by kernel_rfl) trivial) (shs := Hspec_l1In) (S := Sspec_l1In) fun R p k => ?_
  unfold Kspec_l1In
  cases h : (PkS.un Sspec_l1In p) with
  | none => rfl
  | some d =>
    obtain ⟨x0, x1, x2, u⟩ := (d : Int × Int × Int × Unit)
    have hp := PkS.un_pack h
    subst hp
    exact (espec_l1In  n x0 x1 x2 k).symm

/-! ### loop.example/g00269/spec.GoodItems -/
theorem cspec_GoodItems (n : Nat) : AllOk Try.prog [(31, Kspec_l1In @spec_l1In n)] := ⟨okspec_l1In n, trivial⟩
@[reducible] def Sspec_GoodItems_l2 : PkS := ⟨[.one (.ro (.pr (.int .i64) (.int .i64))), .one (.ro (.pr (.int .i64) (.int .i64))), .one (.int .i64), .one (.int .i64), .one (.dead)], []⟩
@[reducible] def Tspec_GoodItems_l2_0 : PkS := ⟨[.one (.bool), .one (.dead)], []⟩
@[reducible] def Tspec_GoodItems_l2_1 : PkS := ⟨[.one (.ro (.pr (.int .i64) (.int .i64))), .one (.dead)], []⟩
def Dspec_GoodItems_l2 : LoopD := ⟨52, [0, 5, 6, 7], [.one (.ro (.pr (.int .i64) (.int .i64))), .one (.ro (.pr (.int .i64) (.int .i64))), .one .any, .one .any, .skip], fun x => match x with
  | .ret => some ([2], [.one .any, .skip])
  | .exit 0 => some ([0], [.one (.ro (.pr (.int .i64) (.int .i64))), .skip])
  | _ => none⟩
def Pspec_GoodItems_l2 (g : ∀ {R : Type}, Nat → (List (Int × Int)) → (List (Int × Int)) → Int → Int → (Bool → Option R) → ((List (Int × Int)) → Option R) → Option R) (n : Nat) : LPs := fun R q kk => match (PkS.un Sspec_GoodItems_l2 q : Option ((List (Int × Int)) × (List (Int × Int)) × Int × Int × Unit)) with
  | some (y2_0, y2_1, y2_2, y2_3, _) => g n y2_0 y2_1 y2_2 y2_3 (fun r0 => kk .ret (PkS.pack Tspec_GoodItems_l2_0 (r0, ()))) (fun r0 => kk (.exit 0) (PkS.pack Tspec_GoodItems_l2_1 (r0, ())))
  | none => none
theorem espec_GoodItems_l2 (spec_l1In : ∀ {R : Type}, Nat → Int → Int → Int → (Bool → Option R) → Option R) (spec_GoodItems_l2 : ∀ {R : Type}, Nat → (List (Int × Int)) → (List (Int × Int)) → Int → Int → (Bool → Option R) → ((List (Int × Int)) → Option R) → Option R) {R : Type} (n : Nat) (y2_0 : List (Int × Int)) (y2_1 : List (Int × Int)) (y2_2 : Int) (y2_3 : Int) (kk : Ex → Pk → Option R) : Dspec_GoodItems_l2.step tt sig (mkK [(31, Kspec_l1In @spec_l1In n)] R) (mkL (mkK [(31, Kspec_l1In @spec_l1In n)]) [] R) (loopIn 2 (bodyOf Try.f23)) (fun q' => Pspec_GoodItems_l2 @spec_GoodItems_l2 n R q' kk) (PkS.pack Sspec_GoodItems_l2 (y2_0, y2_1, y2_2, y2_3, ())) kk = (fun (kret : Bool → Option R) (kexit0 : (List (Int × Int)) → Option R) => (bif (decide (y2_3 < y2_2)) then (bif decide (0 ≤ y2_3) then (bif decide (y2_3 < (y2_1.length : Int)) then (spec_l1In n ((y2_1.getD (Int.toNat y2_3) (0, 0)).1) 1 1000 fun r1 => (bif (!r1) then kret false else (spec_l1In n ((y2_1.getD (Int.toNat y2_3) (0, 0)).2) 0 1000000 fun r2 => (bif (!r2) then kret false else (bif (decide (y2_3 > 0)) then (bif decide (0 ≤ (IntKind.wrap .i64 (y2_3 - 1))) then (bif decide ((IntKind.wrap .i64 (y2_3 - 1)) < (y2_0.length : Int)) then (bif (decide ((y2_0.getD (Int.toNat (IntKind.wrap .i64 (y2_3 - 1))) (0, 0)).1 ≥ (y2_1.getD (Int.toNat y2_3) (0, 0)).1)) then kret false else (bif decide (0 ≤ (IntKind.wrap .i64 (y2_3 - 1))) then (bif decide ((IntKind.wrap .i64 (y2_3 - 1)) < (y2_0.length : Int)) then (bif (decide ((y2_0.getD (Int.toNat (IntKind.wrap .i64 (y2_3 - 1))) (0, 0)).2 ≥ (y2_1.getD (Int.toNat y2_3) (0, 0)).2)) then kret false else spec_GoodItems_l2 n y2_0 y2_1 y2_2 (IntKind.wrap .i64 (y2_3 + 1)) kret kexit0) else none) else none)) else none) else none) else spec_GoodItems_l2 n y2_0 y2_1 y2_2 (IntKind.wrap .i64 (y2_3 + 1)) kret kexit0))))) else none) else none) else kexit0 y2_0)) (fun r0 => kk .ret (PkS.pack Tspec_GoodItems_l2_0 (r0, ()))) (fun r0 => kk (.exit 0) (PkS.pack Tspec_GoodItems_l2_1 (r0, ()))) := by kernel_rfl
theorem lespec_GoodItems_l2 : LoopEq tt sig (fun n => mkK [(31, Kspec_l1In @spec_l1In n)]) (fun n => mkL (mkK [(31, Kspec_l1In @spec_l1In n)]) []) Dspec_GoodItems_l2 Sspec_GoodItems_l2 (loopIn 2 (bodyOf Try.f23)) (Pspec_GoodItems_l2 @spec_GoodItems_l2) where
  zero R q kk := by unfold Pspec_GoodItems_l2; cases (PkS.un Sspec_GoodItems_l2 q) <;> rfl
  succ n R q kk := by
    unfold Pspec_GoodItems_l2
    cases h : (PkS.un Sspec_GoodItems_l2 q) with
    | none => rfl
    | some d =>
      obtain ⟨y2_0, y2_1, y2_2, y2_3, u⟩ := (d : (List (Int × Int)) × (List (Int × Int)) × Int × Int × Unit)
      have hp := PkS.un_pack h
      subst hp
      exact (espec_GoodItems_l2 @spec_l1In @spec_GoodItems_l2 n y2_0 y2_1 y2_2 y2_3 kk).symm
theorem nlspec_GoodItems_l2 : ∀ n, NatLP (Pspec_GoodItems_l2 @spec_GoodItems_l2 n) := lespec_GoodItems_l2.nat (fun n => mkK_nat (cspec_GoodItems n)) fun n => mkL_nat (mkK_nat (cspec_GoodItems n)) (l := []) trivial
theorem inspec_GoodItems_l2 (n : Nat) (R : Type) : LoopsOk Try.prog (mkL (mkK [(31, Kspec_l1In @spec_l1In n)]) [] R) (loopIn 2 (bodyOf Try.f23)) := .eq (l := []) (by kernel_rfl) trivial
theorem lkspec_GoodItems_l2 (n : Nat) (R : Type) (L0 : LK R) (h0 : ∀ id, firstRegion (loopIn 2 (bodyOf Try.f23)) = some id → L0 id = Dspec_GoodItems_l2.oracle (mkK [(31, Kspec_l1In @spec_l1In n)] R) (Pspec_GoodItems_l2 @spec_GoodItems_l2 n R)) : LoopOk Try.prog L0 (loopIn 2 (bodyOf Try.f23)) :=
  lespec_GoodItems_l2.ok mixed ttok (fun n => mkK_nat (cspec_GoodItems n)) (fun n => mkK_ok (cspec_GoodItems n)) (fun n => inspec_GoodItems_l2 n R) (mkK_nat (cspec_GoodItems n)) h0
@[reducible] def Sspec_GoodItems : PkS := ⟨[.one (.ro (.pr (.int .i64) (.int .i64)))], []⟩
@[reducible] def Tspec_GoodItems : PkS := ⟨[.one (.bool), .one (.dead)], []⟩
def Hspec_GoodItems : List Sh := [.one .any, .skip]
def Kspec_GoodItems (g : ∀ {R : Type}, Nat → (List (Int × Int)) → (Bool → Option R) → Option R) (n : Nat) : KPs := fun R p k => match (PkS.un Sspec_GoodItems p : Option ((List (Int × Int)) × Unit)) with
  | some (x0, _) => g n x0 (fun r0 => k (PkS.pack Tspec_GoodItems (r0, ())))
  | none => none
theorem espec_GoodItems (spec_l1In : ∀ {R : Type}, Nat → Int → Int → Int → (Bool → Option R) → Option R) (spec_GoodItems_l2 : ∀ {R : Type}, Nat → (List (Int × Int)) → (List (Int × Int)) → Int → Int → (Bool → Option R) → ((List (Int × Int)) → Option R) → Option R) {R : Type} (n : Nat) (x0 : List (Int × Int)) (k : Pk → Option R) : evF tt sig (mkK [(31, Kspec_l1In @spec_l1In n)] R) (mkL (mkK [(31, Kspec_l1In @spec_l1In n)]) [(2, Dspec_GoodItems_l2, Pspec_GoodItems_l2 @spec_GoodItems_l2 n)] R) Try.f23 Hspec_GoodItems (PkS.pack Sspec_GoodItems (x0, ())) k = (fun (k : Bool → Option R) => (spec_GoodItems_l2 n x0 x0 (x0.length : Int) 0 (fun r3 => k r3) (fun r4 => k (decide ((r4.length : Int) ≤ 20))))) (fun r0 => k (PkS.pack Tspec_GoodItems (r0, ()))) := by kernel_rfl
theorem okspec_GoodItems (n : Nat) : FnOk Try.prog 23 (Kspec_GoodItems @spec_GoodItems n) := by
  refine fn_ok (sig := sig) mixed ttok (mkK_nat (cspec_GoodItems n)) (mkK_ok (cspec_GoodItems n)) (mkL_nat (mkK_nat (cspec_GoodItems n)) (l := [(2, Dspec_GoodItems_l2, Pspec_GoodItems_l2 @spec_GoodItems_l2 n)]) ⟨nlspec_GoodItems_l2 n, trivial⟩) (fn := Try.f23) (c := bodyOf Try.f23) (by kernel_rfl) (by kernel_rfl) (by kernel_rfl) (.eq (l := [loopIn 2 (bodyOf Try.f23)]) (by kernel_rfl) ⟨(lkspec_GoodItems_l2 n _ _ (at_id (i := 2) (by kernel_rfl) rfl)), trivial⟩) (shs := Hspec_GoodItems) (S := Sspec_GoodItems) fun R p k => ?_
  unfold Kspec_GoodItems
  cases h : (PkS.un Sspec_GoodItems p) with
  | none => rfl
  | some d =>
    obtain ⟨x0, u⟩ := (d : (List (Int × Int)) × Unit)
    have hp := PkS.un_pack h
    subst hp
    exact (espec_GoodItems @spec_l1In @spec_GoodItems_l2 n x0 k).symm

/-! ### loop.example/g00269/spec.l11Last -/
theorem cspec_l11Last (n : Nat) : AllOk Try.prog [] := trivial
@[reducible] def Sspec_l11Last : PkS := ⟨[.one (.ro (.pr (.int .i64) (.int .i64)))], []⟩
@[reducible] def Tspec_l11Last : PkS := ⟨[.one (.int .i64), .one (.dead)], []⟩
def Hspec_l11Last : List Sh := [.one .any, .skip]
def Kspec_l11Last (g : ∀ {R : Type}, Nat → (List (Int × Int)) → (Int → Option R) → Option R) (n : Nat) : KPs := fun R p k => match (PkS.un Sspec_l11Last p : Option ((List (Int × Int)) × Unit)) with
  | some (x0, _) => g n x0 (fun r0 => k (PkS.pack Tspec_l11Last (r0, ())))
  | none => none
theorem espec_l11Last  {R : Type} (n : Nat) (x0 : List (Int × Int)) (k : Pk → Option R) : evF tt sig (mkK [] R) (mkL (mkK []) [] R) Try.f27 Hspec_l11Last (PkS.pack Sspec_l11Last (x0, ())) k = (fun (k : Int → Option R) => (bif ((x0.length : Int) == 0) then k 0 else (bif decide (0 ≤ (IntKind.wrap .i64 ((x0.length : Int) - 1))) then (bif decide ((IntKind.wrap .i64 ((x0.length : Int) - 1)) < (x0.length : Int)) then k ((x0.getD (Int.toNat (IntKind.wrap .i64 ((x0.length : Int) - 1))) (0, 0)).1) else none) else none))) (fun r0 => k (PkS.pack Tspec_l11Last (r0, ()))) := by kernel_rfl
theorem okspec_l11Last (n : Nat) : FnOk Try.prog 27 (Kspec_l11Last @spec_l11Last n) := by
  refine fn_ok (sig := sig) mixed ttok (mkK_nat (cspec_l11Last n)) (mkK_ok (cspec_l11Last n)) (mkL_nat (mkK_nat (cspec_l11Last n)) (l := []) trivial) (fn := Try.f27) (c := bodyOf Try.f27) (by kernel_rfl) (by kernel_rfl) (by kernel_rfl) (.eq (l := []) (by kernel_rfl) trivial) (shs := Hspec_l11Last) (S := Sspec_l11Last) fun R p k => ?_
  unfold Kspec_l11Last
  cases h : (PkS.un Sspec_l11Last p) with
  | none => rfl
  | some d =>
    obtain ⟨x0, u⟩ := (d : (List (Int × Int)) × Unit)
    have hp := PkS.un_pack h
    subst hp
    exact (espec_l11Last  n x0 k).symm

/-! ### loop.example/g00269/spec.l11Cut -/
theorem cspec_l11Cut (n : Nat) : AllOk Try.prog [(27, Kspec_l11Last @spec_l11Last n)] := ⟨okspec_l11Last n, trivial⟩
@[reducible] def Sspec_l11Cut_l3 : PkS := ⟨[.one (.int .i64), .one (.whole (100000, 0)), .one (.ro (.pr (.int .i64) (.int .i64))), .one (.int .i64), .one (.int .i64), .one (.dead), .one (.dead)], [((100000, 0), .arr (.pr (.int .i64) (.int .i64)))]⟩
@[reducible] def Tspec_l11Cut_l3_0 : PkS := ⟨[.one (.ro (.pr (.int .i64) (.int .i64))), .one (.dead), .one (.dead)], []⟩
def Dspec_l11Cut_l3 : LoopD := ⟨30, [1, 5, 8, 9, 10], [.one .any, .one (.own (.pr (.int .i64) (.int .i64))), .one (.ro (.pr (.int .i64) (.int .i64))), .one .any, .one .any, .skip, .skip], fun x => match x with
  | .exit 0 => some ([5], [.one (.ro (.pr (.int .i64) (.int .i64))), .skip, .skip])
  | _ => none⟩
def Pspec_l11Cut_l3 (g : ∀ {R : Type}, Nat → Int → (List (Int × Int)) → Int → Int → (List (Int × Int)) → ((List (Int × Int)) → Option R) → Option R) (n : Nat) : LPs := fun R q kk => match (PkS.un Sspec_l11Cut_l3 q : Option (Int × (List (Int × Int)) × Int × Int × (List (Int × Int)) × Unit)) with
  | some (y3_0, y3_1, y3_2, y3_3, y3_4, _) => g n y3_0 y3_1 y3_2 y3_3 y3_4 (fun r0 => kk (.exit 0) (PkS.pack Tspec_l11Cut_l3_0 (r0, ())))
  | none => none
theorem espec_l11Cut_l3 (spec_l11Last : ∀ {R : Type}, Nat → (List (Int × Int)) → (Int → Option R) → Option R) (spec_l11Cut_l3 : ∀ {R : Type}, Nat → Int → (List (Int × Int)) → Int → Int → (List (Int × Int)) → ((List (Int × Int)) → Option R) → Option R) {R : Type} (n : Nat) (y3_0 : Int) (y3_1 : List (Int × Int)) (y3_2 : Int) (y3_3 : Int) (y3_4 : List (Int × Int)) (kk : Ex → Pk → Option R) : Dspec_l11Cut_l3.step tt sig (mkK [(27, Kspec_l11Last @spec_l11Last n)] R) (mkL (mkK [(27, Kspec_l11Last @spec_l11Last n)]) [] R) (loopIn 3 (bodyOf Try.f32)) (fun q' => Pspec_l11Cut_l3 @spec_l11Cut_l3 n R q' kk) (PkS.pack Sspec_l11Cut_l3 (y3_0, y3_1, y3_2, y3_3, y3_4, ())) kk = (fun (kexit0 : (List (Int × Int)) → Option R) => (bif (decide (y3_3 < y3_2)) then (bif decide (0 ≤ y3_3) then (bif decide (y3_3 < (y3_1.length : Int)) then (spec_l11Last n y3_4 fun r1 => (bif (r1 == y3_0) then kexit0 y3_4 else (bif (decide ((y3_1.getD (Int.toNat y3_3) (0, 0)).1 > y3_0)) then (bif decide (y3_4.length + ([(y3_0, (y3_1.getD (Int.toNat y3_3) (0, 0)).2)]).length ≤ LIM) then spec_l11Cut_l3 n y3_0 y3_1 y3_2 (IntKind.wrap .i64 (y3_3 + 1)) (y3_4 ++ [(y3_0, (y3_1.getD (Int.toNat y3_3) (0, 0)).2)]) kexit0 else none) else (bif decide (y3_4.length + ([((y3_1.getD (Int.toNat y3_3) (0, 0)).1, (y3_1.getD (Int.toNat y3_3) (0, 0)).2)]).length ≤ LIM) then spec_l11Cut_l3 n y3_0 y3_1 y3_2 (IntKind.wrap .i64 (y3_3 + 1)) (y3_4 ++ [((y3_1.getD (Int.toNat y3_3) (0, 0)).1, (y3_1.getD (Int.toNat y3_3) (0, 0)).2)]) kexit0 else none)))) else none) else none) else kexit0 y3_4)) (fun r0 => kk (.exit 0) (PkS.pack Tspec_l11Cut_l3_0 (r0, ()))) := by kernel_rfl
theorem lespec_l11Cut_l3 : LoopEq tt sig (fun n => mkK [(27, Kspec_l11Last @spec_l11Last n)]) (fun n => mkL (mkK [(27, Kspec_l11Last @spec_l11Last n)]) []) Dspec_l11Cut_l3 Sspec_l11Cut_l3 (loopIn 3 (bodyOf Try.f32)) (Pspec_l11Cut_l3 @spec_l11Cut_l3) where
  zero R q kk := by unfold Pspec_l11Cut_l3; cases (PkS.un Sspec_l11Cut_l3 q) <;> rfl
  succ n R q kk := by
    unfold Pspec_l11Cut_l3
    cases h : (PkS.un Sspec_l11Cut_l3 q) with
    | none => rfl
    | some d =>
      obtain ⟨y3_0, y3_1, y3_2, y3_3, y3_4, u⟩ := (d : Int × (List (Int × Int)) × Int × Int × (List (Int × Int)) × Unit)
      have hp := PkS.un_pack h
      subst hp
      exact (espec_l11Cut_l3 @spec_l11Last @spec_l11Cut_l3 n y3_0 y3_1 y3_2 y3_3 y3_4 kk).symm
theorem nlspec_l11Cut_l3 : ∀ n, NatLP (Pspec_l11Cut_l3 @spec_l11Cut_l3 n) := lespec_l11Cut_l3.nat (fun n => mkK_nat (cspec_l11Cut n)) fun n => mkL_nat (mkK_nat (cspec_l11Cut n)) (l := []) trivial
theorem inspec_l11Cut_l3 (n : Nat) (R : Type) : LoopsOk Try.prog (mkL (mkK [(27, Kspec_l11Last @spec_l11Last n)]) [] R) (loopIn 3 (bodyOf Try.f32)) := .eq (l := []) (by kernel_rfl) trivial
theorem lkspec_l11Cut_l3 (n : Nat) (R : Type) (L0 : LK R) (h0 : ∀ id, firstRegion (loopIn 3 (bodyOf Try.f32)) = some id → L0 id = Dspec_l11Cut_l3.oracle (mkK [(27, Kspec_l11Last @spec_l11Last n)] R) (Pspec_l11Cut_l3 @spec_l11Cut_l3 n R)) : LoopOk Try.prog L0 (loopIn 3 (bodyOf Try.f32)) :=
  lespec_l11Cut_l3.ok mixed ttok (fun n => mkK_nat (cspec_l11Cut n)) (fun n => mkK_ok (cspec_l11Cut n)) (fun n => inspec_l11Cut_l3 n R) (mkK_nat (cspec_l11Cut n)) h0
@[reducible] def Sspec_l11Cut : PkS := ⟨[.one (.ro (.pr (.int .i64) (.int .i64))), .one (.int .i64)], []⟩
@[reducible] def Tspec_l11Cut : PkS := ⟨[.one (.ro (.pr (.int .i64) (.int .i64))), .one (.dead), .one (.dead)], []⟩
def Hspec_l11Cut : List Sh := [.one (.ro (.pr (.int .i64) (.int .i64))), .skip, .skip]
def Kspec_l11Cut (g : ∀ {R : Type}, Nat → (List (Int × Int)) → Int → ((List (Int × Int)) → Option R) → Option R) (n : Nat) : KPs := fun R p k => match (PkS.un Sspec_l11Cut p : Option ((List (Int × Int)) × Int × Unit)) with
  | some (x0, x1, _) => g n x0 x1 (fun r0 => k (PkS.pack Tspec_l11Cut (r0, ())))
  | none => none
theorem espec_l11Cut (spec_l11Last : ∀ {R : Type}, Nat → (List (Int × Int)) → (Int → Option R) → Option R) (spec_l11Cut_l3 : ∀ {R : Type}, Nat → Int → (List (Int × Int)) → Int → Int → (List (Int × Int)) → ((List (Int × Int)) → Option R) → Option R) {R : Type} (n : Nat) (x0 : List (Int × Int)) (x1 : Int) (k : Pk → Option R) : evF tt sig (mkK [(27, Kspec_l11Last @spec_l11Last n)] R) (mkL (mkK [(27, Kspec_l11Last @spec_l11Last n)]) [(3, Dspec_l11Cut_l3, Pspec_l11Cut_l3 @spec_l11Cut_l3 n)] R) Try.f32 Hspec_l11Cut (PkS.pack Sspec_l11Cut (x0, x1, ())) k = (fun (k : (List (Int × Int)) → Option R) => (spec_l11Cut_l3 n x1 x0 (x0.length : Int) 0 ([] : List (Int × Int)) (fun r2 => k r2))) (fun r0 => k (PkS.pack Tspec_l11Cut (r0, ()))) := by kernel_rfl
theorem okspec_l11Cut (n : Nat) : FnOk Try.prog 32 (Kspec_l11Cut @spec_l11Cut n) := by
  refine fn_ok (sig := sig) mixed ttok (mkK_nat (cspec_l11Cut n)) (mkK_ok (cspec_l11Cut n)) (mkL_nat (mkK_nat (cspec_l11Cut n)) (l := [(3, Dspec_l11Cut_l3, Pspec_l11Cut_l3 @spec_l11Cut_l3 n)]) ⟨nlspec_l11Cut_l3 n, trivial⟩) (fn := Try.f32) (c := bodyOf Try.f32) (by kernel_rfl) (by kernel_rfl) (by kernel_rfl) (.eq (l := [loopIn 3 (bodyOf Try.f32)]) (by kernel_rfl) ⟨(lkspec_l11Cut_l3 n _ _ (at_id (i := 3) (by kernel_rfl) rfl)), trivial⟩) (shs := Hspec_l11Cut) (S := Sspec_l11Cut) fun R p k => ?_
  unfold Kspec_l11Cut
  cases h : (PkS.un Sspec_l11Cut p) with
  | none => rfl
  | some d =>
    obtain ⟨x0, x1, u⟩ := (d : (List (Int × Int)) × Int × Unit)
    have hp := PkS.un_pack h
    subst hp
    exact (espec_l11Cut @spec_l11Last @spec_l11Cut_l3 n x0 x1 k).symm

/-! ### loop.example/g00269/spec.l11Append -/
theorem cspec_l11Append (n : Nat) : AllOk Try.prog [] := trivial
@[reducible] def Sspec_l11Append : PkS := ⟨[.one (.ro (.pr (.int .i64) (.int .i64))), .one (.int .i64), .one (.int .i64)], []⟩
@[reducible] def Tspec_l11Append : PkS := ⟨[.one (.whole (300000, 0)), .one (.dead), .one (.dead), .one (.dead)], [((300000, 0), .arr (.pr (.int .i64) (.int .i64)))]⟩
def Hspec_l11Append : List Sh := [.one (.own (.pr (.int .i64) (.int .i64))), .skip, .skip, .skip]
def Kspec_l11Append (g : ∀ {R : Type}, Nat → (List (Int × Int)) → Int → Int → ((List (Int × Int)) → Option R) → Option R) (n : Nat) : KPs := fun R p k => match (PkS.un Sspec_l11Append p : Option ((List (Int × Int)) × Int × Int × Unit)) with
  | some (x0, x1, x2, _) => g n x0 x1 x2 (fun r0 => k (PkS.pack Tspec_l11Append (r0, ())))
  | none => none
theorem espec_l11Append  {R : Type} (n : Nat) (x0 : List (Int × Int)) (x1 : Int) (x2 : Int) (k : Pk → Option R) : evF tt sig (mkK [] R) (mkL (mkK []) [] R) Try.f47 Hspec_l11Append (PkS.pack Sspec_l11Append (x0, x1, x2, ())) k = (fun (k : (List (Int × Int)) → Option R) => (bif decide (([] : List (Int × Int)).length + x0.length ≤ LIM) then (bif (decide ((IntKind.wrap .i64 (((([] : List (Int × Int)) ++ x0).length : Int) - 1)) ≥ 0)) then (bif decide (0 ≤ (IntKind.wrap .i64 (((([] : List (Int × Int)) ++ x0).length : Int) - 1))) then (bif decide ((IntKind.wrap .i64 (((([] : List (Int × Int)) ++ x0).length : Int) - 1)) < ((([] : List (Int × Int)) ++ x0).length : Int)) then (bif (((([] : List (Int × Int)) ++ x0).getD (Int.toNat (IntKind.wrap .i64 (((([] : List (Int × Int)) ++ x0).length : Int) - 1))) (0, 0)).2 == x2) then (bif decide (0 ≤ (IntKind.wrap .i64 (((([] : List (Int × Int)) ++ x0).length : Int) - 1))) then (bif decide ((IntKind.wrap .i64 (((([] : List (Int × Int)) ++ x0).length : Int) - 1)) < ((([] : List (Int × Int)) ++ x0).length : Int)) then k ((([] : List (Int × Int)) ++ x0).set (Int.toNat (IntKind.wrap .i64 (((([] : List (Int × Int)) ++ x0).length : Int) - 1))) (x1, ((([] : List (Int × Int)) ++ x0).getD (Int.toNat (IntKind.wrap .i64 (((([] : List (Int × Int)) ++ x0).length : Int) - 1))) (0, 0)).2)) else none) else none) else (bif decide ((([] : List (Int × Int)) ++ x0).length + ([(x1, x2)]).length ≤ LIM) then k ((([] : List (Int × Int)) ++ x0) ++ [(x1, x2)]) else none)) else none) else none) else (bif decide ((([] : List (Int × Int)) ++ x0).length + ([(x1, x2)]).length ≤ LIM) then k ((([] : List (Int × Int)) ++ x0) ++ [(x1, x2)]) else none)) else none)) (fun r0 => k (PkS.pack Tspec_l11Append (r0, ()))) := by kernel_rfl
theorem okspec_l11Append (n : Nat) : FnOk Try.prog 47 (Kspec_l11Append @spec_l11Append n) := by
  refine fn_ok (sig := sig) mixed ttok (mkK_nat (cspec_l11Append n)) (mkK_ok (cspec_l11Append n)) (mkL_nat (mkK_nat (cspec_l11Append n)) (l := []) trivial) (fn := Try.f47) (c := bodyOf Try.f47) (by kernel_rfl) (by kernel_rfl) (by kernel_rfl) (.eq (l := []) (by kernel_rfl) trivial) (shs := Hspec_l11Append) (S := Sspec_l11Append) fun R p k => ?_
  unfold Kspec_l11Append
  cases h : (PkS.un Sspec_l11Append p) with
  | none => rfl
  | some d =>
    obtain ⟨x0, x1, x2, u⟩ := (d : (List (Int × Int)) × Int × Int × Unit)
    have hp := PkS.un_pack h
    subst hp
    exact (espec_l11Append  n x0 x1 x2 k).symm

/-! ### loop.example/g00269/spec.AppendItem -/
theorem cspec_AppendItem (n : Nat) : AllOk Try.prog [(23, Kspec_GoodItems @spec_GoodItems n), (27, Kspec_l11Last @spec_l11Last n), (47, Kspec_l11Append @spec_l11Append n)] := ⟨okspec_GoodItems n, ⟨okspec_l11Last n, ⟨okspec_l11Append n, trivial⟩⟩⟩
@[reducible] def Sspec_AppendItem : PkS := ⟨[.one (.ro (.pr (.int .i64) (.int .i64))), .one (.int .i64), .one (.int .i64)], []⟩
@[reducible] def Tspec_AppendItem : PkS := ⟨[.tup [(false, [.whole (300000, 0)]), (false, [.bool])], .one (.dead), .one (.dead), .one (.dead)], [((300000, 0), .arr (.pr (.int .i64) (.int .i64)))]⟩
def Hspec_AppendItem : List Sh := [.tup [(false, [(.own (.pr (.int .i64) (.int .i64)))]), (false, [.any])], .skip, .skip, .skip]
def Kspec_AppendItem (g : ∀ {R : Type}, Nat → (List (Int × Int)) → Int → Int → (Bool → (List (Int × Int)) → Option R) → Option R) (n : Nat) : KPs := fun R p k => match (PkS.un Sspec_AppendItem p : Option ((List (Int × Int)) × Int × Int × Unit)) with
  | some (x0, x1, x2, _) => g n x0 x1 x2 (fun r0 r1 => k (PkS.pack Tspec_AppendItem (r0, r1, ())))
  | none => none
theorem espec_AppendItem (spec_GoodItems : ∀ {R : Type}, Nat → (List (Int × Int)) → (Bool → Option R) → Option R) (spec_l11Last : ∀ {R : Type}, Nat → (List (Int × Int)) → (Int → Option R) → Option R) (spec_l11Append : ∀ {R : Type}, Nat → (List (Int × Int)) → Int → Int → ((List (Int × Int)) → Option R) → Option R) {R : Type} (n : Nat) (x0 : List (Int × Int)) (x1 : Int) (x2 : Int) (k : Pk → Option R) : evF tt sig (mkK [(23, Kspec_GoodItems @spec_GoodItems n), (27, Kspec_l11Last @spec_l11Last n), (47, Kspec_l11Append @spec_l11Append n)] R) (mkL (mkK [(23, Kspec_GoodItems @spec_GoodItems n), (27, Kspec_l11Last @spec_l11Last n), (47, Kspec_l11Append @spec_l11Append n)]) [] R) Try.f44 Hspec_AppendItem (PkS.pack Sspec_AppendItem (x0, x1, x2, ())) k = (fun (k : Bool → (List (Int × Int)) → Option R) => (spec_GoodItems n x0 fun r1 => (bif (!r1) then k false ([] : List (Int × Int)) else (spec_l11Last n x0 fun r2 => (bif (x1 != (IntKind.wrap .i64 (r2 + 1))) then k false ([] : List (Int × Int)) else (bif (decide ((x0.length : Int) > 0)) then (bif decide (0 ≤ (IntKind.wrap .i64 ((x0.length : Int) - 1))) then (bif decide ((IntKind.wrap .i64 ((x0.length : Int) - 1)) < (x0.length : Int)) then (bif (decide ((x0.getD (Int.toNat (IntKind.wrap .i64 ((x0.length : Int) - 1))) (0, 0)).2 > x2)) then k false ([] : List (Int × Int)) else (spec_l11Append n x0 x1 x2 fun r3 => (spec_GoodItems n r3 fun r4 => (bif (!r4) then k false ([] : List (Int × Int)) else k true r3)))) else none) else none) else (spec_l11Append n x0 x1 x2 fun r5 => (spec_GoodItems n r5 fun r6 => (bif (!r6) then k false ([] : List (Int × Int)) else k true r5))))))))) (fun r0 r1 => k (PkS.pack Tspec_AppendItem (r0, r1, ()))) := by kernel_rfl
theorem okspec_AppendItem (n : Nat) : FnOk Try.prog 44 (Kspec_AppendItem @spec_AppendItem n) := by
  refine fn_ok (sig := sig) mixed ttok (mkK_nat (cspec_AppendItem n)) (mkK_ok (cspec_AppendItem n)) (mkL_nat (mkK_nat (cspec_AppendItem n)) (l := []) trivial) (fn := Try.f44) (c := bodyOf Try.f44) (by kernel_rfl) (by kernel_rfl) (by kernel_rfl) (.eq (l := []) (by kernel_rfl) trivial) (shs := Hspec_AppendItem) (S := Sspec_AppendItem) fun R p k => ?_
  unfold Kspec_AppendItem
  cases h : (PkS.un Sspec_AppendItem p) with
  | none => rfl
  | some d =>
    obtain ⟨x0, x1, x2, u⟩ := (d : (List (Int × Int)) × Int × Int × Unit)
    have hp := PkS.un_pack h
    subst hp
    exact (espec_AppendItem @spec_GoodItems @spec_l11Last @spec_l11Append n x0 x1 x2 k).symm

/-! ### (*loop.example/g00269/spec.l1Cur).twoItems -/
theorem cspec_l1Cur_twoItems (n : Nat) : AllOk Try.prog [(41, Kspec_l1Cur_items @spec_l1Cur_items n), (42, Kspec_l1Cur_one @spec_l1Cur_one n), (23, Kspec_GoodItems @spec_GoodItems n), (27, Kspec_l11Last @spec_l11Last n), (43, Kspec_l1Cur_pick @spec_l1Cur_pick n), (32, Kspec_l11Cut @spec_l11Cut n), (44, Kspec_AppendItem @spec_AppendItem n)] := ⟨okspec_l1Cur_items n, ⟨okspec_l1Cur_one n, ⟨okspec_GoodItems n, ⟨okspec_l11Last n, ⟨okspec_l1Cur_pick n, ⟨okspec_l11Cut n, ⟨okspec_AppendItem n, trivial⟩⟩⟩⟩⟩⟩⟩
@[reducible] def Sspec_l1Cur_twoItems_l11 : PkS := ⟨[.one (.box (100000, 0) 0), .one (.ro (.pr (.int .i64) (.int .i64))), .one (.ro (.pr (.int .i64) (.int .i64))), .one (.int .i64), .one (.int .i64), .one (.box (100000, 0) 0)], [((100000, 0), .box [.ro (.int .u8), .int .i64, .int .u64])]⟩
@[reducible] def Tspec_l1Cur_twoItems_l11_0 : PkS := ⟨[.one (.ro (.pr (.int .i64) (.int .i64))), .one (.ro (.pr (.int .i64) (.int .i64))), .one (.box (100000, 0) 0)], [((100000, 0), .box [.ro (.int .u8), .int .i64, .int .u64])]⟩
def Dspec_l1Cur_twoItems_l11 : LoopD := ⟨62, [0, 4, 5, 6, 7], [.box [(.ro (.int .u8)), .any, .any], .one (.ro (.pr (.int .i64) (.int .i64))), .one (.ro (.pr (.int .i64) (.int .i64))), .one .any, .one .any, .box [(.ro (.int .u8)), .any, .any]], fun x => match x with
  | .exit 0 => some ([4, 5], [.one (.ro (.pr (.int .i64) (.int .i64))), .one (.ro (.pr (.int .i64) (.int .i64))), .box [(.ro (.int .u8)), .any, .any]])
  | _ => none⟩
def Pspec_l1Cur_twoItems_l11 (g : ∀ {R : Type}, Nat → (List (Int × Int)) → (List (Int × Int)) → Int → Int → (List Int) → Int → Int → ((List (Int × Int)) → (List (Int × Int)) → (List Int) → Int → Int → Option R) → Option R) (n : Nat) : LPs := fun R q kk => match (PkS.un Sspec_l1Cur_twoItems_l11 q : Option ((List (Int × Int)) × (List (Int × Int)) × Int × Int × (List Int) × Int × Int × Unit)) with
  | some (y11_0, y11_1, y11_2, y11_3, y11_4, y11_5, y11_6, _) => g n y11_0 y11_1 y11_2 y11_3 y11_4 y11_5 y11_6 (fun r0 r1 r2 r3 r4 => kk (.exit 0) (PkS.pack Tspec_l1Cur_twoItems_l11_0 (r0, r1, r2, r3, r4, ())))
  | none => none
theorem espec_l1Cur_twoItems_l11 (spec_l1Cur_items : ∀ {R : Type}, Nat → (List Int) → Int → Int → ((List (Int × Int)) → (List Int) → Int → Int → Option R) → Option R) (spec_l1Cur_one : ∀ {R : Type}, Nat → Int → (List Int) → Int → Int → (Bool → (List Int) → Int → Int → Option R) → Option R) (spec_GoodItems : ∀ {R : Type}, Nat → (List (Int × Int)) → (Bool → Option R) → Option R) (spec_l11Last : ∀ {R : Type}, Nat → (List (Int × Int)) → (Int → Option R) → Option R) (spec_l1Cur_pick : ∀ {R : Type}, Nat → Int → (List Int) → Int → Int → (Int → (List Int) → Int → Int → Option R) → Option R) (spec_l11Cut : ∀ {R : Type}, Nat → (List (Int × Int)) → Int → ((List (Int × Int)) → Option R) → Option R) (spec_AppendItem : ∀ {R : Type}, Nat → (List (Int × Int)) → Int → Int → (Bool → (List (Int × Int)) → Option R) → Option R) (spec_l1Cur_twoItems_l11 : ∀ {R : Type}, Nat → (List (Int × Int)) → (List (Int × Int)) → Int → Int → (List Int) → Int → Int → ((List (Int × Int)) → (List (Int × Int)) → (List Int) → Int → Int → Option R) → Option R) {R : Type} (n : Nat) (y11_0 : List (Int × Int)) (y11_1 : List (Int × Int)) (y11_2 : Int) (y11_3 : Int) (y11_4 : List Int) (y11_5 : Int) (y11_6 : Int) (kk : Ex → Pk → Option R) : Dspec_l1Cur_twoItems_l11.step tt sig (mkK [(41, Kspec_l1Cur_items @spec_l1Cur_items n), (42, Kspec_l1Cur_one @spec_l1Cur_one n), (23, Kspec_GoodItems @spec_GoodItems n), (27, Kspec_l11Last @spec_l11Last n), (43, Kspec_l1Cur_pick @spec_l1Cur_pick n), (32, Kspec_l11Cut @spec_l11Cut n), (44, Kspec_AppendItem @spec_AppendItem n)] R) (mkL (mkK [(41, Kspec_l1Cur_items @spec_l1Cur_items n), (42, Kspec_l1Cur_one @spec_l1Cur_one n), (23, Kspec_GoodItems @spec_GoodItems n), (27, Kspec_l11Last @spec_l11Last n), (43, Kspec_l1Cur_pick @spec_l1Cur_pick n), (32, Kspec_l11Cut @spec_l11Cut n), (44, Kspec_AppendItem @spec_AppendItem n)]) [] R) (loopIn 11 (bodyOf Try.f36)) (fun q' => Pspec_l1Cur_twoItems_l11 @spec_l1Cur_twoItems_l11 n R q' kk) (PkS.pack Sspec_l1Cur_twoItems_l11 (y11_0, y11_1, y11_2, y11_3, y11_4, y11_5, y11_6, ())) kk = (fun (kexit0 : (List (Int × Int)) → (List (Int × Int)) → (List Int) → Int → Int → Option R) => (bif (decide (y11_3 > 0)) then (spec_l1Cur_pick n 3 y11_4 y11_5 y11_6 fun r24 r25 r26 r27 => (spec_l11Last n y11_1 fun r28 => (spec_AppendItem n y11_1 (IntKind.wrap .i64 (r28 + 1)) (IntKind.wrap .i64 (y11_2 + r24)) fun r29 r30 => (bif r29 then spec_l1Cur_twoItems_l11 n y11_0 r30 (IntKind.wrap .i64 (y11_2 + r24)) (IntKind.wrap .i64 (y11_3 - 1)) r25 r26 r27 kexit0 else spec_l1Cur_twoItems_l11 n y11_0 y11_1 (IntKind.wrap .i64 (y11_2 + r24)) (IntKind.wrap .i64 (y11_3 - 1)) r25 r26 r27 kexit0)))) else kexit0 y11_0 y11_1 y11_4 y11_5 y11_6)) (fun r0 r1 r2 r3 r4 => kk (.exit 0) (PkS.pack Tspec_l1Cur_twoItems_l11_0 (r0, r1, r2, r3, r4, ()))) := by kernel_rfl
theorem lespec_l1Cur_twoItems_l11 : LoopEq tt sig (fun n => mkK [(41, Kspec_l1Cur_items @spec_l1Cur_items n), (42, Kspec_l1Cur_one @spec_l1Cur_one n), (23, Kspec_GoodItems @spec_GoodItems n), (27, Kspec_l11Last @spec_l11Last n), (43, Kspec_l1Cur_pick @spec_l1Cur_pick n), (32, Kspec_l11Cut @spec_l11Cut n), (44, Kspec_AppendItem @spec_AppendItem n)]) (fun n => mkL (mkK [(41, Kspec_l1Cur_items @spec_l1Cur_items n), (42, Kspec_l1Cur_one @spec_l1Cur_one n), (23, Kspec_GoodItems @spec_GoodItems n), (27, Kspec_l11Last @spec_l11Last n), (43, Kspec_l1Cur_pick @spec_l1Cur_pick n), (32, Kspec_l11Cut @spec_l11Cut n), (44, Kspec_AppendItem @spec_AppendItem n)]) []) Dspec_l1Cur_twoItems_l11 Sspec_l1Cur_twoItems_l11 (loopIn 11 (bodyOf Try.f36)) (Pspec_l1Cur_twoItems_l11 @spec_l1Cur_twoItems_l11) where
  zero R q kk := by unfold Pspec_l1Cur_twoItems_l11; cases (PkS.un Sspec_l1Cur_twoItems_l11 q) <;> rfl
  succ n R q kk := by
    unfold Pspec_l1Cur_twoItems_l11
    cases h : (PkS.un Sspec_l1Cur_twoItems_l11 q) with
    | none => rfl
    | some d =>
      obtain ⟨y11_0, y11_1, y11_2, y11_3, y11_4, y11_5, y11_6, u⟩ := (d : (List (Int × Int)) × (List (Int × Int)) × Int × Int × (List Int) × Int × Int × Unit)
      have hp := PkS.un_pack h
      subst hp
      exact (espec_l1Cur_twoItems_l11 @spec_l1Cur_items @spec_l1Cur_one @spec_GoodItems @spec_l11Last @spec_l1Cur_pick @spec_l11Cut @spec_AppendItem @spec_l1Cur_twoItems_l11 n y11_0 y11_1 y11_2 y11_3 y11_4 y11_5 y11_6 kk).symm
theorem nlspec_l1Cur_twoItems_l11 : ∀ n, NatLP (Pspec_l1Cur_twoItems_l11 @spec_l1Cur_twoItems_l11 n) := lespec_l1Cur_twoItems_l11.nat (fun n => mkK_nat (cspec_l1Cur_twoItems n)) fun n => mkL_nat (mkK_nat (cspec_l1Cur_twoItems n)) (l := []) trivial
theorem inspec_l1Cur_twoItems_l11 (n : Nat) (R : Type) : LoopsOk Try.prog (mkL (mkK [(41, Kspec_l1Cur_items @spec_l1Cur_items n), (42, Kspec_l1Cur_one @spec_l1Cur_one n), (23, Kspec_GoodItems @spec_GoodItems n), (27, Kspec_l11Last @spec_l11Last n), (43, Kspec_l1Cur_pick @spec_l1Cur_pick n), (32, Kspec_l11Cut @spec_l11Cut n), (44, Kspec_AppendItem @spec_AppendItem n)]) [] R) (loopIn 11 (bodyOf Try.f36)) := .eq (l := []) (by kernel_rfl) trivial
theorem lkspec_l1Cur_twoItems_l11 (n : Nat) (R : Type) (L0 : LK R) (h0 : ∀ id, firstRegion (loopIn 11 (bodyOf Try.f36)) = some id → L0 id = Dspec_l1Cur_twoItems_l11.oracle (mkK [(41, Kspec_l1Cur_items @spec_l1Cur_items n), (42, Kspec_l1Cur_one @spec_l1Cur_one n), (23, Kspec_GoodItems @spec_GoodItems n), (27, Kspec_l11Last @spec_l11Last n), (43, Kspec_l1Cur_pick @spec_l1Cur_pick n), (32, Kspec_l11Cut @spec_l11Cut n), (44, Kspec_AppendItem @spec_AppendItem n)] R) (Pspec_l1Cur_twoItems_l11 @spec_l1Cur_twoItems_l11 n R)) : LoopOk Try.prog L0 (loopIn 11 (bodyOf Try.f36)) :=
  lespec_l1Cur_twoItems_l11.ok mixed ttok (fun n => mkK_nat (cspec_l1Cur_twoItems n)) (fun n => mkK_ok (cspec_l1Cur_twoItems n)) (fun n => inspec_l1Cur_twoItems_l11 n R) (mkK_nat (cspec_l1Cur_twoItems n)) h0
@[reducible] def Sspec_l1Cur_twoItems : PkS := ⟨[.one (.box (200000, 0) 0)], [((200000, 0), .box [.ro (.int .u8), .int .i64, .int .u64])]⟩
@[reducible] def Tspec_l1Cur_twoItems : PkS := ⟨[.tup [(false, [.ro (.pr (.int .i64) (.int .i64))]), (false, [.ro (.pr (.int .i64) (.int .i64))])], .one (.box (300000, 0) 0)], [((300000, 0), .box [.ro (.int .u8), .int .i64, .int .u64])]⟩
def Hspec_l1Cur_twoItems : List Sh := [.tup [(false, [(.ro (.pr (.int .i64) (.int .i64)))]), (false, [(.ro (.pr (.int .i64) (.int .i64)))])], .box [(.ro (.int .u8)), .any, .any]]
def Kspec_l1Cur_twoItems (g : ∀ {R : Type}, Nat → (List Int) → Int → Int → ((List (Int × Int)) → (List (Int × Int)) → (List Int) → Int → Int → Option R) → Option R) (n : Nat) : KPs := fun R p k => match (PkS.un Sspec_l1Cur_twoItems p : Option ((List Int) × Int × Int × Unit)) with
  | some (x0, x1, x2, _) => g n x0 x1 x2 (fun r0 r1 r2 r3 r4 => k (PkS.pack Tspec_l1Cur_twoItems (r0, r1, r2, r3, r4, ())))
  | none => none
theorem espec_l1Cur_twoItems (spec_l1Cur_items : ∀ {R : Type}, Nat → (List Int) → Int → Int → ((List (Int × Int)) → (List Int) → Int → Int → Option R) → Option R) (spec_l1Cur_one : ∀ {R : Type}, Nat → Int → (List Int) → Int → Int → (Bool → (List Int) → Int → Int → Option R) → Option R) (spec_GoodItems : ∀ {R : Type}, Nat → (List (Int × Int)) → (Bool → Option R) → Option R) (spec_l11Last : ∀ {R : Type}, Nat → (List (Int × Int)) → (Int → Option R) → Option R) (spec_l1Cur_pick : ∀ {R : Type}, Nat → Int → (List Int) → Int → Int → (Int → (List Int) → Int → Int → Option R) → Option R) (spec_l11Cut : ∀ {R : Type}, Nat → (List (Int × Int)) → Int → ((List (Int × Int)) → Option R) → Option R) (spec_AppendItem : ∀ {R : Type}, Nat → (List (Int × Int)) → Int → Int → (Bool → (List (Int × Int)) → Option R) → Option R) (spec_l1Cur_twoItems_l11 : ∀ {R : Type}, Nat → (List (Int × Int)) → (List (Int × Int)) → Int → Int → (List Int) → Int → Int → ((List (Int × Int)) → (List (Int × Int)) → (List Int) → Int → Int → Option R) → Option R) {R : Type} (n : Nat) (x0 : List Int) (x1 : Int) (x2 : Int) (k : Pk → Option R) : evF tt sig (mkK [(41, Kspec_l1Cur_items @spec_l1Cur_items n), (42, Kspec_l1Cur_one @spec_l1Cur_one n), (23, Kspec_GoodItems @spec_GoodItems n), (27, Kspec_l11Last @spec_l11Last n), (43, Kspec_l1Cur_pick @spec_l1Cur_pick n), (32, Kspec_l11Cut @spec_l11Cut n), (44, Kspec_AppendItem @spec_AppendItem n)] R) (mkL (mkK [(41, Kspec_l1Cur_items @spec_l1Cur_items n), (42, Kspec_l1Cur_one @spec_l1Cur_one n), (23, Kspec_GoodItems @spec_GoodItems n), (27, Kspec_l11Last @spec_l11Last n), (43, Kspec_l1Cur_pick @spec_l1Cur_pick n), (32, Kspec_l11Cut @spec_l11Cut n), (44, Kspec_AppendItem @spec_AppendItem n)]) [(11, Dspec_l1Cur_twoItems_l11, Pspec_l1Cur_twoItems_l11 @spec_l1Cur_twoItems_l11 n)] R) Try.f36 Hspec_l1Cur_twoItems (PkS.pack Sspec_l1Cur_twoItems (x0, x1, x2, ())) k = (fun (k : (List (Int × Int)) → (List (Int × Int)) → (List Int) → Int → Int → Option R) => (spec_l1Cur_items n x0 x1 x2 fun r1 r2 r3 r4 => (spec_l1Cur_one n 4 r2 r3 r4 fun r5 r6 r7 r8 => (bif r5 then (spec_l1Cur_items n r6 r7 r8 fun r9 r10 r11 r12 => k r1 r9 r10 r11 r12) else (spec_GoodItems n r1 fun r13 => (bif (!r13) then k r1 r1 r6 r7 r8 else (spec_l11Last n r1 fun r14 => (spec_l1Cur_pick n (IntKind.wrap .i64 (r14 + 1)) r6 r7 r8 fun r15 r16 r17 r18 => (spec_l11Cut n r1 r15 fun r19 => (bif (decide ((r19.length : Int) > 0)) then (bif decide (0 ≤ (IntKind.wrap .i64 ((r19.length : Int) - 1))) then (bif decide ((IntKind.wrap .i64 ((r19.length : Int) - 1)) < (r19.length : Int)) then (spec_l1Cur_pick n 4 r16 r17 r18 fun r20 r21 r22 r23 => (spec_l1Cur_twoItems_l11 n r1 r19 ((r19.getD (Int.toNat (IntKind.wrap .i64 ((r19.length : Int) - 1))) (0, 0)).2) r20 r21 r22 r23 (fun r31 r32 r33 r34 r35 => k r31 r32 r33 r34 r35))) else none) else none) else (spec_l1Cur_pick n 4 r16 r17 r18 fun r36 r37 r38 r39 => (spec_l1Cur_twoItems_l11 n r1 r19 0 r36 r37 r38 r39 (fun r40 r41 r42 r43 r44 => k r40 r41 r42 r43 r44))))))))))))) (fun r0 r1 r2 r3 r4 => k (PkS.pack Tspec_l1Cur_twoItems (r0, r1, r2, r3, r4, ()))) := by kernel_rfl
theorem okspec_l1Cur_twoItems (n : Nat) : FnOk Try.prog 36 (Kspec_l1Cur_twoItems @spec_l1Cur_twoItems n) := by
  refine fn_ok (sig := sig) mixed ttok (mkK_nat (cspec_l1Cur_twoItems n)) (mkK_ok (cspec_l1Cur_twoItems n)) (mkL_nat (mkK_nat (cspec_l1Cur_twoItems n)) (l := [(11, Dspec_l1Cur_twoItems_l11, Pspec_l1Cur_twoItems_l11 @spec_l1Cur_twoItems_l11 n)]) ⟨nlspec_l1Cur_twoItems_l11 n, trivial⟩) (fn := Try.f36) (c := bodyOf Try.f36) (by kernel_rfl) (by kernel_rfl) (by kernel_rfl) (.eq (l := [loopIn 11 (bodyOf Try.f36)]) (by kernel_rfl) ⟨(lkspec_l1Cur_twoItems_l11 n _ _ (at_id (i := 11) (by kernel_rfl) rfl)), trivial⟩) (shs := Hspec_l1Cur_twoItems) (S := Sspec_l1Cur_twoItems) fun R p k => ?_
  unfold Kspec_l1Cur_twoItems
  cases h : (PkS.un Sspec_l1Cur_twoItems p) with
  | none => rfl
  | some d =>
    obtain ⟨x0, x1, x2, u⟩ := (d : (List Int) × Int × Int × Unit)
    have hp := PkS.un_pack h
    subst hp
    exact (espec_l1Cur_twoItems @spec_l1Cur_items @spec_l1Cur_one @spec_GoodItems @spec_l11Last @spec_l1Cur_pick @spec_l11Cut @spec_AppendItem @spec_l1Cur_twoItems_l11 n x0 x1 x2 k).symm

/-! ### loop.example/g00269/spec.DrawLcaOf -/
theorem cspec_DrawLcaOf (n : Nat) : AllOk Try.prog [(36, Kspec_l1Cur_twoItems @spec_l1Cur_twoItems n)] := ⟨okspec_l1Cur_twoItems n, trivial⟩
@[reducible] def Sspec_DrawLcaOf : PkS := ⟨[.one (.ro (.int .u8))], []⟩
@[reducible] def Tspec_DrawLcaOf : PkS := ⟨[.tup [(false, [.ro (.pr (.int .i64) (.int .i64))]), (false, [.ro (.pr (.int .i64) (.int .i64))])], .one (.dead)], []⟩
def Hspec_DrawLcaOf : List Sh := [.tup [(false, [(.ro (.pr (.int .i64) (.int .i64)))]), (false, [(.ro (.pr (.int .i64) (.int .i64)))])], .skip]
def Kspec_DrawLcaOf (g : ∀ {R : Type}, Nat → (List Int) → ((List (Int × Int)) → (List (Int × Int)) → Option R) → Option R) (n : Nat) : KPs := fun R p k => match (PkS.un Sspec_DrawLcaOf p : Option ((List Int) × Unit)) with
  | some (x0, _) => g n x0 (fun r0 r1 => k (PkS.pack Tspec_DrawLcaOf (r0, r1, ())))
  | none => none
theorem espec_DrawLcaOf (spec_l1Cur_twoItems : ∀ {R : Type}, Nat → (List Int) → Int → Int → ((List (Int × Int)) → (List (Int × Int)) → (List Int) → Int → Int → Option R) → Option R) {R : Type} (n : Nat) (x0 : List Int) (k : Pk → Option R) : evF tt sig (mkK [(36, Kspec_l1Cur_twoItems @spec_l1Cur_twoItems n)] R) (mkL (mkK [(36, Kspec_l1Cur_twoItems @spec_l1Cur_twoItems n)]) [] R) Try.f19 Hspec_DrawLcaOf (PkS.pack Sspec_DrawLcaOf (x0, ())) k = (fun (k : (List (Int × Int)) → (List (Int × Int)) → Option R) => (spec_l1Cur_twoItems n x0 0 0 fun r1 r2 r3 r4 r5 => k r1 r2)) (fun r0 r1 => k (PkS.pack Tspec_DrawLcaOf (r0, r1, ()))) := by kernel_rfl
theorem okspec_DrawLcaOf (n : Nat) : FnOk Try.prog 19 (Kspec_DrawLcaOf @spec_DrawLcaOf n) := by
  refine fn_ok (sig := sig) mixed ttok (mkK_nat (cspec_DrawLcaOf n)) (mkK_ok (cspec_DrawLcaOf n)) (mkL_nat (mkK_nat (cspec_DrawLcaOf n)) (l := []) trivial) (fn := Try.f19) (c := bodyOf Try.f19) (by kernel_rfl) (by kernel_rfl) (by kernel_rfl) (.eq (l := []) (by kernel_rfl) trivial) (shs := Hspec_DrawLcaOf) (S := Sspec_DrawLcaOf) fun R p k => ?_
  unfold Kspec_DrawLcaOf
  cases h : (PkS.un Sspec_DrawLcaOf p) with
  | none => rfl
  | some d =>
    obtain ⟨x0, u⟩ := (d : (List Int) × Unit)
    have hp := PkS.un_pack h
    subst hp
    exact (espec_DrawLcaOf @spec_l1Cur_twoItems n x0 k).symm

/-! ### loop.example/g00269/impl.in -/
theorem cimpl_in (n : Nat) : AllOk Try.prog [] := trivial
@[reducible] def Simpl_in : PkS := ⟨[.one (.int .i64), .one (.int .i64), .one (.int .i64)], []⟩
@[reducible] def Timpl_in : PkS := ⟨[.one (.bool), .one (.dead), .one (.dead), .one (.dead)], []⟩
def Himpl_in : List Sh := [.one .any, .skip, .skip, .skip]
def Kimpl_in (g : ∀ {R : Type}, Nat → Int → Int → Int → (Bool → Option R) → Option R) (n : Nat) : KPs := fun R p k => match (PkS.un Simpl_in p : Option (Int × Int × Int × Unit)) with
  | some (x0, x1, x2, _) => g n x0 x1 x2 (fun r0 => k (PkS.pack Timpl_in (r0, ())))
  | none => none
theorem eimpl_in  {R : Type} (n : Nat) (x0 : Int) (x1 : Int) (x2 : Int) (k : Pk → Option R) : evF tt sig (mkK [] R) (mkL (mkK []) [] R) Try.f33 Himpl_in (PkS.pack Simpl_in (x0, x1, x2, ())) k = (fun (k : Bool → Option R) => (bif (decide (x0 ≥ x1)) then k (decide (x0 ≤ x2)) else k false)) (fun r0 => k (PkS.pack Timpl_in (r0, ()))) := by kernel_rfl
theorem okimpl_in (n : Nat) : FnOk Try.prog 33 (Kimpl_in @impl_in n) := by
  refine fn_ok (sig := sig) mixed ttok (mkK_nat (cimpl_in n)) (mkK_ok (cimpl_in n)) (mkL_nat (mkK_nat (cimpl_in n)) (l := []) trivial) (fn := Try.f33) (c := bodyOf Try.f33) (by kernel_rfl) (by kernel_rfl) (by kernel_rfl) (.eq (l := []) (by kernel_rfl) trivial) (shs := Himpl_in) (S := Simpl_in) fun R p k => ?_
  unfold Kimpl_in
  cases h : (PkS.un Simpl_in p) with
  | none => rfl
  | some d =>
    obtain ⟨x0, x1, x2, u⟩ := (d : Int × Int × Int × Unit)
    have hp := PkS.un_pack h
    subst hp
    exact (eimpl_in  n x0 x1 x2 k).symm

/-! ### loop.example/g00269/impl.isVersion -/
theorem cimpl_isVersion (n : Nat) : AllOk Try.prog [(33, Kimpl_in @impl_in n)] := ⟨okimpl_in n, trivial⟩
@[reducible] def Simpl_isVersion : PkS := ⟨[.one (.int .i64)], []⟩
@[reducible] def Timpl_isVersion : PkS := ⟨[.one (.bool), .one (.dead)], []⟩
def Himpl_isVersion : List Sh := [.one .any, .skip]
def Kimpl_isVersion (g : ∀ {R : Type}, Nat → Int → (Bool → Option R) → Option R) (n : Nat) : KPs := fun R p k => match (PkS.un Simpl_isVersion p : Option (Int × Unit)) with
  | some (x0, _) => g n x0 (fun r0 => k (PkS.pack Timpl_isVersion (r0, ())))
  | none => none
theorem eimpl_isVersion (impl_in : ∀ {R : Type}, Nat → Int → Int → Int → (Bool → Option R) → Option R) {R : Type} (n : Nat) (x0 : Int) (k : Pk → Option R) : evF tt sig (mkK [(33, Kimpl_in @impl_in n)] R) (mkL (mkK [(33, Kimpl_in @impl_in n)]) [] R) Try.f38 Himpl_isVersion (PkS.pack Simpl_isVersion (x0, ())) k = (fun (k : Bool → Option R) => (impl_in n x0 0 1000000 fun r1 => k r1)) (fun r0 => k (PkS.pack Timpl_isVersion (r0, ()))) := by kernel_rfl
theorem okimpl_isVersion (n : Nat) : FnOk Try.prog 38 (Kimpl_isVersion @impl_isVersion n) := by
  refine fn_ok (sig := sig) mixed ttok (mkK_nat (cimpl_isVersion n)) (mkK_ok (cimpl_isVersion n)) (mkL_nat (mkK_nat (cimpl_isVersion n)) (l := []) trivial) (fn := Try.f38) (c := bodyOf Try.f38) (by kernel_rfl) (by kernel_rfl) (by kernel_rfl) (.eq (l := []) (by kernel_rfl) trivial) (shs := Himpl_isVersion) (S := Simpl_isVersion) fun R p k => ?_
  unfold Kimpl_isVersion
  cases h : (PkS.un Simpl_isVersion p) with
  | none => rfl
  | some d =>
    obtain ⟨x0, u⟩ := (d : Int × Unit)
    have hp := PkS.un_pack h
    subst hp
    exact (eimpl_isVersion @impl_in n x0 k).symm

/-! ### loop.example/g00269/impl.GoodItems -/
theorem cimpl_GoodItems (n : Nat) : AllOk Try.prog [(33, Kimpl_in @impl_in n), (38, Kimpl_isVersion @impl_isVersion n)] := ⟨okimpl_in n, ⟨okimpl_isVersion n, trivial⟩⟩
@[reducible] def Simpl_GoodItems_l4 : PkS := ⟨[.one (.ro (.pr (.int .i64) (.int .i64))), .one (.ro (.pr (.int .i64) (.int .i64))), .one (.int .i64), .one (.int .i64), .one (.dead)], []⟩
@[reducible] def Timpl_GoodItems_l4_0 : PkS := ⟨[.one (.bool), .one (.dead)], []⟩
@[reducible] def Timpl_GoodItems_l4_1 : PkS := ⟨[.one (.dead)], []⟩
def Dimpl_GoodItems_l4 : LoopD := ⟨52, [0, 8, 9, 10], [.one (.ro (.pr (.int .i64) (.int .i64))), .one (.ro (.pr (.int .i64) (.int .i64))), .one .any, .one .any, .skip], fun x => match x with
  | .ret => some ([2], [.one .any, .skip])
  | .exit 0 => some ([], [.skip])
  | _ => none⟩
def Pimpl_GoodItems_l4 (g : ∀ {R : Type}, Nat → (List (Int × Int)) → (List (Int × Int)) → Int → Int → (Bool → Option R) → (Option R) → Option R) (n : Nat) : LPs := fun R q kk => match (PkS.un Simpl_GoodItems_l4 q : Option ((List (Int × Int)) × (List (Int × Int)) × Int × Int × Unit)) with
  | some (y4_0, y4_1, y4_2, y4_3, _) => g n y4_0 y4_1 y4_2 y4_3 (fun r0 => kk .ret (PkS.pack Timpl_GoodItems_l4_0 (r0, ()))) (kk (.exit 0) (PkS.pack Timpl_GoodItems_l4_1 ()))
  | none => none
theorem eimpl_GoodItems_l4 (impl_in : ∀ {R : Type}, Nat → Int → Int → Int → (Bool → Option R) → Option R) (impl_isVersion : ∀ {R : Type}, Nat → Int → (Bool → Option R) → Option R) (impl_GoodItems_l4 : ∀ {R : Type}, Nat → (List (Int × Int)) → (List (Int × Int)) → Int → Int → (Bool → Option R) → (Option R) → Option R) {R : Type} (n : Nat) (y4_0 : List (Int × Int)) (y4_1 : List (Int × Int)) (y4_2 : Int) (y4_3 : Int) (kk : Ex → Pk → Option R) : Dimpl_GoodItems_l4.step tt sig (mkK [(33, Kimpl_in @impl_in n), (38, Kimpl_isVersion @impl_isVersion n)] R) (mkL (mkK [(33, Kimpl_in @impl_in n), (38, Kimpl_isVersion @impl_isVersion n)]) [] R) (loopIn 4 (bodyOf Try.f22)) (fun q' => Pimpl_GoodItems_l4 @impl_GoodItems_l4 n R q' kk) (PkS.pack Simpl_GoodItems_l4 (y4_0, y4_1, y4_2, y4_3, ())) kk = (fun (kret : Bool → Option R) (kexit0 : Option R) => (bif (decide (y4_3 < y4_2)) then (bif decide (0 ≤ y4_3) then (bif decide (y4_3 < (y4_1.length : Int)) then (impl_in n ((y4_1.getD (Int.toNat y4_3) (0, 0)).1) 1 1000 fun r1 => (bif (!r1) then kret false else (impl_isVersion n ((y4_1.getD (Int.toNat y4_3) (0, 0)).2) fun r2 => (bif (!r2) then kret false else (bif (decide (y4_3 > 0)) then (bif decide (0 ≤ (IntKind.wrap .i64 (y4_3 - 1))) then (bif decide ((IntKind.wrap .i64 (y4_3 - 1)) < (y4_0.length : Int)) then (bif (decide ((y4_1.getD (Int.toNat y4_3) (0, 0)).1 ≤ (y4_0.getD (Int.toNat (IntKind.wrap .i64 (y4_3 - 1))) (0, 0)).1)) then kret false else (bif decide (0 ≤ (IntKind.wrap .i64 (y4_3 - 1))) then (bif decide ((IntKind.wrap .i64 (y4_3 - 1)) < (y4_0.length : Int)) then (bif (decide ((y4_1.getD (Int.toNat y4_3) (0, 0)).2 ≤ (y4_0.getD (Int.toNat (IntKind.wrap .i64 (y4_3 - 1))) (0, 0)).2)) then kret false else impl_GoodItems_l4 n y4_0 y4_1 y4_2 (IntKind.wrap .i64 (y4_3 + 1)) kret kexit0) else none) else none)) else none) else none) else impl_GoodItems_l4 n y4_0 y4_1 y4_2 (IntKind.wrap .i64 (y4_3 + 1)) kret kexit0))))) else none) else none) else kexit0)) (fun r0 => kk .ret (PkS.pack Timpl_GoodItems_l4_0 (r0, ()))) (kk (.exit 0) (PkS.pack Timpl_GoodItems_l4_1 ())) := by kernel_rfl
theorem leimpl_GoodItems_l4 : LoopEq tt sig (fun n => mkK [(33, Kimpl_in @impl_in n), (38, Kimpl_isVersion @impl_isVersion n)]) (fun n => mkL (mkK [(33, Kimpl_in @impl_in n), (38, Kimpl_isVersion @impl_isVersion n)]) []) Dimpl_GoodItems_l4 Simpl_GoodItems_l4 (loopIn 4 (bodyOf Try.f22)) (Pimpl_GoodItems_l4 @impl_GoodItems_l4) where
  zero R q kk := by unfold Pimpl_GoodItems_l4; cases (PkS.un Simpl_GoodItems_l4 q) <;> rfl
  succ n R q kk := by
    unfold Pimpl_GoodItems_l4
    cases h : (PkS.un Simpl_GoodItems_l4 q) with
    | none => rfl
    | some d =>
      obtain ⟨y4_0, y4_1, y4_2, y4_3, u⟩ := (d : (List (Int × Int)) × (List (Int × Int)) × Int × Int × Unit)
      have hp := PkS.un_pack h
      subst hp
      exact (eimpl_GoodItems_l4 @impl_in @impl_isVersion @impl_GoodItems_l4 n y4_0 y4_1 y4_2 y4_3 kk).symm
theorem nlimpl_GoodItems_l4 : ∀ n, NatLP (Pimpl_GoodItems_l4 @impl_GoodItems_l4 n) := leimpl_GoodItems_l4.nat (fun n => mkK_nat (cimpl_GoodItems n)) fun n => mkL_nat (mkK_nat (cimpl_GoodItems n)) (l := []) trivial
theorem inimpl_GoodItems_l4 (n : Nat) (R : Type) : LoopsOk Try.prog (mkL (mkK [(33, Kimpl_in @impl_in n), (38, Kimpl_isVersion @impl_isVersion n)]) [] R) (loopIn 4 (bodyOf Try.f22)) := .eq (l := []) (by kernel_rfl) trivial
theorem lkimpl_GoodItems_l4 (n : Nat) (R : Type) (L0 : LK R) (h0 : ∀ id, firstRegion (loopIn 4 (bodyOf Try.f22)) = some id → L0 id = Dimpl_GoodItems_l4.oracle (mkK [(33, Kimpl_in @impl_in n), (38, Kimpl_isVersion @impl_isVersion n)] R) (Pimpl_GoodItems_l4 @impl_GoodItems_l4 n R)) : LoopOk Try.prog L0 (loopIn 4 (bodyOf Try.f22)) :=
  leimpl_GoodItems_l4.ok mixed ttok (fun n => mkK_nat (cimpl_GoodItems n)) (fun n => mkK_ok (cimpl_GoodItems n)) (fun n => inimpl_GoodItems_l4 n R) (mkK_nat (cimpl_GoodItems n)) h0
@[reducible] def Simpl_GoodItems : PkS := ⟨[.one (.ro (.pr (.int .i64) (.int .i64)))], []⟩
@[reducible] def Timpl_GoodItems : PkS := ⟨[.one (.bool), .one (.dead)], []⟩
def Himpl_GoodItems : List Sh := [.one .any, .skip]
def Kimpl_GoodItems (g : ∀ {R : Type}, Nat → (List (Int × Int)) → (Bool → Option R) → Option R) (n : Nat) : KPs := fun R p k => match (PkS.un Simpl_GoodItems p : Option ((List (Int × Int)) × Unit)) with
  | some (x0, _) => g n x0 (fun r0 => k (PkS.pack Timpl_GoodItems (r0, ())))
  | none => none
theorem eimpl_GoodItems (impl_in : ∀ {R : Type}, Nat → Int → Int → Int → (Bool → Option R) → Option R) (impl_isVersion : ∀ {R : Type}, Nat → Int → (Bool → Option R) → Option R) (impl_GoodItems_l4 : ∀ {R : Type}, Nat → (List (Int × Int)) → (List (Int × Int)) → Int → Int → (Bool → Option R) → (Option R) → Option R) {R : Type} (n : Nat) (x0 : List (Int × Int)) (k : Pk → Option R) : evF tt sig (mkK [(33, Kimpl_in @impl_in n), (38, Kimpl_isVersion @impl_isVersion n)] R) (mkL (mkK [(33, Kimpl_in @impl_in n), (38, Kimpl_isVersion @impl_isVersion n)]) [(4, Dimpl_GoodItems_l4, Pimpl_GoodItems_l4 @impl_GoodItems_l4 n)] R) Try.f22 Himpl_GoodItems (PkS.pack Simpl_GoodItems (x0, ())) k = (fun (k : Bool → Option R) => (bif (decide ((x0.length : Int) > 20)) then k false else (impl_GoodItems_l4 n x0 x0 (x0.length : Int) 0 (fun r3 => k r3) (k true)))) (fun r0 => k (PkS.pack Timpl_GoodItems (r0, ()))) := by kernel_rfl
theorem okimpl_GoodItems (n : Nat) : FnOk Try.prog 22 (Kimpl_GoodItems @impl_GoodItems n) := by
  refine fn_ok (sig := sig) mixed ttok (mkK_nat (cimpl_GoodItems n)) (mkK_ok (cimpl_GoodItems n)) (mkL_nat (mkK_nat (cimpl_GoodItems n)) (l := [(4, Dimpl_GoodItems_l4, Pimpl_GoodItems_l4 @impl_GoodItems_l4 n)]) ⟨nlimpl_GoodItems_l4 n, trivial⟩) (fn := Try.f22) (c := bodyOf Try.f22) (by kernel_rfl) (by kernel_rfl) (by kernel_rfl) (.eq (l := [loopIn 4 (bodyOf Try.f22)]) (by kernel_rfl) ⟨(lkimpl_GoodItems_l4 n _ _ (at_id (i := 4) (by kernel_rfl) rfl)), trivial⟩) (shs := Himpl_GoodItems) (S := Simpl_GoodItems) fun R p k => ?_
  unfold Kimpl_GoodItems
  cases h : (PkS.un Simpl_GoodItems p) with
  | none => rfl
  | some d =>
    obtain ⟨x0, u⟩ := (d : (List (Int × Int)) × Unit)
    have hp := PkS.un_pack h
    subst hp
    exact (eimpl_GoodItems @impl_in @impl_isVersion @impl_GoodItems_l4 n x0 k).symm

/-! ### loop.example/g00269/impl.last -/
theorem cimpl_last (n : Nat) : AllOk Try.prog [] := trivial
@[reducible] def Simpl_last : PkS := ⟨[.one (.ro (.pr (.int .i64) (.int .i64)))], []⟩
@[reducible] def Timpl_last : PkS := ⟨[.one (.int .i64), .one (.dead)], []⟩
def Himpl_last : List Sh := [.one .any, .skip]
def Kimpl_last (g : ∀ {R : Type}, Nat → (List (Int × Int)) → (Int → Option R) → Option R) (n : Nat) : KPs := fun R p k => match (PkS.un Simpl_last p : Option ((List (Int × Int)) × Unit)) with
  | some (x0, _) => g n x0 (fun r0 => k (PkS.pack Timpl_last (r0, ())))
  | none => none
theorem eimpl_last  {R : Type} (n : Nat) (x0 : List (Int × Int)) (k : Pk → Option R) : evF tt sig (mkK [] R) (mkL (mkK []) [] R) Try.f30 Himpl_last (PkS.pack Simpl_last (x0, ())) k = (fun (k : Int → Option R) => (bif ((x0.length : Int) == 0) then k 0 else (bif decide (0 ≤ (IntKind.wrap .i64 ((x0.length : Int) - 1))) then (bif decide ((IntKind.wrap .i64 ((x0.length : Int) - 1)) < (x0.length : Int)) then k ((x0.getD (Int.toNat (IntKind.wrap .i64 ((x0.length : Int) - 1))) (0, 0)).1) else none) else none))) (fun r0 => k (PkS.pack Timpl_last (r0, ()))) := by kernel_rfl
theorem okimpl_last (n : Nat) : FnOk Try.prog 30 (Kimpl_last @impl_last n) := by
  refine fn_ok (sig := sig) mixed ttok (mkK_nat (cimpl_last n)) (mkK_ok (cimpl_last n)) (mkL_nat (mkK_nat (cimpl_last n)) (l := []) trivial) (fn := Try.f30) (c := bodyOf Try.f30) (by kernel_rfl) (by kernel_rfl) (by kernel_rfl) (.eq (l := []) (by kernel_rfl) trivial) (shs := Himpl_last) (S := Simpl_last) fun R p k => ?_
  unfold Kimpl_last
  cases h : (PkS.un Simpl_last p) with
  | none => rfl
  | some d =>
    obtain ⟨x0, u⟩ := (d : (List (Int × Int)) × Unit)
    have hp := PkS.un_pack h
    subst hp
    exact (eimpl_last  n x0 k).symm

/-! ### loop.example/g00269/impl.versionAt$1 -/
theorem cimpl_versionAt_c1 (n : Nat) : AllOk Try.prog [] := trivial
@[reducible] def Simpl_versionAt_c1 : PkS := ⟨[.agg [.int .i64, .int .i64], .one (.box (200000, 0) 0)], [((200000, 0), .box [.int .i64])]⟩
@[reducible] def Timpl_versionAt_c1 : PkS := ⟨[.one (.bool), .one (.dead), .one (.box (300000, 0) 0)], [((300000, 0), .box [.int .i64])]⟩
def Himpl_versionAt_c1 : List Sh := [.one .any, .skip, .box [.any]]
def Kimpl_versionAt_c1 (g : ∀ {R : Type}, Nat → Int → Int → Int → (Bool → Int → Option R) → Option R) (n : Nat) : KPs := fun R p k => match (PkS.un Simpl_versionAt_c1 p : Option (Int × Int × Int × Unit)) with
  | some (x0, x1, x2, _) => g n x0 x1 x2 (fun r0 r1 => k (PkS.pack Timpl_versionAt_c1 (r0, r1, ())))
  | none => none
theorem eimpl_versionAt_c1  {R : Type} (n : Nat) (x0 : Int) (x1 : Int) (x2 : Int) (k : Pk → Option R) : evF tt sig (mkK [] R) (mkL (mkK []) [] R) Try.f40 Himpl_versionAt_c1 (PkS.pack Simpl_versionAt_c1 (x0, x1, x2, ())) k = (fun (k : Bool → Int → Option R) => k (decide (x0 ≥ x2)) x2) (fun r0 r1 => k (PkS.pack Timpl_versionAt_c1 (r0, r1, ()))) := by kernel_rfl
theorem okimpl_versionAt_c1 (n : Nat) : FnOk Try.prog 40 (Kimpl_versionAt_c1 @impl_versionAt_c1 n) := by
  refine fn_ok (sig := sig) mixed ttok (mkK_nat (cimpl_versionAt_c1 n)) (mkK_ok (cimpl_versionAt_c1 n)) (mkL_nat (mkK_nat (cimpl_versionAt_c1 n)) (l := []) trivial) (fn := Try.f40) (c := bodyOf Try.f40) (by kernel_rfl) (by kernel_rfl) (by kernel_rfl) (.eq (l := []) (by kernel_rfl) trivial) (shs := Himpl_versionAt_c1) (S := Simpl_versionAt_c1) fun R p k => ?_
  unfold Kimpl_versionAt_c1
  cases h : (PkS.un Simpl_versionAt_c1 p) with
  | none => rfl
  | some d =>
    obtain ⟨x0, x1, x2, u⟩ := (d : Int × Int × Int × Unit)
    have hp := PkS.un_pack h
    subst hp
    exact (eimpl_versionAt_c1  n x0 x1 x2 k).symm

/-! ### slices.IndexFunc[[]loop.example/g00269/impl.Item,loop.example/g00269/impl.Item] -/
theorem cslices_IndexFunc_impl_Item_impl_versionAt_c1 (n : Nat) : AllOk Try.prog [(40, Kimpl_versionAt_c1 @impl_versionAt_c1 n)] := ⟨okimpl_versionAt_c1 n, trivial⟩
@[reducible] def Sslices_IndexFunc_impl_Item_impl_versionAt_c1_l2 : PkS := ⟨[.one (.ro (.pr (.int .i64) (.int .i64))), .one (.fn 40 [((100000, 0), 0)]), .one (.int .i64), .one (.int .i64), .one (.dead), .one (.fn 40 [((100000, 0), 0)])], [((100000, 0), .box [.int .i64])]⟩
@[reducible] def Tslices_IndexFunc_impl_Item_impl_versionAt_c1_l2_0 : PkS := ⟨[.one (.int .i64), .one (.dead), .one (.fn 40 [((100000, 0), 0)])], [((100000, 0), .box [.int .i64])]⟩
@[reducible] def Tslices_IndexFunc_impl_Item_impl_versionAt_c1_l2_1 : PkS := ⟨[.one (.dead), .one (.fn 40 [((100000, 0), 0)])], [((100000, 0), .box [.int .i64])]⟩
def Dslices_IndexFunc_impl_Item_impl_versionAt_c1_l2 : LoopD := ⟨19, [0, 1, 7, 8], [.one (.ro (.pr (.int .i64) (.int .i64))), .fn 40 [[.any]], .one .any, .one .any, .skip, .fn 40 [[.any]]], fun x => match x with
  | .ret => some ([4], [.one .any, .skip, .fn 40 [[.any]]])
  | .exit 0 => some ([], [.skip, .fn 40 [[.any]]])
  | _ => none⟩
def Pslices_IndexFunc_impl_Item_impl_versionAt_c1_l2 (g : ∀ {R : Type}, Nat → (List (Int × Int)) → Int → Int → Int → (Int → Int → Option R) → (Int → Option R) → Option R) (n : Nat) : LPs := fun R q kk => match (PkS.un Sslices_IndexFunc_impl_Item_impl_versionAt_c1_l2 q : Option ((List (Int × Int)) × Int × Int × Int × Unit)) with
  | some (y2_0, y2_1, y2_2, y2_3, _) => g n y2_0 y2_1 y2_2 y2_3 (fun r0 r1 => kk .ret (PkS.pack Tslices_IndexFunc_impl_Item_impl_versionAt_c1_l2_0 (r0, r1, ()))) (fun r0 => kk (.exit 0) (PkS.pack Tslices_IndexFunc_impl_Item_impl_versionAt_c1_l2_1 (r0, ())))
  | none => none
theorem eslices_IndexFunc_impl_Item_impl_versionAt_c1_l2 (impl_versionAt_c1 : ∀ {R : Type}, Nat → Int → Int → Int → (Bool → Int → Option R) → Option R) (slices_IndexFunc_impl_Item_impl_versionAt_c1_l2 : ∀ {R : Type}, Nat → (List (Int × Int)) → Int → Int → Int → (Int → Int → Option R) → (Int → Option R) → Option R) {R : Type} (n : Nat) (y2_0 : List (Int × Int)) (y2_1 : Int) (y2_2 : Int) (y2_3 : Int) (kk : Ex → Pk → Option R) : Dslices_IndexFunc_impl_Item_impl_versionAt_c1_l2.step tt sig (mkK [(40, Kimpl_versionAt_c1 @impl_versionAt_c1 n)] R) (mkL (mkK [(40, Kimpl_versionAt_c1 @impl_versionAt_c1 n)]) [] R) (loopIn 2 (bodyOf Try.f39)) (fun q' => Pslices_IndexFunc_impl_Item_impl_versionAt_c1_l2 @slices_IndexFunc_impl_Item_impl_versionAt_c1_l2 n R q' kk) (PkS.pack Sslices_IndexFunc_impl_Item_impl_versionAt_c1_l2 (y2_0, y2_1, y2_2, y2_3, ())) kk = (fun (kret : Int → Int → Option R) (kexit0 : Int → Option R) => (bif (decide (y2_2 < y2_1)) then (bif decide (0 ≤ y2_2) then (bif decide (y2_2 < (y2_0.length : Int)) then (impl_versionAt_c1 n ((y2_0.getD (Int.toNat y2_2) (0, 0)).1) ((y2_0.getD (Int.toNat y2_2) (0, 0)).2) y2_3 fun r1 r2 => (bif r1 then kret y2_2 r2 else slices_IndexFunc_impl_Item_impl_versionAt_c1_l2 n y2_0 y2_1 (IntKind.wrap .i64 (y2_2 + 1)) r2 kret kexit0)) else none) else none) else kexit0 y2_3)) (fun r0 r1 => kk .ret (PkS.pack Tslices_IndexFunc_impl_Item_impl_versionAt_c1_l2_0 (r0, r1, ()))) (fun r0 => kk (.exit 0) (PkS.pack Tslices_IndexFunc_impl_Item_impl_versionAt_c1_l2_1 (r0, ()))) := by kernel_rfl
theorem leslices_IndexFunc_impl_Item_impl_versionAt_c1_l2 : LoopEq tt sig (fun n => mkK [(40, Kimpl_versionAt_c1 @impl_versionAt_c1 n)]) (fun n => mkL (mkK [(40, Kimpl_versionAt_c1 @impl_versionAt_c1 n)]) []) Dslices_IndexFunc_impl_Item_impl_versionAt_c1_l2 Sslices_IndexFunc_impl_Item_impl_versionAt_c1_l2 (loopIn 2 (bodyOf Try.f39)) (Pslices_IndexFunc_impl_Item_impl_versionAt_c1_l2 @slices_IndexFunc_impl_Item_impl_versionAt_c1_l2) where
  zero R q kk := by unfold Pslices_IndexFunc_impl_Item_impl_versionAt_c1_l2; cases (PkS.un Sslices_IndexFunc_impl_Item_impl_versionAt_c1_l2 q) <;> rfl
  succ n R q kk := by
    unfold Pslices_IndexFunc_impl_Item_impl_versionAt_c1_l2
    cases h : (PkS.un Sslices_IndexFunc_impl_Item_impl_versionAt_c1_l2 q) with
    | none => rfl
    | some d =>
      obtain ⟨y2_0, y2_1, y2_2, y2_3, u⟩ := (d : (List (Int × Int)) × Int × Int × Int × Unit)
      have hp := PkS.un_pack h
      subst hp
      exact (eslices_IndexFunc_impl_Item_impl_versionAt_c1_l2 @impl_versionAt_c1 @slices_IndexFunc_impl_Item_impl_versionAt_c1_l2 n y2_0 y2_1 y2_2 y2_3 kk).symm
theorem nlslices_IndexFunc_impl_Item_impl_versionAt_c1_l2 : ∀ n, NatLP (Pslices_IndexFunc_impl_Item_impl_versionAt_c1_l2 @slices_IndexFunc_impl_Item_impl_versionAt_c1_l2 n) := leslices_IndexFunc_impl_Item_impl_versionAt_c1_l2.nat (fun n => mkK_nat (cslices_IndexFunc_impl_Item_impl_versionAt_c1 n)) fun n => mkL_nat (mkK_nat (cslices_IndexFunc_impl_Item_impl_versionAt_c1 n)) (l := []) trivial
theorem inslices_IndexFunc_impl_Item_impl_versionAt_c1_l2 (n : Nat) (R : Type) : LoopsOk Try.prog (mkL (mkK [(40, Kimpl_versionAt_c1 @impl_versionAt_c1 n)]) [] R) (loopIn 2 (bodyOf Try.f39)) := .eq (l := []) (by kernel_rfl) trivial
theorem lkslices_IndexFunc_impl_Item_impl_versionAt_c1_l2 (n : Nat) (R : Type) (L0 : LK R) (h0 : ∀ id, firstRegion (loopIn 2 (bodyOf Try.f39)) = some id → L0 id = Dslices_IndexFunc_impl_Item_impl_versionAt_c1_l2.oracle (mkK [(40, Kimpl_versionAt_c1 @impl_versionAt_c1 n)] R) (Pslices_IndexFunc_impl_Item_impl_versionAt_c1_l2 @slices_IndexFunc_impl_Item_impl_versionAt_c1_l2 n R)) : LoopOk Try.prog L0 (loopIn 2 (bodyOf Try.f39)) :=
  leslices_IndexFunc_impl_Item_impl_versionAt_c1_l2.ok mixed ttok (fun n => mkK_nat (cslices_IndexFunc_impl_Item_impl_versionAt_c1 n)) (fun n => mkK_ok (cslices_IndexFunc_impl_Item_impl_versionAt_c1 n)) (fun n => inslices_IndexFunc_impl_Item_impl_versionAt_c1_l2 n R) (mkK_nat (cslices_IndexFunc_impl_Item_impl_versionAt_c1 n)) h0
@[reducible] def Sslices_IndexFunc_impl_Item_impl_versionAt_c1 : PkS := ⟨[.one (.ro (.pr (.int .i64) (.int .i64))), .one (.fn 40 [((200000, 0), 0)])], [((200000, 0), .box [.int .i64])]⟩
@[reducible] def Tslices_IndexFunc_impl_Item_impl_versionAt_c1 : PkS := ⟨[.one (.int .i64), .one (.dead), .one (.fn 40 [((300000, 0), 0)])], [((300000, 0), .box [.int .i64])]⟩
def Hslices_IndexFunc_impl_Item_impl_versionAt_c1 : List Sh := [.one .any, .skip, .fn 40 [[.any]]]
def Kslices_IndexFunc_impl_Item_impl_versionAt_c1 (g : ∀ {R : Type}, Nat → (List (Int × Int)) → Int → (Int → Int → Option R) → Option R) (n : Nat) : KPs := fun R p k => match (PkS.un Sslices_IndexFunc_impl_Item_impl_versionAt_c1 p : Option ((List (Int × Int)) × Int × Unit)) with
  | some (x0, x1, _) => g n x0 x1 (fun r0 r1 => k (PkS.pack Tslices_IndexFunc_impl_Item_impl_versionAt_c1 (r0, r1, ())))
  | none => none
theorem eslices_IndexFunc_impl_Item_impl_versionAt_c1 (impl_versionAt_c1 : ∀ {R : Type}, Nat → Int → Int → Int → (Bool → Int → Option R) → Option R) (slices_IndexFunc_impl_Item_impl_versionAt_c1_l2 : ∀ {R : Type}, Nat → (List (Int × Int)) → Int → Int → Int → (Int → Int → Option R) → (Int → Option R) → Option R) {R : Type} (n : Nat) (x0 : List (Int × Int)) (x1 : Int) (k : Pk → Option R) : evF tt sig (mkK [(40, Kimpl_versionAt_c1 @impl_versionAt_c1 n)] R) (mkL (mkK [(40, Kimpl_versionAt_c1 @impl_versionAt_c1 n)]) [(2, Dslices_IndexFunc_impl_Item_impl_versionAt_c1_l2, Pslices_IndexFunc_impl_Item_impl_versionAt_c1_l2 @slices_IndexFunc_impl_Item_impl_versionAt_c1_l2 n)] R) Try.f39 Hslices_IndexFunc_impl_Item_impl_versionAt_c1 (PkS.pack Sslices_IndexFunc_impl_Item_impl_versionAt_c1 (x0, x1, ())) k = (fun (k : Int → Int → Option R) => (slices_IndexFunc_impl_Item_impl_versionAt_c1_l2 n x0 (x0.length : Int) 0 x1 (fun r3 r4 => k r3 r4) (fun r5 => k (-1) r5))) (fun r0 r1 => k (PkS.pack Tslices_IndexFunc_impl_Item_impl_versionAt_c1 (r0, r1, ()))) := by kernel_rfl
theorem okslices_IndexFunc_impl_Item_impl_versionAt_c1 (n : Nat) : FnOk Try.prog 39 (Kslices_IndexFunc_impl_Item_impl_versionAt_c1 @slices_IndexFunc_impl_Item_impl_versionAt_c1 n) := by
  refine fn_ok (sig := sig) mixed ttok (mkK_nat (cslices_IndexFunc_impl_Item_impl_versionAt_c1 n)) (mkK_ok (cslices_IndexFunc_impl_Item_impl_versionAt_c1 n)) (mkL_nat (mkK_nat (cslices_IndexFunc_impl_Item_impl_versionAt_c1 n)) (l := [(2, Dslices_IndexFunc_impl_Item_impl_versionAt_c1_l2, Pslices_IndexFunc_impl_Item_impl_versionAt_c1_l2 @slices_IndexFunc_impl_Item_impl_versionAt_c1_l2 n)]) ⟨nlslices_IndexFunc_impl_Item_impl_versionAt_c1_l2 n, trivial⟩) (fn := Try.f39) (c := bodyOf Try.f39) (by kernel_rfl) (by kernel_rfl) (by kernel_rfl) (.eq (l := [loopIn 2 (bodyOf Try.f39)]) (by kernel_rfl) ⟨(lkslices_IndexFunc_impl_Item_impl_versionAt_c1_l2 n _ _ (at_id (i := 2) (by kernel_rfl) rfl)), trivial⟩) (shs := Hslices_IndexFunc_impl_Item_impl_versionAt_c1) (S := Sslices_IndexFunc_impl_Item_impl_versionAt_c1) fun R p k => ?_
  unfold Kslices_IndexFunc_impl_Item_impl_versionAt_c1
  cases h : (PkS.un Sslices_IndexFunc_impl_Item_impl_versionAt_c1 p) with
  | none => rfl
  | some d =>
    obtain ⟨x0, x1, u⟩ := (d : (List (Int × Int)) × Int × Unit)
    have hp := PkS.un_pack h
    subst hp
    exact (eslices_IndexFunc_impl_Item_impl_versionAt_c1 @impl_versionAt_c1 @slices_IndexFunc_impl_Item_impl_versionAt_c1_l2 n x0 x1 k).symm

/-! ### loop.example/g00269/impl.versionAt -/
theorem cimpl_versionAt (n : Nat) : AllOk Try.prog [(39, Kslices_IndexFunc_impl_Item_impl_versionAt_c1 @slices_IndexFunc_impl_Item_impl_versionAt_c1 n)] := ⟨okslices_IndexFunc_impl_Item_impl_versionAt_c1 n, trivial⟩
@[reducible] def Simpl_versionAt : PkS := ⟨[.one (.ro (.pr (.int .i64) (.int .i64))), .one (.int .i64)], []⟩
@[reducible] def Timpl_versionAt : PkS := ⟨[.one (.int .i64), .one (.dead), .one (.dead)], []⟩
def Himpl_versionAt : List Sh := [.one .any, .skip, .skip]
def Kimpl_versionAt (g : ∀ {R : Type}, Nat → (List (Int × Int)) → Int → (Int → Option R) → Option R) (n : Nat) : KPs := fun R p k => match (PkS.un Simpl_versionAt p : Option ((List (Int × Int)) × Int × Unit)) with
  | some (x0, x1, _) => g n x0 x1 (fun r0 => k (PkS.pack Timpl_versionAt (r0, ())))
  | none => none
theorem eimpl_versionAt (slices_IndexFunc_impl_Item_impl_versionAt_c1 : ∀ {R : Type}, Nat → (List (Int × Int)) → Int → (Int → Int → Option R) → Option R) {R : Type} (n : Nat) (x0 : List (Int × Int)) (x1 : Int) (k : Pk → Option R) : evF tt sig (mkK [(39, Kslices_IndexFunc_impl_Item_impl_versionAt_c1 @slices_IndexFunc_impl_Item_impl_versionAt_c1 n)] R) (mkL (mkK [(39, Kslices_IndexFunc_impl_Item_impl_versionAt_c1 @slices_IndexFunc_impl_Item_impl_versionAt_c1 n)]) [] R) Try.f35 Himpl_versionAt (PkS.pack Simpl_versionAt (x0, x1, ())) k = (fun (k : Int → Option R) => (slices_IndexFunc_impl_Item_impl_versionAt_c1 n x0 x1 fun r1 r2 => (bif decide (0 ≤ r1) then (bif decide (r1 < (x0.length : Int)) then k ((x0.getD (Int.toNat r1) (0, 0)).2) else none) else none))) (fun r0 => k (PkS.pack Timpl_versionAt (r0, ()))) := by kernel_rfl
theorem okimpl_versionAt (n : Nat) : FnOk Try.prog 35 (Kimpl_versionAt @impl_versionAt n) := by
  refine fn_ok (sig := sig) mixed ttok (mkK_nat (cimpl_versionAt n)) (mkK_ok (cimpl_versionAt n)) (mkL_nat (mkK_nat (cimpl_versionAt n)) (l := []) trivial) (fn := Try.f35) (c := bodyOf Try.f35) (by kernel_rfl) (by kernel_rfl) (by kernel_rfl) (.eq (l := []) (by kernel_rfl) trivial) (shs := Himpl_versionAt) (S := Simpl_versionAt) fun R p k => ?_
  unfold Kimpl_versionAt
  cases h : (PkS.un Simpl_versionAt p) with
  | none => rfl
  | some d =>
    obtain ⟨x0, x1, u⟩ := (d : (List (Int × Int)) × Int × Unit)
    have hp := PkS.un_pack h
    subst hp
    exact (eimpl_versionAt @slices_IndexFunc_impl_Item_impl_versionAt_c1 n x0 x1 k).symm

/-! ### loop.example/g00269/impl.common -/
theorem cimpl_common (n : Nat) : AllOk Try.prog [(30, Kimpl_last @impl_last n), (35, Kimpl_versionAt @impl_versionAt n)] := ⟨okimpl_last n, ⟨okimpl_versionAt n, trivial⟩⟩
@[reducible] def Simpl_common_l2 : PkS := ⟨[.one (.ro (.pr (.int .i64) (.int .i64))), .one (.ro (.pr (.int .i64) (.int .i64))), .one (.int .i64), .one (.dead), .one (.dead)], []⟩
@[reducible] def Timpl_common_l2_0 : PkS := ⟨[.one (.int .i64), .one (.dead), .one (.dead)], []⟩
def Dimpl_common_l2 : LoopD := ⟨27, [0, 1, 5], [.one (.ro (.pr (.int .i64) (.int .i64))), .one (.ro (.pr (.int .i64) (.int .i64))), .one .any, .skip, .skip], fun x => match x with
  | .exit 0 => some ([5], [.one .any, .skip, .skip])
  | _ => none⟩
def Pimpl_common_l2 (g : ∀ {R : Type}, Nat → (List (Int × Int)) → (List (Int × Int)) → Int → (Int → Option R) → Option R) (n : Nat) : LPs := fun R q kk => match (PkS.un Simpl_common_l2 q : Option ((List (Int × Int)) × (List (Int × Int)) × Int × Unit)) with
  | some (y2_0, y2_1, y2_2, _) => g n y2_0 y2_1 y2_2 (fun r0 => kk (.exit 0) (PkS.pack Timpl_common_l2_0 (r0, ())))
  | none => none
theorem eimpl_common_l2 (impl_last : ∀ {R : Type}, Nat → (List (Int × Int)) → (Int → Option R) → Option R) (impl_versionAt : ∀ {R : Type}, Nat → (List (Int × Int)) → Int → (Int → Option R) → Option R) (impl_common_l2 : ∀ {R : Type}, Nat → (List (Int × Int)) → (List (Int × Int)) → Int → (Int → Option R) → Option R) {R : Type} (n : Nat) (y2_0 : List (Int × Int)) (y2_1 : List (Int × Int)) (y2_2 : Int) (kk : Ex → Pk → Option R) : Dimpl_common_l2.step tt sig (mkK [(30, Kimpl_last @impl_last n), (35, Kimpl_versionAt @impl_versionAt n)] R) (mkL (mkK [(30, Kimpl_last @impl_last n), (35, Kimpl_versionAt @impl_versionAt n)]) [] R) (loopIn 2 (bodyOf Try.f29)) (fun q' => Pimpl_common_l2 @impl_common_l2 n R q' kk) (PkS.pack Simpl_common_l2 (y2_0, y2_1, y2_2, ())) kk = (fun (kexit0 : Int → Option R) => (impl_last n y2_0 fun r1 => (impl_last n y2_1 fun r2 => (bif (decide (y2_2 < (if r2 < r1 then r2 else r1))) then (impl_versionAt n y2_0 (IntKind.wrap .i64 (y2_2 + 1)) fun r3 => (impl_versionAt n y2_1 (IntKind.wrap .i64 (y2_2 + 1)) fun r4 => (bif (r3 == r4) then impl_common_l2 n y2_0 y2_1 (IntKind.wrap .i64 (y2_2 + 1)) kexit0 else kexit0 y2_2))) else kexit0 y2_2)))) (fun r0 => kk (.exit 0) (PkS.pack Timpl_common_l2_0 (r0, ()))) := by kernel_rfl
theorem leimpl_common_l2 : LoopEq tt sig (fun n => mkK [(30, Kimpl_last @impl_last n), (35, Kimpl_versionAt @impl_versionAt n)]) (fun n => mkL (mkK [(30, Kimpl_last @impl_last n), (35, Kimpl_versionAt @impl_versionAt n)]) []) Dimpl_common_l2 Simpl_common_l2 (loopIn 2 (bodyOf Try.f29)) (Pimpl_common_l2 @impl_common_l2) where
  zero R q kk := by unfold Pimpl_common_l2; cases (PkS.un Simpl_common_l2 q) <;> rfl
  succ n R q kk := by
    unfold Pimpl_common_l2
    cases h : (PkS.un Simpl_common_l2 q) with
    | none => rfl
    | some d =>
      obtain ⟨y2_0, y2_1, y2_2, u⟩ := (d : (List (Int × Int)) × (List (Int × Int)) × Int × Unit)
      have hp := PkS.un_pack h
      subst hp
      exact (eimpl_common_l2 @impl_last @impl_versionAt @impl_common_l2 n y2_0 y2_1 y2_2 kk).symm
theorem nlimpl_common_l2 : ∀ n, NatLP (Pimpl_common_l2 @impl_common_l2 n) := leimpl_common_l2.nat (fun n => mkK_nat (cimpl_common n)) fun n => mkL_nat (mkK_nat (cimpl_common n)) (l := []) trivial
theorem inimpl_common_l2 (n : Nat) (R : Type) : LoopsOk Try.prog (mkL (mkK [(30, Kimpl_last @impl_last n), (35, Kimpl_versionAt @impl_versionAt n)]) [] R) (loopIn 2 (bodyOf Try.f29)) := .eq (l := []) (by kernel_rfl) trivial
theorem lkimpl_common_l2 (n : Nat) (R : Type) (L0 : LK R) (h0 : ∀ id, firstRegion (loopIn 2 (bodyOf Try.f29)) = some id → L0 id = Dimpl_common_l2.oracle (mkK [(30, Kimpl_last @impl_last n), (35, Kimpl_versionAt @impl_versionAt n)] R) (Pimpl_common_l2 @impl_common_l2 n R)) : LoopOk Try.prog L0 (loopIn 2 (bodyOf Try.f29)) :=
  leimpl_common_l2.ok mixed ttok (fun n => mkK_nat (cimpl_common n)) (fun n => mkK_ok (cimpl_common n)) (fun n => inimpl_common_l2 n R) (mkK_nat (cimpl_common n)) h0
@[reducible] def Simpl_common : PkS := ⟨[.one (.ro (.pr (.int .i64) (.int .i64))), .one (.ro (.pr (.int .i64) (.int .i64)))], []⟩
@[reducible] def Timpl_common : PkS := ⟨[.one (.int .i64), .one (.dead), .one (.dead)], []⟩
def Himpl_common : List Sh := [.one .any, .skip, .skip]
def Kimpl_common (g : ∀ {R : Type}, Nat → (List (Int × Int)) → (List (Int × Int)) → (Int → Option R) → Option R) (n : Nat) : KPs := fun R p k => match (PkS.un Simpl_common p : Option ((List (Int × Int)) × (List (Int × Int)) × Unit)) with
  | some (x0, x1, _) => g n x0 x1 (fun r0 => k (PkS.pack Timpl_common (r0, ())))
  | none => none
theorem eimpl_common (impl_last : ∀ {R : Type}, Nat → (List (Int × Int)) → (Int → Option R) → Option R) (impl_versionAt : ∀ {R : Type}, Nat → (List (Int × Int)) → Int → (Int → Option R) → Option R) (impl_common_l2 : ∀ {R : Type}, Nat → (List (Int × Int)) → (List (Int × Int)) → Int → (Int → Option R) → Option R) {R : Type} (n : Nat) (x0 : List (Int × Int)) (x1 : List (Int × Int)) (k : Pk → Option R) : evF tt sig (mkK [(30, Kimpl_last @impl_last n), (35, Kimpl_versionAt @impl_versionAt n)] R) (mkL (mkK [(30, Kimpl_last @impl_last n), (35, Kimpl_versionAt @impl_versionAt n)]) [(2, Dimpl_common_l2, Pimpl_common_l2 @impl_common_l2 n)] R) Try.f29 Himpl_common (PkS.pack Simpl_common (x0, x1, ())) k = (fun (k : Int → Option R) => (impl_common_l2 n x0 x1 0 (fun r5 => k r5))) (fun r0 => k (PkS.pack Timpl_common (r0, ()))) := by kernel_rfl
theorem okimpl_common (n : Nat) : FnOk Try.prog 29 (Kimpl_common @impl_common n) := by
  refine fn_ok (sig := sig) mixed ttok (mkK_nat (cimpl_common n)) (mkK_ok (cimpl_common n)) (mkL_nat (mkK_nat (cimpl_common n)) (l := [(2, Dimpl_common_l2, Pimpl_common_l2 @impl_common_l2 n)]) ⟨nlimpl_common_l2 n, trivial⟩) (fn := Try.f29) (c := bodyOf Try.f29) (by kernel_rfl) (by kernel_rfl) (by kernel_rfl) (.eq (l := [loopIn 2 (bodyOf Try.f29)]) (by kernel_rfl) ⟨(lkimpl_common_l2 n _ _ (at_id (i := 2) (by kernel_rfl) rfl)), trivial⟩) (shs := Himpl_common) (S := Simpl_common) fun R p k => ?_
  unfold Kimpl_common
  cases h : (PkS.un Simpl_common p) with
  | none => rfl
  | some d =>
    obtain ⟨x0, x1, u⟩ := (d : (List (Int × Int)) × (List (Int × Int)) × Unit)
    have hp := PkS.un_pack h
    subst hp
    exact (eimpl_common @impl_last @impl_versionAt @impl_common_l2 n x0 x1 k).symm

/-! ### loop.example/g00269/impl.LcaOf -/
theorem cimpl_LcaOf (n : Nat) : AllOk Try.prog [(22, Kimpl_GoodItems @impl_GoodItems n), (29, Kimpl_common @impl_common n), (35, Kimpl_versionAt @impl_versionAt n)] := ⟨okimpl_GoodItems n, ⟨okimpl_common n, ⟨okimpl_versionAt n, trivial⟩⟩⟩
@[reducible] def Simpl_LcaOf : PkS := ⟨[.one (.ro (.pr (.int .i64) (.int .i64))), .one (.ro (.pr (.int .i64) (.int .i64)))], []⟩
@[reducible] def Timpl_LcaOf : PkS := ⟨[.tup [(true, [.int .i64, .int .i64]), (false, [.bool])], .one (.dead), .one (.dead)], []⟩
def Himpl_LcaOf : List Sh := [.tup [(true, [.any, .any]), (false, [.any])], .skip, .skip]
def Kimpl_LcaOf (g : ∀ {R : Type}, Nat → (List (Int × Int)) → (List (Int × Int)) → (Int → Int → Bool → Option R) → Option R) (n : Nat) : KPs := fun R p k => match (PkS.un Simpl_LcaOf p : Option ((List (Int × Int)) × (List (Int × Int)) × Unit)) with
  | some (x0, x1, _) => g n x0 x1 (fun r0 r1 r2 => k (PkS.pack Timpl_LcaOf (r0, r1, r2, ())))
  | none => none
theorem eimpl_LcaOf (impl_GoodItems : ∀ {R : Type}, Nat → (List (Int × Int)) → (Bool → Option R) → Option R) (impl_common : ∀ {R : Type}, Nat → (List (Int × Int)) → (List (Int × Int)) → (Int → Option R) → Option R) (impl_versionAt : ∀ {R : Type}, Nat → (List (Int × Int)) → Int → (Int → Option R) → Option R) {R : Type} (n : Nat) (x0 : List (Int × Int)) (x1 : List (Int × Int)) (k : Pk → Option R) : evF tt sig (mkK [(22, Kimpl_GoodItems @impl_GoodItems n), (29, Kimpl_common @impl_common n), (35, Kimpl_versionAt @impl_versionAt n)] R) (mkL (mkK [(22, Kimpl_GoodItems @impl_GoodItems n), (29, Kimpl_common @impl_common n), (35, Kimpl_versionAt @impl_versionAt n)]) [] R) Try.f17 Himpl_LcaOf (PkS.pack Simpl_LcaOf (x0, x1, ())) k = (fun (k : Int → Int → Bool → Option R) => (impl_GoodItems n x0 fun r1 => (bif (!r1) then k 0 0 false else (impl_GoodItems n x1 fun r2 => (bif (!r2) then k 0 0 false else (impl_common n x0 x1 fun r3 => (bif (r3 == 0) then k 0 0 false else (impl_versionAt n x0 r3 fun r4 => k r3 r4 true)))))))) (fun r0 r1 r2 => k (PkS.pack Timpl_LcaOf (r0, r1, r2, ()))) := by kernel_rfl
theorem okimpl_LcaOf (n : Nat) : FnOk Try.prog 17 (Kimpl_LcaOf @impl_LcaOf n) := by
  refine fn_ok (sig := sig) mixed ttok (mkK_nat (cimpl_LcaOf n)) (mkK_ok (cimpl_LcaOf n)) (mkL_nat (mkK_nat (cimpl_LcaOf n)) (l := []) trivial) (fn := Try.f17) (c := bodyOf Try.f17) (by kernel_rfl) (by kernel_rfl) (by kernel_rfl) (.eq (l := []) (by kernel_rfl) trivial) (shs := Himpl_LcaOf) (S := Simpl_LcaOf) fun R p k => ?_
  unfold Kimpl_LcaOf
  cases h : (PkS.un Simpl_LcaOf p) with
  | none => rfl
  | some d =>
    obtain ⟨x0, x1, u⟩ := (d : (List (Int × Int)) × (List (Int × Int)) × Unit)
    have hp := PkS.un_pack h
    subst hp
    exact (eimpl_LcaOf @impl_GoodItems @impl_common @impl_versionAt n x0 x1 k).symm

/-! ### loop.example/g00269/spec.l11At -/
theorem cspec_l11At (n : Nat) : AllOk Try.prog [] := trivial
@[reducible] def Sspec_l11At_l2 : PkS := ⟨[.one (.int .i64), .one (.ro (.pr (.int .i64) (.int .i64))), .one (.int .i64), .one (.int .i64), .one (.dead), .one (.dead)], []⟩
@[reducible] def Tspec_l11At_l2_0 : PkS := ⟨[.one (.int .i64), .one (.dead), .one (.dead)], []⟩
@[reducible] def Tspec_l11At_l2_1 : PkS := ⟨[.one (.dead), .one (.dead)], []⟩
def Dspec_l11At_l2 : LoopD := ⟨20, [1, 7, 8, 9], [.one .any, .one (.ro (.pr (.int .i64) (.int .i64))), .one .any, .one .any, .skip, .skip], fun x => match x with
  | .ret => some ([4], [.one .any, .skip, .skip])
  | .exit 0 => some ([], [.skip, .skip])
  | _ => none⟩
def Pspec_l11At_l2 (g : ∀ {R : Type}, Nat → Int → (List (Int × Int)) → Int → Int → (Int → Option R) → (Option R) → Option R) (n : Nat) : LPs := fun R q kk => match (PkS.un Sspec_l11At_l2 q : Option (Int × (List (Int × Int)) × Int × Int × Unit)) with
  | some (y2_0, y2_1, y2_2, y2_3, _) => g n y2_0 y2_1 y2_2 y2_3 (fun r0 => kk .ret (PkS.pack Tspec_l11At_l2_0 (r0, ()))) (kk (.exit 0) (PkS.pack Tspec_l11At_l2_1 ()))
  | none => none
theorem espec_l11At_l2 (spec_l11At_l2 : ∀ {R : Type}, Nat → Int → (List (Int × Int)) → Int → Int → (Int → Option R) → (Option R) → Option R) {R : Type} (n : Nat) (y2_0 : Int) (y2_1 : List (Int × Int)) (y2_2 : Int) (y2_3 : Int) (kk : Ex → Pk → Option R) : Dspec_l11At_l2.step tt sig (mkK [] R) (mkL (mkK []) [] R) (loopIn 2 (bodyOf Try.f34)) (fun q' => Pspec_l11At_l2 @spec_l11At_l2 n R q' kk) (PkS.pack Sspec_l11At_l2 (y2_0, y2_1, y2_2, y2_3, ())) kk = (fun (kret : Int → Option R) (kexit0 : Option R) => (bif (decide (y2_3 < y2_2)) then (bif decide (0 ≤ y2_3) then (bif decide (y2_3 < (y2_1.length : Int)) then (bif (decide (y2_0 ≤ (y2_1.getD (Int.toNat y2_3) (0, 0)).1)) then kret ((y2_1.getD (Int.toNat y2_3) (0, 0)).2) else spec_l11At_l2 n y2_0 y2_1 y2_2 (IntKind.wrap .i64 (y2_3 + 1)) kret kexit0) else none) else none) else kexit0)) (fun r0 => kk .ret (PkS.pack Tspec_l11At_l2_0 (r0, ()))) (kk (.exit 0) (PkS.pack Tspec_l11At_l2_1 ())) := by kernel_rfl
theorem lespec_l11At_l2 : LoopEq tt sig (fun n => mkK []) (fun n => mkL (mkK []) []) Dspec_l11At_l2 Sspec_l11At_l2 (loopIn 2 (bodyOf Try.f34)) (Pspec_l11At_l2 @spec_l11At_l2) where
  zero R q kk := by unfold Pspec_l11At_l2; cases (PkS.un Sspec_l11At_l2 q) <;> rfl
  succ n R q kk := by
    unfold Pspec_l11At_l2
    cases h : (PkS.un Sspec_l11At_l2 q) with
    | none => rfl
    | some d =>
      obtain ⟨y2_0, y2_1, y2_2, y2_3, u⟩ := (d : Int × (List (Int × Int)) × Int × Int × Unit)
      have hp := PkS.un_pack h
      subst hp
      exact (espec_l11At_l2 @spec_l11At_l2 n y2_0 y2_1 y2_2 y2_3 kk).symm
theorem nlspec_l11At_l2 : ∀ n, NatLP (Pspec_l11At_l2 @spec_l11At_l2 n) := lespec_l11At_l2.nat (fun n => mkK_nat (cspec_l11At n)) fun n => mkL_nat (mkK_nat (cspec_l11At n)) (l := []) trivial
theorem inspec_l11At_l2 (n : Nat) (R : Type) : LoopsOk Try.prog (mkL (mkK []) [] R) (loopIn 2 (bodyOf Try.f34)) := .eq (l := []) (by kernel_rfl) trivial
theorem lkspec_l11At_l2 (n : Nat) (R : Type) (L0 : LK R) (h0 : ∀ id, firstRegion (loopIn 2 (bodyOf Try.f34)) = some id → L0 id = Dspec_l11At_l2.oracle (mkK [] R) (Pspec_l11At_l2 @spec_l11At_l2 n R)) : LoopOk Try.prog L0 (loopIn 2 (bodyOf Try.f34)) :=
  lespec_l11At_l2.ok mixed ttok (fun n => mkK_nat (cspec_l11At n)) (fun n => mkK_ok (cspec_l11At n)) (fun n => inspec_l11At_l2 n R) (mkK_nat (cspec_l11At n)) h0
@[reducible] def Sspec_l11At : PkS := ⟨[.one (.ro (.pr (.int .i64) (.int .i64))), .one (.int .i64)], []⟩
@[reducible] def Tspec_l11At : PkS := ⟨[.one (.int .i64), .one (.dead), .one (.dead)], []⟩
def Hspec_l11At : List Sh := [.one .any, .skip, .skip]
def Kspec_l11At (g : ∀ {R : Type}, Nat → (List (Int × Int)) → Int → (Int → Option R) → Option R) (n : Nat) : KPs := fun R p k => match (PkS.un Sspec_l11At p : Option ((List (Int × Int)) × Int × Unit)) with
  | some (x0, x1, _) => g n x0 x1 (fun r0 => k (PkS.pack Tspec_l11At (r0, ())))
  | none => none
theorem espec_l11At (spec_l11At_l2 : ∀ {R : Type}, Nat → Int → (List (Int × Int)) → Int → Int → (Int → Option R) → (Option R) → Option R) {R : Type} (n : Nat) (x0 : List (Int × Int)) (x1 : Int) (k : Pk → Option R) : evF tt sig (mkK [] R) (mkL (mkK []) [(2, Dspec_l11At_l2, Pspec_l11At_l2 @spec_l11At_l2 n)] R) Try.f34 Hspec_l11At (PkS.pack Sspec_l11At (x0, x1, ())) k = (fun (k : Int → Option R) => (spec_l11At_l2 n x1 x0 (x0.length : Int) 0 (fun r1 => k r1) (k (-1)))) (fun r0 => k (PkS.pack Tspec_l11At (r0, ()))) := by kernel_rfl
theorem okspec_l11At (n : Nat) : FnOk Try.prog 34 (Kspec_l11At @spec_l11At n) := by
  refine fn_ok (sig := sig) mixed ttok (mkK_nat (cspec_l11At n)) (mkK_ok (cspec_l11At n)) (mkL_nat (mkK_nat (cspec_l11At n)) (l := [(2, Dspec_l11At_l2, Pspec_l11At_l2 @spec_l11At_l2 n)]) ⟨nlspec_l11At_l2 n, trivial⟩) (fn := Try.f34) (c := bodyOf Try.f34) (by kernel_rfl) (by kernel_rfl) (by kernel_rfl) (.eq (l := [loopIn 2 (bodyOf Try.f34)]) (by kernel_rfl) ⟨(lkspec_l11At_l2 n _ _ (at_id (i := 2) (by kernel_rfl) rfl)), trivial⟩) (shs := Hspec_l11At) (S := Sspec_l11At) fun R p k => ?_
  unfold Kspec_l11At
  cases h : (PkS.un Sspec_l11At p) with
  | none => rfl
  | some d =>
    obtain ⟨x0, x1, u⟩ := (d : (List (Int × Int)) × Int × Unit)
    have hp := PkS.un_pack h
    subst hp
    exact (espec_l11At @spec_l11At_l2 n x0 x1 k).symm

/-! ### loop.example/g00269/spec.l11Lca -/
theorem cspec_l11Lca (n : Nat) : AllOk Try.prog [(27, Kspec_l11Last @spec_l11Last n), (34, Kspec_l11At @spec_l11At n)] := ⟨okspec_l11Last n, ⟨okspec_l11At n, trivial⟩⟩
@[reducible] def Sspec_l11Lca_l2 : PkS := ⟨[.one (.ro (.pr (.int .i64) (.int .i64))), .one (.ro (.pr (.int .i64) (.int .i64))), .one (.int .i64), .one (.dead), .one (.dead)], []⟩
@[reducible] def Tspec_l11Lca_l2_0 : PkS := ⟨[.one (.int .i64), .one (.dead), .one (.dead)], []⟩
def Dspec_l11Lca_l2 : LoopD := ⟨30, [0, 1, 5], [.one (.ro (.pr (.int .i64) (.int .i64))), .one (.ro (.pr (.int .i64) (.int .i64))), .one .any, .skip, .skip], fun x => match x with
  | .exit 0 => some ([5], [.one .any, .skip, .skip])
  | _ => none⟩
def Pspec_l11Lca_l2 (g : ∀ {R : Type}, Nat → (List (Int × Int)) → (List (Int × Int)) → Int → (Int → Option R) → Option R) (n : Nat) : LPs := fun R q kk => match (PkS.un Sspec_l11Lca_l2 q : Option ((List (Int × Int)) × (List (Int × Int)) × Int × Unit)) with
  | some (y2_0, y2_1, y2_2, _) => g n y2_0 y2_1 y2_2 (fun r0 => kk (.exit 0) (PkS.pack Tspec_l11Lca_l2_0 (r0, ())))
  | none => none
theorem espec_l11Lca_l2 (spec_l11Last : ∀ {R : Type}, Nat → (List (Int × Int)) → (Int → Option R) → Option R) (spec_l11At : ∀ {R : Type}, Nat → (List (Int × Int)) → Int → (Int → Option R) → Option R) (spec_l11Lca_l2 : ∀ {R : Type}, Nat → (List (Int × Int)) → (List (Int × Int)) → Int → (Int → Option R) → Option R) {R : Type} (n : Nat) (y2_0 : List (Int × Int)) (y2_1 : List (Int × Int)) (y2_2 : Int) (kk : Ex → Pk → Option R) : Dspec_l11Lca_l2.step tt sig (mkK [(27, Kspec_l11Last @spec_l11Last n), (34, Kspec_l11At @spec_l11At n)] R) (mkL (mkK [(27, Kspec_l11Last @spec_l11Last n), (34, Kspec_l11At @spec_l11At n)]) [] R) (loopIn 2 (bodyOf Try.f26)) (fun q' => Pspec_l11Lca_l2 @spec_l11Lca_l2 n R q' kk) (PkS.pack Sspec_l11Lca_l2 (y2_0, y2_1, y2_2, ())) kk = (fun (kexit0 : Int → Option R) => (spec_l11Last n y2_0 fun r1 => (bif (decide (y2_2 < r1)) then (spec_l11Last n y2_1 fun r2 => (bif (decide (y2_2 < r2)) then (spec_l11At n y2_0 (IntKind.wrap .i64 (y2_2 + 1)) fun r3 => (spec_l11At n y2_1 (IntKind.wrap .i64 (y2_2 + 1)) fun r4 => (bif (r3 == r4) then spec_l11Lca_l2 n y2_0 y2_1 (IntKind.wrap .i64 (y2_2 + 1)) kexit0 else kexit0 y2_2))) else kexit0 y2_2)) else kexit0 y2_2))) (fun r0 => kk (.exit 0) (PkS.pack Tspec_l11Lca_l2_0 (r0, ()))) := by kernel_rfl
theorem lespec_l11Lca_l2 : LoopEq tt sig (fun n => mkK [(27, Kspec_l11Last @spec_l11Last n), (34, Kspec_l11At @spec_l11At n)]) (fun n => mkL (mkK [(27, Kspec_l11Last @spec_l11Last n), (34, Kspec_l11At @spec_l11At n)]) []) Dspec_l11Lca_l2 Sspec_l11Lca_l2 (loopIn 2 (bodyOf Try.f26)) (Pspec_l11Lca_l2 @spec_l11Lca_l2) where
  zero R q kk := by unfold Pspec_l11Lca_l2; cases (PkS.un Sspec_l11Lca_l2 q) <;> rfl
  succ n R q kk := by
    unfold Pspec_l11Lca_l2
    cases h : (PkS.un Sspec_l11Lca_l2 q) with
    | none => rfl
    | some d =>
      obtain ⟨y2_0, y2_1, y2_2, u⟩ := (d : (List (Int × Int)) × (List (Int × Int)) × Int × Unit)
      have hp := PkS.un_pack h
      subst hp
      exact (espec_l11Lca_l2 @spec_l11Last @spec_l11At @spec_l11Lca_l2 n y2_0 y2_1 y2_2 kk).symm
theorem nlspec_l11Lca_l2 : ∀ n, NatLP (Pspec_l11Lca_l2 @spec_l11Lca_l2 n) := lespec_l11Lca_l2.nat (fun n => mkK_nat (cspec_l11Lca n)) fun n => mkL_nat (mkK_nat (cspec_l11Lca n)) (l := []) trivial
theorem inspec_l11Lca_l2 (n : Nat) (R : Type) : LoopsOk Try.prog (mkL (mkK [(27, Kspec_l11Last @spec_l11Last n), (34, Kspec_l11At @spec_l11At n)]) [] R) (loopIn 2 (bodyOf Try.f26)) := .eq (l := []) (by kernel_rfl) trivial
theorem lkspec_l11Lca_l2 (n : Nat) (R : Type) (L0 : LK R) (h0 : ∀ id, firstRegion (loopIn 2 (bodyOf Try.f26)) = some id → L0 id = Dspec_l11Lca_l2.oracle (mkK [(27, Kspec_l11Last @spec_l11Last n), (34, Kspec_l11At @spec_l11At n)] R) (Pspec_l11Lca_l2 @spec_l11Lca_l2 n R)) : LoopOk Try.prog L0 (loopIn 2 (bodyOf Try.f26)) :=
  lespec_l11Lca_l2.ok mixed ttok (fun n => mkK_nat (cspec_l11Lca n)) (fun n => mkK_ok (cspec_l11Lca n)) (fun n => inspec_l11Lca_l2 n R) (mkK_nat (cspec_l11Lca n)) h0
@[reducible] def Sspec_l11Lca : PkS := ⟨[.one (.ro (.pr (.int .i64) (.int .i64))), .one (.ro (.pr (.int .i64) (.int .i64)))], []⟩
@[reducible] def Tspec_l11Lca : PkS := ⟨[.one (.int .i64), .one (.dead), .one (.dead)], []⟩
def Hspec_l11Lca : List Sh := [.one .any, .skip, .skip]
def Kspec_l11Lca (g : ∀ {R : Type}, Nat → (List (Int × Int)) → (List (Int × Int)) → (Int → Option R) → Option R) (n : Nat) : KPs := fun R p k => match (PkS.un Sspec_l11Lca p : Option ((List (Int × Int)) × (List (Int × Int)) × Unit)) with
  | some (x0, x1, _) => g n x0 x1 (fun r0 => k (PkS.pack Tspec_l11Lca (r0, ())))
  | none => none
theorem espec_l11Lca (spec_l11Last : ∀ {R : Type}, Nat → (List (Int × Int)) → (Int → Option R) → Option R) (spec_l11At : ∀ {R : Type}, Nat → (List (Int × Int)) → Int → (Int → Option R) → Option R) (spec_l11Lca_l2 : ∀ {R : Type}, Nat → (List (Int × Int)) → (List (Int × Int)) → Int → (Int → Option R) → Option R) {R : Type} (n : Nat) (x0 : List (Int × Int)) (x1 : List (Int × Int)) (k : Pk → Option R) : evF tt sig (mkK [(27, Kspec_l11Last @spec_l11Last n), (34, Kspec_l11At @spec_l11At n)] R) (mkL (mkK [(27, Kspec_l11Last @spec_l11Last n), (34, Kspec_l11At @spec_l11At n)]) [(2, Dspec_l11Lca_l2, Pspec_l11Lca_l2 @spec_l11Lca_l2 n)] R) Try.f26 Hspec_l11Lca (PkS.pack Sspec_l11Lca (x0, x1, ())) k = (fun (k : Int → Option R) => (spec_l11Lca_l2 n x0 x1 0 (fun r5 => k r5))) (fun r0 => k (PkS.pack Tspec_l11Lca (r0, ()))) := by kernel_rfl
theorem okspec_l11Lca (n : Nat) : FnOk Try.prog 26 (Kspec_l11Lca @spec_l11Lca n) := by
  refine fn_ok (sig := sig) mixed ttok (mkK_nat (cspec_l11Lca n)) (mkK_ok (cspec_l11Lca n)) (mkL_nat (mkK_nat (cspec_l11Lca n)) (l := [(2, Dspec_l11Lca_l2, Pspec_l11Lca_l2 @spec_l11Lca_l2 n)]) ⟨nlspec_l11Lca_l2 n, trivial⟩) (fn := Try.f26) (c := bodyOf Try.f26) (by kernel_rfl) (by kernel_rfl) (by kernel_rfl) (.eq (l := [loopIn 2 (bodyOf Try.f26)]) (by kernel_rfl) ⟨(lkspec_l11Lca_l2 n _ _ (at_id (i := 2) (by kernel_rfl) rfl)), trivial⟩) (shs := Hspec_l11Lca) (S := Sspec_l11Lca) fun R p k => ?_
  unfold Kspec_l11Lca
  cases h : (PkS.un Sspec_l11Lca p) with
  | none => rfl
  | some d =>
    obtain ⟨x0, x1, u⟩ := (d : (List (Int × Int)) × (List (Int × Int)) × Unit)
    have hp := PkS.un_pack h
    subst hp
    exact (espec_l11Lca @spec_l11Last @spec_l11At @spec_l11Lca_l2 n x0 x1 k).symm

/-! ### loop.example/g00269/spec.LcaOf -/
theorem cspec_LcaOf (n : Nat) : AllOk Try.prog [(23, Kspec_GoodItems @spec_GoodItems n), (26, Kspec_l11Lca @spec_l11Lca n), (34, Kspec_l11At @spec_l11At n)] := ⟨okspec_GoodItems n, ⟨okspec_l11Lca n, ⟨okspec_l11At n, trivial⟩⟩⟩
@[reducible] def Sspec_LcaOf : PkS := ⟨[.one (.ro (.pr (.int .i64) (.int .i64))), .one (.ro (.pr (.int .i64) (.int .i64)))], []⟩
@[reducible] def Tspec_LcaOf : PkS := ⟨[.tup [(true, [.int .i64, .int .i64]), (false, [.bool])], .one (.dead), .one (.dead)], []⟩
def Hspec_LcaOf : List Sh := [.tup [(true, [.any, .any]), (false, [.any])], .skip, .skip]
def Kspec_LcaOf (g : ∀ {R : Type}, Nat → (List (Int × Int)) → (List (Int × Int)) → (Int → Int → Bool → Option R) → Option R) (n : Nat) : KPs := fun R p k => match (PkS.un Sspec_LcaOf p : Option ((List (Int × Int)) × (List (Int × Int)) × Unit)) with
  | some (x0, x1, _) => g n x0 x1 (fun r0 r1 r2 => k (PkS.pack Tspec_LcaOf (r0, r1, r2, ())))
  | none => none
theorem espec_LcaOf (spec_GoodItems : ∀ {R : Type}, Nat → (List (Int × Int)) → (Bool → Option R) → Option R) (spec_l11Lca : ∀ {R : Type}, Nat → (List (Int × Int)) → (List (Int × Int)) → (Int → Option R) → Option R) (spec_l11At : ∀ {R : Type}, Nat → (List (Int × Int)) → Int → (Int → Option R) → Option R) {R : Type} (n : Nat) (x0 : List (Int × Int)) (x1 : List (Int × Int)) (k : Pk → Option R) : evF tt sig (mkK [(23, Kspec_GoodItems @spec_GoodItems n), (26, Kspec_l11Lca @spec_l11Lca n), (34, Kspec_l11At @spec_l11At n)] R) (mkL (mkK [(23, Kspec_GoodItems @spec_GoodItems n), (26, Kspec_l11Lca @spec_l11Lca n), (34, Kspec_l11At @spec_l11At n)]) [] R) Try.f16 Hspec_LcaOf (PkS.pack Sspec_LcaOf (x0, x1, ())) k = (fun (k : Int → Int → Bool → Option R) => (spec_GoodItems n x0 fun r1 => (bif (!r1) then k 0 0 false else (spec_GoodItems n x1 fun r2 => (bif (!r2) then k 0 0 false else (spec_l11Lca n x0 x1 fun r3 => (bif (r3 == 0) then k 0 0 false else (spec_l11At n x0 r3 fun r4 => k r3 r4 true)))))))) (fun r0 r1 r2 => k (PkS.pack Tspec_LcaOf (r0, r1, r2, ()))) := by kernel_rfl
theorem okspec_LcaOf (n : Nat) : FnOk Try.prog 16 (Kspec_LcaOf @spec_LcaOf n) := by
  refine fn_ok (sig := sig) mixed ttok (mkK_nat (cspec_LcaOf n)) (mkK_ok (cspec_LcaOf n)) (mkL_nat (mkK_nat (cspec_LcaOf n)) (l := []) trivial) (fn := Try.f16) (c := bodyOf Try.f16) (by kernel_rfl) (by kernel_rfl) (by kernel_rfl) (.eq (l := []) (by kernel_rfl) trivial) (shs := Hspec_LcaOf) (S := Sspec_LcaOf) fun R p k => ?_
  unfold Kspec_LcaOf
  cases h : (PkS.un Sspec_LcaOf p) with
  | none => rfl
  | some d =>
    obtain ⟨x0, x1, u⟩ := (d : (List (Int × Int)) × (List (Int × Int)) × Unit)
    have hp := PkS.un_pack h
    subst hp
    exact (espec_LcaOf @spec_GoodItems @spec_l11Lca @spec_l11At n x0 x1 k).symm

/-! ### loop.example/g00269/impl.lastVersion -/
theorem cimpl_lastVersion (n : Nat) : AllOk Try.prog [] := trivial
@[reducible] def Simpl_lastVersion : PkS := ⟨[.one (.ro (.pr (.int .i64) (.int .i64)))], []⟩
@[reducible] def Timpl_lastVersion : PkS := ⟨[.one (.int .i64), .one (.dead)], []⟩
def Himpl_lastVersion : List Sh := [.one .any, .skip]
def Kimpl_lastVersion (g : ∀ {R : Type}, Nat → (List (Int × Int)) → (Int → Option R) → Option R) (n : Nat) : KPs := fun R p k => match (PkS.un Simpl_lastVersion p : Option ((List (Int × Int)) × Unit)) with
  | some (x0, _) => g n x0 (fun r0 => k (PkS.pack Timpl_lastVersion (r0, ())))
  | none => none
theorem eimpl_lastVersion  {R : Type} (n : Nat) (x0 : List (Int × Int)) (k : Pk → Option R) : evF tt sig (mkK [] R) (mkL (mkK []) [] R) Try.f37 Himpl_lastVersion (PkS.pack Simpl_lastVersion (x0, ())) k = (fun (k : Int → Option R) => (bif ((x0.length : Int) == 0) then k 0 else (bif decide (0 ≤ (IntKind.wrap .i64 ((x0.length : Int) - 1))) then (bif decide ((IntKind.wrap .i64 ((x0.length : Int) - 1)) < (x0.length : Int)) then k ((x0.getD (Int.toNat (IntKind.wrap .i64 ((x0.length : Int) - 1))) (0, 0)).2) else none) else none))) (fun r0 => k (PkS.pack Timpl_lastVersion (r0, ()))) := by kernel_rfl
theorem okimpl_lastVersion (n : Nat) : FnOk Try.prog 37 (Kimpl_lastVersion @impl_lastVersion n) := by
  refine fn_ok (sig := sig) mixed ttok (mkK_nat (cimpl_lastVersion n)) (mkK_ok (cimpl_lastVersion n)) (mkL_nat (mkK_nat (cimpl_lastVersion n)) (l := []) trivial) (fn := Try.f37) (c := bodyOf Try.f37) (by kernel_rfl) (by kernel_rfl) (by kernel_rfl) (.eq (l := []) (by kernel_rfl) trivial) (shs := Himpl_lastVersion) (S := Simpl_lastVersion) fun R p k => ?_
  unfold Kimpl_lastVersion
  cases h : (PkS.un Simpl_lastVersion p) with
  | none => rfl
  | some d =>
    obtain ⟨x0, u⟩ := (d : (List (Int × Int)) × Unit)
    have hp := PkS.un_pack h
    subst hp
    exact (eimpl_lastVersion  n x0 k).symm

/-! ### loop.example/g00269/impl.NewerOf -/
theorem cimpl_NewerOf (n : Nat) : AllOk Try.prog [(22, Kimpl_GoodItems @impl_GoodItems n), (37, Kimpl_lastVersion @impl_lastVersion n)] := ⟨okimpl_GoodItems n, ⟨okimpl_lastVersion n, trivial⟩⟩
@[reducible] def Simpl_NewerOf : PkS := ⟨[.one (.ro (.pr (.int .i64) (.int .i64))), .one (.ro (.pr (.int .i64) (.int .i64)))], []⟩
@[reducible] def Timpl_NewerOf : PkS := ⟨[.tup [(false, [.int .i64]), (false, [.bool])], .one (.dead), .one (.dead)], []⟩
def Himpl_NewerOf : List Sh := [.tup [(false, [.any]), (false, [.any])], .skip, .skip]
def Kimpl_NewerOf (g : ∀ {R : Type}, Nat → (List (Int × Int)) → (List (Int × Int)) → (Int → Bool → Option R) → Option R) (n : Nat) : KPs := fun R p k => match (PkS.un Simpl_NewerOf p : Option ((List (Int × Int)) × (List (Int × Int)) × Unit)) with
  | some (x0, x1, _) => g n x0 x1 (fun r0 r1 => k (PkS.pack Timpl_NewerOf (r0, r1, ())))
  | none => none
theorem eimpl_NewerOf (impl_GoodItems : ∀ {R : Type}, Nat → (List (Int × Int)) → (Bool → Option R) → Option R) (impl_lastVersion : ∀ {R : Type}, Nat → (List (Int × Int)) → (Int → Option R) → Option R) {R : Type} (n : Nat) (x0 : List (Int × Int)) (x1 : List (Int × Int)) (k : Pk → Option R) : evF tt sig (mkK [(22, Kimpl_GoodItems @impl_GoodItems n), (37, Kimpl_lastVersion @impl_lastVersion n)] R) (mkL (mkK [(22, Kimpl_GoodItems @impl_GoodItems n), (37, Kimpl_lastVersion @impl_lastVersion n)]) [] R) Try.f20 Himpl_NewerOf (PkS.pack Simpl_NewerOf (x0, x1, ())) k = (fun (k : Int → Bool → Option R) => (impl_GoodItems n x0 fun r1 => (bif (!r1) then k 0 false else (impl_GoodItems n x1 fun r2 => (bif (!r2) then k 0 false else (bif ((x0.length : Int) == 0) then k 0 false else (bif ((x1.length : Int) == 0) then k 0 false else (impl_lastVersion n x0 fun r3 => (impl_lastVersion n x1 fun r4 => (bif (decide (r3 > r4)) then k 1 true else (impl_lastVersion n x0 fun r5 => (impl_lastVersion n x1 fun r6 => (bif (decide (r5 < r6)) then k 2 true else k 0 true))))))))))))) (fun r0 r1 => k (PkS.pack Timpl_NewerOf (r0, r1, ()))) := by kernel_rfl
theorem okimpl_NewerOf (n : Nat) : FnOk Try.prog 20 (Kimpl_NewerOf @impl_NewerOf n) := by
  refine fn_ok (sig := sig) mixed ttok (mkK_nat (cimpl_NewerOf n)) (mkK_ok (cimpl_NewerOf n)) (mkL_nat (mkK_nat (cimpl_NewerOf n)) (l := []) trivial) (fn := Try.f20) (c := bodyOf Try.f20) (by kernel_rfl) (by kernel_rfl) (by kernel_rfl) (.eq (l := []) (by kernel_rfl) trivial) (shs := Himpl_NewerOf) (S := Simpl_NewerOf) fun R p k => ?_
  unfold Kimpl_NewerOf
  cases h : (PkS.un Simpl_NewerOf p) with
  | none => rfl
  | some d =>
    obtain ⟨x0, x1, u⟩ := (d : (List (Int × Int)) × (List (Int × Int)) × Unit)
    have hp := PkS.un_pack h
    subst hp
    exact (eimpl_NewerOf @impl_GoodItems @impl_lastVersion n x0 x1 k).symm

/-! ### loop.example/g00269/spec.NewerOf -/
theorem cspec_NewerOf (n : Nat) : AllOk Try.prog [(23, Kspec_GoodItems @spec_GoodItems n)] := ⟨okspec_GoodItems n, trivial⟩
@[reducible] def Sspec_NewerOf : PkS := ⟨[.one (.ro (.pr (.int .i64) (.int .i64))), .one (.ro (.pr (.int .i64) (.int .i64)))], []⟩
@[reducible] def Tspec_NewerOf : PkS := ⟨[.tup [(false, [.int .i64]), (false, [.bool])], .one (.dead), .one (.dead)], []⟩
def Hspec_NewerOf : List Sh := [.tup [(false, [.any]), (false, [.any])], .skip, .skip]
def Kspec_NewerOf (g : ∀ {R : Type}, Nat → (List (Int × Int)) → (List (Int × Int)) → (Int → Bool → Option R) → Option R) (n : Nat) : KPs := fun R p k => match (PkS.un Sspec_NewerOf p : Option ((List (Int × Int)) × (List (Int × Int)) × Unit)) with
  | some (x0, x1, _) => g n x0 x1 (fun r0 r1 => k (PkS.pack Tspec_NewerOf (r0, r1, ())))
  | none => none
theorem espec_NewerOf (spec_GoodItems : ∀ {R : Type}, Nat → (List (Int × Int)) → (Bool → Option R) → Option R) {R : Type} (n : Nat) (x0 : List (Int × Int)) (x1 : List (Int × Int)) (k : Pk → Option R) : evF tt sig (mkK [(23, Kspec_GoodItems @spec_GoodItems n)] R) (mkL (mkK [(23, Kspec_GoodItems @spec_GoodItems n)]) [] R) Try.f21 Hspec_NewerOf (PkS.pack Sspec_NewerOf (x0, x1, ())) k = (fun (k : Int → Bool → Option R) => (spec_GoodItems n x0 fun r1 => (bif (!r1) then k 0 false else (spec_GoodItems n x1 fun r2 => (bif (!r2) then k 0 false else (bif ((x0.length : Int) == 0) then k 0 false else (bif ((x1.length : Int) == 0) then k 0 false else (bif decide (0 ≤ (IntKind.wrap .i64 ((x0.length : Int) - 1))) then (bif decide ((IntKind.wrap .i64 ((x0.length : Int) - 1)) < (x0.length : Int)) then (bif decide (0 ≤ (IntKind.wrap .i64 ((x1.length : Int) - 1))) then (bif decide ((IntKind.wrap .i64 ((x1.length : Int) - 1)) < (x1.length : Int)) then (bif (decide ((x0.getD (Int.toNat (IntKind.wrap .i64 ((x0.length : Int) - 1))) (0, 0)).2 > (x1.getD (Int.toNat (IntKind.wrap .i64 ((x1.length : Int) - 1))) (0, 0)).2)) then k 1 true else (bif (decide ((x1.getD (Int.toNat (IntKind.wrap .i64 ((x1.length : Int) - 1))) (0, 0)).2 > (x0.getD (Int.toNat (IntKind.wrap .i64 ((x0.length : Int) - 1))) (0, 0)).2)) then k 2 true else k 0 true)) else none) else none) else none) else none)))))))) (fun r0 r1 => k (PkS.pack Tspec_NewerOf (r0, r1, ()))) := by kernel_rfl
theorem okspec_NewerOf (n : Nat) : FnOk Try.prog 21 (Kspec_NewerOf @spec_NewerOf n) := by
  refine fn_ok (sig := sig) mixed ttok (mkK_nat (cspec_NewerOf n)) (mkK_ok (cspec_NewerOf n)) (mkL_nat (mkK_nat (cspec_NewerOf n)) (l := []) trivial) (fn := Try.f21) (c := bodyOf Try.f21) (by kernel_rfl) (by kernel_rfl) (by kernel_rfl) (.eq (l := []) (by kernel_rfl) trivial) (shs := Hspec_NewerOf) (S := Sspec_NewerOf) fun R p k => ?_
  unfold Kspec_NewerOf
  cases h : (PkS.un Sspec_NewerOf p) with
  | none => rfl
  | some d =>
    obtain ⟨x0, x1, u⟩ := (d : (List (Int × Int)) × (List (Int × Int)) × Unit)
    have hp := PkS.un_pack h
    subst hp
    exact (espec_NewerOf @spec_GoodItems n x0 x1 k).symm

/-! ### loop.example/g00269/impl.CutItems -/
theorem cimpl_CutItems (n : Nat) : AllOk Try.prog [(22, Kimpl_GoodItems @impl_GoodItems n), (30, Kimpl_last @impl_last n), (33, Kimpl_in @impl_in n)] := ⟨okimpl_GoodItems n, ⟨okimpl_last n, ⟨okimpl_in n, trivial⟩⟩⟩
@[reducible] def Simpl_CutItems_l5 : PkS := ⟨[.one (.int .i64), .one (.whole (100000, 0)), .one (.ro (.pr (.int .i64) (.int .i64))), .one (.int .i64), .one (.int .i64), .one (.dead), .one (.dead)], [((100000, 0), .arr (.pr (.int .i64) (.int .i64)))]⟩
@[reducible] def Timpl_CutItems_l5_0 : PkS := ⟨[.one (.whole (100000, 0)), .one (.dead), .one (.dead)], [((100000, 0), .arr (.pr (.int .i64) (.int .i64)))]⟩
def Dimpl_CutItems_l5 : LoopD := ⟨42, [1, 6, 20, 21, 22], [.one .any, .one (.own (.pr (.int .i64) (.int .i64))), .one (.ro (.pr (.int .i64) (.int .i64))), .one .any, .one .any, .skip, .skip], fun x => match x with
  | .exit 0 => some ([6], [.one (.own (.pr (.int .i64) (.int .i64))), .skip, .skip])
  | _ => none⟩
def Pimpl_CutItems_l5 (g : ∀ {R : Type}, Nat → Int → (List (Int × Int)) → Int → Int → (List (Int × Int)) → ((List (Int × Int)) → Option R) → Option R) (n : Nat) : LPs := fun R q kk => match (PkS.un Simpl_CutItems_l5 q : Option (Int × (List (Int × Int)) × Int × Int × (List (Int × Int)) × Unit)) with
  | some (y5_0, y5_1, y5_2, y5_3, y5_4, _) => g n y5_0 y5_1 y5_2 y5_3 y5_4 (fun r0 => kk (.exit 0) (PkS.pack Timpl_CutItems_l5_0 (r0, ())))
  | none => none
theorem eimpl_CutItems_l5 (impl_GoodItems : ∀ {R : Type}, Nat → (List (Int × Int)) → (Bool → Option R) → Option R) (impl_last : ∀ {R : Type}, Nat → (List (Int × Int)) → (Int → Option R) → Option R) (impl_in : ∀ {R : Type}, Nat → Int → Int → Int → (Bool → Option R) → Option R) (impl_CutItems_l5 : ∀ {R : Type}, Nat → Int → (List (Int × Int)) → Int → Int → (List (Int × Int)) → ((List (Int × Int)) → Option R) → Option R) {R : Type} (n : Nat) (y5_0 : Int) (y5_1 : List (Int × Int)) (y5_2 : Int) (y5_3 : Int) (y5_4 : List (Int × Int)) (kk : Ex → Pk → Option R) : Dimpl_CutItems_l5.step tt sig (mkK [(22, Kimpl_GoodItems @impl_GoodItems n), (30, Kimpl_last @impl_last n), (33, Kimpl_in @impl_in n)] R) (mkL (mkK [(22, Kimpl_GoodItems @impl_GoodItems n), (30, Kimpl_last @impl_last n), (33, Kimpl_in @impl_in n)]) [] R) (loopIn 5 (bodyOf Try.f13)) (fun q' => Pimpl_CutItems_l5 @impl_CutItems_l5 n R q' kk) (PkS.pack Simpl_CutItems_l5 (y5_0, y5_1, y5_2, y5_3, y5_4, ())) kk = (fun (kexit0 : (List (Int × Int)) → Option R) => (bif (decide (y5_3 < y5_2)) then (bif decide (0 ≤ y5_3) then (bif decide (y5_3 < (y5_1.length : Int)) then (impl_last n y5_4 fun r4 => (bif (decide (r4 < y5_0)) then (bif decide (y5_4.length + ([((if y5_0 < (y5_1.getD (Int.toNat y5_3) (0, 0)).1 then y5_0 else (y5_1.getD (Int.toNat y5_3) (0, 0)).1), (y5_1.getD (Int.toNat y5_3) (0, 0)).2)]).length ≤ LIM) then impl_CutItems_l5 n y5_0 y5_1 y5_2 (IntKind.wrap .i64 (y5_3 + 1)) (y5_4 ++ [((if y5_0 < (y5_1.getD (Int.toNat y5_3) (0, 0)).1 then y5_0 else (y5_1.getD (Int.toNat y5_3) (0, 0)).1), (y5_1.getD (Int.toNat y5_3) (0, 0)).2)]) kexit0 else none) else impl_CutItems_l5 n y5_0 y5_1 y5_2 (IntKind.wrap .i64 (y5_3 + 1)) y5_4 kexit0)) else none) else none) else kexit0 y5_4)) (fun r0 => kk (.exit 0) (PkS.pack Timpl_CutItems_l5_0 (r0, ()))) := by kernel_rfl
theorem leimpl_CutItems_l5 : LoopEq tt sig (fun n => mkK [(22, Kimpl_GoodItems @impl_GoodItems n), (30, Kimpl_last @impl_last n), (33, Kimpl_in @impl_in n)]) (fun n => mkL (mkK [(22, Kimpl_GoodItems @impl_GoodItems n), (30, Kimpl_last @impl_last n), (33, Kimpl_in @impl_in n)]) []) Dimpl_CutItems_l5 Simpl_CutItems_l5 (loopIn 5 (bodyOf Try.f13)) (Pimpl_CutItems_l5 @impl_CutItems_l5) where
  zero R q kk := by unfold Pimpl_CutItems_l5; cases (PkS.un Simpl_CutItems_l5 q) <;> rfl
  succ n R q kk := by
    unfold Pimpl_CutItems_l5
    cases h : (PkS.un Simpl_CutItems_l5 q) with
    | none => rfl
    | some d =>
      obtain ⟨y5_0, y5_1, y5_2, y5_3, y5_4, u⟩ := (d : Int × (List (Int × Int)) × Int × Int × (List (Int × Int)) × Unit)
      have hp := PkS.un_pack h
      subst hp
      exact (eimpl_CutItems_l5 @impl_GoodItems @impl_last @impl_in @impl_CutItems_l5 n y5_0 y5_1 y5_2 y5_3 y5_4 kk).symm
theorem nlimpl_CutItems_l5 : ∀ n, NatLP (Pimpl_CutItems_l5 @impl_CutItems_l5 n) := leimpl_CutItems_l5.nat (fun n => mkK_nat (cimpl_CutItems n)) fun n => mkL_nat (mkK_nat (cimpl_CutItems n)) (l := []) trivial
theorem inimpl_CutItems_l5 (n : Nat) (R : Type) : LoopsOk Try.prog (mkL (mkK [(22, Kimpl_GoodItems @impl_GoodItems n), (30, Kimpl_last @impl_last n), (33, Kimpl_in @impl_in n)]) [] R) (loopIn 5 (bodyOf Try.f13)) := .eq (l := []) (by kernel_rfl) trivial
theorem lkimpl_CutItems_l5 (n : Nat) (R : Type) (L0 : LK R) (h0 : ∀ id, firstRegion (loopIn 5 (bodyOf Try.f13)) = some id → L0 id = Dimpl_CutItems_l5.oracle (mkK [(22, Kimpl_GoodItems @impl_GoodItems n), (30, Kimpl_last @impl_last n), (33, Kimpl_in @impl_in n)] R) (Pimpl_CutItems_l5 @impl_CutItems_l5 n R)) : LoopOk Try.prog L0 (loopIn 5 (bodyOf Try.f13)) :=
  leimpl_CutItems_l5.ok mixed ttok (fun n => mkK_nat (cimpl_CutItems n)) (fun n => mkK_ok (cimpl_CutItems n)) (fun n => inimpl_CutItems_l5 n R) (mkK_nat (cimpl_CutItems n)) h0
@[reducible] def Simpl_CutItems : PkS := ⟨[.one (.ro (.pr (.int .i64) (.int .i64))), .one (.int .i64)], []⟩
@[reducible] def Timpl_CutItems : PkS := ⟨[.tup [(false, [.whole (300000, 0)]), (false, [.bool])], .one (.dead), .one (.dead)], [((300000, 0), .arr (.pr (.int .i64) (.int .i64)))]⟩
def Himpl_CutItems : List Sh := [.tup [(false, [(.own (.pr (.int .i64) (.int .i64)))]), (false, [.any])], .skip, .skip]
def Kimpl_CutItems (g : ∀ {R : Type}, Nat → (List (Int × Int)) → Int → (Bool → (List (Int × Int)) → Option R) → Option R) (n : Nat) : KPs := fun R p k => match (PkS.un Simpl_CutItems p : Option ((List (Int × Int)) × Int × Unit)) with
  | some (x0, x1, _) => g n x0 x1 (fun r0 r1 => k (PkS.pack Timpl_CutItems (r0, r1, ())))
  | none => none
theorem eimpl_CutItems (impl_GoodItems : ∀ {R : Type}, Nat → (List (Int × Int)) → (Bool → Option R) → Option R) (impl_last : ∀ {R : Type}, Nat → (List (Int × Int)) → (Int → Option R) → Option R) (impl_in : ∀ {R : Type}, Nat → Int → Int → Int → (Bool → Option R) → Option R) (impl_CutItems_l5 : ∀ {R : Type}, Nat → Int → (List (Int × Int)) → Int → Int → (List (Int × Int)) → ((List (Int × Int)) → Option R) → Option R) {R : Type} (n : Nat) (x0 : List (Int × Int)) (x1 : Int) (k : Pk → Option R) : evF tt sig (mkK [(22, Kimpl_GoodItems @impl_GoodItems n), (30, Kimpl_last @impl_last n), (33, Kimpl_in @impl_in n)] R) (mkL (mkK [(22, Kimpl_GoodItems @impl_GoodItems n), (30, Kimpl_last @impl_last n), (33, Kimpl_in @impl_in n)]) [(5, Dimpl_CutItems_l5, Pimpl_CutItems_l5 @impl_CutItems_l5 n)] R) Try.f13 Himpl_CutItems (PkS.pack Simpl_CutItems (x0, x1, ())) k = (fun (k : Bool → (List (Int × Int)) → Option R) => (impl_GoodItems n x0 fun r1 => (bif (!r1) then k false ([] : List (Int × Int)) else (impl_last n x0 fun r2 => (impl_in n x1 0 r2 fun r3 => (bif (!r3) then k false ([] : List (Int × Int)) else (impl_CutItems_l5 n x1 x0 (x0.length : Int) 0 ([] : List (Int × Int)) (fun r5 => k true r5)))))))) (fun r0 r1 => k (PkS.pack Timpl_CutItems (r0, r1, ()))) := by kernel_rfl
theorem okimpl_CutItems (n : Nat) : FnOk Try.prog 13 (Kimpl_CutItems @impl_CutItems n) := by
  refine fn_ok (sig := sig) mixed ttok (mkK_nat (cimpl_CutItems n)) (mkK_ok (cimpl_CutItems n)) (mkL_nat (mkK_nat (cimpl_CutItems n)) (l := [(5, Dimpl_CutItems_l5, Pimpl_CutItems_l5 @impl_CutItems_l5 n)]) ⟨nlimpl_CutItems_l5 n, trivial⟩) (fn := Try.f13) (c := bodyOf Try.f13) (by kernel_rfl) (by kernel_rfl) (by kernel_rfl) (.eq (l := [loopIn 5 (bodyOf Try.f13)]) (by kernel_rfl) ⟨(lkimpl_CutItems_l5 n _ _ (at_id (i := 5) (by kernel_rfl) rfl)), trivial⟩) (shs := Himpl_CutItems) (S := Simpl_CutItems) fun R p k => ?_
  unfold Kimpl_CutItems
  cases h : (PkS.un Simpl_CutItems p) with
  | none => rfl
  | some d =>
    obtain ⟨x0, x1, u⟩ := (d : (List (Int × Int)) × Int × Unit)
    have hp := PkS.un_pack h
    subst hp
    exact (eimpl_CutItems @impl_GoodItems @impl_last @impl_in @impl_CutItems_l5 n x0 x1 k).symm

/-! ### loop.example/g00269/impl.VersionAt -/
theorem cimpl_VersionAt (n : Nat) : AllOk Try.prog [(22, Kimpl_GoodItems @impl_GoodItems n), (30, Kimpl_last @impl_last n), (33, Kimpl_in @impl_in n), (35, Kimpl_versionAt @impl_versionAt n)] := ⟨okimpl_GoodItems n, ⟨okimpl_last n, ⟨okimpl_in n, ⟨okimpl_versionAt n, trivial⟩⟩⟩⟩
@[reducible] def Simpl_VersionAt : PkS := ⟨[.one (.ro (.pr (.int .i64) (.int .i64))), .one (.int .i64)], []⟩
@[reducible] def Timpl_VersionAt : PkS := ⟨[.tup [(false, [.int .i64]), (false, [.bool])], .one (.dead), .one (.dead)], []⟩
def Himpl_VersionAt : List Sh := [.tup [(false, [.any]), (false, [.any])], .skip, .skip]
def Kimpl_VersionAt (g : ∀ {R : Type}, Nat → (List (Int × Int)) → Int → (Int → Bool → Option R) → Option R) (n : Nat) : KPs := fun R p k => match (PkS.un Simpl_VersionAt p : Option ((List (Int × Int)) × Int × Unit)) with
  | some (x0, x1, _) => g n x0 x1 (fun r0 r1 => k (PkS.pack Timpl_VersionAt (r0, r1, ())))
  | none => none
theorem eimpl_VersionAt (impl_GoodItems : ∀ {R : Type}, Nat → (List (Int × Int)) → (Bool → Option R) → Option R) (impl_last : ∀ {R : Type}, Nat → (List (Int × Int)) → (Int → Option R) → Option R) (impl_in : ∀ {R : Type}, Nat → Int → Int → Int → (Bool → Option R) → Option R) (impl_versionAt : ∀ {R : Type}, Nat → (List (Int × Int)) → Int → (Int → Option R) → Option R) {R : Type} (n : Nat) (x0 : List (Int × Int)) (x1 : Int) (k : Pk → Option R) : evF tt sig (mkK [(22, Kimpl_GoodItems @impl_GoodItems n), (30, Kimpl_last @impl_last n), (33, Kimpl_in @impl_in n), (35, Kimpl_versionAt @impl_versionAt n)] R) (mkL (mkK [(22, Kimpl_GoodItems @impl_GoodItems n), (30, Kimpl_last @impl_last n), (33, Kimpl_in @impl_in n), (35, Kimpl_versionAt @impl_versionAt n)]) [] R) Try.f24 Himpl_VersionAt (PkS.pack Simpl_VersionAt (x0, x1, ())) k = (fun (k : Int → Bool → Option R) => (impl_GoodItems n x0 fun r1 => (bif (!r1) then k 0 false else (impl_last n x0 fun r2 => (impl_in n x1 1 r2 fun r3 => (bif (!r3) then k 0 false else (impl_versionAt n x0 x1 fun r4 => k r4 true))))))) (fun r0 r1 => k (PkS.pack Timpl_VersionAt (r0, r1, ()))) := by kernel_rfl
theorem okimpl_VersionAt (n : Nat) : FnOk Try.prog 24 (Kimpl_VersionAt @impl_VersionAt n) := by
  refine fn_ok (sig := sig) mixed ttok (mkK_nat (cimpl_VersionAt n)) (mkK_ok (cimpl_VersionAt n)) (mkL_nat (mkK_nat (cimpl_VersionAt n)) (l := []) trivial) (fn := Try.f24) (c := bodyOf Try.f24) (by kernel_rfl) (by kernel_rfl) (by kernel_rfl) (.eq (l := []) (by kernel_rfl) trivial) (shs := Himpl_VersionAt) (S := Simpl_VersionAt) fun R p k => ?_
  unfold Kimpl_VersionAt
  cases h : (PkS.un Simpl_VersionAt p) with
  | none => rfl
  | some d =>
    obtain ⟨x0, x1, u⟩ := (d : (List (Int × Int)) × Int × Unit)
    have hp := PkS.un_pack h
    subst hp
    exact (eimpl_VersionAt @impl_GoodItems @impl_last @impl_in @impl_versionAt n x0 x1 k).symm

/-! ### loop.example/g00269/laws.sameItems -/
theorem claws_sameItems (n : Nat) : AllOk Try.prog [] := trivial
@[reducible] def Slaws_sameItems_l4 : PkS := ⟨[.one (.ro (.pr (.int .i64) (.int .i64))), .one (.ro (.pr (.int .i64) (.int .i64))), .one (.int .i64), .one (.int .i64), .one (.dead), .one (.dead)], []⟩
@[reducible] def Tlaws_sameItems_l4_0 : PkS := ⟨[.one (.bool), .one (.dead), .one (.dead)], []⟩
@[reducible] def Tlaws_sameItems_l4_1 : PkS := ⟨[.one (.dead), .one (.dead)], []⟩
def Dlaws_sameItems_l4 : LoopD := ⟨26, [0, 1, 12, 13], [.one (.ro (.pr (.int .i64) (.int .i64))), .one (.ro (.pr (.int .i64) (.int .i64))), .one .any, .one .any, .skip, .skip], fun x => match x with
  | .ret => some ([4], [.one .any, .skip, .skip])
  | .exit 0 => some ([], [.skip, .skip])
  | _ => none⟩
def Plaws_sameItems_l4 (g : ∀ {R : Type}, Nat → (List (Int × Int)) → (List (Int × Int)) → Int → Int → (Bool → Option R) → (Option R) → Option R) (n : Nat) : LPs := fun R q kk => match (PkS.un Slaws_sameItems_l4 q : Option ((List (Int × Int)) × (List (Int × Int)) × Int × Int × Unit)) with
  | some (y4_0, y4_1, y4_2, y4_3, _) => g n y4_0 y4_1 y4_2 y4_3 (fun r0 => kk .ret (PkS.pack Tlaws_sameItems_l4_0 (r0, ()))) (kk (.exit 0) (PkS.pack Tlaws_sameItems_l4_1 ()))
  | none => none
theorem elaws_sameItems_l4 (laws_sameItems_l4 : ∀ {R : Type}, Nat → (List (Int × Int)) → (List (Int × Int)) → Int → Int → (Bool → Option R) → (Option R) → Option R) {R : Type} (n : Nat) (y4_0 : List (Int × Int)) (y4_1 : List (Int × Int)) (y4_2 : Int) (y4_3 : Int) (kk : Ex → Pk → Option R) : Dlaws_sameItems_l4.step tt sig (mkK [] R) (mkL (mkK []) [] R) (loopIn 4 (bodyOf Try.f25)) (fun q' => Plaws_sameItems_l4 @laws_sameItems_l4 n R q' kk) (PkS.pack Slaws_sameItems_l4 (y4_0, y4_1, y4_2, y4_3, ())) kk = (fun (kret : Bool → Option R) (kexit0 : Option R) => (bif (decide (y4_3 < y4_2)) then (bif decide (0 ≤ y4_3) then (bif decide (y4_3 < (y4_0.length : Int)) then (bif decide (0 ≤ y4_3) then (bif decide (y4_3 < (y4_1.length : Int)) then (bif (!(((y4_0.getD (Int.toNat y4_3) (0, 0)).1 == (y4_1.getD (Int.toNat y4_3) (0, 0)).1) && (((y4_0.getD (Int.toNat y4_3) (0, 0)).2 == (y4_1.getD (Int.toNat y4_3) (0, 0)).2) && true))) then kret false else laws_sameItems_l4 n y4_0 y4_1 y4_2 (IntKind.wrap .i64 (y4_3 + 1)) kret kexit0) else none) else none) else none) else none) else kexit0)) (fun r0 => kk .ret (PkS.pack Tlaws_sameItems_l4_0 (r0, ()))) (kk (.exit 0) (PkS.pack Tlaws_sameItems_l4_1 ())) := by kernel_rfl
theorem lelaws_sameItems_l4 : LoopEq tt sig (fun n => mkK []) (fun n => mkL (mkK []) []) Dlaws_sameItems_l4 Slaws_sameItems_l4 (loopIn 4 (bodyOf Try.f25)) (Plaws_sameItems_l4 @laws_sameItems_l4) where
  zero R q kk := by unfold Plaws_sameItems_l4; cases (PkS.un Slaws_sameItems_l4 q) <;> rfl
  succ n R q kk := by
    unfold Plaws_sameItems_l4
    cases h : (PkS.un Slaws_sameItems_l4 q) with
    | none => rfl
    | some d =>
      obtain ⟨y4_0, y4_1, y4_2, y4_3, u⟩ := (d : (List (Int × Int)) × (List (Int × Int)) × Int × Int × Unit)
      have hp := PkS.un_pack h
      subst hp
      exact (elaws_sameItems_l4 @laws_sameItems_l4 n y4_0 y4_1 y4_2 y4_3 kk).symm
theorem nllaws_sameItems_l4 : ∀ n, NatLP (Plaws_sameItems_l4 @laws_sameItems_l4 n) := lelaws_sameItems_l4.nat (fun n => mkK_nat (claws_sameItems n)) fun n => mkL_nat (mkK_nat (claws_sameItems n)) (l := []) trivial
theorem inlaws_sameItems_l4 (n : Nat) (R : Type) : LoopsOk Try.prog (mkL (mkK []) [] R) (loopIn 4 (bodyOf Try.f25)) := .eq (l := []) (by kernel_rfl) trivial
theorem lklaws_sameItems_l4 (n : Nat) (R : Type) (L0 : LK R) (h0 : ∀ id, firstRegion (loopIn 4 (bodyOf Try.f25)) = some id → L0 id = Dlaws_sameItems_l4.oracle (mkK [] R) (Plaws_sameItems_l4 @laws_sameItems_l4 n R)) : LoopOk Try.prog L0 (loopIn 4 (bodyOf Try.f25)) :=
  lelaws_sameItems_l4.ok mixed ttok (fun n => mkK_nat (claws_sameItems n)) (fun n => mkK_ok (claws_sameItems n)) (fun n => inlaws_sameItems_l4 n R) (mkK_nat (claws_sameItems n)) h0
@[reducible] def Slaws_sameItems : PkS := ⟨[.one (.ro (.pr (.int .i64) (.int .i64))), .one (.ro (.pr (.int .i64) (.int .i64)))], []⟩
@[reducible] def Tlaws_sameItems : PkS := ⟨[.one (.bool), .one (.dead), .one (.dead)], []⟩
def Hlaws_sameItems : List Sh := [.one .any, .skip, .skip]
def Klaws_sameItems (g : ∀ {R : Type}, Nat → (List (Int × Int)) → (List (Int × Int)) → (Bool → Option R) → Option R) (n : Nat) : KPs := fun R p k => match (PkS.un Slaws_sameItems p : Option ((List (Int × Int)) × (List (Int × Int)) × Unit)) with
  | some (x0, x1, _) => g n x0 x1 (fun r0 => k (PkS.pack Tlaws_sameItems (r0, ())))
  | none => none
theorem elaws_sameItems (laws_sameItems_l4 : ∀ {R : Type}, Nat → (List (Int × Int)) → (List (Int × Int)) → Int → Int → (Bool → Option R) → (Option R) → Option R) {R : Type} (n : Nat) (x0 : List (Int × Int)) (x1 : List (Int × Int)) (k : Pk → Option R) : evF tt sig (mkK [] R) (mkL (mkK []) [(4, Dlaws_sameItems_l4, Plaws_sameItems_l4 @laws_sameItems_l4 n)] R) Try.f25 Hlaws_sameItems (PkS.pack Slaws_sameItems (x0, x1, ())) k = (fun (k : Bool → Option R) => (bif ((x0.length : Int) != (x1.length : Int)) then k false else (laws_sameItems_l4 n x0 x1 (x0.length : Int) 0 (fun r1 => k r1) (k true)))) (fun r0 => k (PkS.pack Tlaws_sameItems (r0, ()))) := by kernel_rfl
theorem oklaws_sameItems (n : Nat) : FnOk Try.prog 25 (Klaws_sameItems @laws_sameItems n) := by
  refine fn_ok (sig := sig) mixed ttok (mkK_nat (claws_sameItems n)) (mkK_ok (claws_sameItems n)) (mkL_nat (mkK_nat (claws_sameItems n)) (l := [(4, Dlaws_sameItems_l4, Plaws_sameItems_l4 @laws_sameItems_l4 n)]) ⟨nllaws_sameItems_l4 n, trivial⟩) (fn := Try.f25) (c := bodyOf Try.f25) (by kernel_rfl) (by kernel_rfl) (by kernel_rfl) (.eq (l := [loopIn 4 (bodyOf Try.f25)]) (by kernel_rfl) ⟨(lklaws_sameItems_l4 n _ _ (at_id (i := 4) (by kernel_rfl) rfl)), trivial⟩) (shs := Hlaws_sameItems) (S := Slaws_sameItems) fun R p k => ?_
  unfold Klaws_sameItems
  cases h : (PkS.un Slaws_sameItems p) with
  | none => rfl
  | some d =>
    obtain ⟨x0, x1, u⟩ := (d : (List (Int × Int)) × (List (Int × Int)) × Unit)
    have hp := PkS.un_pack h
    subst hp
    exact (elaws_sameItems @laws_sameItems_l4 n x0 x1 k).symm

/-! ### loop.example/g00269/impl.IsAhead -/
theorem cimpl_IsAhead (n : Nat) : AllOk Try.prog [(22, Kimpl_GoodItems @impl_GoodItems n), (29, Kimpl_common @impl_common n), (30, Kimpl_last @impl_last n)] := ⟨okimpl_GoodItems n, ⟨okimpl_common n, ⟨okimpl_last n, trivial⟩⟩⟩
@[reducible] def Simpl_IsAhead : PkS := ⟨[.one (.ro (.pr (.int .i64) (.int .i64))), .one (.ro (.pr (.int .i64) (.int .i64)))], []⟩
@[reducible] def Timpl_IsAhead : PkS := ⟨[.tup [(false, [.bool]), (false, [.bool])], .one (.dead), .one (.dead)], []⟩
def Himpl_IsAhead : List Sh := [.tup [(false, [.any]), (false, [.any])], .skip, .skip]
def Kimpl_IsAhead (g : ∀ {R : Type}, Nat → (List (Int × Int)) → (List (Int × Int)) → (Bool → Bool → Option R) → Option R) (n : Nat) : KPs := fun R p k => match (PkS.un Simpl_IsAhead p : Option ((List (Int × Int)) × (List (Int × Int)) × Unit)) with
  | some (x0, x1, _) => g n x0 x1 (fun r0 r1 => k (PkS.pack Timpl_IsAhead (r0, r1, ())))
  | none => none
theorem eimpl_IsAhead (impl_GoodItems : ∀ {R : Type}, Nat → (List (Int × Int)) → (Bool → Option R) → Option R) (impl_common : ∀ {R : Type}, Nat → (List (Int × Int)) → (List (Int × Int)) → (Int → Option R) → Option R) (impl_last : ∀ {R : Type}, Nat → (List (Int × Int)) → (Int → Option R) → Option R) {R : Type} (n : Nat) (x0 : List (Int × Int)) (x1 : List (Int × Int)) (k : Pk → Option R) : evF tt sig (mkK [(22, Kimpl_GoodItems @impl_GoodItems n), (29, Kimpl_common @impl_common n), (30, Kimpl_last @impl_last n)] R) (mkL (mkK [(22, Kimpl_GoodItems @impl_GoodItems n), (29, Kimpl_common @impl_common n), (30, Kimpl_last @impl_last n)]) [] R) Try.f10 Himpl_IsAhead (PkS.pack Simpl_IsAhead (x0, x1, ())) k = (fun (k : Bool → Bool → Option R) => (impl_GoodItems n x0 fun r1 => (bif (!r1) then k false false else (impl_GoodItems n x1 fun r2 => (bif (!r2) then k false false else (impl_common n x0 x1 fun r3 => (impl_last n x0 fun r4 => k (r3 == r4) true))))))) (fun r0 r1 => k (PkS.pack Timpl_IsAhead (r0, r1, ()))) := by kernel_rfl
theorem okimpl_IsAhead (n : Nat) : FnOk Try.prog 10 (Kimpl_IsAhead @impl_IsAhead n) := by
  refine fn_ok (sig := sig) mixed ttok (mkK_nat (cimpl_IsAhead n)) (mkK_ok (cimpl_IsAhead n)) (mkL_nat (mkK_nat (cimpl_IsAhead n)) (l := []) trivial) (fn := Try.f10) (c := bodyOf Try.f10) (by kernel_rfl) (by kernel_rfl) (by kernel_rfl) (.eq (l := []) (by kernel_rfl) trivial) (shs := Himpl_IsAhead) (S := Simpl_IsAhead) fun R p k => ?_
  unfold Kimpl_IsAhead
  cases h : (PkS.un Simpl_IsAhead p) with
  | none => rfl
  | some d =>
    obtain ⟨x0, x1, u⟩ := (d : (List (Int × Int)) × (List (Int × Int)) × Unit)
    have hp := PkS.un_pack h
    subst hp
    exact (eimpl_IsAhead @impl_GoodItems @impl_common @impl_last n x0 x1 k).symm

/-! ### loop.example/g00269/laws.FnPart -/
theorem claws_FnPart (n : Nat) : AllOk Try.prog [(19, Kspec_DrawLcaOf @spec_DrawLcaOf n), (17, Kimpl_LcaOf @impl_LcaOf n), (16, Kspec_LcaOf @spec_LcaOf n), (20, Kimpl_NewerOf @impl_NewerOf n), (21, Kspec_NewerOf @spec_NewerOf n), (22, Kimpl_GoodItems @impl_GoodItems n), (23, Kspec_GoodItems @spec_GoodItems n), (13, Kimpl_CutItems @impl_CutItems n), (24, Kimpl_VersionAt @impl_VersionAt n), (25, Klaws_sameItems @laws_sameItems n), (10, Kimpl_IsAhead @impl_IsAhead n)] := ⟨okspec_DrawLcaOf n, ⟨okimpl_LcaOf n, ⟨okspec_LcaOf n, ⟨okimpl_NewerOf n, ⟨okspec_NewerOf n, ⟨okimpl_GoodItems n, ⟨okspec_GoodItems n, ⟨okimpl_CutItems n, ⟨okimpl_VersionAt n, ⟨oklaws_sameItems n, ⟨okimpl_IsAhead n, trivial⟩⟩⟩⟩⟩⟩⟩⟩⟩⟩⟩
@[reducible] def Slaws_FnPart : PkS := ⟨[.one (.ro (.int .u8))], []⟩
@[reducible] def Tlaws_FnPart : PkS := ⟨[.one (.bool), .one (.dead)], []⟩
def Hlaws_FnPart : List Sh := [.one .any, .skip]
def Klaws_FnPart (g : ∀ {R : Type}, Nat → (List Int) → (Bool → Option R) → Option R) (n : Nat) : KPs := fun R p k => match (PkS.un Slaws_FnPart p : Option ((List Int) × Unit)) with
  | some (x0, _) => g n x0 (fun r0 => k (PkS.pack Tlaws_FnPart (r0, ())))
  | none => none
theorem elaws_FnPart (spec_DrawLcaOf : ∀ {R : Type}, Nat → (List Int) → ((List (Int × Int)) → (List (Int × Int)) → Option R) → Option R) (impl_LcaOf : ∀ {R : Type}, Nat → (List (Int × Int)) → (List (Int × Int)) → (Int → Int → Bool → Option R) → Option R) (spec_LcaOf : ∀ {R : Type}, Nat → (List (Int × Int)) → (List (Int × Int)) → (Int → Int → Bool → Option R) → Option R) (impl_NewerOf : ∀ {R : Type}, Nat → (List (Int × Int)) → (List (Int × Int)) → (Int → Bool → Option R) → Option R) (spec_NewerOf : ∀ {R : Type}, Nat → (List (Int × Int)) → (List (Int × Int)) → (Int → Bool → Option R) → Option R) (impl_GoodItems : ∀ {R : Type}, Nat → (List (Int × Int)) → (Bool → Option R) → Option R) (spec_GoodItems : ∀ {R : Type}, Nat → (List (Int × Int)) → (Bool → Option R) → Option R) (impl_CutItems : ∀ {R : Type}, Nat → (List (Int × Int)) → Int → (Bool → (List (Int × Int)) → Option R) → Option R) (impl_VersionAt : ∀ {R : Type}, Nat → (List (Int × Int)) → Int → (Int → Bool → Option R) → Option R) (laws_sameItems : ∀ {R : Type}, Nat → (List (Int × Int)) → (List (Int × Int)) → (Bool → Option R) → Option R) (impl_IsAhead : ∀ {R : Type}, Nat → (List (Int × Int)) → (List (Int × Int)) → (Bool → Bool → Option R) → Option R) {R : Type} (n : Nat) (x0 : List Int) (k : Pk → Option R) : evF tt sig (mkK [(19, Kspec_DrawLcaOf @spec_DrawLcaOf n), (17, Kimpl_LcaOf @impl_LcaOf n), (16, Kspec_LcaOf @spec_LcaOf n), (20, Kimpl_NewerOf @impl_NewerOf n), (21, Kspec_NewerOf @spec_NewerOf n), (22, Kimpl_GoodItems @impl_GoodItems n), (23, Kspec_GoodItems @spec_GoodItems n), (13, Kimpl_CutItems @impl_CutItems n), (24, Kimpl_VersionAt @impl_VersionAt n), (25, Klaws_sameItems @laws_sameItems n), (10, Kimpl_IsAhead @impl_IsAhead n)] R) (mkL (mkK [(19, Kspec_DrawLcaOf @spec_DrawLcaOf n), (17, Kimpl_LcaOf @impl_LcaOf n), (16, Kspec_LcaOf @spec_LcaOf n), (20, Kimpl_NewerOf @impl_NewerOf n), (21, Kspec_NewerOf @spec_NewerOf n), (22, Kimpl_GoodItems @impl_GoodItems n), (23, Kspec_GoodItems @spec_GoodItems n), (13, Kimpl_CutItems @impl_CutItems n), (24, Kimpl_VersionAt @impl_VersionAt n), (25, Klaws_sameItems @laws_sameItems n), (10, Kimpl_IsAhead @impl_IsAhead n)]) [] R) Try.f6 Hlaws_FnPart (PkS.pack Slaws_FnPart (x0, ())) k = (fun (k : Bool → Option R) => (bif (decide ((x0.length : Int) > 1048576)) then k true else (spec_DrawLcaOf n x0 fun r1 r2 => (impl_LcaOf n r1 r2 fun r3 r4 r5 => (spec_LcaOf n r1 r2 fun r6 r7 r8 => (impl_LcaOf n r2 r1 fun r9 r10 r11 => (impl_NewerOf n r1 r2 fun r12 r13 => (spec_NewerOf n r1 r2 fun r14 r15 => (bif (!(r5 == r8)) then k false else (bif (!((r3 == r6) && ((r4 == r7) && true))) then k false else (bif (!(r11 == r8)) then k false else (bif (!((r9 == r3) && ((r10 == r4) && true))) then k false else (bif (!(r13 == r15)) then k false else (bif (r12 != r14) then k false else (impl_GoodItems n r1 fun r16 => (spec_GoodItems n r1 fun r17 => (bif (!(r16 == r17)) then k false else (bif (!r5) then k ((r3 == 0) && ((r4 == 0) && true)) else (impl_CutItems n r1 r3 fun r18 r19 => (impl_CutItems n r2 r3 fun r20 r21 => (impl_VersionAt n r1 r3 fun r22 r23 => (bif (!r18) then k false else (bif (!r20) then k false else (bif (!r23) then k false else (laws_sameItems n r19 r21 fun r24 => (bif (!r24) then k false else (bif (r22 != r4) then k false else (impl_VersionAt n r1 (IntKind.wrap .i64 (r3 + 1)) fun r25 r26 => (impl_VersionAt n r2 (IntKind.wrap .i64 (r3 + 1)) fun r27 r28 => (impl_IsAhead n r1 r2 fun r29 r30 => (bif (!r26) then (bif r30 then k (r29 == (!r26)) else k false) else (bif (!r28) then (bif r30 then k (r29 == (!r26)) else k false) else (bif (r25 != r27) then (bif r30 then k (r29 == (!r26)) else k false) else k false))))))))))))))))))))))))))))))))) (fun r0 => k (PkS.pack Tlaws_FnPart (r0, ()))) := by kernel_rfl
theorem oklaws_FnPart (n : Nat) : FnOk Try.prog 6 (Klaws_FnPart @laws_FnPart n) := by
  refine fn_ok (sig := sig) mixed ttok (mkK_nat (claws_FnPart n)) (mkK_ok (claws_FnPart n)) (mkL_nat (mkK_nat (claws_FnPart n)) (l := []) trivial) (fn := Try.f6) (c := bodyOf Try.f6) (by kernel_rfl) (by kernel_rfl) (by kernel_rfl) (.eq (l := []) (by kernel_rfl) trivial) (shs := Hlaws_FnPart) (S := Slaws_FnPart) fun R p k => ?_
  unfold Klaws_FnPart
  cases h : (PkS.un Slaws_FnPart p) with
  | none => rfl
  | some d =>
    obtain ⟨x0, u⟩ := (d : (List Int) × Unit)
    have hp := PkS.un_pack h
    subst hp
    exact (elaws_FnPart @spec_DrawLcaOf @impl_LcaOf @spec_LcaOf @impl_NewerOf @spec_NewerOf @impl_GoodItems @spec_GoodItems @impl_CutItems @impl_VersionAt @laws_sameItems @impl_IsAhead n x0 k).symm
end Go.Am.G
