/- The code of the functions that the law reaches does what the plain functions say. -/
import Derived.Test.YtjijikgjefingaaF12
import Derived.Test.YtjijikgjefingaaAmK
import Derived.KernelRfl
import Derived.Test.YtjijikgjefingaaProg
set_option linter.unusedVariables false
set_option maxRecDepth 100000
namespace Go.Am.G
open Go Go.Am
open Go.Proofs
def tt : TT := [(3, ⟨1, false, (.int .i64), 0, [], [.int .i64 0], 8, true, false, [], none, false⟩), (4, ⟨1, false, .bool, 0, [], [.bool false], 1, true, false, [], none, false⟩), (5, ⟨1, false, (.int .u8), 0, [], [.int .u8 0], 1, true, false, [], none, false⟩), (22, ⟨1, false, (.sl (.int .i64)), 3, [], [.nil], 24, true, true, [], none, false⟩), (50, ⟨1, false, (.sl (.int .u8)), 5, [], [.nil], 24, true, true, [], none, false⟩), (74, ⟨1, false, (.sl (.pr (.sl (.int .i64)) (.sl (.int .i64)))), 131, [], [.nil], 24, true, true, [], none, false⟩), (76, ⟨2, true, (.pr (.int .i64) (.sl (.pr (.sl (.int .i64)) (.sl (.int .i64))))), 0, [(0, 1, false), (1, 1, false)], [.int .i64 0, .nil], 32, true, false, [], none, false⟩), (107, ⟨1, false, (.sl .bool), 4, [], [.nil], 24, true, true, [], none, false⟩), (112, ⟨1, false, (.int .u64), 0, [], [.int .u64 0], 8, true, false, [], none, false⟩), (114, ⟨3, true, (.pr (.sl (.int .u8)) (.pr (.int .i64) (.int .u64))), 0, [(0, 1, false), (1, 1, false), (2, 1, false)], [.nil, .int .i64 0, .int .u64 0], 40, true, false, [], none, false⟩), (131, ⟨2, true, (.pr (.sl (.int .i64)) (.sl (.int .i64))), 0, [(0, 1, false), (1, 1, false)], [.nil, .nil], 48, true, false, [], none, false⟩), (141, ⟨1, false, .bool, 0, [], [.dead], 8, false, false, [], none, false⟩), (144, ⟨1, false, (.sl (.sl (.int .i64))), 22, [], [.nil], 24, true, true, [], none, false⟩), (146, ⟨3, true, (.pr (.sl (.sl (.int .i64))) (.pr (.sl (.int .i64)) (.sl (.int .i64)))), 0, [(0, 1, false), (1, 1, false), (2, 1, false)], [.nil, .nil, .nil], 72, true, false, [], none, false⟩), (162, ⟨8, true, .bool, 0, [], [.int .i64 0, .int .i64 0, .int .i64 0, .int .i64 0, .int .i64 0, .int .i64 0, .int .i64 0, .int .i64 0], 64, false, false, [], none, true⟩), (164, ⟨1, false, .bool, 0, [], [.dead], 8, false, false, [], some (162, 4), false⟩)]
def sig : Sig := sigOf [(12, [.one (.ro (.int .u8)), .one (.ro (.int .u8))]), (38, [.one (.ro (.int .i64)), .one (.ro (.int .i64))]), (59, [.agg [.any, (.ro (.pr (.sl (.int .i64)) (.sl (.int .i64))))]]), (60, [.agg [.any, (.ro (.pr (.sl (.int .i64)) (.sl (.int .i64))))]]), (61, [.agg [.any, (.ro (.pr (.sl (.int .i64)) (.sl (.int .i64))))], .one (.ro (.int .i64)), .one (.ro (.int .i64))]), (64, [.one (.ro (.int .u8))]), (65, [.agg [.any, (.ro (.pr (.sl (.int .i64)) (.sl (.int .i64))))]]), (66, [.agg [.any, (.ro (.pr (.sl (.int .i64)) (.sl (.int .i64))))]]), (67, [.agg [.any, (.ro (.pr (.sl (.int .i64)) (.sl (.int .i64))))], .one (.ro (.int .i64))]), (68, [.one (.ro (.int .u8))]), (69, [.agg [.any, (.ro (.pr (.sl (.int .i64)) (.sl (.int .i64))))], .one (.ro (.int .i64))]), (72, [.one .any, .one .any, .one .any]), (80, [.one .any, .one .any, .one .any]), (99, [.box [(.ro (.int .u8)), .any, .any], .one .any]), (106, [.one (.ro (.int .i64)), .one .any]), (107, [.box [(.ro (.int .u8)), .any, .any], .one (.ro (.int .i64))]), (112, [.box [(.ro (.int .u8)), .any, .any], .one .any]), (113, [.box [(.ro (.int .u8)), .any, .any]]), (117, [.one (.ro (.pr (.sl (.int .i64)) (.sl (.int .i64)))), .fn 118 [[.any, (.ro (.pr (.sl (.int .i64)) (.sl (.int .i64))))]]]), (118, [.agg [(.ro (.int .i64)), (.ro (.int .i64))], .box [.any, (.ro (.pr (.sl (.int .i64)) (.sl (.int .i64))))]]), (119, [.one (.ro (.int .i64)), .one .any]), (120, [.one (.ro (.int .i64)), .fn 121 [[.any, (.ro (.pr (.sl (.int .i64)) (.sl (.int .i64))))]]]), (120, [.one (.ro (.int .i64)), .fn 159 []]), (121, [.one .any, .box [.any, (.ro (.pr (.sl (.int .i64)) (.sl (.int .i64))))]]), (122, [.agg [.any, (.ro (.pr (.sl (.int .i64)) (.sl (.int .i64))))], .one (.ro (.int .i64))]), (123, [.one (.ro (.int .i64))]), (124, [.box [.any, (.ro (.pr (.sl (.int .i64)) (.sl (.int .i64))))], .one (.ro (.int .i64)), .one .any]), (124, [.one (.lend (.pr (.int .i64) (.sl (.pr (.sl (.int .i64)) (.sl (.int .i64)))))), .one (.ro (.int .i64)), .one .any]), (125, [.agg [.any, (.ro (.pr (.sl (.int .i64)) (.sl (.int .i64))))], .one (.ro (.int .i64))]), (126, [.agg [(.ro (.int .i64)), (.ro (.int .i64))], .one (.ro (.int .i64))]), (127, [.one (.ro (.int .i64)), .one .any]), (128, [.one (.ro (.int .u8))]), (129, [.box [.any, (.ro (.pr (.sl (.int .i64)) (.sl (.int .i64))))], .one (.ro (.int .i64))]), (129, [.one (.lend (.pr (.int .i64) (.sl (.pr (.sl (.int .i64)) (.sl (.int .i64)))))), .one (.ro (.int .i64))]), (130, [.one .any, .one .any]), (131, [.one (.lend (.pr (.int .i64) (.sl (.pr (.sl (.int .i64)) (.sl (.int .i64)))))), .one (.ro (.sl (.int .i64)))]), (132, [.one .any, .one .any]), (133, [.agg [.any, (.ro (.pr (.sl (.int .i64)) (.sl (.int .i64))))], .one (.ro (.int .i64))]), (134, [.one (.ro (.int .i64)), .one (.ro (.int .i64))]), (135, [.one (.ro (.sl (.int .i64))), .one (.ro (.int .i64))]), (136, [.one (.ro (.sl (.int .i64))), .fn 137 [[(.own (.int .i64))]]]), (136, [.one (.ro (.sl (.int .i64))), .fn 162 [[(.own (.int .i64))]]]), (136, [.one (.ro (.sl (.int .i64))), .fn 163 [[(.lend (.pr (.int .i64) (.sl (.pr (.sl (.int .i64)) (.sl (.int .i64))))))], [.any]]]), (137, [.one (.ro (.int .i64)), .box [(.own (.int .i64))]]), (138, [.one (.ro (.int .i64)), .one (.ro (.int .i64))]), (139, [.one (.own (.int .i64))]), (140, [.one (.ro (.int .u8))]), (149, [.box [(.ro (.int .u8)), .any, .any]]), (154, [.box [(.ro (.int .u8)), .any, .any], .one .any]), (156, [.one (.ro (.pr (.sl (.int .i64)) (.sl (.int .i64)))), .fn 118 [[.any, (.ro (.pr (.sl (.int .i64)) (.sl (.int .i64))))]]]), (157, [.one (.ro (.int .i64)), .fn 121 [[.any, (.ro (.pr (.sl (.int .i64)) (.sl (.int .i64))))]]]), (157, [.one (.ro (.int .i64)), .fn 159 []]), (158, [.one (.ro (.int .i64))]), (159, [.one .any]), (160, [.one (.ro (.int .i64))]), (161, [.one (.ro (.sl (.int .i64))), .fn 162 [[(.own (.int .i64))]]]), (161, [.one (.ro (.sl (.int .i64))), .fn 163 [[(.lend (.pr (.int .i64) (.sl (.pr (.sl (.int .i64)) (.sl (.int .i64))))))], [.any]]]), (162, [.one (.ro (.int .i64)), .box [(.own (.int .i64))]]), (163, [.one (.ro (.int .i64)), .box [(.lend (.pr (.int .i64) (.sl (.pr (.sl (.int .i64)) (.sl (.int .i64))))))], .box [.any]]), (164, [.box [(.ro (.int .u8)), .any, .any], .agg [.any, (.ro (.pr (.sl (.int .i64)) (.sl (.int .i64))))]])]
theorem ttok : TTok Try.prog tt := .of_chk (by kernel_rfl)
theorem mixed : Try.prog.follows .mixedOrders = true := by kernel_rfl

/-! ### (*loop.example/g00269/spec.l1Cur).next -/
theorem cspec_l1Cur_next (n : Nat) : AllOk Try.prog [] := trivial
@[reducible] def Sspec_l1Cur_next : PkS := ⟨[.one (.box (200000, 0) 0)], [((200000, 0), .box [.ro (.int .u8), .int .i64, .int .u64])]⟩
@[reducible] def Tspec_l1Cur_next : PkS := ⟨[.one (.int .i64), .one (.box (300000, 0) 0)], [((300000, 0), .box [.ro (.int .u8), .int .i64, .int .u64])]⟩
def Hspec_l1Cur_next : List Sh := [.one .any, .box [(.ro (.int .u8)), .any, .any]]
def Kspec_l1Cur_next (g : ∀ {R : Type}, Nat → (List Int) → Int → Int → (Int → (List Int) → Int → Int → Option R) → Option R) (n : Nat) : KPs := fun R p k => match (PkS.un Sspec_l1Cur_next p : Option ((List Int) × Int × Int × Unit)) with
  | some (x0, x1, x2, _) => g n x0 x1 x2 (fun r0 r1 r2 r3 => k (PkS.pack Tspec_l1Cur_next (r0, r1, r2, r3, ())))
  | none => none
theorem espec_l1Cur_next  {R : Type} (n : Nat) (x0 : List Int) (x1 : Int) (x2 : Int) (k : Pk → Option R) : evF tt sig (mkK [] R) (mkL (mkK []) [] R) Try.f149 Hspec_l1Cur_next (PkS.pack Sspec_l1Cur_next (x0, x1, x2, ())) k = (fun (k : Int → (List Int) → Int → Int → Option R) => (bif (decide (x1 < (x0.length : Int))) then (bif decide (0 ≤ x1) then (bif decide (x1 < (x0.length : Int)) then (bif (decide ((IntKind.wrap .i64 (x1 + 1)) ≤ (x0.length : Int))) then k (IntKind.wrap .i64 ((x0.getD (Int.toNat x1) 0))) x0 (IntKind.wrap .i64 (x1 + 1)) (IntKind.wrap .u64 ((IntKind.wrap .u64 ((IntKind.wrap .u64 (x2 * 6364136223846793005)) + (IntKind.wrap .u64 ((IntKind.wrap .i64 ((x0.getD (Int.toNat x1) 0))))))) + 1442695040888963407)) else k (IntKind.wrap .i64 ((IntKind.wrap .u64 (Int.ofNat (BitVec.toNat (BitVec.ofInt (IntKind.bits .u64) (Int.fdiv (IntKind.wrap .u64 ((IntKind.wrap .u64 ((IntKind.wrap .u64 (x2 * 6364136223846793005)) + (IntKind.wrap .u64 ((IntKind.wrap .i64 ((x0.getD (Int.toNat x1) 0))))))) + 1442695040888963407)) (2 ^ (min (Int.toNat 40) (IntKind.bits .u64)))) &&& BitVec.ofInt (IntKind.bits .u64) 255)))))) x0 (IntKind.wrap .i64 (x1 + 1)) (IntKind.wrap .u64 ((IntKind.wrap .u64 ((IntKind.wrap .u64 (x2 * 6364136223846793005)) + (IntKind.wrap .u64 ((IntKind.wrap .i64 ((x0.getD (Int.toNat x1) 0))))))) + 1442695040888963407))) else none) else none) else (bif (decide ((IntKind.wrap .i64 (x1 + 1)) ≤ (x0.length : Int))) then k 0 x0 (IntKind.wrap .i64 (x1 + 1)) (IntKind.wrap .u64 ((IntKind.wrap .u64 ((IntKind.wrap .u64 (x2 * 6364136223846793005)) + 0)) + 1442695040888963407)) else k (IntKind.wrap .i64 ((IntKind.wrap .u64 (Int.ofNat (BitVec.toNat (BitVec.ofInt (IntKind.bits .u64) (Int.fdiv (IntKind.wrap .u64 ((IntKind.wrap .u64 ((IntKind.wrap .u64 (x2 * 6364136223846793005)) + 0)) + 1442695040888963407)) (2 ^ (min (Int.toNat 40) (IntKind.bits .u64)))) &&& BitVec.ofInt (IntKind.bits .u64) 255)))))) x0 (IntKind.wrap .i64 (x1 + 1)) (IntKind.wrap .u64 ((IntKind.wrap .u64 ((IntKind.wrap .u64 (x2 * 6364136223846793005)) + 0)) + 1442695040888963407))))) (fun r0 r1 r2 r3 => k (PkS.pack Tspec_l1Cur_next (r0, r1, r2, r3, ()))) := by kernel_rfl
theorem okspec_l1Cur_next (n : Nat) : FnOk Try.prog 149 (Kspec_l1Cur_next @spec_l1Cur_next n) := by
  refine fn_ok (sig := sig) mixed ttok (mkK_nat (cspec_l1Cur_next n)) (mkK_ok (cspec_l1Cur_next n)) (mkL_nat (mkK_nat (cspec_l1Cur_next n)) (l := []) trivial) (fn := Try.f149) (c := bodyOf Try.f149) (by kernel_rfl) (by kernel_rfl) (by kernel_rfl) (.eq (l := []) (by kernel_rfl) trivial) (shs := Hspec_l1Cur_next) (S := Sspec_l1Cur_next) (h1 := by kernel_rfl) fun R p k => ?_
  unfold Kspec_l1Cur_next
  cases h : (PkS.un Sspec_l1Cur_next p) with
  | none => rfl
  | some d =>
    obtain ⟨x0, x1, x2, u⟩ := (d : (List Int) × Int × Int × Unit)
    have hp := PkS.un_pack h
    subst hp
    exact (espec_l1Cur_next  n x0 x1 x2 k).symm

/-! ### (*loop.example/g00269/spec.l1Cur).pick -/
theorem cspec_l1Cur_pick (n : Nat) : AllOk Try.prog [(149, Kspec_l1Cur_next @spec_l1Cur_next n)] := ⟨okspec_l1Cur_next n, trivial⟩
@[reducible] def Sspec_l1Cur_pick : PkS := ⟨[.one (.box (200000, 0) 0), .one (.int .i64)], [((200000, 0), .box [.ro (.int .u8), .int .i64, .int .u64])]⟩
@[reducible] def Tspec_l1Cur_pick : PkS := ⟨[.one (.int .i64), .one (.box (300000, 0) 0), .one (.dead)], [((300000, 0), .box [.ro (.int .u8), .int .i64, .int .u64])]⟩
def Hspec_l1Cur_pick : List Sh := [.one .any, .box [(.ro (.int .u8)), .any, .any], .skip]
def Kspec_l1Cur_pick (g : ∀ {R : Type}, Nat → Int → (List Int) → Int → Int → (Int → (List Int) → Int → Int → Option R) → Option R) (n : Nat) : KPs := fun R p k => match (PkS.un Sspec_l1Cur_pick p : Option (Int × (List Int) × Int × Int × Unit)) with
  | some (x0, x1, x2, x3, _) => g n x0 x1 x2 x3 (fun r0 r1 r2 r3 => k (PkS.pack Tspec_l1Cur_pick (r0, r1, r2, r3, ())))
  | none => none
theorem espec_l1Cur_pick (spec_l1Cur_next : ∀ {R : Type}, Nat → (List Int) → Int → Int → (Int → (List Int) → Int → Int → Option R) → Option R) {R : Type} (n : Nat) (x0 : Int) (x1 : List Int) (x2 : Int) (x3 : Int) (k : Pk → Option R) : evF tt sig (mkK [(149, Kspec_l1Cur_next @spec_l1Cur_next n)] R) (mkL (mkK [(149, Kspec_l1Cur_next @spec_l1Cur_next n)]) [] R) Try.f99 Hspec_l1Cur_pick (PkS.pack Sspec_l1Cur_pick (x0, x1, x2, x3, ())) k = (fun (k : Int → (List Int) → Int → Int → Option R) => (bif (decide (x0 ≤ 1)) then k 0 x1 x2 x3 else (spec_l1Cur_next n x1 x2 x3 fun r1 r2 r3 r4 => (bif (decide (x0 > 200)) then (spec_l1Cur_next n r2 r3 r4 fun r5 r6 r7 r8 => (bif decide (x0 ≠ 0) then k (Int.tmod (IntKind.wrap .i64 ((IntKind.wrap .i64 (r1 * 256)) + r5)) x0) r6 r7 r8 else none)) else (bif decide (x0 ≠ 0) then k (Int.tmod r1 x0) r2 r3 r4 else none))))) (fun r0 r1 r2 r3 => k (PkS.pack Tspec_l1Cur_pick (r0, r1, r2, r3, ()))) := by kernel_rfl
theorem okspec_l1Cur_pick (n : Nat) : FnOk Try.prog 99 (Kspec_l1Cur_pick @spec_l1Cur_pick n) := by
  refine fn_ok (sig := sig) mixed ttok (mkK_nat (cspec_l1Cur_pick n)) (mkK_ok (cspec_l1Cur_pick n)) (mkL_nat (mkK_nat (cspec_l1Cur_pick n)) (l := []) trivial) (fn := Try.f99) (c := bodyOf Try.f99) (by kernel_rfl) (by kernel_rfl) (by kernel_rfl) (.eq (l := []) (by kernel_rfl) trivial) (shs := Hspec_l1Cur_pick) (S := Sspec_l1Cur_pick) (h1 := by kernel_rfl) fun R p k => ?_
  unfold Kspec_l1Cur_pick
  cases h : (PkS.un Sspec_l1Cur_pick p) with
  | none => rfl
  | some d =>
    obtain ⟨x0, x1, x2, x3, u⟩ := (d : Int × (List Int) × Int × Int × Unit)
    have hp := PkS.un_pack h
    subst hp
    exact (espec_l1Cur_pick @spec_l1Cur_next n x0 x1 x2 x3 k).symm

/-! ### (*loop.example/g00269/spec.l1Cur).one -/
theorem cspec_l1Cur_one (n : Nat) : AllOk Try.prog [(99, Kspec_l1Cur_pick @spec_l1Cur_pick n)] := ⟨okspec_l1Cur_pick n, trivial⟩
@[reducible] def Sspec_l1Cur_one : PkS := ⟨[.one (.box (200000, 0) 0), .one (.int .i64)], [((200000, 0), .box [.ro (.int .u8), .int .i64, .int .u64])]⟩
@[reducible] def Tspec_l1Cur_one : PkS := ⟨[.one (.bool), .one (.box (300000, 0) 0), .one (.dead)], [((300000, 0), .box [.ro (.int .u8), .int .i64, .int .u64])]⟩
def Hspec_l1Cur_one : List Sh := [.one .any, .box [(.ro (.int .u8)), .any, .any], .skip]
def Kspec_l1Cur_one (g : ∀ {R : Type}, Nat → Int → (List Int) → Int → Int → (Bool → (List Int) → Int → Int → Option R) → Option R) (n : Nat) : KPs := fun R p k => match (PkS.un Sspec_l1Cur_one p : Option (Int × (List Int) × Int × Int × Unit)) with
  | some (x0, x1, x2, x3, _) => g n x0 x1 x2 x3 (fun r0 r1 r2 r3 => k (PkS.pack Tspec_l1Cur_one (r0, r1, r2, r3, ())))
  | none => none
theorem espec_l1Cur_one (spec_l1Cur_pick : ∀ {R : Type}, Nat → Int → (List Int) → Int → Int → (Int → (List Int) → Int → Int → Option R) → Option R) {R : Type} (n : Nat) (x0 : Int) (x1 : List Int) (x2 : Int) (x3 : Int) (k : Pk → Option R) : evF tt sig (mkK [(99, Kspec_l1Cur_pick @spec_l1Cur_pick n)] R) (mkL (mkK [(99, Kspec_l1Cur_pick @spec_l1Cur_pick n)]) [] R) Try.f112 Hspec_l1Cur_one (PkS.pack Sspec_l1Cur_one (x0, x1, x2, x3, ())) k = (fun (k : Bool → (List Int) → Int → Int → Option R) => (spec_l1Cur_pick n x0 x1 x2 x3 fun r1 r2 r3 r4 => k (r1 == 0) r2 r3 r4)) (fun r0 r1 r2 r3 => k (PkS.pack Tspec_l1Cur_one (r0, r1, r2, r3, ()))) := by kernel_rfl
theorem okspec_l1Cur_one (n : Nat) : FnOk Try.prog 112 (Kspec_l1Cur_one @spec_l1Cur_one n) := by
  refine fn_ok (sig := sig) mixed ttok (mkK_nat (cspec_l1Cur_one n)) (mkK_ok (cspec_l1Cur_one n)) (mkL_nat (mkK_nat (cspec_l1Cur_one n)) (l := []) trivial) (fn := Try.f112) (c := bodyOf Try.f112) (by kernel_rfl) (by kernel_rfl) (by kernel_rfl) (.eq (l := []) (by kernel_rfl) trivial) (shs := Hspec_l1Cur_one) (S := Sspec_l1Cur_one) (h1 := by kernel_rfl) fun R p k => ?_
  unfold Kspec_l1Cur_one
  cases h : (PkS.un Sspec_l1Cur_one p) with
  | none => rfl
  | some d =>
    obtain ⟨x0, x1, x2, x3, u⟩ := (d : Int × (List Int) × Int × Int × Unit)
    have hp := PkS.un_pack h
    subst hp
    exact (espec_l1Cur_one @spec_l1Cur_pick n x0 x1 x2 x3 k).symm

/-! ### (*loop.example/g00269/spec.l1Cur).places -/
theorem cspec_l1Cur_places (n : Nat) : AllOk Try.prog [(99, Kspec_l1Cur_pick @spec_l1Cur_pick n)] := ⟨okspec_l1Cur_pick n, trivial⟩
@[reducible] def Sspec_l1Cur_places_l3 : PkS := ⟨[.one (.box (100000, 0) 0), .one (.int .i64), .one (.whole (100000, 1)), .one (.int .i64), .one (.box (100000, 0) 0), .one (.dead)], [((100000, 0), .box [.ro (.int .u8), .int .i64, .int .u64]), ((100000, 1), .arr (.int .i64))]⟩
@[reducible] def Tspec_l1Cur_places_l3_0 : PkS := ⟨[.one (.whole (100000, 0)), .one (.box (100000, 1) 0), .one (.dead)], [((100000, 0), .arr (.int .i64)), ((100000, 1), .box [.ro (.int .u8), .int .i64, .int .u64])]⟩
def Dspec_l1Cur_places_l3 : LoopD := ⟨27, [0, 1, 5, 6], [.box [(.ro (.int .u8)), .any, .any], .one .any, .one (.own (.int .i64)), .one .any, .box [(.ro (.int .u8)), .any, .any], .skip], fun x => match x with
  | .exit 0 => some ([5], [.one (.own (.int .i64)), .box [(.ro (.int .u8)), .any, .any], .skip])
  | _ => none⟩
def Pspec_l1Cur_places_l3 (g : ∀ {R : Type}, Nat → Int → Int → (List Int) → Int → Int → (List Int) → ((List Int) → (List Int) → Int → Int → Option R) → Option R) (n : Nat) : LPs := fun R q kk => match (PkS.un Sspec_l1Cur_places_l3 q : Option (Int × Int × (List Int) × Int × Int × (List Int) × Unit)) with
  | some (y3_0, y3_1, y3_2, y3_3, y3_4, y3_5, _) => g n y3_0 y3_1 y3_2 y3_3 y3_4 y3_5 (fun r0 r1 r2 r3 => kk (.exit 0) (PkS.pack Tspec_l1Cur_places_l3_0 (r0, r1, r2, r3, ())))
  | none => none
theorem espec_l1Cur_places_l3 (spec_l1Cur_pick : ∀ {R : Type}, Nat → Int → (List Int) → Int → Int → (Int → (List Int) → Int → Int → Option R) → Option R) (spec_l1Cur_places_l3 : ∀ {R : Type}, Nat → Int → Int → (List Int) → Int → Int → (List Int) → ((List Int) → (List Int) → Int → Int → Option R) → Option R) {R : Type} (n : Nat) (y3_0 : Int) (y3_1 : Int) (y3_2 : List Int) (y3_3 : Int) (y3_4 : Int) (y3_5 : List Int) (kk : Ex → Pk → Option R) : Dspec_l1Cur_places_l3.step tt sig (mkK [(99, Kspec_l1Cur_pick @spec_l1Cur_pick n)] R) (mkL (mkK [(99, Kspec_l1Cur_pick @spec_l1Cur_pick n)]) [] R) (loopIn 3 (bodyOf Try.f154)) (fun q' => Pspec_l1Cur_places_l3 @spec_l1Cur_places_l3 n R q' kk) (PkS.pack Sspec_l1Cur_places_l3 (y3_0, y3_1, y3_2, y3_3, y3_4, y3_5, ())) kk = (fun (kexit0 : (List Int) → (List Int) → Int → Int → Option R) => (bif (decide (y3_1 < y3_0)) then (bif (decide ((y3_5.length : Int) < 2)) then (bif decide (y3_5.length + [y3_1].length ≤ LIM) then (spec_l1Cur_pick n 3 y3_2 y3_3 y3_4 fun r5 r6 r7 r8 => spec_l1Cur_places_l3 n y3_0 (IntKind.wrap .i64 (y3_1 + (IntKind.wrap .i64 (1 + r5)))) r6 r7 r8 (y3_5 ++ [y3_1]) kexit0) else none) else kexit0 y3_5 y3_2 y3_3 y3_4) else kexit0 y3_5 y3_2 y3_3 y3_4)) (fun r0 r1 r2 r3 => kk (.exit 0) (PkS.pack Tspec_l1Cur_places_l3_0 (r0, r1, r2, r3, ()))) := by kernel_rfl
theorem lespec_l1Cur_places_l3 : LoopEq tt sig (fun n => mkK [(99, Kspec_l1Cur_pick @spec_l1Cur_pick n)]) (fun n => mkL (mkK [(99, Kspec_l1Cur_pick @spec_l1Cur_pick n)]) []) Dspec_l1Cur_places_l3 Sspec_l1Cur_places_l3 (loopIn 3 (bodyOf Try.f154)) (Pspec_l1Cur_places_l3 @spec_l1Cur_places_l3) where
  zero R q kk := by unfold Pspec_l1Cur_places_l3; cases (PkS.un Sspec_l1Cur_places_l3 q) <;> rfl
  succ n R q kk := by
    unfold Pspec_l1Cur_places_l3
    cases h : (PkS.un Sspec_l1Cur_places_l3 q) with
    | none => rfl
    | some d =>
      obtain ⟨y3_0, y3_1, y3_2, y3_3, y3_4, y3_5, u⟩ := (d : Int × Int × (List Int) × Int × Int × (List Int) × Unit)
      have hp := PkS.un_pack h
      subst hp
      exact (espec_l1Cur_places_l3 @spec_l1Cur_pick @spec_l1Cur_places_l3 n y3_0 y3_1 y3_2 y3_3 y3_4 y3_5 kk).symm
theorem nlspec_l1Cur_places_l3 : ∀ n, NatLP (Pspec_l1Cur_places_l3 @spec_l1Cur_places_l3 n) := lespec_l1Cur_places_l3.nat (fun n => mkK_nat (cspec_l1Cur_places n)) fun n => mkL_nat (mkK_nat (cspec_l1Cur_places n)) (l := []) trivial
theorem inspec_l1Cur_places_l3 (n : Nat) (R : Type) : LoopsOk Try.prog (mkL (mkK [(99, Kspec_l1Cur_pick @spec_l1Cur_pick n)]) [] R) (loopIn 3 (bodyOf Try.f154)) := .eq (l := []) (by kernel_rfl) trivial
theorem lkspec_l1Cur_places_l3 (n : Nat) (R : Type) (L0 : LK R) (h0 : ∀ id, firstRegion (loopIn 3 (bodyOf Try.f154)) = some id → L0 id = Dspec_l1Cur_places_l3.oracle (mkK [(99, Kspec_l1Cur_pick @spec_l1Cur_pick n)] R) (Pspec_l1Cur_places_l3 @spec_l1Cur_places_l3 n R)) : LoopOk Try.prog L0 (loopIn 3 (bodyOf Try.f154)) :=
  lespec_l1Cur_places_l3.ok mixed ttok (fun n => mkK_nat (cspec_l1Cur_places n)) (fun n => mkK_ok (cspec_l1Cur_places n)) (fun n => inspec_l1Cur_places_l3 n R) (mkK_nat (cspec_l1Cur_places n)) h0
@[reducible] def Sspec_l1Cur_places : PkS := ⟨[.one (.box (200000, 0) 0), .one (.int .i64)], [((200000, 0), .box [.ro (.int .u8), .int .i64, .int .u64])]⟩
@[reducible] def Tspec_l1Cur_places : PkS := ⟨[.one (.whole (300000, 0)), .one (.box (300000, 1) 0), .one (.dead)], [((300000, 0), .arr (.int .i64)), ((300000, 1), .box [.ro (.int .u8), .int .i64, .int .u64])]⟩
def Hspec_l1Cur_places : List Sh := [.one (.own (.int .i64)), .box [(.ro (.int .u8)), .any, .any], .skip]
def Kspec_l1Cur_places (g : ∀ {R : Type}, Nat → Int → (List Int) → Int → Int → ((List Int) → (List Int) → Int → Int → Option R) → Option R) (n : Nat) : KPs := fun R p k => match (PkS.un Sspec_l1Cur_places p : Option (Int × (List Int) × Int × Int × Unit)) with
  | some (x0, x1, x2, x3, _) => g n x0 x1 x2 x3 (fun r0 r1 r2 r3 => k (PkS.pack Tspec_l1Cur_places (r0, r1, r2, r3, ())))
  | none => none
theorem espec_l1Cur_places (spec_l1Cur_pick : ∀ {R : Type}, Nat → Int → (List Int) → Int → Int → (Int → (List Int) → Int → Int → Option R) → Option R) (spec_l1Cur_places_l3 : ∀ {R : Type}, Nat → Int → Int → (List Int) → Int → Int → (List Int) → ((List Int) → (List Int) → Int → Int → Option R) → Option R) {R : Type} (n : Nat) (x0 : Int) (x1 : List Int) (x2 : Int) (x3 : Int) (k : Pk → Option R) : evF tt sig (mkK [(99, Kspec_l1Cur_pick @spec_l1Cur_pick n)] R) (mkL (mkK [(99, Kspec_l1Cur_pick @spec_l1Cur_pick n)]) [(3, Dspec_l1Cur_places_l3, Pspec_l1Cur_places_l3 @spec_l1Cur_places_l3 n)] R) Try.f154 Hspec_l1Cur_places (PkS.pack Sspec_l1Cur_places (x0, x1, x2, x3, ())) k = (fun (k : (List Int) → (List Int) → Int → Int → Option R) => (spec_l1Cur_pick n 3 x1 x2 x3 fun r1 r2 r3 r4 => (spec_l1Cur_places_l3 n x0 r1 r2 r3 r4 ([] : List Int) (fun r9 r10 r11 r12 => k r9 r10 r11 r12)))) (fun r0 r1 r2 r3 => k (PkS.pack Tspec_l1Cur_places (r0, r1, r2, r3, ()))) := by kernel_rfl
theorem okspec_l1Cur_places (n : Nat) : FnOk Try.prog 154 (Kspec_l1Cur_places @spec_l1Cur_places n) := by
  refine fn_ok (sig := sig) mixed ttok (mkK_nat (cspec_l1Cur_places n)) (mkK_ok (cspec_l1Cur_places n)) (mkL_nat (mkK_nat (cspec_l1Cur_places n)) (l := [(3, Dspec_l1Cur_places_l3, Pspec_l1Cur_places_l3 @spec_l1Cur_places_l3 n)]) ⟨nlspec_l1Cur_places_l3 n, trivial⟩) (fn := Try.f154) (c := bodyOf Try.f154) (by kernel_rfl) (by kernel_rfl) (by kernel_rfl) (.eq (l := [.lo (loopIn 3 (bodyOf Try.f154))]) (by kernel_rfl) ⟨(lkspec_l1Cur_places_l3 n _ _ (at_id (i := 3) (by kernel_rfl) rfl)), trivial⟩) (shs := Hspec_l1Cur_places) (S := Sspec_l1Cur_places) (h1 := by kernel_rfl) fun R p k => ?_
  unfold Kspec_l1Cur_places
  cases h : (PkS.un Sspec_l1Cur_places p) with
  | none => rfl
  | some d =>
    obtain ⟨x0, x1, x2, x3, u⟩ := (d : Int × (List Int) × Int × Int × Unit)
    have hp := PkS.un_pack h
    subst hp
    exact (espec_l1Cur_places @spec_l1Cur_pick @spec_l1Cur_places_l3 n x0 x1 x2 x3 k).symm

/-! ### (*loop.example/g00269/spec.l1Cur).net -/
theorem cspec_l1Cur_net (n : Nat) : AllOk Try.prog [(99, Kspec_l1Cur_pick @spec_l1Cur_pick n), (112, Kspec_l1Cur_one @spec_l1Cur_one n), (154, Kspec_l1Cur_places @spec_l1Cur_places n)] := ⟨okspec_l1Cur_pick n, ⟨okspec_l1Cur_one n, ⟨okspec_l1Cur_places n, trivial⟩⟩⟩
@[reducible] def Sspec_l1Cur_net_l5 : PkS := ⟨[.one (.box (100000, 0) 0), .one (.box (100000, 2) 0), .one (.box (100000, 4) 0), .one (.int .i64), .one (.box (100000, 0) 0)], [((100000, 0), .box [.ro (.int .u8), .int .i64, .int .u64]), ((100000, 1), .arr (.pr (.sl (.int .i64)) (.sl (.int .i64)))), ((100000, 2), .box [.int .i64, .whole (100000, 1)]), ((100000, 3), .arr (.pr (.sl (.int .i64)) (.sl (.int .i64)))), ((100000, 4), .box [.int .i64, .whole (100000, 3)])]⟩
@[reducible] def Tspec_l1Cur_net_l5_0 : PkS := ⟨[.one (.box (100000, 0) 0), .one (.box (100000, 2) 0), .one (.box (100000, 4) 0), .one (.box (100000, 0) 0)], [((100000, 0), .box [.ro (.int .u8), .int .i64, .int .u64]), ((100000, 1), .arr (.pr (.sl (.int .i64)) (.sl (.int .i64)))), ((100000, 2), .box [.int .i64, .whole (100000, 1)]), ((100000, 3), .arr (.pr (.sl (.int .i64)) (.sl (.int .i64)))), ((100000, 4), .box [.int .i64, .whole (100000, 3)])]⟩
def Dspec_l1Cur_net_l5 : LoopD := ⟨121, [0, 2, 3, 4], [.box [(.ro (.int .u8)), .any, .any], .box [.any, (.own (.pr (.sl (.int .i64)) (.sl (.int .i64))))], .box [.any, (.own (.pr (.sl (.int .i64)) (.sl (.int .i64))))], .one .any, .box [(.ro (.int .u8)), .any, .any]], fun x => match x with
  | .exit 1 => some ([0, 2, 3], [.box [(.ro (.int .u8)), .any, .any], .box [.any, (.own (.pr (.sl (.int .i64)) (.sl (.int .i64))))], .box [.any, (.own (.pr (.sl (.int .i64)) (.sl (.int .i64))))], .box [(.ro (.int .u8)), .any, .any]])
  | _ => none⟩
def Pspec_l1Cur_net_l5 (g : ∀ {R : Type}, Nat → Int → (List Int) → Int → Int → (List (List Int × List Int)) → Int → (List (List Int × List Int)) → Int → ((List Int) → Int → Int → (List (List Int × List Int)) → Int → (List (List Int × List Int)) → Int → Option R) → Option R) (n : Nat) : LPs := fun R q kk => match (PkS.un Sspec_l1Cur_net_l5 q : Option (Int × (List Int) × Int × Int × (List (List Int × List Int)) × Int × (List (List Int × List Int)) × Int × Unit)) with
  | some (y5_0, y5_1, y5_2, y5_3, y5_4, y5_5, y5_6, y5_7, _) => g n y5_0 y5_1 y5_2 y5_3 y5_4 y5_5 y5_6 y5_7 (fun r0 r1 r2 r3 r4 r5 r6 => kk (.exit 1) (PkS.pack Tspec_l1Cur_net_l5_0 (r0, r1, r2, r3, r4, r5, r6, ())))
  | none => none
theorem espec_l1Cur_net_l5 (spec_l1Cur_pick : ∀ {R : Type}, Nat → Int → (List Int) → Int → Int → (Int → (List Int) → Int → Int → Option R) → Option R) (spec_l1Cur_one : ∀ {R : Type}, Nat → Int → (List Int) → Int → Int → (Bool → (List Int) → Int → Int → Option R) → Option R) (spec_l1Cur_places : ∀ {R : Type}, Nat → Int → (List Int) → Int → Int → ((List Int) → (List Int) → Int → Int → Option R) → Option R) (spec_l1Cur_net_l5 : ∀ {R : Type}, Nat → Int → (List Int) → Int → Int → (List (List Int × List Int)) → Int → (List (List Int × List Int)) → Int → ((List Int) → Int → Int → (List (List Int × List Int)) → Int → (List (List Int × List Int)) → Int → Option R) → Option R) {R : Type} (n : Nat) (y5_0 : Int) (y5_1 : List Int) (y5_2 : Int) (y5_3 : Int) (y5_4 : List (List Int × List Int)) (y5_5 : Int) (y5_6 : List (List Int × List Int)) (y5_7 : Int) (kk : Ex → Pk → Option R) : Dspec_l1Cur_net_l5.step tt sig (mkK [(99, Kspec_l1Cur_pick @spec_l1Cur_pick n), (112, Kspec_l1Cur_one @spec_l1Cur_one n), (154, Kspec_l1Cur_places @spec_l1Cur_places n)] R) (mkL (mkK [(99, Kspec_l1Cur_pick @spec_l1Cur_pick n), (112, Kspec_l1Cur_one @spec_l1Cur_one n), (154, Kspec_l1Cur_places @spec_l1Cur_places n)]) [] R) (loopIn 5 (bodyOf Try.f113)) (fun q' => Pspec_l1Cur_net_l5 @spec_l1Cur_net_l5 n R q' kk) (PkS.pack Sspec_l1Cur_net_l5 (y5_0, y5_1, y5_2, y5_3, y5_4, y5_5, y5_6, y5_7, ())) kk = (fun (kexit1 : (List Int) → Int → Int → (List (List Int × List Int)) → Int → (List (List Int × List Int)) → Int → Option R) => (bif (decide (y5_0 < y5_7)) then (bif decide (y5_6.length + ([([(IntKind.wrap .i64 (y5_0 - 1))], [y5_0])]).length ≤ LIM) then spec_l1Cur_net_l5 n (IntKind.wrap .i64 (y5_0 + 1)) y5_1 y5_2 y5_3 y5_4 y5_5 (y5_6 ++ [([(IntKind.wrap .i64 (y5_0 - 1))], [y5_0])]) y5_7 kexit1 else none) else kexit1 y5_1 y5_2 y5_3 y5_4 y5_5 y5_6 y5_7)) (fun r0 r1 r2 r3 r4 r5 r6 => kk (.exit 1) (PkS.pack Tspec_l1Cur_net_l5_0 (r0, r1, r2, r3, r4, r5, r6, ()))) := by kernel_rfl
theorem lespec_l1Cur_net_l5 : LoopEq tt sig (fun n => mkK [(99, Kspec_l1Cur_pick @spec_l1Cur_pick n), (112, Kspec_l1Cur_one @spec_l1Cur_one n), (154, Kspec_l1Cur_places @spec_l1Cur_places n)]) (fun n => mkL (mkK [(99, Kspec_l1Cur_pick @spec_l1Cur_pick n), (112, Kspec_l1Cur_one @spec_l1Cur_one n), (154, Kspec_l1Cur_places @spec_l1Cur_places n)]) []) Dspec_l1Cur_net_l5 Sspec_l1Cur_net_l5 (loopIn 5 (bodyOf Try.f113)) (Pspec_l1Cur_net_l5 @spec_l1Cur_net_l5) where
  zero R q kk := by unfold Pspec_l1Cur_net_l5; cases (PkS.un Sspec_l1Cur_net_l5 q) <;> rfl
  succ n R q kk := by
    unfold Pspec_l1Cur_net_l5
    cases h : (PkS.un Sspec_l1Cur_net_l5 q) with
    | none => rfl
    | some d =>
      obtain ⟨y5_0, y5_1, y5_2, y5_3, y5_4, y5_5, y5_6, y5_7, u⟩ := (d : Int × (List Int) × Int × Int × (List (List Int × List Int)) × Int × (List (List Int × List Int)) × Int × Unit)
      have hp := PkS.un_pack h
      subst hp
      exact (espec_l1Cur_net_l5 @spec_l1Cur_pick @spec_l1Cur_one @spec_l1Cur_places @spec_l1Cur_net_l5 n y5_0 y5_1 y5_2 y5_3 y5_4 y5_5 y5_6 y5_7 kk).symm
theorem nlspec_l1Cur_net_l5 : ∀ n, NatLP (Pspec_l1Cur_net_l5 @spec_l1Cur_net_l5 n) := lespec_l1Cur_net_l5.nat (fun n => mkK_nat (cspec_l1Cur_net n)) fun n => mkL_nat (mkK_nat (cspec_l1Cur_net n)) (l := []) trivial
theorem inspec_l1Cur_net_l5 (n : Nat) (R : Type) : LoopsOk Try.prog (mkL (mkK [(99, Kspec_l1Cur_pick @spec_l1Cur_pick n), (112, Kspec_l1Cur_one @spec_l1Cur_one n), (154, Kspec_l1Cur_places @spec_l1Cur_places n)]) [] R) (loopIn 5 (bodyOf Try.f113)) := .eq (l := []) (by kernel_rfl) trivial
theorem lkspec_l1Cur_net_l5 (n : Nat) (R : Type) (L0 : LK R) (h0 : ∀ id, firstRegion (loopIn 5 (bodyOf Try.f113)) = some id → L0 id = Dspec_l1Cur_net_l5.oracle (mkK [(99, Kspec_l1Cur_pick @spec_l1Cur_pick n), (112, Kspec_l1Cur_one @spec_l1Cur_one n), (154, Kspec_l1Cur_places @spec_l1Cur_places n)] R) (Pspec_l1Cur_net_l5 @spec_l1Cur_net_l5 n R)) : LoopOk Try.prog L0 (loopIn 5 (bodyOf Try.f113)) :=
  lespec_l1Cur_net_l5.ok mixed ttok (fun n => mkK_nat (cspec_l1Cur_net n)) (fun n => mkK_ok (cspec_l1Cur_net n)) (fun n => inspec_l1Cur_net_l5 n R) (mkK_nat (cspec_l1Cur_net n)) h0
@[reducible] def Sspec_l1Cur_net_l18 : PkS := ⟨[.one (.box (100000, 0) 0), .one (.box (100000, 2) 0), .one (.box (100000, 4) 0), .one (.int .i64), .one (.box (100000, 0) 0)], [((100000, 0), .box [.ro (.int .u8), .int .i64, .int .u64]), ((100000, 1), .arr (.pr (.sl (.int .i64)) (.sl (.int .i64)))), ((100000, 2), .box [.int .i64, .whole (100000, 1)]), ((100000, 3), .arr (.pr (.sl (.int .i64)) (.sl (.int .i64)))), ((100000, 4), .box [.int .i64, .whole (100000, 3)])]⟩
@[reducible] def Tspec_l1Cur_net_l18_0 : PkS := ⟨[.one (.box (100000, 0) 0), .one (.box (100000, 2) 0), .one (.box (100000, 4) 0), .one (.box (100000, 0) 0)], [((100000, 0), .box [.ro (.int .u8), .int .i64, .int .u64]), ((100000, 1), .arr (.pr (.sl (.int .i64)) (.sl (.int .i64)))), ((100000, 2), .box [.int .i64, .whole (100000, 1)]), ((100000, 3), .arr (.pr (.sl (.int .i64)) (.sl (.int .i64)))), ((100000, 4), .box [.int .i64, .whole (100000, 3)])]⟩
def Dspec_l1Cur_net_l18 : LoopD := ⟨121, [0, 2, 6, 7], [.box [(.ro (.int .u8)), .any, .any], .box [.any, (.own (.pr (.sl (.int .i64)) (.sl (.int .i64))))], .box [.any, (.own (.pr (.sl (.int .i64)) (.sl (.int .i64))))], .one .any, .box [(.ro (.int .u8)), .any, .any]], fun x => match x with
  | .exit 3 => some ([0, 2, 6], [.box [(.ro (.int .u8)), .any, .any], .box [.any, (.own (.pr (.sl (.int .i64)) (.sl (.int .i64))))], .box [.any, (.own (.pr (.sl (.int .i64)) (.sl (.int .i64))))], .box [(.ro (.int .u8)), .any, .any]])
  | _ => none⟩
def Pspec_l1Cur_net_l18 (g : ∀ {R : Type}, Nat → Int → (List Int) → Int → Int → (List (List Int × List Int)) → Int → (List (List Int × List Int)) → Int → ((List Int) → Int → Int → (List (List Int × List Int)) → Int → (List (List Int × List Int)) → Int → Option R) → Option R) (n : Nat) : LPs := fun R q kk => match (PkS.un Sspec_l1Cur_net_l18 q : Option (Int × (List Int) × Int × Int × (List (List Int × List Int)) × Int × (List (List Int × List Int)) × Int × Unit)) with
  | some (y18_0, y18_1, y18_2, y18_3, y18_4, y18_5, y18_6, y18_7, _) => g n y18_0 y18_1 y18_2 y18_3 y18_4 y18_5 y18_6 y18_7 (fun r0 r1 r2 r3 r4 r5 r6 => kk (.exit 3) (PkS.pack Tspec_l1Cur_net_l18_0 (r0, r1, r2, r3, r4, r5, r6, ())))
  | none => none
theorem espec_l1Cur_net_l18 (spec_l1Cur_pick : ∀ {R : Type}, Nat → Int → (List Int) → Int → Int → (Int → (List Int) → Int → Int → Option R) → Option R) (spec_l1Cur_one : ∀ {R : Type}, Nat → Int → (List Int) → Int → Int → (Bool → (List Int) → Int → Int → Option R) → Option R) (spec_l1Cur_places : ∀ {R : Type}, Nat → Int → (List Int) → Int → Int → ((List Int) → (List Int) → Int → Int → Option R) → Option R) (spec_l1Cur_net_l5 : ∀ {R : Type}, Nat → Int → (List Int) → Int → Int → (List (List Int × List Int)) → Int → (List (List Int × List Int)) → Int → ((List Int) → Int → Int → (List (List Int × List Int)) → Int → (List (List Int × List Int)) → Int → Option R) → Option R) (spec_l1Cur_net_l18 : ∀ {R : Type}, Nat → Int → (List Int) → Int → Int → (List (List Int × List Int)) → Int → (List (List Int × List Int)) → Int → ((List Int) → Int → Int → (List (List Int × List Int)) → Int → (List (List Int × List Int)) → Int → Option R) → Option R) {R : Type} (n : Nat) (y18_0 : Int) (y18_1 : List Int) (y18_2 : Int) (y18_3 : Int) (y18_4 : List (List Int × List Int)) (y18_5 : Int) (y18_6 : List (List Int × List Int)) (y18_7 : Int) (kk : Ex → Pk → Option R) : Dspec_l1Cur_net_l18.step tt sig (mkK [(99, Kspec_l1Cur_pick @spec_l1Cur_pick n), (112, Kspec_l1Cur_one @spec_l1Cur_one n), (154, Kspec_l1Cur_places @spec_l1Cur_places n)] R) (mkL (mkK [(99, Kspec_l1Cur_pick @spec_l1Cur_pick n), (112, Kspec_l1Cur_one @spec_l1Cur_one n), (154, Kspec_l1Cur_places @spec_l1Cur_places n)]) [(5, Dspec_l1Cur_net_l5, Pspec_l1Cur_net_l5 @spec_l1Cur_net_l5 n)] R) (loopIn 18 (bodyOf Try.f113)) (fun q' => Pspec_l1Cur_net_l18 @spec_l1Cur_net_l18 n R q' kk) (PkS.pack Sspec_l1Cur_net_l18 (y18_0, y18_1, y18_2, y18_3, y18_4, y18_5, y18_6, y18_7, ())) kk = (fun (kexit3 : (List Int) → Int → Int → (List (List Int × List Int)) → Int → (List (List Int × List Int)) → Int → Option R) => (bif (decide (y18_0 > 0)) then (spec_l1Cur_places n y18_7 y18_1 y18_2 y18_3 fun r44 r45 r46 r47 => (spec_l1Cur_places n y18_7 r45 r46 r47 fun r48 r49 r50 r51 => (bif decide (y18_6.length + ([(r44, r48)]).length ≤ LIM) then spec_l1Cur_net_l18 n (IntKind.wrap .i64 (y18_0 - 1)) r49 r50 r51 y18_4 y18_5 (y18_6 ++ [(r44, r48)]) y18_7 kexit3 else none))) else kexit3 y18_1 y18_2 y18_3 y18_4 y18_5 y18_6 y18_7)) (fun r0 r1 r2 r3 r4 r5 r6 => kk (.exit 3) (PkS.pack Tspec_l1Cur_net_l18_0 (r0, r1, r2, r3, r4, r5, r6, ()))) := by kernel_rfl
theorem lespec_l1Cur_net_l18 : LoopEq tt sig (fun n => mkK [(99, Kspec_l1Cur_pick @spec_l1Cur_pick n), (112, Kspec_l1Cur_one @spec_l1Cur_one n), (154, Kspec_l1Cur_places @spec_l1Cur_places n)]) (fun n => mkL (mkK [(99, Kspec_l1Cur_pick @spec_l1Cur_pick n), (112, Kspec_l1Cur_one @spec_l1Cur_one n), (154, Kspec_l1Cur_places @spec_l1Cur_places n)]) [(5, Dspec_l1Cur_net_l5, Pspec_l1Cur_net_l5 @spec_l1Cur_net_l5 n)]) Dspec_l1Cur_net_l18 Sspec_l1Cur_net_l18 (loopIn 18 (bodyOf Try.f113)) (Pspec_l1Cur_net_l18 @spec_l1Cur_net_l18) where
  zero R q kk := by unfold Pspec_l1Cur_net_l18; cases (PkS.un Sspec_l1Cur_net_l18 q) <;> rfl
  succ n R q kk := by
    unfold Pspec_l1Cur_net_l18
    cases h : (PkS.un Sspec_l1Cur_net_l18 q) with
    | none => rfl
    | some d =>
      obtain ⟨y18_0, y18_1, y18_2, y18_3, y18_4, y18_5, y18_6, y18_7, u⟩ := (d : Int × (List Int) × Int × Int × (List (List Int × List Int)) × Int × (List (List Int × List Int)) × Int × Unit)
      have hp := PkS.un_pack h
      subst hp
      exact (espec_l1Cur_net_l18 @spec_l1Cur_pick @spec_l1Cur_one @spec_l1Cur_places @spec_l1Cur_net_l5 @spec_l1Cur_net_l18 n y18_0 y18_1 y18_2 y18_3 y18_4 y18_5 y18_6 y18_7 kk).symm
theorem nlspec_l1Cur_net_l18 : ∀ n, NatLP (Pspec_l1Cur_net_l18 @spec_l1Cur_net_l18 n) := lespec_l1Cur_net_l18.nat (fun n => mkK_nat (cspec_l1Cur_net n)) fun n => mkL_nat (mkK_nat (cspec_l1Cur_net n)) (l := [(5, Dspec_l1Cur_net_l5, Pspec_l1Cur_net_l5 @spec_l1Cur_net_l5 n)]) ⟨nlspec_l1Cur_net_l5 n, trivial⟩
theorem inspec_l1Cur_net_l18 (n : Nat) (R : Type) : LoopsOk Try.prog (mkL (mkK [(99, Kspec_l1Cur_pick @spec_l1Cur_pick n), (112, Kspec_l1Cur_one @spec_l1Cur_one n), (154, Kspec_l1Cur_places @spec_l1Cur_places n)]) [(5, Dspec_l1Cur_net_l5, Pspec_l1Cur_net_l5 @spec_l1Cur_net_l5 n)] R) (loopIn 18 (bodyOf Try.f113)) := .eq (l := []) (by kernel_rfl) trivial
theorem lkspec_l1Cur_net_l18 (n : Nat) (R : Type) (L0 : LK R) (h0 : ∀ id, firstRegion (loopIn 18 (bodyOf Try.f113)) = some id → L0 id = Dspec_l1Cur_net_l18.oracle (mkK [(99, Kspec_l1Cur_pick @spec_l1Cur_pick n), (112, Kspec_l1Cur_one @spec_l1Cur_one n), (154, Kspec_l1Cur_places @spec_l1Cur_places n)] R) (Pspec_l1Cur_net_l18 @spec_l1Cur_net_l18 n R)) : LoopOk Try.prog L0 (loopIn 18 (bodyOf Try.f113)) :=
  lespec_l1Cur_net_l18.ok mixed ttok (fun n => mkK_nat (cspec_l1Cur_net n)) (fun n => mkK_ok (cspec_l1Cur_net n)) (fun n => inspec_l1Cur_net_l18 n R) (mkK_nat (cspec_l1Cur_net n)) h0
@[reducible] def Sspec_l1Cur_net : PkS := ⟨[.one (.box (200000, 0) 0)], [((200000, 0), .box [.ro (.int .u8), .int .i64, .int .u64])]⟩
@[reducible] def Tspec_l1Cur_net : PkS := ⟨[.agg [.int .i64, .whole (300000, 0)], .one (.box (300000, 1) 0)], [((300000, 0), .arr (.pr (.sl (.int .i64)) (.sl (.int .i64)))), ((300000, 1), .box [.ro (.int .u8), .int .i64, .int .u64])]⟩
def Hspec_l1Cur_net : List Sh := [.agg [.any, (.own (.pr (.sl (.int .i64)) (.sl (.int .i64))))], .box [(.ro (.int .u8)), .any, .any]]
def Kspec_l1Cur_net (g : ∀ {R : Type}, Nat → (List Int) → Int → Int → (Int → (List (List Int × List Int)) → (List Int) → Int → Int → Option R) → Option R) (n : Nat) : KPs := fun R p k => match (PkS.un Sspec_l1Cur_net p : Option ((List Int) × Int × Int × Unit)) with
  | some (x0, x1, x2, _) => g n x0 x1 x2 (fun r0 r1 r2 r3 r4 => k (PkS.pack Tspec_l1Cur_net (r0, r1, r2, r3, r4, ())))
  | none => none
theorem espec_l1Cur_net (spec_l1Cur_pick : ∀ {R : Type}, Nat → Int → (List Int) → Int → Int → (Int → (List Int) → Int → Int → Option R) → Option R) (spec_l1Cur_one : ∀ {R : Type}, Nat → Int → (List Int) → Int → Int → (Bool → (List Int) → Int → Int → Option R) → Option R) (spec_l1Cur_places : ∀ {R : Type}, Nat → Int → (List Int) → Int → Int → ((List Int) → (List Int) → Int → Int → Option R) → Option R) (spec_l1Cur_net_l5 : ∀ {R : Type}, Nat → Int → (List Int) → Int → Int → (List (List Int × List Int)) → Int → (List (List Int × List Int)) → Int → ((List Int) → Int → Int → (List (List Int × List Int)) → Int → (List (List Int × List Int)) → Int → Option R) → Option R) (spec_l1Cur_net_l18 : ∀ {R : Type}, Nat → Int → (List Int) → Int → Int → (List (List Int × List Int)) → Int → (List (List Int × List Int)) → Int → ((List Int) → Int → Int → (List (List Int × List Int)) → Int → (List (List Int × List Int)) → Int → Option R) → Option R) {R : Type} (n : Nat) (x0 : List Int) (x1 : Int) (x2 : Int) (k : Pk → Option R) : evF tt sig (mkK [(99, Kspec_l1Cur_pick @spec_l1Cur_pick n), (112, Kspec_l1Cur_one @spec_l1Cur_one n), (154, Kspec_l1Cur_places @spec_l1Cur_places n)] R) (mkL (mkK [(99, Kspec_l1Cur_pick @spec_l1Cur_pick n), (112, Kspec_l1Cur_one @spec_l1Cur_one n), (154, Kspec_l1Cur_places @spec_l1Cur_places n)]) [(5, Dspec_l1Cur_net_l5, Pspec_l1Cur_net_l5 @spec_l1Cur_net_l5 n), (18, Dspec_l1Cur_net_l18, Pspec_l1Cur_net_l18 @spec_l1Cur_net_l18 n)] R) Try.f113 Hspec_l1Cur_net (PkS.pack Sspec_l1Cur_net (x0, x1, x2, ())) k = (fun (k : Int → (List (List Int × List Int)) → (List Int) → Int → Int → Option R) => (spec_l1Cur_pick n 4 x0 x1 x2 fun r1 r2 r3 r4 => (bif (r1 == 0) then (spec_l1Cur_pick n 4 r2 r3 r4 fun r5 r6 r7 r8 => (spec_l1Cur_net_l5 n 1 r6 r7 r8 ([] : List (List Int × List Int)) 0 ([] : List (List Int × List Int)) (IntKind.wrap .i64 (2 + r5)) (fun r9 r10 r11 r12 r13 r14 r15 => (spec_l1Cur_one n 3 r9 r10 r11 fun r16 r17 r18 r19 => (bif r16 then (spec_l1Cur_pick n (IntKind.wrap .i64 (r15 - 1)) r17 r18 r19 fun r20 r21 r22 r23 => (spec_l1Cur_pick n (IntKind.wrap .i64 (r15 - 1)) r21 r22 r23 fun r24 r25 r26 r27 => (bif decide (r14.length + ([([r20], [r24])]).length ≤ LIM) then k r15 (r14 ++ [([r20], [r24])]) r25 r26 r27 else none))) else k r15 r14 r17 r18 r19))))) else (bif (r1 == 1) then (spec_l1Cur_one n 3 r2 r3 r4 fun r28 r29 r30 r31 => (bif r28 then (spec_l1Cur_pick n 2 r29 r30 r31 fun r32 r33 r34 r35 => (bif decide (3 < (([([0], [1, 2]), ([1], [3]), ([2], [4]), ([3, 4], [5])]).length : Int)) then k 6 (([([0], [1, 2]), ([1], [3]), ([2], [4]), ([3, 4], [5])]).set 3 ([(IntKind.wrap .i64 (3 + r32))], (([([0], [1, 2]), ([1], [3]), ([2], [4]), ([3, 4], [5])]).getD 3 ([], [])).2)) r33 r34 r35 else none)) else k 6 ([([0], [1, 2]), ([1], [3]), ([2], [4]), ([3, 4], [5])]) r29 r30 r31)) else (spec_l1Cur_pick n 5 r2 r3 r4 fun r36 r37 r38 r39 => (spec_l1Cur_pick n 5 r37 r38 r39 fun r40 r41 r42 r43 => (spec_l1Cur_net_l18 n r40 r41 r42 r43 ([] : List (List Int × List Int)) 0 ([] : List (List Int × List Int)) (IntKind.wrap .i64 (1 + r36)) (fun r52 r53 r54 r55 r56 r57 r58 => (spec_l1Cur_one n 30 r52 r53 r54 fun r59 r60 r61 r62 => (bif r59 then (bif (decide ((r57.length : Int) > 0)) then (bif decide (0 < (r57.length : Int)) then k r58 (r57.set 0 ([r58], (r57.getD 0 ([], [])).2)) r60 r61 r62 else none) else k r58 r57 r60 r61 r62) else k r58 r57 r60 r61 r62)))))))))) (fun r0 r1 r2 r3 r4 => k (PkS.pack Tspec_l1Cur_net (r0, r1, r2, r3, r4, ()))) := by kernel_rfl
theorem okspec_l1Cur_net (n : Nat) : FnOk Try.prog 113 (Kspec_l1Cur_net @spec_l1Cur_net n) := by
  refine fn_ok (sig := sig) mixed ttok (mkK_nat (cspec_l1Cur_net n)) (mkK_ok (cspec_l1Cur_net n)) (mkL_nat (mkK_nat (cspec_l1Cur_net n)) (l := [(5, Dspec_l1Cur_net_l5, Pspec_l1Cur_net_l5 @spec_l1Cur_net_l5 n), (18, Dspec_l1Cur_net_l18, Pspec_l1Cur_net_l18 @spec_l1Cur_net_l18 n)]) ⟨nlspec_l1Cur_net_l5 n, ⟨nlspec_l1Cur_net_l18 n, trivial⟩⟩) (fn := Try.f113) (c := bodyOf Try.f113) (by kernel_rfl) (by kernel_rfl) (by kernel_rfl) (.eq (l := [.lo (loopIn 5 (bodyOf Try.f113)), .lo (loopIn 18 (bodyOf Try.f113))]) (by kernel_rfl) ⟨(lkspec_l1Cur_net_l5 n _ _ (at_id (i := 5) (by kernel_rfl) rfl)), ⟨(lkspec_l1Cur_net_l18 n _ _ (at_id (i := 18) (by kernel_rfl) rfl)), trivial⟩⟩) (shs := Hspec_l1Cur_net) (S := Sspec_l1Cur_net) (h1 := by kernel_rfl) fun R p k => ?_
  unfold Kspec_l1Cur_net
  cases h : (PkS.un Sspec_l1Cur_net p) with
  | none => rfl
  | some d =>
    obtain ⟨x0, x1, x2, u⟩ := (d : (List Int) × Int × Int × Unit)
    have hp := PkS.un_pack h
    subst hp
    exact (espec_l1Cur_net @spec_l1Cur_pick @spec_l1Cur_one @spec_l1Cur_places @spec_l1Cur_net_l5 @spec_l1Cur_net_l18 n x0 x1 x2 k).symm

/-! ### loop.example/g00269/spec.DrawGoodNet -/
theorem cspec_DrawGoodNet (n : Nat) : AllOk Try.prog [(113, Kspec_l1Cur_net @spec_l1Cur_net n)] := ⟨okspec_l1Cur_net n, trivial⟩
@[reducible] def Sspec_DrawGoodNet : PkS := ⟨[.one (.ro (.int .u8))], []⟩
@[reducible] def Tspec_DrawGoodNet : PkS := ⟨[.agg [.int .i64, .whole (300000, 0)], .one (.dead)], [((300000, 0), .arr (.pr (.sl (.int .i64)) (.sl (.int .i64))))]⟩
def Hspec_DrawGoodNet : List Sh := [.agg [.any, (.own (.pr (.sl (.int .i64)) (.sl (.int .i64))))], .skip]
def Kspec_DrawGoodNet (g : ∀ {R : Type}, Nat → (List Int) → (Int → (List (List Int × List Int)) → Option R) → Option R) (n : Nat) : KPs := fun R p k => match (PkS.un Sspec_DrawGoodNet p : Option ((List Int) × Unit)) with
  | some (x0, _) => g n x0 (fun r0 r1 => k (PkS.pack Tspec_DrawGoodNet (r0, r1, ())))
  | none => none
theorem espec_DrawGoodNet (spec_l1Cur_net : ∀ {R : Type}, Nat → (List Int) → Int → Int → (Int → (List (List Int × List Int)) → (List Int) → Int → Int → Option R) → Option R) {R : Type} (n : Nat) (x0 : List Int) (k : Pk → Option R) : evF tt sig (mkK [(113, Kspec_l1Cur_net @spec_l1Cur_net n)] R) (mkL (mkK [(113, Kspec_l1Cur_net @spec_l1Cur_net n)]) [] R) Try.f128 Hspec_DrawGoodNet (PkS.pack Sspec_DrawGoodNet (x0, ())) k = (fun (k : Int → (List (List Int × List Int)) → Option R) => (spec_l1Cur_net n x0 0 0 fun r1 r2 r3 r4 r5 => k r1 r2)) (fun r0 r1 => k (PkS.pack Tspec_DrawGoodNet (r0, r1, ()))) := by kernel_rfl
theorem okspec_DrawGoodNet (n : Nat) : FnOk Try.prog 128 (Kspec_DrawGoodNet @spec_DrawGoodNet n) := by
  refine fn_ok (sig := sig) mixed ttok (mkK_nat (cspec_DrawGoodNet n)) (mkK_ok (cspec_DrawGoodNet n)) (mkL_nat (mkK_nat (cspec_DrawGoodNet n)) (l := []) trivial) (fn := Try.f128) (c := bodyOf Try.f128) (by kernel_rfl) (by kernel_rfl) (by kernel_rfl) (.eq (l := []) (by kernel_rfl) trivial) (shs := Hspec_DrawGoodNet) (S := Sspec_DrawGoodNet) (h1 := by kernel_rfl) fun R p k => ?_
  unfold Kspec_DrawGoodNet
  cases h : (PkS.un Sspec_DrawGoodNet p) with
  | none => rfl
  | some d =>
    obtain ⟨x0, u⟩ := (d : (List Int) × Unit)
    have hp := PkS.un_pack h
    subst hp
    exact (espec_DrawGoodNet @spec_l1Cur_net n x0 k).symm

/-! ### loop.example/g00269/spec.DrawIsSound -/
theorem cspec_DrawIsSound (n : Nat) : AllOk Try.prog [(128, Kspec_DrawGoodNet @spec_DrawGoodNet n)] := ⟨okspec_DrawGoodNet n, trivial⟩
@[reducible] def Sspec_DrawIsSound : PkS := ⟨[.one (.ro (.int .u8))], []⟩
@[reducible] def Tspec_DrawIsSound : PkS := ⟨[.agg [.int .i64, .whole (300000, 0)], .one (.dead)], [((300000, 0), .arr (.pr (.sl (.int .i64)) (.sl (.int .i64))))]⟩
def Hspec_DrawIsSound : List Sh := [.agg [.any, (.own (.pr (.sl (.int .i64)) (.sl (.int .i64))))], .skip]
def Kspec_DrawIsSound (g : ∀ {R : Type}, Nat → (List Int) → (Int → (List (List Int × List Int)) → Option R) → Option R) (n : Nat) : KPs := fun R p k => match (PkS.un Sspec_DrawIsSound p : Option ((List Int) × Unit)) with
  | some (x0, _) => g n x0 (fun r0 r1 => k (PkS.pack Tspec_DrawIsSound (r0, r1, ())))
  | none => none
theorem espec_DrawIsSound (spec_DrawGoodNet : ∀ {R : Type}, Nat → (List Int) → (Int → (List (List Int × List Int)) → Option R) → Option R) {R : Type} (n : Nat) (x0 : List Int) (k : Pk → Option R) : evF tt sig (mkK [(128, Kspec_DrawGoodNet @spec_DrawGoodNet n)] R) (mkL (mkK [(128, Kspec_DrawGoodNet @spec_DrawGoodNet n)]) [] R) Try.f64 Hspec_DrawIsSound (PkS.pack Sspec_DrawIsSound (x0, ())) k = (fun (k : Int → (List (List Int × List Int)) → Option R) => (spec_DrawGoodNet n x0 fun r1 r2 => k r1 r2)) (fun r0 r1 => k (PkS.pack Tspec_DrawIsSound (r0, r1, ()))) := by kernel_rfl
theorem okspec_DrawIsSound (n : Nat) : FnOk Try.prog 64 (Kspec_DrawIsSound @spec_DrawIsSound n) := by
  refine fn_ok (sig := sig) mixed ttok (mkK_nat (cspec_DrawIsSound n)) (mkK_ok (cspec_DrawIsSound n)) (mkL_nat (mkK_nat (cspec_DrawIsSound n)) (l := []) trivial) (fn := Try.f64) (c := bodyOf Try.f64) (by kernel_rfl) (by kernel_rfl) (by kernel_rfl) (.eq (l := []) (by kernel_rfl) trivial) (shs := Hspec_DrawIsSound) (S := Sspec_DrawIsSound) (h1 := by kernel_rfl) fun R p k => ?_
  unfold Kspec_DrawIsSound
  cases h : (PkS.un Sspec_DrawIsSound p) with
  | none => rfl
  | some d =>
    obtain ⟨x0, u⟩ := (d : (List Int) × Unit)
    have hp := PkS.un_pack h
    subst hp
    exact (espec_DrawIsSound @spec_DrawGoodNet n x0 k).symm

/-! ### loop.example/g00269/impl.in -/
theorem cimpl_in (n : Nat) : AllOk Try.prog [] := trivial
@[reducible] def Simpl_in : PkS := ⟨[.one (.int .i64), .one (.int .i64), .one (.int .i64)], []⟩
@[reducible] def Timpl_in : PkS := ⟨[.one (.bool), .one (.dead), .one (.dead), .one (.dead)], []⟩
def Himpl_in : List Sh := [.one .any, .skip, .skip, .skip]
def Kimpl_in (g : ∀ {R : Type}, Nat → Int → Int → Int → (Bool → Option R) → Option R) (n : Nat) : KPs := fun R p k => match (PkS.un Simpl_in p : Option (Int × Int × Int × Unit)) with
  | some (x0, x1, x2, _) => g n x0 x1 x2 (fun r0 => k (PkS.pack Timpl_in (r0, ())))
  | none => none
theorem eimpl_in  {R : Type} (n : Nat) (x0 : Int) (x1 : Int) (x2 : Int) (k : Pk → Option R) : evF tt sig (mkK [] R) (mkL (mkK []) [] R) Try.f80 Himpl_in (PkS.pack Simpl_in (x0, x1, x2, ())) k = (fun (k : Bool → Option R) => (bif (decide (x0 ≥ x1)) then k (decide (x0 ≤ x2)) else k false)) (fun r0 => k (PkS.pack Timpl_in (r0, ()))) := by kernel_rfl
theorem okimpl_in (n : Nat) : FnOk Try.prog 80 (Kimpl_in @impl_in n) := by
  refine fn_ok (sig := sig) mixed ttok (mkK_nat (cimpl_in n)) (mkK_ok (cimpl_in n)) (mkL_nat (mkK_nat (cimpl_in n)) (l := []) trivial) (fn := Try.f80) (c := bodyOf Try.f80) (by kernel_rfl) (by kernel_rfl) (by kernel_rfl) (.eq (l := []) (by kernel_rfl) trivial) (shs := Himpl_in) (S := Simpl_in) (h1 := by kernel_rfl) fun R p k => ?_
  unfold Kimpl_in
  cases h : (PkS.un Simpl_in p) with
  | none => rfl
  | some d =>
    obtain ⟨x0, x1, x2, u⟩ := (d : Int × Int × Int × Unit)
    have hp := PkS.un_pack h
    subst hp
    exact (eimpl_in  n x0 x1 x2 k).symm

/-! ### loop.example/g00269/impl.rising -/
theorem cimpl_rising (n : Nat) : AllOk Try.prog [(80, Kimpl_in @impl_in n)] := ⟨okimpl_in n, trivial⟩
@[reducible] def Simpl_rising_l2 : PkS := ⟨[.one (.ro (.int .i64)), .one (.int .i64), .one (.ro (.int .i64)), .one (.int .i64), .one (.int .i64), .one (.dead), .one (.dead)], []⟩
@[reducible] def Timpl_rising_l2_0 : PkS := ⟨[.one (.bool), .one (.dead), .one (.dead)], []⟩
@[reducible] def Timpl_rising_l2_1 : PkS := ⟨[.one (.dead), .one (.dead)], []⟩
def Dimpl_rising_l2 : LoopD := ⟨33, [0, 1, 7, 8, 9], [.one (.ro (.int .i64)), .one .any, .one (.ro (.int .i64)), .one .any, .one .any, .skip, .skip], fun x => match x with
  | .ret => some ([4], [.one .any, .skip, .skip])
  | .exit 0 => some ([], [.skip, .skip])
  | _ => none⟩
def Pimpl_rising_l2 (g : ∀ {R : Type}, Nat → (List Int) → Int → (List Int) → Int → Int → (Bool → Option R) → (Option R) → Option R) (n : Nat) : LPs := fun R q kk => match (PkS.un Simpl_rising_l2 q : Option ((List Int) × Int × (List Int) × Int × Int × Unit)) with
  | some (y2_0, y2_1, y2_2, y2_3, y2_4, _) => g n y2_0 y2_1 y2_2 y2_3 y2_4 (fun r0 => kk .ret (PkS.pack Timpl_rising_l2_0 (r0, ()))) (kk (.exit 0) (PkS.pack Timpl_rising_l2_1 ()))
  | none => none
theorem eimpl_rising_l2 (impl_in : ∀ {R : Type}, Nat → Int → Int → Int → (Bool → Option R) → Option R) (impl_rising_l2 : ∀ {R : Type}, Nat → (List Int) → Int → (List Int) → Int → Int → (Bool → Option R) → (Option R) → Option R) {R : Type} (n : Nat) (y2_0 : List Int) (y2_1 : Int) (y2_2 : List Int) (y2_3 : Int) (y2_4 : Int) (kk : Ex → Pk → Option R) : Dimpl_rising_l2.step tt sig (mkK [(80, Kimpl_in @impl_in n)] R) (mkL (mkK [(80, Kimpl_in @impl_in n)]) [] R) (loopIn 2 (bodyOf Try.f106)) (fun q' => Pimpl_rising_l2 @impl_rising_l2 n R q' kk) (PkS.pack Simpl_rising_l2 (y2_0, y2_1, y2_2, y2_3, y2_4, ())) kk = (fun (kret : Bool → Option R) (kexit0 : Option R) => (bif (decide (y2_4 < y2_3)) then (bif decide (0 ≤ y2_4) then (bif decide (y2_4 < (y2_2.length : Int)) then (impl_in n (y2_2.getD (Int.toNat y2_4) 0) 0 (IntKind.wrap .i64 (y2_1 - 1)) fun r1 => (bif (!r1) then kret false else (bif (decide (y2_4 > 0)) then (bif decide (0 ≤ (IntKind.wrap .i64 (y2_4 - 1))) then (bif decide ((IntKind.wrap .i64 (y2_4 - 1)) < (y2_0.length : Int)) then (bif (decide ((y2_0.getD (Int.toNat (IntKind.wrap .i64 (y2_4 - 1))) 0) ≥ (y2_2.getD (Int.toNat y2_4) 0))) then kret false else impl_rising_l2 n y2_0 y2_1 y2_2 y2_3 (IntKind.wrap .i64 (y2_4 + 1)) kret kexit0) else none) else none) else impl_rising_l2 n y2_0 y2_1 y2_2 y2_3 (IntKind.wrap .i64 (y2_4 + 1)) kret kexit0))) else none) else none) else kexit0)) (fun r0 => kk .ret (PkS.pack Timpl_rising_l2_0 (r0, ()))) (kk (.exit 0) (PkS.pack Timpl_rising_l2_1 ())) := by kernel_rfl
theorem leimpl_rising_l2 : LoopEq tt sig (fun n => mkK [(80, Kimpl_in @impl_in n)]) (fun n => mkL (mkK [(80, Kimpl_in @impl_in n)]) []) Dimpl_rising_l2 Simpl_rising_l2 (loopIn 2 (bodyOf Try.f106)) (Pimpl_rising_l2 @impl_rising_l2) where
  zero R q kk := by unfold Pimpl_rising_l2; cases (PkS.un Simpl_rising_l2 q) <;> rfl
  succ n R q kk := by
    unfold Pimpl_rising_l2
    cases h : (PkS.un Simpl_rising_l2 q) with
    | none => rfl
    | some d =>
      obtain ⟨y2_0, y2_1, y2_2, y2_3, y2_4, u⟩ := (d : (List Int) × Int × (List Int) × Int × Int × Unit)
      have hp := PkS.un_pack h
      subst hp
      exact (eimpl_rising_l2 @impl_in @impl_rising_l2 n y2_0 y2_1 y2_2 y2_3 y2_4 kk).symm
theorem nlimpl_rising_l2 : ∀ n, NatLP (Pimpl_rising_l2 @impl_rising_l2 n) := leimpl_rising_l2.nat (fun n => mkK_nat (cimpl_rising n)) fun n => mkL_nat (mkK_nat (cimpl_rising n)) (l := []) trivial
theorem inimpl_rising_l2 (n : Nat) (R : Type) : LoopsOk Try.prog (mkL (mkK [(80, Kimpl_in @impl_in n)]) [] R) (loopIn 2 (bodyOf Try.f106)) := .eq (l := []) (by kernel_rfl) trivial
theorem lkimpl_rising_l2 (n : Nat) (R : Type) (L0 : LK R) (h0 : ∀ id, firstRegion (loopIn 2 (bodyOf Try.f106)) = some id → L0 id = Dimpl_rising_l2.oracle (mkK [(80, Kimpl_in @impl_in n)] R) (Pimpl_rising_l2 @impl_rising_l2 n R)) : LoopOk Try.prog L0 (loopIn 2 (bodyOf Try.f106)) :=
  leimpl_rising_l2.ok mixed ttok (fun n => mkK_nat (cimpl_rising n)) (fun n => mkK_ok (cimpl_rising n)) (fun n => inimpl_rising_l2 n R) (mkK_nat (cimpl_rising n)) h0
@[reducible] def Simpl_rising : PkS := ⟨[.one (.ro (.int .i64)), .one (.int .i64)], []⟩
@[reducible] def Timpl_rising : PkS := ⟨[.one (.bool), .one (.dead), .one (.dead)], []⟩
def Himpl_rising : List Sh := [.one .any, .skip, .skip]
def Kimpl_rising (g : ∀ {R : Type}, Nat → (List Int) → Int → (Bool → Option R) → Option R) (n : Nat) : KPs := fun R p k => match (PkS.un Simpl_rising p : Option ((List Int) × Int × Unit)) with
  | some (x0, x1, _) => g n x0 x1 (fun r0 => k (PkS.pack Timpl_rising (r0, ())))
  | none => none
theorem eimpl_rising (impl_in : ∀ {R : Type}, Nat → Int → Int → Int → (Bool → Option R) → Option R) (impl_rising_l2 : ∀ {R : Type}, Nat → (List Int) → Int → (List Int) → Int → Int → (Bool → Option R) → (Option R) → Option R) {R : Type} (n : Nat) (x0 : List Int) (x1 : Int) (k : Pk → Option R) : evF tt sig (mkK [(80, Kimpl_in @impl_in n)] R) (mkL (mkK [(80, Kimpl_in @impl_in n)]) [(2, Dimpl_rising_l2, Pimpl_rising_l2 @impl_rising_l2 n)] R) Try.f106 Himpl_rising (PkS.pack Simpl_rising (x0, x1, ())) k = (fun (k : Bool → Option R) => (impl_rising_l2 n x0 x1 x0 (x0.length : Int) 0 (fun r2 => k r2) (k true))) (fun r0 => k (PkS.pack Timpl_rising (r0, ()))) := by kernel_rfl
theorem okimpl_rising (n : Nat) : FnOk Try.prog 106 (Kimpl_rising @impl_rising n) := by
  refine fn_ok (sig := sig) mixed ttok (mkK_nat (cimpl_rising n)) (mkK_ok (cimpl_rising n)) (mkL_nat (mkK_nat (cimpl_rising n)) (l := [(2, Dimpl_rising_l2, Pimpl_rising_l2 @impl_rising_l2 n)]) ⟨nlimpl_rising_l2 n, trivial⟩) (fn := Try.f106) (c := bodyOf Try.f106) (by kernel_rfl) (by kernel_rfl) (by kernel_rfl) (.eq (l := [.lo (loopIn 2 (bodyOf Try.f106))]) (by kernel_rfl) ⟨(lkimpl_rising_l2 n _ _ (at_id (i := 2) (by kernel_rfl) rfl)), trivial⟩) (shs := Himpl_rising) (S := Simpl_rising) (h1 := by kernel_rfl) fun R p k => ?_
  unfold Kimpl_rising
  cases h : (PkS.un Simpl_rising p) with
  | none => rfl
  | some d =>
    obtain ⟨x0, x1, u⟩ := (d : (List Int) × Int × Unit)
    have hp := PkS.un_pack h
    subst hp
    exact (eimpl_rising @impl_in @impl_rising_l2 n x0 x1 k).symm

/-! ### loop.example/g00269/impl.GoodNet$1 -/
theorem cimpl_GoodNet_c1 (n : Nat) : AllOk Try.prog [(106, Kimpl_rising @impl_rising n)] := ⟨okimpl_rising n, trivial⟩
@[reducible] def Simpl_GoodNet_c1 : PkS := ⟨[.agg [.ro (.int .i64), .ro (.int .i64)], .one (.box (200000, 0) 0)], [((200000, 0), .box [.int .i64, .ro (.pr (.sl (.int .i64)) (.sl (.int .i64)))])]⟩
@[reducible] def Timpl_GoodNet_c1 : PkS := ⟨[.one (.bool), .one (.dead), .one (.box (300000, 0) 0)], [((300000, 0), .box [.int .i64, .ro (.pr (.sl (.int .i64)) (.sl (.int .i64)))])]⟩
def Himpl_GoodNet_c1 : List Sh := [.one .any, .skip, .box [.any, (.ro (.pr (.sl (.int .i64)) (.sl (.int .i64))))]]
def Kimpl_GoodNet_c1 (g : ∀ {R : Type}, Nat → (List Int) → (List Int) → Int → (List (List Int × List Int)) → (Bool → Int → (List (List Int × List Int)) → Option R) → Option R) (n : Nat) : KPs := fun R p k => match (PkS.un Simpl_GoodNet_c1 p : Option ((List Int) × (List Int) × Int × (List (List Int × List Int)) × Unit)) with
  | some (x0, x1, x2, x3, _) => g n x0 x1 x2 x3 (fun r0 r1 r2 => k (PkS.pack Timpl_GoodNet_c1 (r0, r1, r2, ())))
  | none => none
theorem eimpl_GoodNet_c1 (impl_rising : ∀ {R : Type}, Nat → (List Int) → Int → (Bool → Option R) → Option R) {R : Type} (n : Nat) (x0 : List Int) (x1 : List Int) (x2 : Int) (x3 : List (List Int × List Int)) (k : Pk → Option R) : evF tt sig (mkK [(106, Kimpl_rising @impl_rising n)] R) (mkL (mkK [(106, Kimpl_rising @impl_rising n)]) [] R) Try.f118 Himpl_GoodNet_c1 (PkS.pack Simpl_GoodNet_c1 (x0, x1, x2, x3, ())) k = (fun (k : Bool → Int → (List (List Int × List Int)) → Option R) => (impl_rising n x0 x2 fun r1 => (bif (!r1) then k true x2 x3 else (impl_rising n x1 x2 fun r2 => k (!r2) x2 x3)))) (fun r0 r1 r2 => k (PkS.pack Timpl_GoodNet_c1 (r0, r1, r2, ()))) := by kernel_rfl
theorem okimpl_GoodNet_c1 (n : Nat) : FnOk Try.prog 118 (Kimpl_GoodNet_c1 @impl_GoodNet_c1 n) := by
  refine fn_ok (sig := sig) mixed ttok (mkK_nat (cimpl_GoodNet_c1 n)) (mkK_ok (cimpl_GoodNet_c1 n)) (mkL_nat (mkK_nat (cimpl_GoodNet_c1 n)) (l := []) trivial) (fn := Try.f118) (c := bodyOf Try.f118) (by kernel_rfl) (by kernel_rfl) (by kernel_rfl) (.eq (l := []) (by kernel_rfl) trivial) (shs := Himpl_GoodNet_c1) (S := Simpl_GoodNet_c1) (h1 := by kernel_rfl) fun R p k => ?_
  unfold Kimpl_GoodNet_c1
  cases h : (PkS.un Simpl_GoodNet_c1 p) with
  | none => rfl
  | some d =>
    obtain ⟨x0, x1, x2, x3, u⟩ := (d : (List Int) × (List Int) × Int × (List (List Int × List Int)) × Unit)
    have hp := PkS.un_pack h
    subst hp
    exact (eimpl_GoodNet_c1 @impl_rising n x0 x1 x2 x3 k).symm

/-! ### slices.IndexFunc[[]loop.example/g00269/impl.Step,loop.example/g00269/impl.Step] -/
theorem cslices_IndexFunc_impl_Step_impl_GoodNet_c1 (n : Nat) : AllOk Try.prog [(118, Kimpl_GoodNet_c1 @impl_GoodNet_c1 n)] := ⟨okimpl_GoodNet_c1 n, trivial⟩
@[reducible] def Sslices_IndexFunc_impl_Step_impl_GoodNet_c1_l2 : PkS := ⟨[.one (.ro (.pr (.sl (.int .i64)) (.sl (.int .i64)))), .one (.fn 118 [((100000, 0), 0)]), .one (.int .i64), .one (.int .i64), .one (.dead), .one (.fn 118 [((100000, 0), 0)])], [((100000, 0), .box [.int .i64, .ro (.pr (.sl (.int .i64)) (.sl (.int .i64)))])]⟩
@[reducible] def Tslices_IndexFunc_impl_Step_impl_GoodNet_c1_l2_0 : PkS := ⟨[.one (.int .i64), .one (.dead), .one (.fn 118 [((100000, 0), 0)])], [((100000, 0), .box [.int .i64, .ro (.pr (.sl (.int .i64)) (.sl (.int .i64)))])]⟩
@[reducible] def Tslices_IndexFunc_impl_Step_impl_GoodNet_c1_l2_1 : PkS := ⟨[.one (.dead), .one (.fn 118 [((100000, 0), 0)])], [((100000, 0), .box [.int .i64, .ro (.pr (.sl (.int .i64)) (.sl (.int .i64)))])]⟩
def Dslices_IndexFunc_impl_Step_impl_GoodNet_c1_l2 : LoopD := ⟨19, [0, 1, 7, 8], [.one (.ro (.pr (.sl (.int .i64)) (.sl (.int .i64)))), .fn 118 [[.any, (.ro (.pr (.sl (.int .i64)) (.sl (.int .i64))))]], .one .any, .one .any, .skip, .fn 118 [[.any, (.ro (.pr (.sl (.int .i64)) (.sl (.int .i64))))]]], fun x => match x with
  | .ret => some ([4], [.one .any, .skip, .fn 118 [[.any, (.ro (.pr (.sl (.int .i64)) (.sl (.int .i64))))]]])
  | .exit 0 => some ([], [.skip, .fn 118 [[.any, (.ro (.pr (.sl (.int .i64)) (.sl (.int .i64))))]]])
  | _ => none⟩
def Pslices_IndexFunc_impl_Step_impl_GoodNet_c1_l2 (g : ∀ {R : Type}, Nat → (List (List Int × List Int)) → Int → Int → Int → (List (List Int × List Int)) → (Int → Int → (List (List Int × List Int)) → Option R) → (Int → (List (List Int × List Int)) → Option R) → Option R) (n : Nat) : LPs := fun R q kk => match (PkS.un Sslices_IndexFunc_impl_Step_impl_GoodNet_c1_l2 q : Option ((List (List Int × List Int)) × Int × Int × Int × (List (List Int × List Int)) × Unit)) with
  | some (y2_0, y2_1, y2_2, y2_3, y2_4, _) => g n y2_0 y2_1 y2_2 y2_3 y2_4 (fun r0 r1 r2 => kk .ret (PkS.pack Tslices_IndexFunc_impl_Step_impl_GoodNet_c1_l2_0 (r0, r1, r2, ()))) (fun r0 r1 => kk (.exit 0) (PkS.pack Tslices_IndexFunc_impl_Step_impl_GoodNet_c1_l2_1 (r0, r1, ())))
  | none => none
theorem eslices_IndexFunc_impl_Step_impl_GoodNet_c1_l2 (impl_GoodNet_c1 : ∀ {R : Type}, Nat → (List Int) → (List Int) → Int → (List (List Int × List Int)) → (Bool → Int → (List (List Int × List Int)) → Option R) → Option R) (slices_IndexFunc_impl_Step_impl_GoodNet_c1_l2 : ∀ {R : Type}, Nat → (List (List Int × List Int)) → Int → Int → Int → (List (List Int × List Int)) → (Int → Int → (List (List Int × List Int)) → Option R) → (Int → (List (List Int × List Int)) → Option R) → Option R) {R : Type} (n : Nat) (y2_0 : List (List Int × List Int)) (y2_1 : Int) (y2_2 : Int) (y2_3 : Int) (y2_4 : List (List Int × List Int)) (kk : Ex → Pk → Option R) : Dslices_IndexFunc_impl_Step_impl_GoodNet_c1_l2.step tt sig (mkK [(118, Kimpl_GoodNet_c1 @impl_GoodNet_c1 n)] R) (mkL (mkK [(118, Kimpl_GoodNet_c1 @impl_GoodNet_c1 n)]) [] R) (loopIn 2 (bodyOf Try.f156)) (fun q' => Pslices_IndexFunc_impl_Step_impl_GoodNet_c1_l2 @slices_IndexFunc_impl_Step_impl_GoodNet_c1_l2 n R q' kk) (PkS.pack Sslices_IndexFunc_impl_Step_impl_GoodNet_c1_l2 (y2_0, y2_1, y2_2, y2_3, y2_4, ())) kk = (fun (kret : Int → Int → (List (List Int × List Int)) → Option R) (kexit0 : Int → (List (List Int × List Int)) → Option R) => (bif (decide (y2_2 < y2_1)) then (bif decide (0 ≤ y2_2) then (bif decide (y2_2 < (y2_0.length : Int)) then (impl_GoodNet_c1 n ((y2_0.getD (Int.toNat y2_2) ([], [])).1) ((y2_0.getD (Int.toNat y2_2) ([], [])).2) y2_3 y2_4 fun r1 r2 r3 => (bif r1 then kret y2_2 r2 r3 else slices_IndexFunc_impl_Step_impl_GoodNet_c1_l2 n y2_0 y2_1 (IntKind.wrap .i64 (y2_2 + 1)) r2 r3 kret kexit0)) else none) else none) else kexit0 y2_3 y2_4)) (fun r0 r1 r2 => kk .ret (PkS.pack Tslices_IndexFunc_impl_Step_impl_GoodNet_c1_l2_0 (r0, r1, r2, ()))) (fun r0 r1 => kk (.exit 0) (PkS.pack Tslices_IndexFunc_impl_Step_impl_GoodNet_c1_l2_1 (r0, r1, ()))) := by kernel_rfl
theorem leslices_IndexFunc_impl_Step_impl_GoodNet_c1_l2 : LoopEq tt sig (fun n => mkK [(118, Kimpl_GoodNet_c1 @impl_GoodNet_c1 n)]) (fun n => mkL (mkK [(118, Kimpl_GoodNet_c1 @impl_GoodNet_c1 n)]) []) Dslices_IndexFunc_impl_Step_impl_GoodNet_c1_l2 Sslices_IndexFunc_impl_Step_impl_GoodNet_c1_l2 (loopIn 2 (bodyOf Try.f156)) (Pslices_IndexFunc_impl_Step_impl_GoodNet_c1_l2 @slices_IndexFunc_impl_Step_impl_GoodNet_c1_l2) where
  zero R q kk := by unfold Pslices_IndexFunc_impl_Step_impl_GoodNet_c1_l2; cases (PkS.un Sslices_IndexFunc_impl_Step_impl_GoodNet_c1_l2 q) <;> rfl
  succ n R q kk := by
    unfold Pslices_IndexFunc_impl_Step_impl_GoodNet_c1_l2
    cases h : (PkS.un Sslices_IndexFunc_impl_Step_impl_GoodNet_c1_l2 q) with
    | none => rfl
    | some d =>
      obtain ⟨y2_0, y2_1, y2_2, y2_3, y2_4, u⟩ := (d : (List (List Int × List Int)) × Int × Int × Int × (List (List Int × List Int)) × Unit)
      have hp := PkS.un_pack h
      subst hp
      exact (eslices_IndexFunc_impl_Step_impl_GoodNet_c1_l2 @impl_GoodNet_c1 @slices_IndexFunc_impl_Step_impl_GoodNet_c1_l2 n y2_0 y2_1 y2_2 y2_3 y2_4 kk).symm
theorem nlslices_IndexFunc_impl_Step_impl_GoodNet_c1_l2 : ∀ n, NatLP (Pslices_IndexFunc_impl_Step_impl_GoodNet_c1_l2 @slices_IndexFunc_impl_Step_impl_GoodNet_c1_l2 n) := leslices_IndexFunc_impl_Step_impl_GoodNet_c1_l2.nat (fun n => mkK_nat (cslices_IndexFunc_impl_Step_impl_GoodNet_c1 n)) fun n => mkL_nat (mkK_nat (cslices_IndexFunc_impl_Step_impl_GoodNet_c1 n)) (l := []) trivial
theorem inslices_IndexFunc_impl_Step_impl_GoodNet_c1_l2 (n : Nat) (R : Type) : LoopsOk Try.prog (mkL (mkK [(118, Kimpl_GoodNet_c1 @impl_GoodNet_c1 n)]) [] R) (loopIn 2 (bodyOf Try.f156)) := .eq (l := []) (by kernel_rfl) trivial
theorem lkslices_IndexFunc_impl_Step_impl_GoodNet_c1_l2 (n : Nat) (R : Type) (L0 : LK R) (h0 : ∀ id, firstRegion (loopIn 2 (bodyOf Try.f156)) = some id → L0 id = Dslices_IndexFunc_impl_Step_impl_GoodNet_c1_l2.oracle (mkK [(118, Kimpl_GoodNet_c1 @impl_GoodNet_c1 n)] R) (Pslices_IndexFunc_impl_Step_impl_GoodNet_c1_l2 @slices_IndexFunc_impl_Step_impl_GoodNet_c1_l2 n R)) : LoopOk Try.prog L0 (loopIn 2 (bodyOf Try.f156)) :=
  leslices_IndexFunc_impl_Step_impl_GoodNet_c1_l2.ok mixed ttok (fun n => mkK_nat (cslices_IndexFunc_impl_Step_impl_GoodNet_c1 n)) (fun n => mkK_ok (cslices_IndexFunc_impl_Step_impl_GoodNet_c1 n)) (fun n => inslices_IndexFunc_impl_Step_impl_GoodNet_c1_l2 n R) (mkK_nat (cslices_IndexFunc_impl_Step_impl_GoodNet_c1 n)) h0
@[reducible] def Sslices_IndexFunc_impl_Step_impl_GoodNet_c1 : PkS := ⟨[.one (.ro (.pr (.sl (.int .i64)) (.sl (.int .i64)))), .one (.fn 118 [((200000, 0), 0)])], [((200000, 0), .box [.int .i64, .ro (.pr (.sl (.int .i64)) (.sl (.int .i64)))])]⟩
@[reducible] def Tslices_IndexFunc_impl_Step_impl_GoodNet_c1 : PkS := ⟨[.one (.int .i64), .one (.dead), .one (.fn 118 [((300000, 0), 0)])], [((300000, 0), .box [.int .i64, .ro (.pr (.sl (.int .i64)) (.sl (.int .i64)))])]⟩
def Hslices_IndexFunc_impl_Step_impl_GoodNet_c1 : List Sh := [.one .any, .skip, .fn 118 [[.any, (.ro (.pr (.sl (.int .i64)) (.sl (.int .i64))))]]]
def Kslices_IndexFunc_impl_Step_impl_GoodNet_c1 (g : ∀ {R : Type}, Nat → (List (List Int × List Int)) → Int → (List (List Int × List Int)) → (Int → Int → (List (List Int × List Int)) → Option R) → Option R) (n : Nat) : KPs := fun R p k => match (PkS.un Sslices_IndexFunc_impl_Step_impl_GoodNet_c1 p : Option ((List (List Int × List Int)) × Int × (List (List Int × List Int)) × Unit)) with
  | some (x0, x1, x2, _) => g n x0 x1 x2 (fun r0 r1 r2 => k (PkS.pack Tslices_IndexFunc_impl_Step_impl_GoodNet_c1 (r0, r1, r2, ())))
  | none => none
theorem eslices_IndexFunc_impl_Step_impl_GoodNet_c1 (impl_GoodNet_c1 : ∀ {R : Type}, Nat → (List Int) → (List Int) → Int → (List (List Int × List Int)) → (Bool → Int → (List (List Int × List Int)) → Option R) → Option R) (slices_IndexFunc_impl_Step_impl_GoodNet_c1_l2 : ∀ {R : Type}, Nat → (List (List Int × List Int)) → Int → Int → Int → (List (List Int × List Int)) → (Int → Int → (List (List Int × List Int)) → Option R) → (Int → (List (List Int × List Int)) → Option R) → Option R) {R : Type} (n : Nat) (x0 : List (List Int × List Int)) (x1 : Int) (x2 : List (List Int × List Int)) (k : Pk → Option R) : evF tt sig (mkK [(118, Kimpl_GoodNet_c1 @impl_GoodNet_c1 n)] R) (mkL (mkK [(118, Kimpl_GoodNet_c1 @impl_GoodNet_c1 n)]) [(2, Dslices_IndexFunc_impl_Step_impl_GoodNet_c1_l2, Pslices_IndexFunc_impl_Step_impl_GoodNet_c1_l2 @slices_IndexFunc_impl_Step_impl_GoodNet_c1_l2 n)] R) Try.f156 Hslices_IndexFunc_impl_Step_impl_GoodNet_c1 (PkS.pack Sslices_IndexFunc_impl_Step_impl_GoodNet_c1 (x0, x1, x2, ())) k = (fun (k : Int → Int → (List (List Int × List Int)) → Option R) => (slices_IndexFunc_impl_Step_impl_GoodNet_c1_l2 n x0 (x0.length : Int) 0 x1 x2 (fun r4 r5 r6 => k r4 r5 r6) (fun r7 r8 => k (-1) r7 r8))) (fun r0 r1 r2 => k (PkS.pack Tslices_IndexFunc_impl_Step_impl_GoodNet_c1 (r0, r1, r2, ()))) := by kernel_rfl
theorem okslices_IndexFunc_impl_Step_impl_GoodNet_c1 (n : Nat) : FnOk Try.prog 156 (Kslices_IndexFunc_impl_Step_impl_GoodNet_c1 @slices_IndexFunc_impl_Step_impl_GoodNet_c1 n) := by
  refine fn_ok (sig := sig) mixed ttok (mkK_nat (cslices_IndexFunc_impl_Step_impl_GoodNet_c1 n)) (mkK_ok (cslices_IndexFunc_impl_Step_impl_GoodNet_c1 n)) (mkL_nat (mkK_nat (cslices_IndexFunc_impl_Step_impl_GoodNet_c1 n)) (l := [(2, Dslices_IndexFunc_impl_Step_impl_GoodNet_c1_l2, Pslices_IndexFunc_impl_Step_impl_GoodNet_c1_l2 @slices_IndexFunc_impl_Step_impl_GoodNet_c1_l2 n)]) ⟨nlslices_IndexFunc_impl_Step_impl_GoodNet_c1_l2 n, trivial⟩) (fn := Try.f156) (c := bodyOf Try.f156) (by kernel_rfl) (by kernel_rfl) (by kernel_rfl) (.eq (l := [.lo (loopIn 2 (bodyOf Try.f156))]) (by kernel_rfl) ⟨(lkslices_IndexFunc_impl_Step_impl_GoodNet_c1_l2 n _ _ (at_id (i := 2) (by kernel_rfl) rfl)), trivial⟩) (shs := Hslices_IndexFunc_impl_Step_impl_GoodNet_c1) (S := Sslices_IndexFunc_impl_Step_impl_GoodNet_c1) (h1 := by kernel_rfl) fun R p k => ?_
  unfold Kslices_IndexFunc_impl_Step_impl_GoodNet_c1
  cases h : (PkS.un Sslices_IndexFunc_impl_Step_impl_GoodNet_c1 p) with
  | none => rfl
  | some d =>
    obtain ⟨x0, x1, x2, u⟩ := (d : (List (List Int × List Int)) × Int × (List (List Int × List Int)) × Unit)
    have hp := PkS.un_pack h
    subst hp
    exact (eslices_IndexFunc_impl_Step_impl_GoodNet_c1 @impl_GoodNet_c1 @slices_IndexFunc_impl_Step_impl_GoodNet_c1_l2 n x0 x1 x2 k).symm

/-! ### slices.ContainsFunc[[]loop.example/g00269/impl.Step,loop.example/g00269/impl.Step] -/
theorem cslices_ContainsFunc_impl_Step_impl_GoodNet_c1 (n : Nat) : AllOk Try.prog [(156, Kslices_IndexFunc_impl_Step_impl_GoodNet_c1 @slices_IndexFunc_impl_Step_impl_GoodNet_c1 n)] := ⟨okslices_IndexFunc_impl_Step_impl_GoodNet_c1 n, trivial⟩
@[reducible] def Sslices_ContainsFunc_impl_Step_impl_GoodNet_c1 : PkS := ⟨[.one (.ro (.pr (.sl (.int .i64)) (.sl (.int .i64)))), .one (.fn 118 [((200000, 0), 0)])], [((200000, 0), .box [.int .i64, .ro (.pr (.sl (.int .i64)) (.sl (.int .i64)))])]⟩
@[reducible] def Tslices_ContainsFunc_impl_Step_impl_GoodNet_c1 : PkS := ⟨[.one (.bool), .one (.dead), .one (.fn 118 [((300000, 0), 0)])], [((300000, 0), .box [.int .i64, .ro (.pr (.sl (.int .i64)) (.sl (.int .i64)))])]⟩
def Hslices_ContainsFunc_impl_Step_impl_GoodNet_c1 : List Sh := [.one .any, .skip, .fn 118 [[.any, (.ro (.pr (.sl (.int .i64)) (.sl (.int .i64))))]]]
def Kslices_ContainsFunc_impl_Step_impl_GoodNet_c1 (g : ∀ {R : Type}, Nat → (List (List Int × List Int)) → Int → (List (List Int × List Int)) → (Bool → Int → (List (List Int × List Int)) → Option R) → Option R) (n : Nat) : KPs := fun R p k => match (PkS.un Sslices_ContainsFunc_impl_Step_impl_GoodNet_c1 p : Option ((List (List Int × List Int)) × Int × (List (List Int × List Int)) × Unit)) with
  | some (x0, x1, x2, _) => g n x0 x1 x2 (fun r0 r1 r2 => k (PkS.pack Tslices_ContainsFunc_impl_Step_impl_GoodNet_c1 (r0, r1, r2, ())))
  | none => none
theorem eslices_ContainsFunc_impl_Step_impl_GoodNet_c1 (slices_IndexFunc_impl_Step_impl_GoodNet_c1 : ∀ {R : Type}, Nat → (List (List Int × List Int)) → Int → (List (List Int × List Int)) → (Int → Int → (List (List Int × List Int)) → Option R) → Option R) {R : Type} (n : Nat) (x0 : List (List Int × List Int)) (x1 : Int) (x2 : List (List Int × List Int)) (k : Pk → Option R) : evF tt sig (mkK [(156, Kslices_IndexFunc_impl_Step_impl_GoodNet_c1 @slices_IndexFunc_impl_Step_impl_GoodNet_c1 n)] R) (mkL (mkK [(156, Kslices_IndexFunc_impl_Step_impl_GoodNet_c1 @slices_IndexFunc_impl_Step_impl_GoodNet_c1 n)]) [] R) Try.f117 Hslices_ContainsFunc_impl_Step_impl_GoodNet_c1 (PkS.pack Sslices_ContainsFunc_impl_Step_impl_GoodNet_c1 (x0, x1, x2, ())) k = (fun (k : Bool → Int → (List (List Int × List Int)) → Option R) => (slices_IndexFunc_impl_Step_impl_GoodNet_c1 n x0 x1 x2 fun r1 r2 r3 => k (decide (r1 ≥ 0)) r2 r3)) (fun r0 r1 r2 => k (PkS.pack Tslices_ContainsFunc_impl_Step_impl_GoodNet_c1 (r0, r1, r2, ()))) := by kernel_rfl
theorem okslices_ContainsFunc_impl_Step_impl_GoodNet_c1 (n : Nat) : FnOk Try.prog 117 (Kslices_ContainsFunc_impl_Step_impl_GoodNet_c1 @slices_ContainsFunc_impl_Step_impl_GoodNet_c1 n) := by
  refine fn_ok (sig := sig) mixed ttok (mkK_nat (cslices_ContainsFunc_impl_Step_impl_GoodNet_c1 n)) (mkK_ok (cslices_ContainsFunc_impl_Step_impl_GoodNet_c1 n)) (mkL_nat (mkK_nat (cslices_ContainsFunc_impl_Step_impl_GoodNet_c1 n)) (l := []) trivial) (fn := Try.f117) (c := bodyOf Try.f117) (by kernel_rfl) (by kernel_rfl) (by kernel_rfl) (.eq (l := []) (by kernel_rfl) trivial) (shs := Hslices_ContainsFunc_impl_Step_impl_GoodNet_c1) (S := Sslices_ContainsFunc_impl_Step_impl_GoodNet_c1) (h1 := by kernel_rfl) fun R p k => ?_
  unfold Kslices_ContainsFunc_impl_Step_impl_GoodNet_c1
  cases h : (PkS.un Sslices_ContainsFunc_impl_Step_impl_GoodNet_c1 p) with
  | none => rfl
  | some d =>
    obtain ⟨x0, x1, x2, u⟩ := (d : (List (List Int × List Int)) × Int × (List (List Int × List Int)) × Unit)
    have hp := PkS.un_pack h
    subst hp
    exact (eslices_ContainsFunc_impl_Step_impl_GoodNet_c1 @slices_IndexFunc_impl_Step_impl_GoodNet_c1 n x0 x1 x2 k).symm

/-! ### loop.example/g00269/impl.GoodNet -/
theorem cimpl_GoodNet (n : Nat) : AllOk Try.prog [(80, Kimpl_in @impl_in n), (117, Kslices_ContainsFunc_impl_Step_impl_GoodNet_c1 @slices_ContainsFunc_impl_Step_impl_GoodNet_c1 n)] := ⟨okimpl_in n, ⟨okslices_ContainsFunc_impl_Step_impl_GoodNet_c1 n, trivial⟩⟩
@[reducible] def Simpl_GoodNet : PkS := ⟨[.agg [.int .i64, .ro (.pr (.sl (.int .i64)) (.sl (.int .i64)))]], []⟩
@[reducible] def Timpl_GoodNet : PkS := ⟨[.one (.bool), .one (.dead)], []⟩
def Himpl_GoodNet : List Sh := [.one .any, .skip]
def Kimpl_GoodNet (g : ∀ {R : Type}, Nat → Int → (List (List Int × List Int)) → (Bool → Option R) → Option R) (n : Nat) : KPs := fun R p k => match (PkS.un Simpl_GoodNet p : Option (Int × (List (List Int × List Int)) × Unit)) with
  | some (x0, x1, _) => g n x0 x1 (fun r0 => k (PkS.pack Timpl_GoodNet (r0, ())))
  | none => none
theorem eimpl_GoodNet (impl_in : ∀ {R : Type}, Nat → Int → Int → Int → (Bool → Option R) → Option R) (slices_ContainsFunc_impl_Step_impl_GoodNet_c1 : ∀ {R : Type}, Nat → (List (List Int × List Int)) → Int → (List (List Int × List Int)) → (Bool → Int → (List (List Int × List Int)) → Option R) → Option R) {R : Type} (n : Nat) (x0 : Int) (x1 : List (List Int × List Int)) (k : Pk → Option R) : evF tt sig (mkK [(80, Kimpl_in @impl_in n), (117, Kslices_ContainsFunc_impl_Step_impl_GoodNet_c1 @slices_ContainsFunc_impl_Step_impl_GoodNet_c1 n)] R) (mkL (mkK [(80, Kimpl_in @impl_in n), (117, Kslices_ContainsFunc_impl_Step_impl_GoodNet_c1 @slices_ContainsFunc_impl_Step_impl_GoodNet_c1 n)]) [] R) Try.f59 Himpl_GoodNet (PkS.pack Simpl_GoodNet (x0, x1, ())) k = (fun (k : Bool → Option R) => (impl_in n x0 1 8 fun r1 => (bif (!r1) then k false else (bif (decide ((x1.length : Int) > 12)) then k false else (slices_ContainsFunc_impl_Step_impl_GoodNet_c1 n x1 x0 x1 fun r2 r3 r4 => k (!r2)))))) (fun r0 => k (PkS.pack Timpl_GoodNet (r0, ()))) := by kernel_rfl
theorem okimpl_GoodNet (n : Nat) : FnOk Try.prog 59 (Kimpl_GoodNet @impl_GoodNet n) := by
  refine fn_ok (sig := sig) mixed ttok (mkK_nat (cimpl_GoodNet n)) (mkK_ok (cimpl_GoodNet n)) (mkL_nat (mkK_nat (cimpl_GoodNet n)) (l := []) trivial) (fn := Try.f59) (c := bodyOf Try.f59) (by kernel_rfl) (by kernel_rfl) (by kernel_rfl) (.eq (l := []) (by kernel_rfl) trivial) (shs := Himpl_GoodNet) (S := Simpl_GoodNet) (h1 := by kernel_rfl) fun R p k => ?_
  unfold Kimpl_GoodNet
  cases h : (PkS.un Simpl_GoodNet p) with
  | none => rfl
  | some d =>
    obtain ⟨x0, x1, u⟩ := (d : Int × (List (List Int × List Int)) × Unit)
    have hp := PkS.un_pack h
    subst hp
    exact (eimpl_GoodNet @impl_in @slices_ContainsFunc_impl_Step_impl_GoodNet_c1 n x0 x1 k).symm

/-! ### loop.example/g00269/impl.single -/
theorem cimpl_single (n : Nat) : AllOk Try.prog [] := trivial
@[reducible] def Simpl_single : PkS := ⟨[.one (.int .i64), .one (.int .i64)], []⟩
@[reducible] def Timpl_single : PkS := ⟨[.one (.whole (300000, 0)), .one (.dead), .one (.dead)], [((300000, 0), .arr (.int .i64))]⟩
def Himpl_single : List Sh := [.one (.own (.int .i64)), .skip, .skip]
def Kimpl_single (g : ∀ {R : Type}, Nat → Int → Int → ((List Int) → Option R) → Option R) (n : Nat) : KPs := fun R p k => match (PkS.un Simpl_single p : Option (Int × Int × Unit)) with
  | some (x0, x1, _) => g n x0 x1 (fun r0 => k (PkS.pack Timpl_single (r0, ())))
  | none => none
theorem eimpl_single  {R : Type} (n : Nat) (x0 : Int) (x1 : Int) (k : Pk → Option R) : evF tt sig (mkK [] R) (mkL (mkK []) [] R) Try.f130 Himpl_single (PkS.pack Simpl_single (x0, x1, ())) k = (fun (k : (List Int) → Option R) => (bif decide (0 ≤ x0) then (bif decide (x0 ≤ x0) then (bif decide (x0 ≤ 1099511627776) then (bif decide (0 ≤ x1) then (bif decide (x1 < ((List.replicate (Int.toNat x0) (0 : Int)).length : Int)) then k ((List.replicate (Int.toNat x0) (0 : Int)).set (Int.toNat x1) 1) else none) else none) else none) else none) else none)) (fun r0 => k (PkS.pack Timpl_single (r0, ()))) := by kernel_rfl
theorem okimpl_single (n : Nat) : FnOk Try.prog 130 (Kimpl_single @impl_single n) := by
  refine fn_ok (sig := sig) mixed ttok (mkK_nat (cimpl_single n)) (mkK_ok (cimpl_single n)) (mkL_nat (mkK_nat (cimpl_single n)) (l := []) trivial) (fn := Try.f130) (c := bodyOf Try.f130) (by kernel_rfl) (by kernel_rfl) (by kernel_rfl) (.eq (l := []) (by kernel_rfl) trivial) (shs := Himpl_single) (S := Simpl_single) (h1 := by kernel_rfl) fun R p k => ?_
  unfold Kimpl_single
  cases h : (PkS.un Simpl_single p) with
  | none => rfl
  | some d =>
    obtain ⟨x0, x1, u⟩ := (d : Int × Int × Unit)
    have hp := PkS.un_pack h
    subst hp
    exact (eimpl_single  n x0 x1 k).symm

/-! ### loop.example/g00269/impl.keyOf -/
theorem cimpl_keyOf (n : Nat) : AllOk Try.prog [] := trivial
@[reducible] def Simpl_keyOf : PkS := ⟨[.one (.ro (.int .i64))], []⟩
@[reducible] def Timpl_keyOf : PkS := ⟨[.agg [.int .i64, .int .i64, .int .i64, .int .i64, .int .i64, .int .i64, .int .i64, .int .i64], .one (.dead)], []⟩
def Kimpl_keyOf (g : ∀ {R : Type}, Nat → (List Int) → (Int → Int → Int → Int → Int → Int → Int → Int → Option R) → Option R) (n : Nat) : KPs := fun R p k => match (PkS.un Simpl_keyOf p : Option ((List Int) × Unit)) with
  | some (x0, _) => g n x0 (fun r0 r1 r2 r3 r4 r5 r6 r7 => k (PkS.pack Timpl_keyOf (r0, r1, r2, r3, r4, r5, r6, r7, ())))
  | none => none
theorem okimpl_keyOf (n : Nat) : FnOk Try.prog 160 (Kimpl_keyOf @impl_keyOf n) := by
  have e : Kimpl_keyOf @impl_keyOf n = keyOfK := by kernel_rfl
  rw [e]
  exact keyOf_ok (fn := Try.f160) (c := bodyOf Try.f160) (by kernel_rfl) (by kernel_rfl) (by kernel_rfl)

/-! ### slices.Clone[[]int,int] -/
theorem cslices_Clone_int (n : Nat) : AllOk Try.prog [] := trivial
@[reducible] def Sslices_Clone_int : PkS := ⟨[.one (.ro (.int .i64))], []⟩
@[reducible] def Tslices_Clone_int : PkS := ⟨[.one (.whole (300000, 0)), .one (.dead)], [((300000, 0), .arr (.int .i64))]⟩
def Kslices_Clone_int (g : ∀ {R : Type}, Nat → (List Int) → ((List Int) → Option R) → Option R) (n : Nat) : KPs := fun R p k => match (PkS.un Sslices_Clone_int p : Option ((List Int) × Unit)) with
  | some (x0, _) => g n x0 (fun r0 => k (PkS.pack Tslices_Clone_int (r0, ())))
  | none => none
theorem okslices_Clone_int (n : Nat) : FnOk Try.prog 123 (Kslices_Clone_int @slices_Clone_int n) := by
  have e : Kslices_Clone_int @slices_Clone_int n = cloneK (.int .i64) := by kernel_rfl
  rw [e]
  exact clone_ok (sig := sig) mixed ttok (fn := Try.f123) (c := bodyOf Try.f123) (by kernel_rfl) (by kernel_rfl) (by kernel_rfl) (.int .i64) [.one (.own (.int .i64)), .skip] (.eq (l := []) (by kernel_rfl) trivial) (fun xs => by kernel_rfl) (by kernel_rfl) (by kernel_rfl)

/-! ### slices.Min[[]int,int] -/
theorem cslices_Min_int (n : Nat) : AllOk Try.prog [] := trivial
@[reducible] def Sslices_Min_int_l5 : PkS := ⟨[.one (.ro (.int .i64)), .one (.int .i64), .one (.int .i64), .one (.dead)], []⟩
@[reducible] def Tslices_Min_int_l5_0 : PkS := ⟨[.one (.int .i64), .one (.dead)], []⟩
def Dslices_Min_int_l5 : LoopD := ⟨25, [0, 3, 4], [.one (.ro (.int .i64)), .one .any, .one .any, .skip], fun x => match x with
  | .exit 0 => some ([3], [.one .any, .skip])
  | _ => none⟩
def Pslices_Min_int_l5 (g : ∀ {R : Type}, Nat → (List Int) → Int → Int → (Int → Option R) → Option R) (n : Nat) : LPs := fun R q kk => match (PkS.un Sslices_Min_int_l5 q : Option ((List Int) × Int × Int × Unit)) with
  | some (y5_0, y5_1, y5_2, _) => g n y5_0 y5_1 y5_2 (fun r0 => kk (.exit 0) (PkS.pack Tslices_Min_int_l5_0 (r0, ())))
  | none => none
theorem eslices_Min_int_l5 (slices_Min_int_l5 : ∀ {R : Type}, Nat → (List Int) → Int → Int → (Int → Option R) → Option R) {R : Type} (n : Nat) (y5_0 : List Int) (y5_1 : Int) (y5_2 : Int) (kk : Ex → Pk → Option R) : Dslices_Min_int_l5.step tt sig (mkK [] R) (mkL (mkK []) [] R) (loopIn 5 (bodyOf Try.f158)) (fun q' => Pslices_Min_int_l5 @slices_Min_int_l5 n R q' kk) (PkS.pack Sslices_Min_int_l5 (y5_0, y5_1, y5_2, ())) kk = (fun (kexit0 : Int → Option R) => (bif (decide (y5_2 < (y5_0.length : Int))) then (bif decide (0 ≤ y5_2) then (bif decide (y5_2 < (y5_0.length : Int)) then slices_Min_int_l5 n y5_0 (if (y5_0.getD (Int.toNat y5_2) 0) < y5_1 then (y5_0.getD (Int.toNat y5_2) 0) else y5_1) (IntKind.wrap .i64 (y5_2 + 1)) kexit0 else none) else none) else kexit0 y5_1)) (fun r0 => kk (.exit 0) (PkS.pack Tslices_Min_int_l5_0 (r0, ()))) := by kernel_rfl
theorem leslices_Min_int_l5 : LoopEq tt sig (fun n => mkK []) (fun n => mkL (mkK []) []) Dslices_Min_int_l5 Sslices_Min_int_l5 (loopIn 5 (bodyOf Try.f158)) (Pslices_Min_int_l5 @slices_Min_int_l5) where
  zero R q kk := by unfold Pslices_Min_int_l5; cases (PkS.un Sslices_Min_int_l5 q) <;> rfl
  succ n R q kk := by
    unfold Pslices_Min_int_l5
    cases h : (PkS.un Sslices_Min_int_l5 q) with
    | none => rfl
    | some d =>
      obtain ⟨y5_0, y5_1, y5_2, u⟩ := (d : (List Int) × Int × Int × Unit)
      have hp := PkS.un_pack h
      subst hp
      exact (eslices_Min_int_l5 @slices_Min_int_l5 n y5_0 y5_1 y5_2 kk).symm
theorem nlslices_Min_int_l5 : ∀ n, NatLP (Pslices_Min_int_l5 @slices_Min_int_l5 n) := leslices_Min_int_l5.nat (fun n => mkK_nat (cslices_Min_int n)) fun n => mkL_nat (mkK_nat (cslices_Min_int n)) (l := []) trivial
theorem inslices_Min_int_l5 (n : Nat) (R : Type) : LoopsOk Try.prog (mkL (mkK []) [] R) (loopIn 5 (bodyOf Try.f158)) := .eq (l := []) (by kernel_rfl) trivial
theorem lkslices_Min_int_l5 (n : Nat) (R : Type) (L0 : LK R) (h0 : ∀ id, firstRegion (loopIn 5 (bodyOf Try.f158)) = some id → L0 id = Dslices_Min_int_l5.oracle (mkK [] R) (Pslices_Min_int_l5 @slices_Min_int_l5 n R)) : LoopOk Try.prog L0 (loopIn 5 (bodyOf Try.f158)) :=
  leslices_Min_int_l5.ok mixed ttok (fun n => mkK_nat (cslices_Min_int n)) (fun n => mkK_ok (cslices_Min_int n)) (fun n => inslices_Min_int_l5 n R) (mkK_nat (cslices_Min_int n)) h0
@[reducible] def Sslices_Min_int : PkS := ⟨[.one (.ro (.int .i64))], []⟩
@[reducible] def Tslices_Min_int : PkS := ⟨[.one (.int .i64), .one (.dead)], []⟩
def Hslices_Min_int : List Sh := [.one .any, .skip]
def Kslices_Min_int (g : ∀ {R : Type}, Nat → (List Int) → (Int → Option R) → Option R) (n : Nat) : KPs := fun R p k => match (PkS.un Sslices_Min_int p : Option ((List Int) × Unit)) with
  | some (x0, _) => g n x0 (fun r0 => k (PkS.pack Tslices_Min_int (r0, ())))
  | none => none
theorem eslices_Min_int (slices_Min_int_l5 : ∀ {R : Type}, Nat → (List Int) → Int → Int → (Int → Option R) → Option R) {R : Type} (n : Nat) (x0 : List Int) (k : Pk → Option R) : evF tt sig (mkK [] R) (mkL (mkK []) [(5, Dslices_Min_int_l5, Pslices_Min_int_l5 @slices_Min_int_l5 n)] R) Try.f158 Hslices_Min_int (PkS.pack Sslices_Min_int (x0, ())) k = (fun (k : Int → Option R) => (bif (decide ((x0.length : Int) < 1)) then none else (bif decide (0 < (x0.length : Int)) then (slices_Min_int_l5 n x0 (x0.getD 0 0) 1 (fun r1 => k r1)) else none))) (fun r0 => k (PkS.pack Tslices_Min_int (r0, ()))) := by kernel_rfl
theorem okslices_Min_int (n : Nat) : FnOk Try.prog 158 (Kslices_Min_int @slices_Min_int n) := by
  refine fn_ok (sig := sig) mixed ttok (mkK_nat (cslices_Min_int n)) (mkK_ok (cslices_Min_int n)) (mkL_nat (mkK_nat (cslices_Min_int n)) (l := [(5, Dslices_Min_int_l5, Pslices_Min_int_l5 @slices_Min_int_l5 n)]) ⟨nlslices_Min_int_l5 n, trivial⟩) (fn := Try.f158) (c := bodyOf Try.f158) (by kernel_rfl) (by kernel_rfl) (by kernel_rfl) (.eq (l := [.lo (loopIn 5 (bodyOf Try.f158))]) (by kernel_rfl) ⟨(lkslices_Min_int_l5 n _ _ (at_id (i := 5) (by kernel_rfl) rfl)), trivial⟩) (shs := Hslices_Min_int) (S := Sslices_Min_int) (h1 := by kernel_rfl) fun R p k => ?_
  unfold Kslices_Min_int
  cases h : (PkS.un Sslices_Min_int p) with
  | none => rfl
  | some d =>
    obtain ⟨x0, u⟩ := (d : (List Int) × Unit)
    have hp := PkS.un_pack h
    subst hp
    exact (eslices_Min_int @slices_Min_int_l5 n x0 k).symm

/-! ### loop.example/g00269/impl.isMarking$1 -/
theorem cimpl_isMarking_c1 (n : Nat) : AllOk Try.prog [(80, Kimpl_in @impl_in n)] := ⟨okimpl_in n, trivial⟩
@[reducible] def Simpl_isMarking_c1 : PkS := ⟨[.one (.int .i64)], []⟩
@[reducible] def Timpl_isMarking_c1 : PkS := ⟨[.one (.bool), .one (.dead)], []⟩
def Himpl_isMarking_c1 : List Sh := [.one .any, .skip]
def Kimpl_isMarking_c1 (g : ∀ {R : Type}, Nat → Int → (Bool → Option R) → Option R) (n : Nat) : KPs := fun R p k => match (PkS.un Simpl_isMarking_c1 p : Option (Int × Unit)) with
  | some (x0, _) => g n x0 (fun r0 => k (PkS.pack Timpl_isMarking_c1 (r0, ())))
  | none => none
theorem eimpl_isMarking_c1 (impl_in : ∀ {R : Type}, Nat → Int → Int → Int → (Bool → Option R) → Option R) {R : Type} (n : Nat) (x0 : Int) (k : Pk → Option R) : evF tt sig (mkK [(80, Kimpl_in @impl_in n)] R) (mkL (mkK [(80, Kimpl_in @impl_in n)]) [] R) Try.f159 Himpl_isMarking_c1 (PkS.pack Simpl_isMarking_c1 (x0, ())) k = (fun (k : Bool → Option R) => (impl_in n x0 0 9 fun r1 => k (!r1))) (fun r0 => k (PkS.pack Timpl_isMarking_c1 (r0, ()))) := by kernel_rfl
theorem okimpl_isMarking_c1 (n : Nat) : FnOk Try.prog 159 (Kimpl_isMarking_c1 @impl_isMarking_c1 n) := by
  refine fn_ok (sig := sig) mixed ttok (mkK_nat (cimpl_isMarking_c1 n)) (mkK_ok (cimpl_isMarking_c1 n)) (mkL_nat (mkK_nat (cimpl_isMarking_c1 n)) (l := []) trivial) (fn := Try.f159) (c := bodyOf Try.f159) (by kernel_rfl) (by kernel_rfl) (by kernel_rfl) (.eq (l := []) (by kernel_rfl) trivial) (shs := Himpl_isMarking_c1) (S := Simpl_isMarking_c1) (h1 := by kernel_rfl) fun R p k => ?_
  unfold Kimpl_isMarking_c1
  cases h : (PkS.un Simpl_isMarking_c1 p) with
  | none => rfl
  | some d =>
    obtain ⟨x0, u⟩ := (d : Int × Unit)
    have hp := PkS.un_pack h
    subst hp
    exact (eimpl_isMarking_c1 @impl_in n x0 k).symm

/-! ### slices.IndexFunc[[]int,int] -/
theorem cslices_IndexFunc_int_impl_isMarking_c1 (n : Nat) : AllOk Try.prog [(159, Kimpl_isMarking_c1 @impl_isMarking_c1 n)] := ⟨okimpl_isMarking_c1 n, trivial⟩
@[reducible] def Sslices_IndexFunc_int_impl_isMarking_c1_l2 : PkS := ⟨[.one (.ro (.int .i64)), .one (.fn 159 []), .one (.int .i64), .one (.int .i64), .one (.dead), .one (.fn 159 [])], []⟩
@[reducible] def Tslices_IndexFunc_int_impl_isMarking_c1_l2_0 : PkS := ⟨[.one (.int .i64), .one (.dead), .one (.fn 159 [])], []⟩
@[reducible] def Tslices_IndexFunc_int_impl_isMarking_c1_l2_1 : PkS := ⟨[.one (.dead), .one (.fn 159 [])], []⟩
def Dslices_IndexFunc_int_impl_isMarking_c1_l2 : LoopD := ⟨19, [0, 1, 7, 8], [.one (.ro (.int .i64)), .fn 159 [], .one .any, .one .any, .skip, .fn 159 []], fun x => match x with
  | .ret => some ([4], [.one .any, .skip, .fn 159 []])
  | .exit 0 => some ([], [.skip, .fn 159 []])
  | _ => none⟩
def Pslices_IndexFunc_int_impl_isMarking_c1_l2 (g : ∀ {R : Type}, Nat → (List Int) → Int → Int → (Int → Option R) → (Option R) → Option R) (n : Nat) : LPs := fun R q kk => match (PkS.un Sslices_IndexFunc_int_impl_isMarking_c1_l2 q : Option ((List Int) × Int × Int × Unit)) with
  | some (y2_0, y2_1, y2_2, _) => g n y2_0 y2_1 y2_2 (fun r0 => kk .ret (PkS.pack Tslices_IndexFunc_int_impl_isMarking_c1_l2_0 (r0, ()))) (kk (.exit 0) (PkS.pack Tslices_IndexFunc_int_impl_isMarking_c1_l2_1 ()))
  | none => none
theorem eslices_IndexFunc_int_impl_isMarking_c1_l2 (impl_isMarking_c1 : ∀ {R : Type}, Nat → Int → (Bool → Option R) → Option R) (slices_IndexFunc_int_impl_isMarking_c1_l2 : ∀ {R : Type}, Nat → (List Int) → Int → Int → (Int → Option R) → (Option R) → Option R) {R : Type} (n : Nat) (y2_0 : List Int) (y2_1 : Int) (y2_2 : Int) (kk : Ex → Pk → Option R) : Dslices_IndexFunc_int_impl_isMarking_c1_l2.step tt sig (mkK [(159, Kimpl_isMarking_c1 @impl_isMarking_c1 n)] R) (mkL (mkK [(159, Kimpl_isMarking_c1 @impl_isMarking_c1 n)]) [] R) (loopIn 2 (bodyOf Try.f157)) (fun q' => Pslices_IndexFunc_int_impl_isMarking_c1_l2 @slices_IndexFunc_int_impl_isMarking_c1_l2 n R q' kk) (PkS.pack Sslices_IndexFunc_int_impl_isMarking_c1_l2 (y2_0, y2_1, y2_2, ())) kk = (fun (kret : Int → Option R) (kexit0 : Option R) => (bif (decide (y2_2 < y2_1)) then (bif decide (0 ≤ y2_2) then (bif decide (y2_2 < (y2_0.length : Int)) then (impl_isMarking_c1 n (y2_0.getD (Int.toNat y2_2) 0) fun r1 => (bif r1 then kret y2_2 else slices_IndexFunc_int_impl_isMarking_c1_l2 n y2_0 y2_1 (IntKind.wrap .i64 (y2_2 + 1)) kret kexit0)) else none) else none) else kexit0)) (fun r0 => kk .ret (PkS.pack Tslices_IndexFunc_int_impl_isMarking_c1_l2_0 (r0, ()))) (kk (.exit 0) (PkS.pack Tslices_IndexFunc_int_impl_isMarking_c1_l2_1 ())) := by kernel_rfl
theorem leslices_IndexFunc_int_impl_isMarking_c1_l2 : LoopEq tt sig (fun n => mkK [(159, Kimpl_isMarking_c1 @impl_isMarking_c1 n)]) (fun n => mkL (mkK [(159, Kimpl_isMarking_c1 @impl_isMarking_c1 n)]) []) Dslices_IndexFunc_int_impl_isMarking_c1_l2 Sslices_IndexFunc_int_impl_isMarking_c1_l2 (loopIn 2 (bodyOf Try.f157)) (Pslices_IndexFunc_int_impl_isMarking_c1_l2 @slices_IndexFunc_int_impl_isMarking_c1_l2) where
  zero R q kk := by unfold Pslices_IndexFunc_int_impl_isMarking_c1_l2; cases (PkS.un Sslices_IndexFunc_int_impl_isMarking_c1_l2 q) <;> rfl
  succ n R q kk := by
    unfold Pslices_IndexFunc_int_impl_isMarking_c1_l2
    cases h : (PkS.un Sslices_IndexFunc_int_impl_isMarking_c1_l2 q) with
    | none => rfl
    | some d =>
      obtain ⟨y2_0, y2_1, y2_2, u⟩ := (d : (List Int) × Int × Int × Unit)
      have hp := PkS.un_pack h
      subst hp
      exact (eslices_IndexFunc_int_impl_isMarking_c1_l2 @impl_isMarking_c1 @slices_IndexFunc_int_impl_isMarking_c1_l2 n y2_0 y2_1 y2_2 kk).symm
theorem nlslices_IndexFunc_int_impl_isMarking_c1_l2 : ∀ n, NatLP (Pslices_IndexFunc_int_impl_isMarking_c1_l2 @slices_IndexFunc_int_impl_isMarking_c1_l2 n) := leslices_IndexFunc_int_impl_isMarking_c1_l2.nat (fun n => mkK_nat (cslices_IndexFunc_int_impl_isMarking_c1 n)) fun n => mkL_nat (mkK_nat (cslices_IndexFunc_int_impl_isMarking_c1 n)) (l := []) trivial
theorem inslices_IndexFunc_int_impl_isMarking_c1_l2 (n : Nat) (R : Type) : LoopsOk Try.prog (mkL (mkK [(159, Kimpl_isMarking_c1 @impl_isMarking_c1 n)]) [] R) (loopIn 2 (bodyOf Try.f157)) := .eq (l := []) (by kernel_rfl) trivial
theorem lkslices_IndexFunc_int_impl_isMarking_c1_l2 (n : Nat) (R : Type) (L0 : LK R) (h0 : ∀ id, firstRegion (loopIn 2 (bodyOf Try.f157)) = some id → L0 id = Dslices_IndexFunc_int_impl_isMarking_c1_l2.oracle (mkK [(159, Kimpl_isMarking_c1 @impl_isMarking_c1 n)] R) (Pslices_IndexFunc_int_impl_isMarking_c1_l2 @slices_IndexFunc_int_impl_isMarking_c1_l2 n R)) : LoopOk Try.prog L0 (loopIn 2 (bodyOf Try.f157)) :=
  leslices_IndexFunc_int_impl_isMarking_c1_l2.ok mixed ttok (fun n => mkK_nat (cslices_IndexFunc_int_impl_isMarking_c1 n)) (fun n => mkK_ok (cslices_IndexFunc_int_impl_isMarking_c1 n)) (fun n => inslices_IndexFunc_int_impl_isMarking_c1_l2 n R) (mkK_nat (cslices_IndexFunc_int_impl_isMarking_c1 n)) h0
@[reducible] def Sslices_IndexFunc_int_impl_isMarking_c1 : PkS := ⟨[.one (.ro (.int .i64)), .one (.fn 159 [])], []⟩
@[reducible] def Tslices_IndexFunc_int_impl_isMarking_c1 : PkS := ⟨[.one (.int .i64), .one (.dead), .one (.fn 159 [])], []⟩
def Hslices_IndexFunc_int_impl_isMarking_c1 : List Sh := [.one .any, .skip, .fn 159 []]
def Kslices_IndexFunc_int_impl_isMarking_c1 (g : ∀ {R : Type}, Nat → (List Int) → (Int → Option R) → Option R) (n : Nat) : KPs := fun R p k => match (PkS.un Sslices_IndexFunc_int_impl_isMarking_c1 p : Option ((List Int) × Unit)) with
  | some (x0, _) => g n x0 (fun r0 => k (PkS.pack Tslices_IndexFunc_int_impl_isMarking_c1 (r0, ())))
  | none => none
theorem eslices_IndexFunc_int_impl_isMarking_c1 (impl_isMarking_c1 : ∀ {R : Type}, Nat → Int → (Bool → Option R) → Option R) (slices_IndexFunc_int_impl_isMarking_c1_l2 : ∀ {R : Type}, Nat → (List Int) → Int → Int → (Int → Option R) → (Option R) → Option R) {R : Type} (n : Nat) (x0 : List Int) (k : Pk → Option R) : evF tt sig (mkK [(159, Kimpl_isMarking_c1 @impl_isMarking_c1 n)] R) (mkL (mkK [(159, Kimpl_isMarking_c1 @impl_isMarking_c1 n)]) [(2, Dslices_IndexFunc_int_impl_isMarking_c1_l2, Pslices_IndexFunc_int_impl_isMarking_c1_l2 @slices_IndexFunc_int_impl_isMarking_c1_l2 n)] R) Try.f157 Hslices_IndexFunc_int_impl_isMarking_c1 (PkS.pack Sslices_IndexFunc_int_impl_isMarking_c1 (x0, ())) k = (fun (k : Int → Option R) => (slices_IndexFunc_int_impl_isMarking_c1_l2 n x0 (x0.length : Int) 0 (fun r2 => k r2) (k (-1)))) (fun r0 => k (PkS.pack Tslices_IndexFunc_int_impl_isMarking_c1 (r0, ()))) := by kernel_rfl
theorem okslices_IndexFunc_int_impl_isMarking_c1 (n : Nat) : FnOk Try.prog 157 (Kslices_IndexFunc_int_impl_isMarking_c1 @slices_IndexFunc_int_impl_isMarking_c1 n) := by
  refine fn_ok (sig := sig) mixed ttok (mkK_nat (cslices_IndexFunc_int_impl_isMarking_c1 n)) (mkK_ok (cslices_IndexFunc_int_impl_isMarking_c1 n)) (mkL_nat (mkK_nat (cslices_IndexFunc_int_impl_isMarking_c1 n)) (l := [(2, Dslices_IndexFunc_int_impl_isMarking_c1_l2, Pslices_IndexFunc_int_impl_isMarking_c1_l2 @slices_IndexFunc_int_impl_isMarking_c1_l2 n)]) ⟨nlslices_IndexFunc_int_impl_isMarking_c1_l2 n, trivial⟩) (fn := Try.f157) (c := bodyOf Try.f157) (by kernel_rfl) (by kernel_rfl) (by kernel_rfl) (.eq (l := [.lo (loopIn 2 (bodyOf Try.f157))]) (by kernel_rfl) ⟨(lkslices_IndexFunc_int_impl_isMarking_c1_l2 n _ _ (at_id (i := 2) (by kernel_rfl) rfl)), trivial⟩) (shs := Hslices_IndexFunc_int_impl_isMarking_c1) (S := Sslices_IndexFunc_int_impl_isMarking_c1) (h1 := by kernel_rfl) fun R p k => ?_
  unfold Kslices_IndexFunc_int_impl_isMarking_c1
  cases h : (PkS.un Sslices_IndexFunc_int_impl_isMarking_c1 p) with
  | none => rfl
  | some d =>
    obtain ⟨x0, u⟩ := (d : (List Int) × Unit)
    have hp := PkS.un_pack h
    subst hp
    exact (eslices_IndexFunc_int_impl_isMarking_c1 @impl_isMarking_c1 @slices_IndexFunc_int_impl_isMarking_c1_l2 n x0 k).symm

/-! ### slices.ContainsFunc[[]int,int] -/
theorem cslices_ContainsFunc_int_impl_isMarking_c1 (n : Nat) : AllOk Try.prog [(157, Kslices_IndexFunc_int_impl_isMarking_c1 @slices_IndexFunc_int_impl_isMarking_c1 n)] := ⟨okslices_IndexFunc_int_impl_isMarking_c1 n, trivial⟩
@[reducible] def Sslices_ContainsFunc_int_impl_isMarking_c1 : PkS := ⟨[.one (.ro (.int .i64)), .one (.fn 159 [])], []⟩
@[reducible] def Tslices_ContainsFunc_int_impl_isMarking_c1 : PkS := ⟨[.one (.bool), .one (.dead), .one (.fn 159 [])], []⟩
def Hslices_ContainsFunc_int_impl_isMarking_c1 : List Sh := [.one .any, .skip, .fn 159 []]
def Kslices_ContainsFunc_int_impl_isMarking_c1 (g : ∀ {R : Type}, Nat → (List Int) → (Bool → Option R) → Option R) (n : Nat) : KPs := fun R p k => match (PkS.un Sslices_ContainsFunc_int_impl_isMarking_c1 p : Option ((List Int) × Unit)) with
  | some (x0, _) => g n x0 (fun r0 => k (PkS.pack Tslices_ContainsFunc_int_impl_isMarking_c1 (r0, ())))
  | none => none
theorem eslices_ContainsFunc_int_impl_isMarking_c1 (slices_IndexFunc_int_impl_isMarking_c1 : ∀ {R : Type}, Nat → (List Int) → (Int → Option R) → Option R) {R : Type} (n : Nat) (x0 : List Int) (k : Pk → Option R) : evF tt sig (mkK [(157, Kslices_IndexFunc_int_impl_isMarking_c1 @slices_IndexFunc_int_impl_isMarking_c1 n)] R) (mkL (mkK [(157, Kslices_IndexFunc_int_impl_isMarking_c1 @slices_IndexFunc_int_impl_isMarking_c1 n)]) [] R) Try.f120 Hslices_ContainsFunc_int_impl_isMarking_c1 (PkS.pack Sslices_ContainsFunc_int_impl_isMarking_c1 (x0, ())) k = (fun (k : Bool → Option R) => (slices_IndexFunc_int_impl_isMarking_c1 n x0 fun r1 => k (decide (r1 ≥ 0)))) (fun r0 => k (PkS.pack Tslices_ContainsFunc_int_impl_isMarking_c1 (r0, ()))) := by kernel_rfl
theorem okslices_ContainsFunc_int_impl_isMarking_c1 (n : Nat) : FnOk Try.prog 120 (Kslices_ContainsFunc_int_impl_isMarking_c1 @slices_ContainsFunc_int_impl_isMarking_c1 n) := by
  refine fn_ok (sig := sig) mixed ttok (mkK_nat (cslices_ContainsFunc_int_impl_isMarking_c1 n)) (mkK_ok (cslices_ContainsFunc_int_impl_isMarking_c1 n)) (mkL_nat (mkK_nat (cslices_ContainsFunc_int_impl_isMarking_c1 n)) (l := []) trivial) (fn := Try.f120) (c := bodyOf Try.f120) (by kernel_rfl) (by kernel_rfl) (by kernel_rfl) (.eq (l := []) (by kernel_rfl) trivial) (shs := Hslices_ContainsFunc_int_impl_isMarking_c1) (S := Sslices_ContainsFunc_int_impl_isMarking_c1) (h1 := by kernel_rfl) fun R p k => ?_
  unfold Kslices_ContainsFunc_int_impl_isMarking_c1
  cases h : (PkS.un Sslices_ContainsFunc_int_impl_isMarking_c1 p) with
  | none => rfl
  | some d =>
    obtain ⟨x0, u⟩ := (d : (List Int) × Unit)
    have hp := PkS.un_pack h
    subst hp
    exact (eslices_ContainsFunc_int_impl_isMarking_c1 @slices_IndexFunc_int_impl_isMarking_c1 n x0 k).symm

/-! ### loop.example/g00269/impl.isMarking -/
theorem cimpl_isMarking (n : Nat) : AllOk Try.prog [(120, Kslices_ContainsFunc_int_impl_isMarking_c1 @slices_ContainsFunc_int_impl_isMarking_c1 n)] := ⟨okslices_ContainsFunc_int_impl_isMarking_c1 n, trivial⟩
@[reducible] def Simpl_isMarking : PkS := ⟨[.one (.ro (.int .i64)), .one (.int .i64)], []⟩
@[reducible] def Timpl_isMarking : PkS := ⟨[.one (.bool), .one (.dead), .one (.dead)], []⟩
def Himpl_isMarking : List Sh := [.one .any, .skip, .skip]
def Kimpl_isMarking (g : ∀ {R : Type}, Nat → (List Int) → Int → (Bool → Option R) → Option R) (n : Nat) : KPs := fun R p k => match (PkS.un Simpl_isMarking p : Option ((List Int) × Int × Unit)) with
  | some (x0, x1, _) => g n x0 x1 (fun r0 => k (PkS.pack Timpl_isMarking (r0, ())))
  | none => none
theorem eimpl_isMarking (slices_ContainsFunc_int_impl_isMarking_c1 : ∀ {R : Type}, Nat → (List Int) → (Bool → Option R) → Option R) {R : Type} (n : Nat) (x0 : List Int) (x1 : Int) (k : Pk → Option R) : evF tt sig (mkK [(120, Kslices_ContainsFunc_int_impl_isMarking_c1 @slices_ContainsFunc_int_impl_isMarking_c1 n)] R) (mkL (mkK [(120, Kslices_ContainsFunc_int_impl_isMarking_c1 @slices_ContainsFunc_int_impl_isMarking_c1 n)]) [] R) Try.f127 Himpl_isMarking (PkS.pack Simpl_isMarking (x0, x1, ())) k = (fun (k : Bool → Option R) => (bif ((x0.length : Int) == x1) then (slices_ContainsFunc_int_impl_isMarking_c1 n x0 fun r1 => k (!r1)) else k false)) (fun r0 => k (PkS.pack Timpl_isMarking (r0, ()))) := by kernel_rfl
theorem okimpl_isMarking (n : Nat) : FnOk Try.prog 127 (Kimpl_isMarking @impl_isMarking n) := by
  refine fn_ok (sig := sig) mixed ttok (mkK_nat (cimpl_isMarking n)) (mkK_ok (cimpl_isMarking n)) (mkL_nat (mkK_nat (cimpl_isMarking n)) (l := []) trivial) (fn := Try.f127) (c := bodyOf Try.f127) (by kernel_rfl) (by kernel_rfl) (by kernel_rfl) (.eq (l := []) (by kernel_rfl) trivial) (shs := Himpl_isMarking) (S := Simpl_isMarking) (h1 := by kernel_rfl) fun R p k => ?_
  unfold Kimpl_isMarking
  cases h : (PkS.un Simpl_isMarking p) with
  | none => rfl
  | some d =>
    obtain ⟨x0, x1, u⟩ := (d : (List Int) × Int × Unit)
    have hp := PkS.un_pack h
    subst hp
    exact (eimpl_isMarking @slices_ContainsFunc_int_impl_isMarking_c1 n x0 x1 k).symm

/-! ### (*loop.example/g00269/impl.Net).fired -/
theorem cimpl_Net_fired (n : Nat) : AllOk Try.prog [(123, Kslices_Clone_int @slices_Clone_int n), (158, Kslices_Min_int @slices_Min_int n), (127, Kimpl_isMarking @impl_isMarking n)] := ⟨okslices_Clone_int n, ⟨okslices_Min_int n, ⟨okimpl_isMarking n, trivial⟩⟩⟩
@[reducible] def Simpl_Net_fired_l3 : PkS := ⟨[.one (.box (100000, 0) 0), .one (.whole (100000, 1)), .one (.box (100000, 2) 0), .one (.ro (.int .i64)), .one (.int .i64), .one (.int .i64), .one (.box (100000, 0) 0), .one (.dead), .one (.dead)], [((100000, 0), .box [.int .i64, .ro (.pr (.sl (.int .i64)) (.sl (.int .i64)))]), ((100000, 1), .arr (.int .i64)), ((100000, 2), .box [.ro (.int .i64), .ro (.int .i64)])]⟩
@[reducible] def Timpl_Net_fired_l3_0 : PkS := ⟨[.one (.box (100000, 0) 0), .one (.whole (100000, 1)), .one (.box (100000, 2) 0), .one (.box (100000, 0) 0), .one (.dead), .one (.dead)], [((100000, 0), .box [.int .i64, .ro (.pr (.sl (.int .i64)) (.sl (.int .i64)))]), ((100000, 1), .arr (.int .i64)), ((100000, 2), .box [.ro (.int .i64), .ro (.int .i64)])]⟩
def Dimpl_Net_fired_l3 : LoopD := ⟨61, [0, 8, 9, 24, 25, 26], [.box [.any, (.ro (.pr (.sl (.int .i64)) (.sl (.int .i64))))], .one (.own (.int .i64)), .box [(.ro (.int .i64)), (.ro (.int .i64))], .one (.ro (.int .i64)), .one .any, .one .any, .box [.any, (.ro (.pr (.sl (.int .i64)) (.sl (.int .i64))))], .skip, .skip], fun x => match x with
  | .exit 0 => some ([0, 8, 9], [.box [.any, (.ro (.pr (.sl (.int .i64)) (.sl (.int .i64))))], .one (.own (.int .i64)), .box [(.ro (.int .i64)), (.ro (.int .i64))], .box [.any, (.ro (.pr (.sl (.int .i64)) (.sl (.int .i64))))], .skip, .skip])
  | _ => none⟩
def Pimpl_Net_fired_l3 (g : ∀ {R : Type}, Nat → (List Int) → Int → Int → Int → (List (List Int × List Int)) → (List Int) → (List Int) → (List Int) → (Int → (List (List Int × List Int)) → (List Int) → (List Int) → (List Int) → Option R) → Option R) (n : Nat) : LPs := fun R q kk => match (PkS.un Simpl_Net_fired_l3 q : Option ((List Int) × Int × Int × Int × (List (List Int × List Int)) × (List Int) × (List Int) × (List Int) × Unit)) with
  | some (y3_0, y3_1, y3_2, y3_3, y3_4, y3_5, y3_6, y3_7, _) => g n y3_0 y3_1 y3_2 y3_3 y3_4 y3_5 y3_6 y3_7 (fun r0 r1 r2 r3 r4 => kk (.exit 0) (PkS.pack Timpl_Net_fired_l3_0 (r0, r1, r2, r3, r4, ())))
  | none => none
theorem eimpl_Net_fired_l3 (slices_Clone_int : ∀ {R : Type}, Nat → (List Int) → ((List Int) → Option R) → Option R) (slices_Min_int : ∀ {R : Type}, Nat → (List Int) → (Int → Option R) → Option R) (impl_isMarking : ∀ {R : Type}, Nat → (List Int) → Int → (Bool → Option R) → Option R) (impl_Net_fired_l3 : ∀ {R : Type}, Nat → (List Int) → Int → Int → Int → (List (List Int × List Int)) → (List Int) → (List Int) → (List Int) → (Int → (List (List Int × List Int)) → (List Int) → (List Int) → (List Int) → Option R) → Option R) {R : Type} (n : Nat) (y3_0 : List Int) (y3_1 : Int) (y3_2 : Int) (y3_3 : Int) (y3_4 : List (List Int × List Int)) (y3_5 : List Int) (y3_6 : List Int) (y3_7 : List Int) (kk : Ex → Pk → Option R) : Dimpl_Net_fired_l3.step tt sig (mkK [(123, Kslices_Clone_int @slices_Clone_int n), (158, Kslices_Min_int @slices_Min_int n), (127, Kimpl_isMarking @impl_isMarking n)] R) (mkL (mkK [(123, Kslices_Clone_int @slices_Clone_int n), (158, Kslices_Min_int @slices_Min_int n), (127, Kimpl_isMarking @impl_isMarking n)]) [] R) (loopIn 3 (bodyOf Try.f124)) (fun q' => Pimpl_Net_fired_l3 @impl_Net_fired_l3 n R q' kk) (PkS.pack Simpl_Net_fired_l3 (y3_0, y3_1, y3_2, y3_3, y3_4, y3_5, y3_6, y3_7, ())) kk = (fun (kexit0 : Int → (List (List Int × List Int)) → (List Int) → (List Int) → (List Int) → Option R) => (bif (decide (y3_2 < y3_1)) then (bif decide (0 ≤ y3_2) then (bif decide (y3_2 < (y3_0.length : Int)) then (bif decide (0 ≤ (y3_0.getD (Int.toNat y3_2) 0)) then (bif decide ((y3_0.getD (Int.toNat y3_2) 0) < (y3_5.length : Int)) then (bif decide (0 ≤ (y3_0.getD (Int.toNat y3_2) 0)) then (bif decide ((y3_0.getD (Int.toNat y3_2) 0) < (y3_5.length : Int)) then impl_Net_fired_l3 n y3_0 y3_1 (IntKind.wrap .i64 (y3_2 + 1)) y3_3 y3_4 (y3_5.set (Int.toNat (y3_0.getD (Int.toNat y3_2) 0)) (IntKind.wrap .i64 ((y3_5.getD (Int.toNat (y3_0.getD (Int.toNat y3_2) 0)) 0) - 1))) y3_6 y3_7 kexit0 else none) else none) else none) else none) else none) else none) else kexit0 y3_3 y3_4 y3_5 y3_6 y3_7)) (fun r0 r1 r2 r3 r4 => kk (.exit 0) (PkS.pack Timpl_Net_fired_l3_0 (r0, r1, r2, r3, r4, ()))) := by kernel_rfl
theorem leimpl_Net_fired_l3 : LoopEq tt sig (fun n => mkK [(123, Kslices_Clone_int @slices_Clone_int n), (158, Kslices_Min_int @slices_Min_int n), (127, Kimpl_isMarking @impl_isMarking n)]) (fun n => mkL (mkK [(123, Kslices_Clone_int @slices_Clone_int n), (158, Kslices_Min_int @slices_Min_int n), (127, Kimpl_isMarking @impl_isMarking n)]) []) Dimpl_Net_fired_l3 Simpl_Net_fired_l3 (loopIn 3 (bodyOf Try.f124)) (Pimpl_Net_fired_l3 @impl_Net_fired_l3) where
  zero R q kk := by unfold Pimpl_Net_fired_l3; cases (PkS.un Simpl_Net_fired_l3 q) <;> rfl
  succ n R q kk := by
    unfold Pimpl_Net_fired_l3
    cases h : (PkS.un Simpl_Net_fired_l3 q) with
    | none => rfl
    | some d =>
      obtain ⟨y3_0, y3_1, y3_2, y3_3, y3_4, y3_5, y3_6, y3_7, u⟩ := (d : (List Int) × Int × Int × Int × (List (List Int × List Int)) × (List Int) × (List Int) × (List Int) × Unit)
      have hp := PkS.un_pack h
      subst hp
      exact (eimpl_Net_fired_l3 @slices_Clone_int @slices_Min_int @impl_isMarking @impl_Net_fired_l3 n y3_0 y3_1 y3_2 y3_3 y3_4 y3_5 y3_6 y3_7 kk).symm
theorem nlimpl_Net_fired_l3 : ∀ n, NatLP (Pimpl_Net_fired_l3 @impl_Net_fired_l3 n) := leimpl_Net_fired_l3.nat (fun n => mkK_nat (cimpl_Net_fired n)) fun n => mkL_nat (mkK_nat (cimpl_Net_fired n)) (l := []) trivial
theorem inimpl_Net_fired_l3 (n : Nat) (R : Type) : LoopsOk Try.prog (mkL (mkK [(123, Kslices_Clone_int @slices_Clone_int n), (158, Kslices_Min_int @slices_Min_int n), (127, Kimpl_isMarking @impl_isMarking n)]) [] R) (loopIn 3 (bodyOf Try.f124)) := .eq (l := []) (by kernel_rfl) trivial
theorem lkimpl_Net_fired_l3 (n : Nat) (R : Type) (L0 : LK R) (h0 : ∀ id, firstRegion (loopIn 3 (bodyOf Try.f124)) = some id → L0 id = Dimpl_Net_fired_l3.oracle (mkK [(123, Kslices_Clone_int @slices_Clone_int n), (158, Kslices_Min_int @slices_Min_int n), (127, Kimpl_isMarking @impl_isMarking n)] R) (Pimpl_Net_fired_l3 @impl_Net_fired_l3 n R)) : LoopOk Try.prog L0 (loopIn 3 (bodyOf Try.f124)) :=
  leimpl_Net_fired_l3.ok mixed ttok (fun n => mkK_nat (cimpl_Net_fired n)) (fun n => mkK_ok (cimpl_Net_fired n)) (fun n => inimpl_Net_fired_l3 n R) (mkK_nat (cimpl_Net_fired n)) h0
@[reducible] def Simpl_Net_fired_l10 : PkS := ⟨[.one (.box (100000, 0) 0), .one (.whole (100000, 1)), .one (.ro (.int .i64)), .one (.int .i64), .one (.int .i64), .one (.box (100000, 0) 0), .one (.dead), .one (.dead)], [((100000, 0), .box [.int .i64, .ro (.pr (.sl (.int .i64)) (.sl (.int .i64)))]), ((100000, 1), .arr (.int .i64))]⟩
@[reducible] def Timpl_Net_fired_l10_0 : PkS := ⟨[.one (.box (100000, 0) 0), .one (.whole (100000, 1)), .one (.box (100000, 0) 0), .one (.dead), .one (.dead)], [((100000, 0), .box [.int .i64, .ro (.pr (.sl (.int .i64)) (.sl (.int .i64)))]), ((100000, 1), .arr (.int .i64))]⟩
def Dimpl_Net_fired_l10 : LoopD := ⟨61, [0, 8, 41, 42, 43], [.box [.any, (.ro (.pr (.sl (.int .i64)) (.sl (.int .i64))))], .one (.own (.int .i64)), .one (.ro (.int .i64)), .one .any, .one .any, .box [.any, (.ro (.pr (.sl (.int .i64)) (.sl (.int .i64))))], .skip, .skip], fun x => match x with
  | .exit 2 => some ([0, 8], [.box [.any, (.ro (.pr (.sl (.int .i64)) (.sl (.int .i64))))], .one (.own (.int .i64)), .box [.any, (.ro (.pr (.sl (.int .i64)) (.sl (.int .i64))))], .skip, .skip])
  | _ => none⟩
def Pimpl_Net_fired_l10 (g : ∀ {R : Type}, Nat → (List Int) → Int → Int → Int → (List (List Int × List Int)) → (List Int) → (Int → (List (List Int × List Int)) → (List Int) → Option R) → Option R) (n : Nat) : LPs := fun R q kk => match (PkS.un Simpl_Net_fired_l10 q : Option ((List Int) × Int × Int × Int × (List (List Int × List Int)) × (List Int) × Unit)) with
  | some (y10_0, y10_1, y10_2, y10_3, y10_4, y10_5, _) => g n y10_0 y10_1 y10_2 y10_3 y10_4 y10_5 (fun r0 r1 r2 => kk (.exit 2) (PkS.pack Timpl_Net_fired_l10_0 (r0, r1, r2, ())))
  | none => none
theorem eimpl_Net_fired_l10 (slices_Clone_int : ∀ {R : Type}, Nat → (List Int) → ((List Int) → Option R) → Option R) (slices_Min_int : ∀ {R : Type}, Nat → (List Int) → (Int → Option R) → Option R) (impl_isMarking : ∀ {R : Type}, Nat → (List Int) → Int → (Bool → Option R) → Option R) (impl_Net_fired_l3 : ∀ {R : Type}, Nat → (List Int) → Int → Int → Int → (List (List Int × List Int)) → (List Int) → (List Int) → (List Int) → (Int → (List (List Int × List Int)) → (List Int) → (List Int) → (List Int) → Option R) → Option R) (impl_Net_fired_l10 : ∀ {R : Type}, Nat → (List Int) → Int → Int → Int → (List (List Int × List Int)) → (List Int) → (Int → (List (List Int × List Int)) → (List Int) → Option R) → Option R) {R : Type} (n : Nat) (y10_0 : List Int) (y10_1 : Int) (y10_2 : Int) (y10_3 : Int) (y10_4 : List (List Int × List Int)) (y10_5 : List Int) (kk : Ex → Pk → Option R) : Dimpl_Net_fired_l10.step tt sig (mkK [(123, Kslices_Clone_int @slices_Clone_int n), (158, Kslices_Min_int @slices_Min_int n), (127, Kimpl_isMarking @impl_isMarking n)] R) (mkL (mkK [(123, Kslices_Clone_int @slices_Clone_int n), (158, Kslices_Min_int @slices_Min_int n), (127, Kimpl_isMarking @impl_isMarking n)]) [(3, Dimpl_Net_fired_l3, Pimpl_Net_fired_l3 @impl_Net_fired_l3 n)] R) (loopIn 10 (bodyOf Try.f124)) (fun q' => Pimpl_Net_fired_l10 @impl_Net_fired_l10 n R q' kk) (PkS.pack Simpl_Net_fired_l10 (y10_0, y10_1, y10_2, y10_3, y10_4, y10_5, ())) kk = (fun (kexit2 : Int → (List (List Int × List Int)) → (List Int) → Option R) => (bif (decide (y10_2 < y10_1)) then (bif decide (0 ≤ y10_2) then (bif decide (y10_2 < (y10_0.length : Int)) then (bif decide (0 ≤ (y10_0.getD (Int.toNat y10_2) 0)) then (bif decide ((y10_0.getD (Int.toNat y10_2) 0) < (y10_5.length : Int)) then (bif decide (0 ≤ (y10_0.getD (Int.toNat y10_2) 0)) then (bif decide ((y10_0.getD (Int.toNat y10_2) 0) < (y10_5.length : Int)) then impl_Net_fired_l10 n y10_0 y10_1 (IntKind.wrap .i64 (y10_2 + 1)) y10_3 y10_4 (y10_5.set (Int.toNat (y10_0.getD (Int.toNat y10_2) 0)) (IntKind.wrap .i64 ((y10_5.getD (Int.toNat (y10_0.getD (Int.toNat y10_2) 0)) 0) + 1))) kexit2 else none) else none) else none) else none) else none) else none) else kexit2 y10_3 y10_4 y10_5)) (fun r0 r1 r2 => kk (.exit 2) (PkS.pack Timpl_Net_fired_l10_0 (r0, r1, r2, ()))) := by kernel_rfl
theorem leimpl_Net_fired_l10 : LoopEq tt sig (fun n => mkK [(123, Kslices_Clone_int @slices_Clone_int n), (158, Kslices_Min_int @slices_Min_int n), (127, Kimpl_isMarking @impl_isMarking n)]) (fun n => mkL (mkK [(123, Kslices_Clone_int @slices_Clone_int n), (158, Kslices_Min_int @slices_Min_int n), (127, Kimpl_isMarking @impl_isMarking n)]) [(3, Dimpl_Net_fired_l3, Pimpl_Net_fired_l3 @impl_Net_fired_l3 n)]) Dimpl_Net_fired_l10 Simpl_Net_fired_l10 (loopIn 10 (bodyOf Try.f124)) (Pimpl_Net_fired_l10 @impl_Net_fired_l10) where
  zero R q kk := by unfold Pimpl_Net_fired_l10; cases (PkS.un Simpl_Net_fired_l10 q) <;> rfl
  succ n R q kk := by
    unfold Pimpl_Net_fired_l10
    cases h : (PkS.un Simpl_Net_fired_l10 q) with
    | none => rfl
    | some d =>
      obtain ⟨y10_0, y10_1, y10_2, y10_3, y10_4, y10_5, u⟩ := (d : (List Int) × Int × Int × Int × (List (List Int × List Int)) × (List Int) × Unit)
      have hp := PkS.un_pack h
      subst hp
      exact (eimpl_Net_fired_l10 @slices_Clone_int @slices_Min_int @impl_isMarking @impl_Net_fired_l3 @impl_Net_fired_l10 n y10_0 y10_1 y10_2 y10_3 y10_4 y10_5 kk).symm
theorem nlimpl_Net_fired_l10 : ∀ n, NatLP (Pimpl_Net_fired_l10 @impl_Net_fired_l10 n) := leimpl_Net_fired_l10.nat (fun n => mkK_nat (cimpl_Net_fired n)) fun n => mkL_nat (mkK_nat (cimpl_Net_fired n)) (l := [(3, Dimpl_Net_fired_l3, Pimpl_Net_fired_l3 @impl_Net_fired_l3 n)]) ⟨nlimpl_Net_fired_l3 n, trivial⟩
theorem inimpl_Net_fired_l10 (n : Nat) (R : Type) : LoopsOk Try.prog (mkL (mkK [(123, Kslices_Clone_int @slices_Clone_int n), (158, Kslices_Min_int @slices_Min_int n), (127, Kimpl_isMarking @impl_isMarking n)]) [(3, Dimpl_Net_fired_l3, Pimpl_Net_fired_l3 @impl_Net_fired_l3 n)] R) (loopIn 10 (bodyOf Try.f124)) := .eq (l := []) (by kernel_rfl) trivial
theorem lkimpl_Net_fired_l10 (n : Nat) (R : Type) (L0 : LK R) (h0 : ∀ id, firstRegion (loopIn 10 (bodyOf Try.f124)) = some id → L0 id = Dimpl_Net_fired_l10.oracle (mkK [(123, Kslices_Clone_int @slices_Clone_int n), (158, Kslices_Min_int @slices_Min_int n), (127, Kimpl_isMarking @impl_isMarking n)] R) (Pimpl_Net_fired_l10 @impl_Net_fired_l10 n R)) : LoopOk Try.prog L0 (loopIn 10 (bodyOf Try.f124)) :=
  leimpl_Net_fired_l10.ok mixed ttok (fun n => mkK_nat (cimpl_Net_fired n)) (fun n => mkK_ok (cimpl_Net_fired n)) (fun n => inimpl_Net_fired_l10 n R) (mkK_nat (cimpl_Net_fired n)) h0
@[reducible] def Simpl_Net_fired : PkS := ⟨[.one (.box (200000, 0) 0), .one (.ro (.int .i64)), .one (.int .i64)], [((200000, 0), .box [.int .i64, .ro (.pr (.sl (.int .i64)) (.sl (.int .i64)))])]⟩
@[reducible] def Timpl_Net_fired : PkS := ⟨[.tup [(false, [.whole (300000, 0)]), (false, [.bool])], .one (.box (300000, 1) 0), .one (.dead), .one (.dead)], [((300000, 0), .arr (.int .i64)), ((300000, 1), .box [.int .i64, .ro (.pr (.sl (.int .i64)) (.sl (.int .i64)))])]⟩
def Himpl_Net_fired : List Sh := [.tup [(false, [(.own (.int .i64))]), (false, [.any])], .box [.any, (.ro (.pr (.sl (.int .i64)) (.sl (.int .i64))))], .skip, .skip]
def Kimpl_Net_fired (g : ∀ {R : Type}, Nat → (List Int) → Int → Int → (List (List Int × List Int)) → (Bool → (List Int) → Int → (List (List Int × List Int)) → Option R) → Option R) (n : Nat) : KPs := fun R p k => match (PkS.un Simpl_Net_fired p : Option ((List Int) × Int × Int × (List (List Int × List Int)) × Unit)) with
  | some (x0, x1, x2, x3, _) => g n x0 x1 x2 x3 (fun r0 r1 r2 r3 => k (PkS.pack Timpl_Net_fired (r0, r1, r2, r3, ())))
  | none => none
theorem eimpl_Net_fired (slices_Clone_int : ∀ {R : Type}, Nat → (List Int) → ((List Int) → Option R) → Option R) (slices_Min_int : ∀ {R : Type}, Nat → (List Int) → (Int → Option R) → Option R) (impl_isMarking : ∀ {R : Type}, Nat → (List Int) → Int → (Bool → Option R) → Option R) (impl_Net_fired_l3 : ∀ {R : Type}, Nat → (List Int) → Int → Int → Int → (List (List Int × List Int)) → (List Int) → (List Int) → (List Int) → (Int → (List (List Int × List Int)) → (List Int) → (List Int) → (List Int) → Option R) → Option R) (impl_Net_fired_l10 : ∀ {R : Type}, Nat → (List Int) → Int → Int → Int → (List (List Int × List Int)) → (List Int) → (Int → (List (List Int × List Int)) → (List Int) → Option R) → Option R) {R : Type} (n : Nat) (x0 : List Int) (x1 : Int) (x2 : Int) (x3 : List (List Int × List Int)) (k : Pk → Option R) : evF tt sig (mkK [(123, Kslices_Clone_int @slices_Clone_int n), (158, Kslices_Min_int @slices_Min_int n), (127, Kimpl_isMarking @impl_isMarking n)] R) (mkL (mkK [(123, Kslices_Clone_int @slices_Clone_int n), (158, Kslices_Min_int @slices_Min_int n), (127, Kimpl_isMarking @impl_isMarking n)]) [(3, Dimpl_Net_fired_l3, Pimpl_Net_fired_l3 @impl_Net_fired_l3 n), (10, Dimpl_Net_fired_l10, Pimpl_Net_fired_l10 @impl_Net_fired_l10 n)] R) Try.f124 Himpl_Net_fired (PkS.pack Simpl_Net_fired (x0, x1, x2, x3, ())) k = (fun (k : Bool → (List Int) → Int → (List (List Int × List Int)) → Option R) => (slices_Clone_int n x0 fun r1 => (bif decide (0 ≤ x1) then (bif decide (x1 < (x3.length : Int)) then (impl_Net_fired_l3 n ((x3.getD (Int.toNat x1) ([], [])).1) (((x3.getD (Int.toNat x1) ([], [])).1).length : Int) 0 x2 x3 r1 ((x3.getD (Int.toNat x1) ([], [])).1) ((x3.getD (Int.toNat x1) ([], [])).2) (fun r2 r3 r4 r5 r6 => (slices_Min_int n r4 fun r7 => (bif (decide (r7 < 0)) then k false ([] : List Int) r2 r3 else (impl_Net_fired_l10 n r6 (r6.length : Int) 0 r2 r3 r4 (fun r8 r9 r10 => (impl_isMarking n r10 r8 fun r11 => k r11 r10 r8 r9))))))) else none) else none))) (fun r0 r1 r2 r3 => k (PkS.pack Timpl_Net_fired (r0, r1, r2, r3, ()))) := by kernel_rfl
theorem okimpl_Net_fired (n : Nat) : FnOk Try.prog 124 (Kimpl_Net_fired @impl_Net_fired n) := by
  refine fn_ok (sig := sig) mixed ttok (mkK_nat (cimpl_Net_fired n)) (mkK_ok (cimpl_Net_fired n)) (mkL_nat (mkK_nat (cimpl_Net_fired n)) (l := [(3, Dimpl_Net_fired_l3, Pimpl_Net_fired_l3 @impl_Net_fired_l3 n), (10, Dimpl_Net_fired_l10, Pimpl_Net_fired_l10 @impl_Net_fired_l10 n)]) ⟨nlimpl_Net_fired_l3 n, ⟨nlimpl_Net_fired_l10 n, trivial⟩⟩) (fn := Try.f124) (c := bodyOf Try.f124) (by kernel_rfl) (by kernel_rfl) (by kernel_rfl) (.eq (l := [.lo (loopIn 3 (bodyOf Try.f124)), .lo (loopIn 10 (bodyOf Try.f124))]) (by kernel_rfl) ⟨(lkimpl_Net_fired_l3 n _ _ (at_id (i := 3) (by kernel_rfl) rfl)), ⟨(lkimpl_Net_fired_l10 n _ _ (at_id (i := 10) (by kernel_rfl) rfl)), trivial⟩⟩) (shs := Himpl_Net_fired) (S := Simpl_Net_fired) (h1 := by kernel_rfl) fun R p k => ?_
  unfold Kimpl_Net_fired
  cases h : (PkS.un Simpl_Net_fired p) with
  | none => rfl
  | some d =>
    obtain ⟨x0, x1, x2, x3, u⟩ := (d : (List Int) × Int × Int × (List (List Int × List Int)) × Unit)
    have hp := PkS.un_pack h
    subst hp
    exact (eimpl_Net_fired @slices_Clone_int @slices_Min_int @impl_isMarking @impl_Net_fired_l3 @impl_Net_fired_l10 n x0 x1 x2 x3 k).symm

/-! ### loop.example/g00269/impl.marksFrom -/
theorem cimpl_marksFrom (n : Nat) : AllOk Try.prog [(160, Kimpl_keyOf @impl_keyOf n), (124, Kimpl_Net_fired @impl_Net_fired n)] := ⟨okimpl_keyOf n, ⟨okimpl_Net_fired n, trivial⟩⟩
@[reducible] def Simpl_marksFrom_l7 : PkS := ⟨[.one (.box (100000, 0) 0), .one (.box (100000, 4) 0), .one (.mp (100000, 5)), .one (.int .i64), .one (.int .i64), .one (.int .i64), .one (.box (100000, 0) 0), .one (.dead)], [((100000, 0), .box [.int .i64, .ro (.pr (.sl (.int .i64)) (.sl (.int .i64)))]), ((100000, 1), .arr (.sl (.int .i64))), ((100000, 2), .arr (.int .i64)), ((100000, 3), .arr (.int .i64)), ((100000, 4), .box [.whole (100000, 1), .whole (100000, 2), .whole (100000, 3)]), ((100000, 5), .set)]⟩
@[reducible] def Timpl_marksFrom_l7_0 : PkS := ⟨[.one (.dead), .one (.bool), .one (.box (100000, 0) 0), .one (.dead)], [((100000, 0), .box [.int .i64, .ro (.pr (.sl (.int .i64)) (.sl (.int .i64)))])]⟩
@[reducible] def Timpl_marksFrom_l7_1 : PkS := ⟨[.one (.box (100000, 0) 0), .one (.box (100000, 4) 0), .one (.mp (100000, 5)), .one (.int .i64), .one (.box (100000, 0) 0), .one (.dead)], [((100000, 0), .box [.int .i64, .ro (.pr (.sl (.int .i64)) (.sl (.int .i64)))]), ((100000, 1), .arr (.sl (.int .i64))), ((100000, 2), .arr (.int .i64)), ((100000, 3), .arr (.int .i64)), ((100000, 4), .box [.whole (100000, 1), .whole (100000, 2), .whole (100000, 3)]), ((100000, 5), .set)]⟩
def Dimpl_marksFrom_l7 : LoopD := ⟨101, [0, 6, 7, 8, 35, 36], [.box [.any, (.ro (.pr (.sl (.int .i64)) (.sl (.int .i64))))], .box [(.own (.sl (.int .i64))), (.own (.int .i64)), (.own (.int .i64))], .one .map, .one .any, .one .any, .one .any, .box [.any, (.ro (.pr (.sl (.int .i64)) (.sl (.int .i64))))], .skip], fun x => match x with
  | .ret => some ([4, 5], [.skip, .one .any, .box [.any, (.ro (.pr (.sl (.int .i64)) (.sl (.int .i64))))], .skip])
  | .exit 2 => some ([0, 6, 7, 8], [.box [.any, (.ro (.pr (.sl (.int .i64)) (.sl (.int .i64))))], .box [(.own (.sl (.int .i64))), (.own (.int .i64)), (.own (.int .i64))], .one .map, .one .any, .box [.any, (.ro (.pr (.sl (.int .i64)) (.sl (.int .i64))))], .skip])
  | _ => none⟩
def Pimpl_marksFrom_l7 (g : ∀ {R : Type}, Nat → Int → Int → Int → Int → (List (List Int × List Int)) → (List (List Int)) → (List Int) → (List Int) → (List (List Int)) → (Bool → Int → (List (List Int × List Int)) → Option R) → (Int → Int → (List (List Int × List Int)) → (List (List Int)) → (List Int) → (List Int) → (List (List Int)) → Option R) → Option R) (n : Nat) : LPs := fun R q kk => match (PkS.un Simpl_marksFrom_l7 q : Option (Int × Int × Int × Int × (List (List Int × List Int)) × (List (List Int)) × (List Int) × (List Int) × (List (List Int)) × Unit)) with
  | some (y7_0, y7_1, y7_2, y7_3, y7_4, y7_5, y7_6, y7_7, y7_8, _) => g n y7_0 y7_1 y7_2 y7_3 y7_4 y7_5 y7_6 y7_7 y7_8 (fun r0 r1 r2 => kk .ret (PkS.pack Timpl_marksFrom_l7_0 (r0, r1, r2, ()))) (fun r0 r1 r2 r3 r4 r5 r6 => kk (.exit 2) (PkS.pack Timpl_marksFrom_l7_1 (r0, r1, r2, r3, r4, r5, r6, ())))
  | none => none
theorem eimpl_marksFrom_l7 (impl_keyOf : ∀ {R : Type}, Nat → (List Int) → (Int → Int → Int → Int → Int → Int → Int → Int → Option R) → Option R) (impl_Net_fired : ∀ {R : Type}, Nat → (List Int) → Int → Int → (List (List Int × List Int)) → (Bool → (List Int) → Int → (List (List Int × List Int)) → Option R) → Option R) (impl_marksFrom_l7 : ∀ {R : Type}, Nat → Int → Int → Int → Int → (List (List Int × List Int)) → (List (List Int)) → (List Int) → (List Int) → (List (List Int)) → (Bool → Int → (List (List Int × List Int)) → Option R) → (Int → Int → (List (List Int × List Int)) → (List (List Int)) → (List Int) → (List Int) → (List (List Int)) → Option R) → Option R) {R : Type} (n : Nat) (y7_0 : Int) (y7_1 : Int) (y7_2 : Int) (y7_3 : Int) (y7_4 : List (List Int × List Int)) (y7_5 : List (List Int)) (y7_6 : List Int) (y7_7 : List Int) (y7_8 : List (List Int)) (kk : Ex → Pk → Option R) : Dimpl_marksFrom_l7.step tt sig (mkK [(160, Kimpl_keyOf @impl_keyOf n), (124, Kimpl_Net_fired @impl_Net_fired n)] R) (mkL (mkK [(160, Kimpl_keyOf @impl_keyOf n), (124, Kimpl_Net_fired @impl_Net_fired n)]) [] R) (loopIn 7 (bodyOf Try.f129)) (fun q' => Pimpl_marksFrom_l7 @impl_marksFrom_l7 n R q' kk) (PkS.pack Simpl_marksFrom_l7 (y7_0, y7_1, y7_2, y7_3, y7_4, y7_5, y7_6, y7_7, y7_8, ())) kk = (fun (kret : Bool → Int → (List (List Int × List Int)) → Option R) (kexit2 : Int → Int → (List (List Int × List Int)) → (List (List Int)) → (List Int) → (List Int) → (List (List Int)) → Option R) => (bif (decide (y7_2 < y7_1)) then (bif decide (0 ≤ y7_0) then (bif decide (y7_0 < (y7_5.length : Int)) then (impl_Net_fired n (y7_5.getD (Int.toNat y7_0) []) y7_2 y7_3 y7_4 fun r9 r10 r11 r12 => (bif (!r9) then impl_marksFrom_l7 n y7_0 y7_1 (IntKind.wrap .i64 (y7_2 + 1)) r11 r12 y7_5 y7_6 y7_7 y7_8 kret kexit2 else (impl_keyOf n r10 fun r13 r14 r15 r16 r17 r18 r19 r20 => (bif keyIn [r13, r14, r15, r16, r17, r18, r19, r20] then (bif (List.contains y7_8 [r13, r14, r15, r16, r17, r18, r19, r20]) then impl_marksFrom_l7 n y7_0 y7_1 (IntKind.wrap .i64 (y7_2 + 1)) r11 r12 y7_5 y7_6 y7_7 y7_8 kret kexit2 else (bif ((y7_5.length : Int) == 400) then kret false r11 r12 else (impl_keyOf n r10 fun r21 r22 r23 r24 r25 r26 r27 r28 => (bif keyIn [r21, r22, r23, r24, r25, r26, r27, r28] then (bif decide (y7_5.length + [r10].length ≤ LIM) then (bif decide (y7_6.length + [y7_0].length ≤ LIM) then (bif decide (y7_7.length + [y7_2].length ≤ LIM) then impl_marksFrom_l7 n y7_0 y7_1 (IntKind.wrap .i64 (y7_2 + 1)) r11 r12 (y7_5 ++ [r10]) (y7_6 ++ [y7_0]) (y7_7 ++ [y7_2]) ([r21, r22, r23, r24, r25, r26, r27, r28] :: y7_8) kret kexit2 else none) else none) else none) else none)))) else none)))) else none) else none) else kexit2 y7_0 y7_3 y7_4 y7_5 y7_6 y7_7 y7_8)) (fun r0 r1 r2 => kk .ret (PkS.pack Timpl_marksFrom_l7_0 (r0, r1, r2, ()))) (fun r0 r1 r2 r3 r4 r5 r6 => kk (.exit 2) (PkS.pack Timpl_marksFrom_l7_1 (r0, r1, r2, r3, r4, r5, r6, ()))) := by kernel_rfl
theorem leimpl_marksFrom_l7 : LoopEq tt sig (fun n => mkK [(160, Kimpl_keyOf @impl_keyOf n), (124, Kimpl_Net_fired @impl_Net_fired n)]) (fun n => mkL (mkK [(160, Kimpl_keyOf @impl_keyOf n), (124, Kimpl_Net_fired @impl_Net_fired n)]) []) Dimpl_marksFrom_l7 Simpl_marksFrom_l7 (loopIn 7 (bodyOf Try.f129)) (Pimpl_marksFrom_l7 @impl_marksFrom_l7) where
  zero R q kk := by unfold Pimpl_marksFrom_l7; cases (PkS.un Simpl_marksFrom_l7 q) <;> rfl
  succ n R q kk := by
    unfold Pimpl_marksFrom_l7
    cases h : (PkS.un Simpl_marksFrom_l7 q) with
    | none => rfl
    | some d =>
      obtain ⟨y7_0, y7_1, y7_2, y7_3, y7_4, y7_5, y7_6, y7_7, y7_8, u⟩ := (d : Int × Int × Int × Int × (List (List Int × List Int)) × (List (List Int)) × (List Int) × (List Int) × (List (List Int)) × Unit)
      have hp := PkS.un_pack h
      subst hp
      exact (eimpl_marksFrom_l7 @impl_keyOf @impl_Net_fired @impl_marksFrom_l7 n y7_0 y7_1 y7_2 y7_3 y7_4 y7_5 y7_6 y7_7 y7_8 kk).symm
theorem nlimpl_marksFrom_l7 : ∀ n, NatLP (Pimpl_marksFrom_l7 @impl_marksFrom_l7 n) := leimpl_marksFrom_l7.nat (fun n => mkK_nat (cimpl_marksFrom n)) fun n => mkL_nat (mkK_nat (cimpl_marksFrom n)) (l := []) trivial
theorem inimpl_marksFrom_l7 (n : Nat) (R : Type) : LoopsOk Try.prog (mkL (mkK [(160, Kimpl_keyOf @impl_keyOf n), (124, Kimpl_Net_fired @impl_Net_fired n)]) [] R) (loopIn 7 (bodyOf Try.f129)) := .eq (l := []) (by kernel_rfl) trivial
theorem lkimpl_marksFrom_l7 (n : Nat) (R : Type) (L0 : LK R) (h0 : ∀ id, firstRegion (loopIn 7 (bodyOf Try.f129)) = some id → L0 id = Dimpl_marksFrom_l7.oracle (mkK [(160, Kimpl_keyOf @impl_keyOf n), (124, Kimpl_Net_fired @impl_Net_fired n)] R) (Pimpl_marksFrom_l7 @impl_marksFrom_l7 n R)) : LoopOk Try.prog L0 (loopIn 7 (bodyOf Try.f129)) :=
  leimpl_marksFrom_l7.ok mixed ttok (fun n => mkK_nat (cimpl_marksFrom n)) (fun n => mkK_ok (cimpl_marksFrom n)) (fun n => inimpl_marksFrom_l7 n R) (mkK_nat (cimpl_marksFrom n)) h0
@[reducible] def Simpl_marksFrom_l4 : PkS := ⟨[.one (.box (100000, 0) 0), .one (.box (100000, 4) 0), .one (.mp (100000, 5)), .one (.int .i64), .one (.box (100000, 0) 0), .one (.dead)], [((100000, 0), .box [.int .i64, .ro (.pr (.sl (.int .i64)) (.sl (.int .i64)))]), ((100000, 1), .arr (.sl (.int .i64))), ((100000, 2), .arr (.int .i64)), ((100000, 3), .arr (.int .i64)), ((100000, 4), .box [.whole (100000, 1), .whole (100000, 2), .whole (100000, 3)]), ((100000, 5), .set)]⟩
@[reducible] def Timpl_marksFrom_l4_0 : PkS := ⟨[.one (.dead), .one (.bool), .one (.box (100000, 0) 0), .one (.dead)], [((100000, 0), .box [.int .i64, .ro (.pr (.sl (.int .i64)) (.sl (.int .i64)))])]⟩
@[reducible] def Timpl_marksFrom_l4_1 : PkS := ⟨[.one (.box (100000, 3) 0), .one (.box (100000, 4) 0), .one (.dead)], [((100000, 0), .arr (.sl (.int .i64))), ((100000, 1), .arr (.int .i64)), ((100000, 2), .arr (.int .i64)), ((100000, 3), .box [.whole (100000, 0), .whole (100000, 1), .whole (100000, 2)]), ((100000, 4), .box [.int .i64, .ro (.pr (.sl (.int .i64)) (.sl (.int .i64)))])]⟩
def Dimpl_marksFrom_l4 : LoopD := ⟨101, [0, 6, 7, 8], [.box [.any, (.ro (.pr (.sl (.int .i64)) (.sl (.int .i64))))], .box [(.own (.sl (.int .i64))), (.own (.int .i64)), (.own (.int .i64))], .one .map, .one .any, .box [.any, (.ro (.pr (.sl (.int .i64)) (.sl (.int .i64))))], .skip], fun x => match x with
  | .ret => some ([4, 5], [.skip, .one .any, .box [.any, (.ro (.pr (.sl (.int .i64)) (.sl (.int .i64))))], .skip])
  | .exit 0 => some ([6], [.box [(.own (.sl (.int .i64))), (.own (.int .i64)), (.own (.int .i64))], .box [.any, (.ro (.pr (.sl (.int .i64)) (.sl (.int .i64))))], .skip])
  | _ => none⟩
def Pimpl_marksFrom_l4 (g : ∀ {R : Type}, Nat → Int → Int → (List (List Int × List Int)) → (List (List Int)) → (List Int) → (List Int) → (List (List Int)) → (Bool → Int → (List (List Int × List Int)) → Option R) → ((List (List Int)) → (List Int) → (List Int) → Int → (List (List Int × List Int)) → Option R) → Option R) (n : Nat) : LPs := fun R q kk => match (PkS.un Simpl_marksFrom_l4 q : Option (Int × Int × (List (List Int × List Int)) × (List (List Int)) × (List Int) × (List Int) × (List (List Int)) × Unit)) with
  | some (y4_0, y4_1, y4_2, y4_3, y4_4, y4_5, y4_6, _) => g n y4_0 y4_1 y4_2 y4_3 y4_4 y4_5 y4_6 (fun r0 r1 r2 => kk .ret (PkS.pack Timpl_marksFrom_l4_0 (r0, r1, r2, ()))) (fun r0 r1 r2 r3 r4 => kk (.exit 0) (PkS.pack Timpl_marksFrom_l4_1 (r0, r1, r2, r3, r4, ())))
  | none => none
theorem eimpl_marksFrom_l4 (impl_keyOf : ∀ {R : Type}, Nat → (List Int) → (Int → Int → Int → Int → Int → Int → Int → Int → Option R) → Option R) (impl_Net_fired : ∀ {R : Type}, Nat → (List Int) → Int → Int → (List (List Int × List Int)) → (Bool → (List Int) → Int → (List (List Int × List Int)) → Option R) → Option R) (impl_marksFrom_l7 : ∀ {R : Type}, Nat → Int → Int → Int → Int → (List (List Int × List Int)) → (List (List Int)) → (List Int) → (List Int) → (List (List Int)) → (Bool → Int → (List (List Int × List Int)) → Option R) → (Int → Int → (List (List Int × List Int)) → (List (List Int)) → (List Int) → (List Int) → (List (List Int)) → Option R) → Option R) (impl_marksFrom_l4 : ∀ {R : Type}, Nat → Int → Int → (List (List Int × List Int)) → (List (List Int)) → (List Int) → (List Int) → (List (List Int)) → (Bool → Int → (List (List Int × List Int)) → Option R) → ((List (List Int)) → (List Int) → (List Int) → Int → (List (List Int × List Int)) → Option R) → Option R) {R : Type} (n : Nat) (y4_0 : Int) (y4_1 : Int) (y4_2 : List (List Int × List Int)) (y4_3 : List (List Int)) (y4_4 : List Int) (y4_5 : List Int) (y4_6 : List (List Int)) (kk : Ex → Pk → Option R) : Dimpl_marksFrom_l4.step tt sig (mkK [(160, Kimpl_keyOf @impl_keyOf n), (124, Kimpl_Net_fired @impl_Net_fired n)] R) (mkL (mkK [(160, Kimpl_keyOf @impl_keyOf n), (124, Kimpl_Net_fired @impl_Net_fired n)]) [(7, Dimpl_marksFrom_l7, Pimpl_marksFrom_l7 @impl_marksFrom_l7 n)] R) (loopIn 4 (bodyOf Try.f129)) (fun q' => Pimpl_marksFrom_l4 @impl_marksFrom_l4 n R q' kk) (PkS.pack Simpl_marksFrom_l4 (y4_0, y4_1, y4_2, y4_3, y4_4, y4_5, y4_6, ())) kk = (fun (kret : Bool → Int → (List (List Int × List Int)) → Option R) (kexit0 : (List (List Int)) → (List Int) → (List Int) → Int → (List (List Int × List Int)) → Option R) => (bif (decide (y4_0 < (y4_3.length : Int))) then (impl_marksFrom_l7 n y4_0 (y4_2.length : Int) 0 y4_1 y4_2 y4_3 y4_4 y4_5 y4_6 (fun r29 r30 r31 => kret r29 r30 r31) (fun r32 r33 r34 r35 r36 r37 r38 => impl_marksFrom_l4 n (IntKind.wrap .i64 (r32 + 1)) r33 r34 r35 r36 r37 r38 kret kexit0)) else kexit0 y4_3 y4_4 y4_5 y4_1 y4_2)) (fun r0 r1 r2 => kk .ret (PkS.pack Timpl_marksFrom_l4_0 (r0, r1, r2, ()))) (fun r0 r1 r2 r3 r4 => kk (.exit 0) (PkS.pack Timpl_marksFrom_l4_1 (r0, r1, r2, r3, r4, ()))) := by kernel_rfl
theorem leimpl_marksFrom_l4 : LoopEq tt sig (fun n => mkK [(160, Kimpl_keyOf @impl_keyOf n), (124, Kimpl_Net_fired @impl_Net_fired n)]) (fun n => mkL (mkK [(160, Kimpl_keyOf @impl_keyOf n), (124, Kimpl_Net_fired @impl_Net_fired n)]) [(7, Dimpl_marksFrom_l7, Pimpl_marksFrom_l7 @impl_marksFrom_l7 n)]) Dimpl_marksFrom_l4 Simpl_marksFrom_l4 (loopIn 4 (bodyOf Try.f129)) (Pimpl_marksFrom_l4 @impl_marksFrom_l4) where
  zero R q kk := by unfold Pimpl_marksFrom_l4; cases (PkS.un Simpl_marksFrom_l4 q) <;> rfl
  succ n R q kk := by
    unfold Pimpl_marksFrom_l4
    cases h : (PkS.un Simpl_marksFrom_l4 q) with
    | none => rfl
    | some d =>
      obtain ⟨y4_0, y4_1, y4_2, y4_3, y4_4, y4_5, y4_6, u⟩ := (d : Int × Int × (List (List Int × List Int)) × (List (List Int)) × (List Int) × (List Int) × (List (List Int)) × Unit)
      have hp := PkS.un_pack h
      subst hp
      exact (eimpl_marksFrom_l4 @impl_keyOf @impl_Net_fired @impl_marksFrom_l7 @impl_marksFrom_l4 n y4_0 y4_1 y4_2 y4_3 y4_4 y4_5 y4_6 kk).symm
theorem nlimpl_marksFrom_l4 : ∀ n, NatLP (Pimpl_marksFrom_l4 @impl_marksFrom_l4 n) := leimpl_marksFrom_l4.nat (fun n => mkK_nat (cimpl_marksFrom n)) fun n => mkL_nat (mkK_nat (cimpl_marksFrom n)) (l := [(7, Dimpl_marksFrom_l7, Pimpl_marksFrom_l7 @impl_marksFrom_l7 n)]) ⟨nlimpl_marksFrom_l7 n, trivial⟩
theorem inimpl_marksFrom_l4 (n : Nat) (R : Type) : LoopsOk Try.prog (mkL (mkK [(160, Kimpl_keyOf @impl_keyOf n), (124, Kimpl_Net_fired @impl_Net_fired n)]) [(7, Dimpl_marksFrom_l7, Pimpl_marksFrom_l7 @impl_marksFrom_l7 n)] R) (loopIn 4 (bodyOf Try.f129)) := .eq (l := [.lo (loopIn 7 (bodyOf Try.f129))]) (by kernel_rfl) ⟨(lkimpl_marksFrom_l7 n R _ (at_id (i := 7) (by kernel_rfl) rfl)), trivial⟩
theorem lkimpl_marksFrom_l4 (n : Nat) (R : Type) (L0 : LK R) (h0 : ∀ id, firstRegion (loopIn 4 (bodyOf Try.f129)) = some id → L0 id = Dimpl_marksFrom_l4.oracle (mkK [(160, Kimpl_keyOf @impl_keyOf n), (124, Kimpl_Net_fired @impl_Net_fired n)] R) (Pimpl_marksFrom_l4 @impl_marksFrom_l4 n R)) : LoopOk Try.prog L0 (loopIn 4 (bodyOf Try.f129)) :=
  leimpl_marksFrom_l4.ok mixed ttok (fun n => mkK_nat (cimpl_marksFrom n)) (fun n => mkK_ok (cimpl_marksFrom n)) (fun n => inimpl_marksFrom_l4 n R) (mkK_nat (cimpl_marksFrom n)) h0
@[reducible] def Simpl_marksFrom : PkS := ⟨[.one (.box (200000, 0) 0), .one (.ro (.int .i64))], [((200000, 0), .box [.int .i64, .ro (.pr (.sl (.int .i64)) (.sl (.int .i64)))])]⟩
@[reducible] def Timpl_marksFrom_r0 : PkS := ⟨[.tup [(false, [.dead]), (false, [.bool])], .one (.box (300000, 0) 0), .one (.dead)], [((300000, 0), .box [.int .i64, .ro (.pr (.sl (.int .i64)) (.sl (.int .i64)))])]⟩
@[reducible] def Timpl_marksFrom_r1 : PkS := ⟨[.tup [(false, [.relt (.pr (.sl (.sl (.int .i64))) (.pr (.sl (.int .i64)) (.sl (.int .i64))))]), (false, [.bool])], .one (.box (300000, 0) 0), .one (.dead)], [((300000, 0), .box [.int .i64, .ro (.pr (.sl (.int .i64)) (.sl (.int .i64)))])]⟩
def Himpl_marksFrom : List Sh := [.tup [(false, [(.lend (.pr (.sl (.sl (.int .i64))) (.pr (.sl (.int .i64)) (.sl (.int .i64)))))]), (false, [.any])], .box [.any, (.ro (.pr (.sl (.int .i64)) (.sl (.int .i64))))], .skip]
def Kimpl_marksFrom (g : ∀ {R : Type}, Nat → (List Int) → Int → (List (List Int × List Int)) → (Bool → Int → (List (List Int × List Int)) → Option R) → ((List (List Int) × List Int × List Int) → Bool → Int → (List (List Int × List Int)) → Option R) → Option R) (n : Nat) : KPs := fun R p k => match (PkS.un Simpl_marksFrom p : Option ((List Int) × Int × (List (List Int × List Int)) × Unit)) with
  | some (x0, x1, x2, _) => g n x0 x1 x2 (fun r0 r1 r2 => k (PkS.pack Timpl_marksFrom_r0 (r0, r1, r2, ()))) (fun r0 r1 r2 r3 => k (PkS.pack Timpl_marksFrom_r1 (r0, r1, r2, r3, ())))
  | none => none
theorem eimpl_marksFrom (impl_keyOf : ∀ {R : Type}, Nat → (List Int) → (Int → Int → Int → Int → Int → Int → Int → Int → Option R) → Option R) (impl_Net_fired : ∀ {R : Type}, Nat → (List Int) → Int → Int → (List (List Int × List Int)) → (Bool → (List Int) → Int → (List (List Int × List Int)) → Option R) → Option R) (impl_marksFrom_l7 : ∀ {R : Type}, Nat → Int → Int → Int → Int → (List (List Int × List Int)) → (List (List Int)) → (List Int) → (List Int) → (List (List Int)) → (Bool → Int → (List (List Int × List Int)) → Option R) → (Int → Int → (List (List Int × List Int)) → (List (List Int)) → (List Int) → (List Int) → (List (List Int)) → Option R) → Option R) (impl_marksFrom_l4 : ∀ {R : Type}, Nat → Int → Int → (List (List Int × List Int)) → (List (List Int)) → (List Int) → (List Int) → (List (List Int)) → (Bool → Int → (List (List Int × List Int)) → Option R) → ((List (List Int)) → (List Int) → (List Int) → Int → (List (List Int × List Int)) → Option R) → Option R) {R : Type} (n : Nat) (x0 : List Int) (x1 : Int) (x2 : List (List Int × List Int)) (k : Pk → Option R) : evF tt sig (mkK [(160, Kimpl_keyOf @impl_keyOf n), (124, Kimpl_Net_fired @impl_Net_fired n)] R) (mkL (mkK [(160, Kimpl_keyOf @impl_keyOf n), (124, Kimpl_Net_fired @impl_Net_fired n)]) [(7, Dimpl_marksFrom_l7, Pimpl_marksFrom_l7 @impl_marksFrom_l7 n), (4, Dimpl_marksFrom_l4, Pimpl_marksFrom_l4 @impl_marksFrom_l4 n)] R) Try.f129 Himpl_marksFrom (PkS.pack Simpl_marksFrom (x0, x1, x2, ())) k = (fun (kk0 : Bool → Int → (List (List Int × List Int)) → Option R) (kk1 : (List (List Int) × List Int × List Int) → Bool → Int → (List (List Int × List Int)) → Option R) => (impl_keyOf n x0 fun r1 r2 r3 r4 r5 r6 r7 r8 => (bif keyIn [r1, r2, r3, r4, r5, r6, r7, r8] then (impl_marksFrom_l4 n 0 x1 x2 [x0] [(-1)] [(-1)] ([r1, r2, r3, r4, r5, r6, r7, r8] :: ([] : List (List Int))) (fun r39 r40 r41 => kk0 r39 r40 r41) (fun r42 r43 r44 r45 r46 => kk1 (r42, (r43, r44)) true r45 r46)) else none))) (fun r0 r1 r2 => k (PkS.pack Timpl_marksFrom_r0 (r0, r1, r2, ()))) (fun r0 r1 r2 r3 => k (PkS.pack Timpl_marksFrom_r1 (r0, r1, r2, r3, ()))) := by kernel_rfl
theorem okimpl_marksFrom (n : Nat) : FnOk Try.prog 129 (Kimpl_marksFrom @impl_marksFrom n) := by
  refine fn_ok (sig := sig) mixed ttok (mkK_nat (cimpl_marksFrom n)) (mkK_ok (cimpl_marksFrom n)) (mkL_nat (mkK_nat (cimpl_marksFrom n)) (l := [(7, Dimpl_marksFrom_l7, Pimpl_marksFrom_l7 @impl_marksFrom_l7 n), (4, Dimpl_marksFrom_l4, Pimpl_marksFrom_l4 @impl_marksFrom_l4 n)]) ⟨nlimpl_marksFrom_l7 n, ⟨nlimpl_marksFrom_l4 n, trivial⟩⟩) (fn := Try.f129) (c := bodyOf Try.f129) (by kernel_rfl) (by kernel_rfl) (by kernel_rfl) (.eq (l := [.lo (loopIn 4 (bodyOf Try.f129))]) (by kernel_rfl) ⟨(lkimpl_marksFrom_l4 n _ _ (at_id (i := 4) (by kernel_rfl) rfl)), trivial⟩) (shs := Himpl_marksFrom) (S := Simpl_marksFrom) (h1 := by kernel_rfl) fun R p k => ?_
  unfold Kimpl_marksFrom
  cases h : (PkS.un Simpl_marksFrom p) with
  | none => rfl
  | some d =>
    obtain ⟨x0, x1, x2, u⟩ := (d : (List Int) × Int × (List (List Int × List Int)) × Unit)
    have hp := PkS.un_pack h
    subst hp
    exact (eimpl_marksFrom @impl_keyOf @impl_Net_fired @impl_marksFrom_l7 @impl_marksFrom_l4 n x0 x1 x2 k).symm

/-! ### slices.Equal[[]int,int] -/
theorem cslices_Equal_int (n : Nat) : AllOk Try.prog [] := trivial
@[reducible] def Sslices_Equal_int_l4 : PkS := ⟨[.one (.ro (.int .i64)), .one (.ro (.int .i64)), .one (.int .i64), .one (.int .i64), .one (.dead), .one (.dead)], []⟩
@[reducible] def Tslices_Equal_int_l4_0 : PkS := ⟨[.one (.bool), .one (.dead), .one (.dead)], []⟩
@[reducible] def Tslices_Equal_int_l4_1 : PkS := ⟨[.one (.dead), .one (.dead)], []⟩
def Dslices_Equal_int_l4 : LoopD := ⟨26, [0, 1, 12, 13], [.one (.ro (.int .i64)), .one (.ro (.int .i64)), .one .any, .one .any, .skip, .skip], fun x => match x with
  | .ret => some ([4], [.one .any, .skip, .skip])
  | .exit 0 => some ([], [.skip, .skip])
  | _ => none⟩
def Pslices_Equal_int_l4 (g : ∀ {R : Type}, Nat → (List Int) → (List Int) → Int → Int → (Bool → Option R) → (Option R) → Option R) (n : Nat) : LPs := fun R q kk => match (PkS.un Sslices_Equal_int_l4 q : Option ((List Int) × (List Int) × Int × Int × Unit)) with
  | some (y4_0, y4_1, y4_2, y4_3, _) => g n y4_0 y4_1 y4_2 y4_3 (fun r0 => kk .ret (PkS.pack Tslices_Equal_int_l4_0 (r0, ()))) (kk (.exit 0) (PkS.pack Tslices_Equal_int_l4_1 ()))
  | none => none
theorem eslices_Equal_int_l4 (slices_Equal_int_l4 : ∀ {R : Type}, Nat → (List Int) → (List Int) → Int → Int → (Bool → Option R) → (Option R) → Option R) {R : Type} (n : Nat) (y4_0 : List Int) (y4_1 : List Int) (y4_2 : Int) (y4_3 : Int) (kk : Ex → Pk → Option R) : Dslices_Equal_int_l4.step tt sig (mkK [] R) (mkL (mkK []) [] R) (loopIn 4 (bodyOf Try.f138)) (fun q' => Pslices_Equal_int_l4 @slices_Equal_int_l4 n R q' kk) (PkS.pack Sslices_Equal_int_l4 (y4_0, y4_1, y4_2, y4_3, ())) kk = (fun (kret : Bool → Option R) (kexit0 : Option R) => (bif (decide (y4_3 < y4_2)) then (bif decide (0 ≤ y4_3) then (bif decide (y4_3 < (y4_0.length : Int)) then (bif decide (0 ≤ y4_3) then (bif decide (y4_3 < (y4_1.length : Int)) then (bif ((y4_0.getD (Int.toNat y4_3) 0) != (y4_1.getD (Int.toNat y4_3) 0)) then kret false else slices_Equal_int_l4 n y4_0 y4_1 y4_2 (IntKind.wrap .i64 (y4_3 + 1)) kret kexit0) else none) else none) else none) else none) else kexit0)) (fun r0 => kk .ret (PkS.pack Tslices_Equal_int_l4_0 (r0, ()))) (kk (.exit 0) (PkS.pack Tslices_Equal_int_l4_1 ())) := by kernel_rfl
theorem leslices_Equal_int_l4 : LoopEq tt sig (fun n => mkK []) (fun n => mkL (mkK []) []) Dslices_Equal_int_l4 Sslices_Equal_int_l4 (loopIn 4 (bodyOf Try.f138)) (Pslices_Equal_int_l4 @slices_Equal_int_l4) where
  zero R q kk := by unfold Pslices_Equal_int_l4; cases (PkS.un Sslices_Equal_int_l4 q) <;> rfl
  succ n R q kk := by
    unfold Pslices_Equal_int_l4
    cases h : (PkS.un Sslices_Equal_int_l4 q) with
    | none => rfl
    | some d =>
      obtain ⟨y4_0, y4_1, y4_2, y4_3, u⟩ := (d : (List Int) × (List Int) × Int × Int × Unit)
      have hp := PkS.un_pack h
      subst hp
      exact (eslices_Equal_int_l4 @slices_Equal_int_l4 n y4_0 y4_1 y4_2 y4_3 kk).symm
theorem nlslices_Equal_int_l4 : ∀ n, NatLP (Pslices_Equal_int_l4 @slices_Equal_int_l4 n) := leslices_Equal_int_l4.nat (fun n => mkK_nat (cslices_Equal_int n)) fun n => mkL_nat (mkK_nat (cslices_Equal_int n)) (l := []) trivial
theorem inslices_Equal_int_l4 (n : Nat) (R : Type) : LoopsOk Try.prog (mkL (mkK []) [] R) (loopIn 4 (bodyOf Try.f138)) := .eq (l := []) (by kernel_rfl) trivial
theorem lkslices_Equal_int_l4 (n : Nat) (R : Type) (L0 : LK R) (h0 : ∀ id, firstRegion (loopIn 4 (bodyOf Try.f138)) = some id → L0 id = Dslices_Equal_int_l4.oracle (mkK [] R) (Pslices_Equal_int_l4 @slices_Equal_int_l4 n R)) : LoopOk Try.prog L0 (loopIn 4 (bodyOf Try.f138)) :=
  leslices_Equal_int_l4.ok mixed ttok (fun n => mkK_nat (cslices_Equal_int n)) (fun n => mkK_ok (cslices_Equal_int n)) (fun n => inslices_Equal_int_l4 n R) (mkK_nat (cslices_Equal_int n)) h0
@[reducible] def Sslices_Equal_int : PkS := ⟨[.one (.ro (.int .i64)), .one (.ro (.int .i64))], []⟩
@[reducible] def Tslices_Equal_int : PkS := ⟨[.one (.bool), .one (.dead), .one (.dead)], []⟩
def Hslices_Equal_int : List Sh := [.one .any, .skip, .skip]
def Kslices_Equal_int (g : ∀ {R : Type}, Nat → (List Int) → (List Int) → (Bool → Option R) → Option R) (n : Nat) : KPs := fun R p k => match (PkS.un Sslices_Equal_int p : Option ((List Int) × (List Int) × Unit)) with
  | some (x0, x1, _) => g n x0 x1 (fun r0 => k (PkS.pack Tslices_Equal_int (r0, ())))
  | none => none
theorem eslices_Equal_int (slices_Equal_int_l4 : ∀ {R : Type}, Nat → (List Int) → (List Int) → Int → Int → (Bool → Option R) → (Option R) → Option R) {R : Type} (n : Nat) (x0 : List Int) (x1 : List Int) (k : Pk → Option R) : evF tt sig (mkK [] R) (mkL (mkK []) [(4, Dslices_Equal_int_l4, Pslices_Equal_int_l4 @slices_Equal_int_l4 n)] R) Try.f138 Hslices_Equal_int (PkS.pack Sslices_Equal_int (x0, x1, ())) k = (fun (k : Bool → Option R) => (bif ((x0.length : Int) != (x1.length : Int)) then k false else (slices_Equal_int_l4 n x0 x1 (x0.length : Int) 0 (fun r1 => k r1) (k true)))) (fun r0 => k (PkS.pack Tslices_Equal_int (r0, ()))) := by kernel_rfl
theorem okslices_Equal_int (n : Nat) : FnOk Try.prog 138 (Kslices_Equal_int @slices_Equal_int n) := by
  refine fn_ok (sig := sig) mixed ttok (mkK_nat (cslices_Equal_int n)) (mkK_ok (cslices_Equal_int n)) (mkL_nat (mkK_nat (cslices_Equal_int n)) (l := [(4, Dslices_Equal_int_l4, Pslices_Equal_int_l4 @slices_Equal_int_l4 n)]) ⟨nlslices_Equal_int_l4 n, trivial⟩) (fn := Try.f138) (c := bodyOf Try.f138) (by kernel_rfl) (by kernel_rfl) (by kernel_rfl) (.eq (l := [.lo (loopIn 4 (bodyOf Try.f138))]) (by kernel_rfl) ⟨(lkslices_Equal_int_l4 n _ _ (at_id (i := 4) (by kernel_rfl) rfl)), trivial⟩) (shs := Hslices_Equal_int) (S := Sslices_Equal_int) (h1 := by kernel_rfl) fun R p k => ?_
  unfold Kslices_Equal_int
  cases h : (PkS.un Sslices_Equal_int p) with
  | none => rfl
  | some d =>
    obtain ⟨x0, x1, u⟩ := (d : (List Int) × (List Int) × Unit)
    have hp := PkS.un_pack h
    subst hp
    exact (eslices_Equal_int @slices_Equal_int_l4 n x0 x1 k).symm

/-! ### (*loop.example/g00269/impl.Net).fired -/
theorem cimpl_Net_fired_v1 (n : Nat) : AllOk Try.prog [(123, Kslices_Clone_int @slices_Clone_int n), (158, Kslices_Min_int @slices_Min_int n), (127, Kimpl_isMarking @impl_isMarking n)] := ⟨okslices_Clone_int n, ⟨okslices_Min_int n, ⟨okimpl_isMarking n, trivial⟩⟩⟩
@[reducible] def Simpl_Net_fired_v1_l3 : PkS := ⟨[.one (.relt (.pr (.int .i64) (.sl (.pr (.sl (.int .i64)) (.sl (.int .i64)))))), .one (.whole (100000, 0)), .one (.box (100000, 1) 0), .one (.ro (.int .i64)), .one (.int .i64), .one (.int .i64), .one (.dead), .one (.dead), .one (.dead)], [((100000, 0), .arr (.int .i64)), ((100000, 1), .box [.ro (.int .i64), .ro (.int .i64)])]⟩
@[reducible] def Timpl_Net_fired_v1_l3_0 : PkS := ⟨[.one (.relt (.pr (.int .i64) (.sl (.pr (.sl (.int .i64)) (.sl (.int .i64)))))), .one (.whole (100000, 0)), .one (.box (100000, 1) 0), .one (.dead), .one (.dead), .one (.dead)], [((100000, 0), .arr (.int .i64)), ((100000, 1), .box [.ro (.int .i64), .ro (.int .i64)])]⟩
def Dimpl_Net_fired_v1_l3 : LoopD := ⟨61, [0, 8, 9, 24, 25, 26], [.one (.lend (.pr (.int .i64) (.sl (.pr (.sl (.int .i64)) (.sl (.int .i64)))))), .one (.own (.int .i64)), .box [(.ro (.int .i64)), (.ro (.int .i64))], .one (.ro (.int .i64)), .one .any, .one .any, .skip, .skip, .skip], fun x => match x with
  | .exit 0 => some ([0, 8, 9], [.one (.lend (.pr (.int .i64) (.sl (.pr (.sl (.int .i64)) (.sl (.int .i64)))))), .one (.own (.int .i64)), .box [(.ro (.int .i64)), (.ro (.int .i64))], .skip, .skip, .skip])
  | _ => none⟩
def Pimpl_Net_fired_v1_l3 (g : ∀ {R : Type}, Nat → (Int × List (List Int × List Int)) → (List Int) → Int → Int → (List Int) → (List Int) → (List Int) → ((Int × List (List Int × List Int)) → (List Int) → (List Int) → (List Int) → Option R) → Option R) (n : Nat) : LPs := fun R q kk => match (PkS.un Simpl_Net_fired_v1_l3 q : Option ((Int × List (List Int × List Int)) × (List Int) × Int × Int × (List Int) × (List Int) × (List Int) × Unit)) with
  | some (y3_0, y3_1, y3_2, y3_3, y3_4, y3_5, y3_6, _) => g n y3_0 y3_1 y3_2 y3_3 y3_4 y3_5 y3_6 (fun r0 r1 r2 r3 => kk (.exit 0) (PkS.pack Timpl_Net_fired_v1_l3_0 (r0, r1, r2, r3, ())))
  | none => none
theorem eimpl_Net_fired_v1_l3 (slices_Clone_int : ∀ {R : Type}, Nat → (List Int) → ((List Int) → Option R) → Option R) (slices_Min_int : ∀ {R : Type}, Nat → (List Int) → (Int → Option R) → Option R) (impl_isMarking : ∀ {R : Type}, Nat → (List Int) → Int → (Bool → Option R) → Option R) (impl_Net_fired_v1_l3 : ∀ {R : Type}, Nat → (Int × List (List Int × List Int)) → (List Int) → Int → Int → (List Int) → (List Int) → (List Int) → ((Int × List (List Int × List Int)) → (List Int) → (List Int) → (List Int) → Option R) → Option R) {R : Type} (n : Nat) (y3_0 : Int × List (List Int × List Int)) (y3_1 : List Int) (y3_2 : Int) (y3_3 : Int) (y3_4 : List Int) (y3_5 : List Int) (y3_6 : List Int) (kk : Ex → Pk → Option R) : Dimpl_Net_fired_v1_l3.step tt sig (mkK [(123, Kslices_Clone_int @slices_Clone_int n), (158, Kslices_Min_int @slices_Min_int n), (127, Kimpl_isMarking @impl_isMarking n)] R) (mkL (mkK [(123, Kslices_Clone_int @slices_Clone_int n), (158, Kslices_Min_int @slices_Min_int n), (127, Kimpl_isMarking @impl_isMarking n)]) [] R) (loopIn 3 (bodyOf Try.f124)) (fun q' => Pimpl_Net_fired_v1_l3 @impl_Net_fired_v1_l3 n R q' kk) (PkS.pack Simpl_Net_fired_v1_l3 (y3_0, y3_1, y3_2, y3_3, y3_4, y3_5, y3_6, ())) kk = (fun (kexit0 : (Int × List (List Int × List Int)) → (List Int) → (List Int) → (List Int) → Option R) => (bif (decide (y3_3 < y3_2)) then (bif decide (0 ≤ y3_3) then (bif decide (y3_3 < (y3_1.length : Int)) then (bif decide (0 ≤ (y3_1.getD (Int.toNat y3_3) 0)) then (bif decide ((y3_1.getD (Int.toNat y3_3) 0) < (y3_4.length : Int)) then (bif decide (0 ≤ (y3_1.getD (Int.toNat y3_3) 0)) then (bif decide ((y3_1.getD (Int.toNat y3_3) 0) < (y3_4.length : Int)) then impl_Net_fired_v1_l3 n y3_0 y3_1 y3_2 (IntKind.wrap .i64 (y3_3 + 1)) (y3_4.set (Int.toNat (y3_1.getD (Int.toNat y3_3) 0)) (IntKind.wrap .i64 ((y3_4.getD (Int.toNat (y3_1.getD (Int.toNat y3_3) 0)) 0) - 1))) y3_5 y3_6 kexit0 else none) else none) else none) else none) else none) else none) else kexit0 y3_0 y3_4 y3_5 y3_6)) (fun r0 r1 r2 r3 => kk (.exit 0) (PkS.pack Timpl_Net_fired_v1_l3_0 (r0, r1, r2, r3, ()))) := by kernel_rfl
theorem leimpl_Net_fired_v1_l3 : LoopEq tt sig (fun n => mkK [(123, Kslices_Clone_int @slices_Clone_int n), (158, Kslices_Min_int @slices_Min_int n), (127, Kimpl_isMarking @impl_isMarking n)]) (fun n => mkL (mkK [(123, Kslices_Clone_int @slices_Clone_int n), (158, Kslices_Min_int @slices_Min_int n), (127, Kimpl_isMarking @impl_isMarking n)]) []) Dimpl_Net_fired_v1_l3 Simpl_Net_fired_v1_l3 (loopIn 3 (bodyOf Try.f124)) (Pimpl_Net_fired_v1_l3 @impl_Net_fired_v1_l3) where
  zero R q kk := by unfold Pimpl_Net_fired_v1_l3; cases (PkS.un Simpl_Net_fired_v1_l3 q) <;> rfl
  succ n R q kk := by
    unfold Pimpl_Net_fired_v1_l3
    cases h : (PkS.un Simpl_Net_fired_v1_l3 q) with
    | none => rfl
    | some d =>
      obtain ⟨y3_0, y3_1, y3_2, y3_3, y3_4, y3_5, y3_6, u⟩ := (d : (Int × List (List Int × List Int)) × (List Int) × Int × Int × (List Int) × (List Int) × (List Int) × Unit)
      have hp := PkS.un_pack h
      subst hp
      exact (eimpl_Net_fired_v1_l3 @slices_Clone_int @slices_Min_int @impl_isMarking @impl_Net_fired_v1_l3 n y3_0 y3_1 y3_2 y3_3 y3_4 y3_5 y3_6 kk).symm
theorem nlimpl_Net_fired_v1_l3 : ∀ n, NatLP (Pimpl_Net_fired_v1_l3 @impl_Net_fired_v1_l3 n) := leimpl_Net_fired_v1_l3.nat (fun n => mkK_nat (cimpl_Net_fired_v1 n)) fun n => mkL_nat (mkK_nat (cimpl_Net_fired_v1 n)) (l := []) trivial
theorem inimpl_Net_fired_v1_l3 (n : Nat) (R : Type) : LoopsOk Try.prog (mkL (mkK [(123, Kslices_Clone_int @slices_Clone_int n), (158, Kslices_Min_int @slices_Min_int n), (127, Kimpl_isMarking @impl_isMarking n)]) [] R) (loopIn 3 (bodyOf Try.f124)) := .eq (l := []) (by kernel_rfl) trivial
theorem lkimpl_Net_fired_v1_l3 (n : Nat) (R : Type) (L0 : LK R) (h0 : ∀ id, firstRegion (loopIn 3 (bodyOf Try.f124)) = some id → L0 id = Dimpl_Net_fired_v1_l3.oracle (mkK [(123, Kslices_Clone_int @slices_Clone_int n), (158, Kslices_Min_int @slices_Min_int n), (127, Kimpl_isMarking @impl_isMarking n)] R) (Pimpl_Net_fired_v1_l3 @impl_Net_fired_v1_l3 n R)) : LoopOk Try.prog L0 (loopIn 3 (bodyOf Try.f124)) :=
  leimpl_Net_fired_v1_l3.ok mixed ttok (fun n => mkK_nat (cimpl_Net_fired_v1 n)) (fun n => mkK_ok (cimpl_Net_fired_v1 n)) (fun n => inimpl_Net_fired_v1_l3 n R) (mkK_nat (cimpl_Net_fired_v1 n)) h0
@[reducible] def Simpl_Net_fired_v1_l10 : PkS := ⟨[.one (.relt (.pr (.int .i64) (.sl (.pr (.sl (.int .i64)) (.sl (.int .i64)))))), .one (.whole (100000, 0)), .one (.ro (.int .i64)), .one (.int .i64), .one (.int .i64), .one (.dead), .one (.dead), .one (.dead)], [((100000, 0), .arr (.int .i64))]⟩
@[reducible] def Timpl_Net_fired_v1_l10_0 : PkS := ⟨[.one (.relt (.pr (.int .i64) (.sl (.pr (.sl (.int .i64)) (.sl (.int .i64)))))), .one (.whole (100000, 0)), .one (.dead), .one (.dead), .one (.dead)], [((100000, 0), .arr (.int .i64))]⟩
def Dimpl_Net_fired_v1_l10 : LoopD := ⟨61, [0, 8, 41, 42, 43], [.one (.lend (.pr (.int .i64) (.sl (.pr (.sl (.int .i64)) (.sl (.int .i64)))))), .one (.own (.int .i64)), .one (.ro (.int .i64)), .one .any, .one .any, .skip, .skip, .skip], fun x => match x with
  | .exit 2 => some ([0, 8], [.one (.lend (.pr (.int .i64) (.sl (.pr (.sl (.int .i64)) (.sl (.int .i64)))))), .one (.own (.int .i64)), .skip, .skip, .skip])
  | _ => none⟩
def Pimpl_Net_fired_v1_l10 (g : ∀ {R : Type}, Nat → (Int × List (List Int × List Int)) → (List Int) → Int → Int → (List Int) → ((Int × List (List Int × List Int)) → (List Int) → Option R) → Option R) (n : Nat) : LPs := fun R q kk => match (PkS.un Simpl_Net_fired_v1_l10 q : Option ((Int × List (List Int × List Int)) × (List Int) × Int × Int × (List Int) × Unit)) with
  | some (y10_0, y10_1, y10_2, y10_3, y10_4, _) => g n y10_0 y10_1 y10_2 y10_3 y10_4 (fun r0 r1 => kk (.exit 2) (PkS.pack Timpl_Net_fired_v1_l10_0 (r0, r1, ())))
  | none => none
theorem eimpl_Net_fired_v1_l10 (slices_Clone_int : ∀ {R : Type}, Nat → (List Int) → ((List Int) → Option R) → Option R) (slices_Min_int : ∀ {R : Type}, Nat → (List Int) → (Int → Option R) → Option R) (impl_isMarking : ∀ {R : Type}, Nat → (List Int) → Int → (Bool → Option R) → Option R) (impl_Net_fired_v1_l3 : ∀ {R : Type}, Nat → (Int × List (List Int × List Int)) → (List Int) → Int → Int → (List Int) → (List Int) → (List Int) → ((Int × List (List Int × List Int)) → (List Int) → (List Int) → (List Int) → Option R) → Option R) (impl_Net_fired_v1_l10 : ∀ {R : Type}, Nat → (Int × List (List Int × List Int)) → (List Int) → Int → Int → (List Int) → ((Int × List (List Int × List Int)) → (List Int) → Option R) → Option R) {R : Type} (n : Nat) (y10_0 : Int × List (List Int × List Int)) (y10_1 : List Int) (y10_2 : Int) (y10_3 : Int) (y10_4 : List Int) (kk : Ex → Pk → Option R) : Dimpl_Net_fired_v1_l10.step tt sig (mkK [(123, Kslices_Clone_int @slices_Clone_int n), (158, Kslices_Min_int @slices_Min_int n), (127, Kimpl_isMarking @impl_isMarking n)] R) (mkL (mkK [(123, Kslices_Clone_int @slices_Clone_int n), (158, Kslices_Min_int @slices_Min_int n), (127, Kimpl_isMarking @impl_isMarking n)]) [(3, Dimpl_Net_fired_v1_l3, Pimpl_Net_fired_v1_l3 @impl_Net_fired_v1_l3 n)] R) (loopIn 10 (bodyOf Try.f124)) (fun q' => Pimpl_Net_fired_v1_l10 @impl_Net_fired_v1_l10 n R q' kk) (PkS.pack Simpl_Net_fired_v1_l10 (y10_0, y10_1, y10_2, y10_3, y10_4, ())) kk = (fun (kexit2 : (Int × List (List Int × List Int)) → (List Int) → Option R) => (bif (decide (y10_3 < y10_2)) then (bif decide (0 ≤ y10_3) then (bif decide (y10_3 < (y10_1.length : Int)) then (bif decide (0 ≤ (y10_1.getD (Int.toNat y10_3) 0)) then (bif decide ((y10_1.getD (Int.toNat y10_3) 0) < (y10_4.length : Int)) then (bif decide (0 ≤ (y10_1.getD (Int.toNat y10_3) 0)) then (bif decide ((y10_1.getD (Int.toNat y10_3) 0) < (y10_4.length : Int)) then impl_Net_fired_v1_l10 n y10_0 y10_1 y10_2 (IntKind.wrap .i64 (y10_3 + 1)) (y10_4.set (Int.toNat (y10_1.getD (Int.toNat y10_3) 0)) (IntKind.wrap .i64 ((y10_4.getD (Int.toNat (y10_1.getD (Int.toNat y10_3) 0)) 0) + 1))) kexit2 else none) else none) else none) else none) else none) else none) else kexit2 y10_0 y10_4)) (fun r0 r1 => kk (.exit 2) (PkS.pack Timpl_Net_fired_v1_l10_0 (r0, r1, ()))) := by kernel_rfl
theorem leimpl_Net_fired_v1_l10 : LoopEq tt sig (fun n => mkK [(123, Kslices_Clone_int @slices_Clone_int n), (158, Kslices_Min_int @slices_Min_int n), (127, Kimpl_isMarking @impl_isMarking n)]) (fun n => mkL (mkK [(123, Kslices_Clone_int @slices_Clone_int n), (158, Kslices_Min_int @slices_Min_int n), (127, Kimpl_isMarking @impl_isMarking n)]) [(3, Dimpl_Net_fired_v1_l3, Pimpl_Net_fired_v1_l3 @impl_Net_fired_v1_l3 n)]) Dimpl_Net_fired_v1_l10 Simpl_Net_fired_v1_l10 (loopIn 10 (bodyOf Try.f124)) (Pimpl_Net_fired_v1_l10 @impl_Net_fired_v1_l10) where
  zero R q kk := by unfold Pimpl_Net_fired_v1_l10; cases (PkS.un Simpl_Net_fired_v1_l10 q) <;> rfl
  succ n R q kk := by
    unfold Pimpl_Net_fired_v1_l10
    cases h : (PkS.un Simpl_Net_fired_v1_l10 q) with
    | none => rfl
    | some d =>
      obtain ⟨y10_0, y10_1, y10_2, y10_3, y10_4, u⟩ := (d : (Int × List (List Int × List Int)) × (List Int) × Int × Int × (List Int) × Unit)
      have hp := PkS.un_pack h
      subst hp
      exact (eimpl_Net_fired_v1_l10 @slices_Clone_int @slices_Min_int @impl_isMarking @impl_Net_fired_v1_l3 @impl_Net_fired_v1_l10 n y10_0 y10_1 y10_2 y10_3 y10_4 kk).symm
theorem nlimpl_Net_fired_v1_l10 : ∀ n, NatLP (Pimpl_Net_fired_v1_l10 @impl_Net_fired_v1_l10 n) := leimpl_Net_fired_v1_l10.nat (fun n => mkK_nat (cimpl_Net_fired_v1 n)) fun n => mkL_nat (mkK_nat (cimpl_Net_fired_v1 n)) (l := [(3, Dimpl_Net_fired_v1_l3, Pimpl_Net_fired_v1_l3 @impl_Net_fired_v1_l3 n)]) ⟨nlimpl_Net_fired_v1_l3 n, trivial⟩
theorem inimpl_Net_fired_v1_l10 (n : Nat) (R : Type) : LoopsOk Try.prog (mkL (mkK [(123, Kslices_Clone_int @slices_Clone_int n), (158, Kslices_Min_int @slices_Min_int n), (127, Kimpl_isMarking @impl_isMarking n)]) [(3, Dimpl_Net_fired_v1_l3, Pimpl_Net_fired_v1_l3 @impl_Net_fired_v1_l3 n)] R) (loopIn 10 (bodyOf Try.f124)) := .eq (l := []) (by kernel_rfl) trivial
theorem lkimpl_Net_fired_v1_l10 (n : Nat) (R : Type) (L0 : LK R) (h0 : ∀ id, firstRegion (loopIn 10 (bodyOf Try.f124)) = some id → L0 id = Dimpl_Net_fired_v1_l10.oracle (mkK [(123, Kslices_Clone_int @slices_Clone_int n), (158, Kslices_Min_int @slices_Min_int n), (127, Kimpl_isMarking @impl_isMarking n)] R) (Pimpl_Net_fired_v1_l10 @impl_Net_fired_v1_l10 n R)) : LoopOk Try.prog L0 (loopIn 10 (bodyOf Try.f124)) :=
  leimpl_Net_fired_v1_l10.ok mixed ttok (fun n => mkK_nat (cimpl_Net_fired_v1 n)) (fun n => mkK_ok (cimpl_Net_fired_v1 n)) (fun n => inimpl_Net_fired_v1_l10 n R) (mkK_nat (cimpl_Net_fired_v1 n)) h0
@[reducible] def Simpl_Net_fired_v1 : PkS := ⟨[.one (.relt (.pr (.int .i64) (.sl (.pr (.sl (.int .i64)) (.sl (.int .i64)))))), .one (.ro (.int .i64)), .one (.int .i64)], []⟩
@[reducible] def Timpl_Net_fired_v1 : PkS := ⟨[.tup [(false, [.whole (300000, 0)]), (false, [.bool])], .one (.dead), .one (.dead), .one (.dead)], [((300000, 0), .arr (.int .i64))]⟩
def Himpl_Net_fired_v1 : List Sh := [.tup [(false, [(.own (.int .i64))]), (false, [.any])], .skip, .skip, .skip]
def Kimpl_Net_fired_v1 (g : ∀ {R : Type}, Nat → (Int × List (List Int × List Int)) → (List Int) → Int → (Bool → (List Int) → Option R) → Option R) (n : Nat) : KPs := fun R p k => match (PkS.un Simpl_Net_fired_v1 p : Option ((Int × List (List Int × List Int)) × (List Int) × Int × Unit)) with
  | some (x0, x1, x2, _) => g n x0 x1 x2 (fun r0 r1 => k (PkS.pack Timpl_Net_fired_v1 (r0, r1, ())))
  | none => none
theorem eimpl_Net_fired_v1 (slices_Clone_int : ∀ {R : Type}, Nat → (List Int) → ((List Int) → Option R) → Option R) (slices_Min_int : ∀ {R : Type}, Nat → (List Int) → (Int → Option R) → Option R) (impl_isMarking : ∀ {R : Type}, Nat → (List Int) → Int → (Bool → Option R) → Option R) (impl_Net_fired_v1_l3 : ∀ {R : Type}, Nat → (Int × List (List Int × List Int)) → (List Int) → Int → Int → (List Int) → (List Int) → (List Int) → ((Int × List (List Int × List Int)) → (List Int) → (List Int) → (List Int) → Option R) → Option R) (impl_Net_fired_v1_l10 : ∀ {R : Type}, Nat → (Int × List (List Int × List Int)) → (List Int) → Int → Int → (List Int) → ((Int × List (List Int × List Int)) → (List Int) → Option R) → Option R) {R : Type} (n : Nat) (x0 : Int × List (List Int × List Int)) (x1 : List Int) (x2 : Int) (k : Pk → Option R) : evF tt sig (mkK [(123, Kslices_Clone_int @slices_Clone_int n), (158, Kslices_Min_int @slices_Min_int n), (127, Kimpl_isMarking @impl_isMarking n)] R) (mkL (mkK [(123, Kslices_Clone_int @slices_Clone_int n), (158, Kslices_Min_int @slices_Min_int n), (127, Kimpl_isMarking @impl_isMarking n)]) [(3, Dimpl_Net_fired_v1_l3, Pimpl_Net_fired_v1_l3 @impl_Net_fired_v1_l3 n), (10, Dimpl_Net_fired_v1_l10, Pimpl_Net_fired_v1_l10 @impl_Net_fired_v1_l10 n)] R) Try.f124 Himpl_Net_fired_v1 (PkS.pack Simpl_Net_fired_v1 (x0, x1, x2, ())) k = (fun (k : Bool → (List Int) → Option R) => (slices_Clone_int n x1 fun r1 => (bif decide (0 ≤ x2) then (bif decide (x2 < (x0.2.length : Int)) then (impl_Net_fired_v1_l3 n x0 ((x0.2.getD (Int.toNat x2) ([], [])).1) (((x0.2.getD (Int.toNat x2) ([], [])).1).length : Int) 0 r1 ((x0.2.getD (Int.toNat x2) ([], [])).1) ((x0.2.getD (Int.toNat x2) ([], [])).2) (fun r2 r3 r4 r5 => (slices_Min_int n r3 fun r6 => (bif (decide (r6 < 0)) then k false ([] : List Int) else (impl_Net_fired_v1_l10 n r2 r5 (r5.length : Int) 0 r3 (fun r7 r8 => (impl_isMarking n r8 r7.1 fun r9 => k r9 r8))))))) else none) else none))) (fun r0 r1 => k (PkS.pack Timpl_Net_fired_v1 (r0, r1, ()))) := by kernel_rfl
theorem okimpl_Net_fired_v1 (n : Nat) : FnOk Try.prog 124 (Kimpl_Net_fired_v1 @impl_Net_fired_v1 n) := by
  refine fn_ok (sig := sig) mixed ttok (mkK_nat (cimpl_Net_fired_v1 n)) (mkK_ok (cimpl_Net_fired_v1 n)) (mkL_nat (mkK_nat (cimpl_Net_fired_v1 n)) (l := [(3, Dimpl_Net_fired_v1_l3, Pimpl_Net_fired_v1_l3 @impl_Net_fired_v1_l3 n), (10, Dimpl_Net_fired_v1_l10, Pimpl_Net_fired_v1_l10 @impl_Net_fired_v1_l10 n)]) ⟨nlimpl_Net_fired_v1_l3 n, ⟨nlimpl_Net_fired_v1_l10 n, trivial⟩⟩) (fn := Try.f124) (c := bodyOf Try.f124) (by kernel_rfl) (by kernel_rfl) (by kernel_rfl) (.eq (l := [.lo (loopIn 3 (bodyOf Try.f124)), .lo (loopIn 10 (bodyOf Try.f124))]) (by kernel_rfl) ⟨(lkimpl_Net_fired_v1_l3 n _ _ (at_id (i := 3) (by kernel_rfl) rfl)), ⟨(lkimpl_Net_fired_v1_l10 n _ _ (at_id (i := 10) (by kernel_rfl) rfl)), trivial⟩⟩) (shs := Himpl_Net_fired_v1) (S := Simpl_Net_fired_v1) (h1 := by kernel_rfl) fun R p k => ?_
  unfold Kimpl_Net_fired_v1
  cases h : (PkS.un Simpl_Net_fired_v1 p) with
  | none => rfl
  | some d =>
    obtain ⟨x0, x1, x2, u⟩ := (d : (Int × List (List Int × List Int)) × (List Int) × Int × Unit)
    have hp := PkS.un_pack h
    subst hp
    exact (eimpl_Net_fired_v1 @slices_Clone_int @slices_Min_int @impl_isMarking @impl_Net_fired_v1_l3 @impl_Net_fired_v1_l10 n x0 x1 x2 k).symm

/-! ### loop.example/g00269/impl.marksFrom -/
theorem cimpl_marksFrom_v1 (n : Nat) : AllOk Try.prog [(160, Kimpl_keyOf @impl_keyOf n), (124, Kimpl_Net_fired_v1 @impl_Net_fired_v1 n)] := ⟨okimpl_keyOf n, ⟨okimpl_Net_fired_v1 n, trivial⟩⟩
@[reducible] def Simpl_marksFrom_v1_l7 : PkS := ⟨[.one (.relt (.pr (.int .i64) (.sl (.pr (.sl (.int .i64)) (.sl (.int .i64)))))), .one (.box (100000, 3) 0), .one (.mp (100000, 4)), .one (.int .i64), .one (.int .i64), .one (.int .i64), .one (.dead), .one (.dead)], [((100000, 0), .arr (.sl (.int .i64))), ((100000, 1), .arr (.int .i64)), ((100000, 2), .arr (.int .i64)), ((100000, 3), .box [.whole (100000, 0), .whole (100000, 1), .whole (100000, 2)]), ((100000, 4), .set)]⟩
@[reducible] def Timpl_marksFrom_v1_l7_0 : PkS := ⟨[.one (.dead), .one (.bool), .one (.dead), .one (.dead)], []⟩
@[reducible] def Timpl_marksFrom_v1_l7_1 : PkS := ⟨[.one (.relt (.pr (.int .i64) (.sl (.pr (.sl (.int .i64)) (.sl (.int .i64)))))), .one (.box (100000, 3) 0), .one (.mp (100000, 4)), .one (.int .i64), .one (.dead), .one (.dead)], [((100000, 0), .arr (.sl (.int .i64))), ((100000, 1), .arr (.int .i64)), ((100000, 2), .arr (.int .i64)), ((100000, 3), .box [.whole (100000, 0), .whole (100000, 1), .whole (100000, 2)]), ((100000, 4), .set)]⟩
def Dimpl_marksFrom_v1_l7 : LoopD := ⟨101, [0, 6, 7, 8, 35, 36], [.one (.lend (.pr (.int .i64) (.sl (.pr (.sl (.int .i64)) (.sl (.int .i64)))))), .box [(.own (.sl (.int .i64))), (.own (.int .i64)), (.own (.int .i64))], .one .map, .one .any, .one .any, .one .any, .skip, .skip], fun x => match x with
  | .ret => some ([4, 5], [.skip, .one .any, .skip, .skip])
  | .exit 2 => some ([0, 6, 7, 8], [.one (.lend (.pr (.int .i64) (.sl (.pr (.sl (.int .i64)) (.sl (.int .i64)))))), .box [(.own (.sl (.int .i64))), (.own (.int .i64)), (.own (.int .i64))], .one .map, .one .any, .skip, .skip])
  | _ => none⟩
def Pimpl_marksFrom_v1_l7 (g : ∀ {R : Type}, Nat → (Int × List (List Int × List Int)) → Int → Int → Int → (List (List Int)) → (List Int) → (List Int) → (List (List Int)) → (Bool → Option R) → ((Int × List (List Int × List Int)) → Int → (List (List Int)) → (List Int) → (List Int) → (List (List Int)) → Option R) → Option R) (n : Nat) : LPs := fun R q kk => match (PkS.un Simpl_marksFrom_v1_l7 q : Option ((Int × List (List Int × List Int)) × Int × Int × Int × (List (List Int)) × (List Int) × (List Int) × (List (List Int)) × Unit)) with
  | some (y7_0, y7_1, y7_2, y7_3, y7_4, y7_5, y7_6, y7_7, _) => g n y7_0 y7_1 y7_2 y7_3 y7_4 y7_5 y7_6 y7_7 (fun r0 => kk .ret (PkS.pack Timpl_marksFrom_v1_l7_0 (r0, ()))) (fun r0 r1 r2 r3 r4 r5 => kk (.exit 2) (PkS.pack Timpl_marksFrom_v1_l7_1 (r0, r1, r2, r3, r4, r5, ())))
  | none => none
theorem eimpl_marksFrom_v1_l7 (impl_keyOf : ∀ {R : Type}, Nat → (List Int) → (Int → Int → Int → Int → Int → Int → Int → Int → Option R) → Option R) (impl_Net_fired_v1 : ∀ {R : Type}, Nat → (Int × List (List Int × List Int)) → (List Int) → Int → (Bool → (List Int) → Option R) → Option R) (impl_marksFrom_v1_l7 : ∀ {R : Type}, Nat → (Int × List (List Int × List Int)) → Int → Int → Int → (List (List Int)) → (List Int) → (List Int) → (List (List Int)) → (Bool → Option R) → ((Int × List (List Int × List Int)) → Int → (List (List Int)) → (List Int) → (List Int) → (List (List Int)) → Option R) → Option R) {R : Type} (n : Nat) (y7_0 : Int × List (List Int × List Int)) (y7_1 : Int) (y7_2 : Int) (y7_3 : Int) (y7_4 : List (List Int)) (y7_5 : List Int) (y7_6 : List Int) (y7_7 : List (List Int)) (kk : Ex → Pk → Option R) : Dimpl_marksFrom_v1_l7.step tt sig (mkK [(160, Kimpl_keyOf @impl_keyOf n), (124, Kimpl_Net_fired_v1 @impl_Net_fired_v1 n)] R) (mkL (mkK [(160, Kimpl_keyOf @impl_keyOf n), (124, Kimpl_Net_fired_v1 @impl_Net_fired_v1 n)]) [] R) (loopIn 7 (bodyOf Try.f129)) (fun q' => Pimpl_marksFrom_v1_l7 @impl_marksFrom_v1_l7 n R q' kk) (PkS.pack Simpl_marksFrom_v1_l7 (y7_0, y7_1, y7_2, y7_3, y7_4, y7_5, y7_6, y7_7, ())) kk = (fun (kret : Bool → Option R) (kexit2 : (Int × List (List Int × List Int)) → Int → (List (List Int)) → (List Int) → (List Int) → (List (List Int)) → Option R) => (bif (decide (y7_3 < y7_2)) then (bif decide (0 ≤ y7_1) then (bif decide (y7_1 < (y7_4.length : Int)) then (impl_Net_fired_v1 n y7_0 (y7_4.getD (Int.toNat y7_1) []) y7_3 fun r9 r10 => (bif (!r9) then impl_marksFrom_v1_l7 n y7_0 y7_1 y7_2 (IntKind.wrap .i64 (y7_3 + 1)) y7_4 y7_5 y7_6 y7_7 kret kexit2 else (impl_keyOf n r10 fun r11 r12 r13 r14 r15 r16 r17 r18 => (bif keyIn [r11, r12, r13, r14, r15, r16, r17, r18] then (bif (List.contains y7_7 [r11, r12, r13, r14, r15, r16, r17, r18]) then impl_marksFrom_v1_l7 n y7_0 y7_1 y7_2 (IntKind.wrap .i64 (y7_3 + 1)) y7_4 y7_5 y7_6 y7_7 kret kexit2 else (bif ((y7_4.length : Int) == 400) then kret false else (impl_keyOf n r10 fun r19 r20 r21 r22 r23 r24 r25 r26 => (bif keyIn [r19, r20, r21, r22, r23, r24, r25, r26] then (bif decide (y7_4.length + [r10].length ≤ LIM) then (bif decide (y7_5.length + [y7_1].length ≤ LIM) then (bif decide (y7_6.length + [y7_3].length ≤ LIM) then impl_marksFrom_v1_l7 n y7_0 y7_1 y7_2 (IntKind.wrap .i64 (y7_3 + 1)) (y7_4 ++ [r10]) (y7_5 ++ [y7_1]) (y7_6 ++ [y7_3]) ([r19, r20, r21, r22, r23, r24, r25, r26] :: y7_7) kret kexit2 else none) else none) else none) else none)))) else none)))) else none) else none) else kexit2 y7_0 y7_1 y7_4 y7_5 y7_6 y7_7)) (fun r0 => kk .ret (PkS.pack Timpl_marksFrom_v1_l7_0 (r0, ()))) (fun r0 r1 r2 r3 r4 r5 => kk (.exit 2) (PkS.pack Timpl_marksFrom_v1_l7_1 (r0, r1, r2, r3, r4, r5, ()))) := by kernel_rfl
theorem leimpl_marksFrom_v1_l7 : LoopEq tt sig (fun n => mkK [(160, Kimpl_keyOf @impl_keyOf n), (124, Kimpl_Net_fired_v1 @impl_Net_fired_v1 n)]) (fun n => mkL (mkK [(160, Kimpl_keyOf @impl_keyOf n), (124, Kimpl_Net_fired_v1 @impl_Net_fired_v1 n)]) []) Dimpl_marksFrom_v1_l7 Simpl_marksFrom_v1_l7 (loopIn 7 (bodyOf Try.f129)) (Pimpl_marksFrom_v1_l7 @impl_marksFrom_v1_l7) where
  zero R q kk := by unfold Pimpl_marksFrom_v1_l7; cases (PkS.un Simpl_marksFrom_v1_l7 q) <;> rfl
  succ n R q kk := by
    unfold Pimpl_marksFrom_v1_l7
    cases h : (PkS.un Simpl_marksFrom_v1_l7 q) with
    | none => rfl
    | some d =>
      obtain ⟨y7_0, y7_1, y7_2, y7_3, y7_4, y7_5, y7_6, y7_7, u⟩ := (d : (Int × List (List Int × List Int)) × Int × Int × Int × (List (List Int)) × (List Int) × (List Int) × (List (List Int)) × Unit)
      have hp := PkS.un_pack h
      subst hp
      exact (eimpl_marksFrom_v1_l7 @impl_keyOf @impl_Net_fired_v1 @impl_marksFrom_v1_l7 n y7_0 y7_1 y7_2 y7_3 y7_4 y7_5 y7_6 y7_7 kk).symm
theorem nlimpl_marksFrom_v1_l7 : ∀ n, NatLP (Pimpl_marksFrom_v1_l7 @impl_marksFrom_v1_l7 n) := leimpl_marksFrom_v1_l7.nat (fun n => mkK_nat (cimpl_marksFrom_v1 n)) fun n => mkL_nat (mkK_nat (cimpl_marksFrom_v1 n)) (l := []) trivial
theorem inimpl_marksFrom_v1_l7 (n : Nat) (R : Type) : LoopsOk Try.prog (mkL (mkK [(160, Kimpl_keyOf @impl_keyOf n), (124, Kimpl_Net_fired_v1 @impl_Net_fired_v1 n)]) [] R) (loopIn 7 (bodyOf Try.f129)) := .eq (l := []) (by kernel_rfl) trivial
theorem lkimpl_marksFrom_v1_l7 (n : Nat) (R : Type) (L0 : LK R) (h0 : ∀ id, firstRegion (loopIn 7 (bodyOf Try.f129)) = some id → L0 id = Dimpl_marksFrom_v1_l7.oracle (mkK [(160, Kimpl_keyOf @impl_keyOf n), (124, Kimpl_Net_fired_v1 @impl_Net_fired_v1 n)] R) (Pimpl_marksFrom_v1_l7 @impl_marksFrom_v1_l7 n R)) : LoopOk Try.prog L0 (loopIn 7 (bodyOf Try.f129)) :=
  leimpl_marksFrom_v1_l7.ok mixed ttok (fun n => mkK_nat (cimpl_marksFrom_v1 n)) (fun n => mkK_ok (cimpl_marksFrom_v1 n)) (fun n => inimpl_marksFrom_v1_l7 n R) (mkK_nat (cimpl_marksFrom_v1 n)) h0
@[reducible] def Simpl_marksFrom_v1_l4 : PkS := ⟨[.one (.relt (.pr (.int .i64) (.sl (.pr (.sl (.int .i64)) (.sl (.int .i64)))))), .one (.box (100000, 3) 0), .one (.mp (100000, 4)), .one (.int .i64), .one (.dead), .one (.dead)], [((100000, 0), .arr (.sl (.int .i64))), ((100000, 1), .arr (.int .i64)), ((100000, 2), .arr (.int .i64)), ((100000, 3), .box [.whole (100000, 0), .whole (100000, 1), .whole (100000, 2)]), ((100000, 4), .set)]⟩
@[reducible] def Timpl_marksFrom_v1_l4_0 : PkS := ⟨[.one (.dead), .one (.bool), .one (.dead), .one (.dead)], []⟩
@[reducible] def Timpl_marksFrom_v1_l4_1 : PkS := ⟨[.one (.box (100000, 3) 0), .one (.dead), .one (.dead)], [((100000, 0), .arr (.sl (.int .i64))), ((100000, 1), .arr (.int .i64)), ((100000, 2), .arr (.int .i64)), ((100000, 3), .box [.whole (100000, 0), .whole (100000, 1), .whole (100000, 2)])]⟩
def Dimpl_marksFrom_v1_l4 : LoopD := ⟨101, [0, 6, 7, 8], [.one (.lend (.pr (.int .i64) (.sl (.pr (.sl (.int .i64)) (.sl (.int .i64)))))), .box [(.own (.sl (.int .i64))), (.own (.int .i64)), (.own (.int .i64))], .one .map, .one .any, .skip, .skip], fun x => match x with
  | .ret => some ([4, 5], [.skip, .one .any, .skip, .skip])
  | .exit 0 => some ([6], [.box [(.own (.sl (.int .i64))), (.own (.int .i64)), (.own (.int .i64))], .skip, .skip])
  | _ => none⟩
def Pimpl_marksFrom_v1_l4 (g : ∀ {R : Type}, Nat → (Int × List (List Int × List Int)) → Int → (List (List Int)) → (List Int) → (List Int) → (List (List Int)) → (Bool → Option R) → ((List (List Int)) → (List Int) → (List Int) → Option R) → Option R) (n : Nat) : LPs := fun R q kk => match (PkS.un Simpl_marksFrom_v1_l4 q : Option ((Int × List (List Int × List Int)) × Int × (List (List Int)) × (List Int) × (List Int) × (List (List Int)) × Unit)) with
  | some (y4_0, y4_1, y4_2, y4_3, y4_4, y4_5, _) => g n y4_0 y4_1 y4_2 y4_3 y4_4 y4_5 (fun r0 => kk .ret (PkS.pack Timpl_marksFrom_v1_l4_0 (r0, ()))) (fun r0 r1 r2 => kk (.exit 0) (PkS.pack Timpl_marksFrom_v1_l4_1 (r0, r1, r2, ())))
  | none => none
theorem eimpl_marksFrom_v1_l4 (impl_keyOf : ∀ {R : Type}, Nat → (List Int) → (Int → Int → Int → Int → Int → Int → Int → Int → Option R) → Option R) (impl_Net_fired_v1 : ∀ {R : Type}, Nat → (Int × List (List Int × List Int)) → (List Int) → Int → (Bool → (List Int) → Option R) → Option R) (impl_marksFrom_v1_l7 : ∀ {R : Type}, Nat → (Int × List (List Int × List Int)) → Int → Int → Int → (List (List Int)) → (List Int) → (List Int) → (List (List Int)) → (Bool → Option R) → ((Int × List (List Int × List Int)) → Int → (List (List Int)) → (List Int) → (List Int) → (List (List Int)) → Option R) → Option R) (impl_marksFrom_v1_l4 : ∀ {R : Type}, Nat → (Int × List (List Int × List Int)) → Int → (List (List Int)) → (List Int) → (List Int) → (List (List Int)) → (Bool → Option R) → ((List (List Int)) → (List Int) → (List Int) → Option R) → Option R) {R : Type} (n : Nat) (y4_0 : Int × List (List Int × List Int)) (y4_1 : Int) (y4_2 : List (List Int)) (y4_3 : List Int) (y4_4 : List Int) (y4_5 : List (List Int)) (kk : Ex → Pk → Option R) : Dimpl_marksFrom_v1_l4.step tt sig (mkK [(160, Kimpl_keyOf @impl_keyOf n), (124, Kimpl_Net_fired_v1 @impl_Net_fired_v1 n)] R) (mkL (mkK [(160, Kimpl_keyOf @impl_keyOf n), (124, Kimpl_Net_fired_v1 @impl_Net_fired_v1 n)]) [(7, Dimpl_marksFrom_v1_l7, Pimpl_marksFrom_v1_l7 @impl_marksFrom_v1_l7 n)] R) (loopIn 4 (bodyOf Try.f129)) (fun q' => Pimpl_marksFrom_v1_l4 @impl_marksFrom_v1_l4 n R q' kk) (PkS.pack Simpl_marksFrom_v1_l4 (y4_0, y4_1, y4_2, y4_3, y4_4, y4_5, ())) kk = (fun (kret : Bool → Option R) (kexit0 : (List (List Int)) → (List Int) → (List Int) → Option R) => (bif (decide (y4_1 < (y4_2.length : Int))) then (impl_marksFrom_v1_l7 n y4_0 y4_1 (y4_0.2.length : Int) 0 y4_2 y4_3 y4_4 y4_5 (fun r27 => kret r27) (fun r28 r29 r30 r31 r32 r33 => impl_marksFrom_v1_l4 n r28 (IntKind.wrap .i64 (r29 + 1)) r30 r31 r32 r33 kret kexit0)) else kexit0 y4_2 y4_3 y4_4)) (fun r0 => kk .ret (PkS.pack Timpl_marksFrom_v1_l4_0 (r0, ()))) (fun r0 r1 r2 => kk (.exit 0) (PkS.pack Timpl_marksFrom_v1_l4_1 (r0, r1, r2, ()))) := by kernel_rfl
theorem leimpl_marksFrom_v1_l4 : LoopEq tt sig (fun n => mkK [(160, Kimpl_keyOf @impl_keyOf n), (124, Kimpl_Net_fired_v1 @impl_Net_fired_v1 n)]) (fun n => mkL (mkK [(160, Kimpl_keyOf @impl_keyOf n), (124, Kimpl_Net_fired_v1 @impl_Net_fired_v1 n)]) [(7, Dimpl_marksFrom_v1_l7, Pimpl_marksFrom_v1_l7 @impl_marksFrom_v1_l7 n)]) Dimpl_marksFrom_v1_l4 Simpl_marksFrom_v1_l4 (loopIn 4 (bodyOf Try.f129)) (Pimpl_marksFrom_v1_l4 @impl_marksFrom_v1_l4) where
  zero R q kk := by unfold Pimpl_marksFrom_v1_l4; cases (PkS.un Simpl_marksFrom_v1_l4 q) <;> rfl
  succ n R q kk := by
    unfold Pimpl_marksFrom_v1_l4
    cases h : (PkS.un Simpl_marksFrom_v1_l4 q) with
    | none => rfl
    | some d =>
      obtain ⟨y4_0, y4_1, y4_2, y4_3, y4_4, y4_5, u⟩ := (d : (Int × List (List Int × List Int)) × Int × (List (List Int)) × (List Int) × (List Int) × (List (List Int)) × Unit)
      have hp := PkS.un_pack h
      subst hp
      exact (eimpl_marksFrom_v1_l4 @impl_keyOf @impl_Net_fired_v1 @impl_marksFrom_v1_l7 @impl_marksFrom_v1_l4 n y4_0 y4_1 y4_2 y4_3 y4_4 y4_5 kk).symm
theorem nlimpl_marksFrom_v1_l4 : ∀ n, NatLP (Pimpl_marksFrom_v1_l4 @impl_marksFrom_v1_l4 n) := leimpl_marksFrom_v1_l4.nat (fun n => mkK_nat (cimpl_marksFrom_v1 n)) fun n => mkL_nat (mkK_nat (cimpl_marksFrom_v1 n)) (l := [(7, Dimpl_marksFrom_v1_l7, Pimpl_marksFrom_v1_l7 @impl_marksFrom_v1_l7 n)]) ⟨nlimpl_marksFrom_v1_l7 n, trivial⟩
theorem inimpl_marksFrom_v1_l4 (n : Nat) (R : Type) : LoopsOk Try.prog (mkL (mkK [(160, Kimpl_keyOf @impl_keyOf n), (124, Kimpl_Net_fired_v1 @impl_Net_fired_v1 n)]) [(7, Dimpl_marksFrom_v1_l7, Pimpl_marksFrom_v1_l7 @impl_marksFrom_v1_l7 n)] R) (loopIn 4 (bodyOf Try.f129)) := .eq (l := [.lo (loopIn 7 (bodyOf Try.f129))]) (by kernel_rfl) ⟨(lkimpl_marksFrom_v1_l7 n R _ (at_id (i := 7) (by kernel_rfl) rfl)), trivial⟩
theorem lkimpl_marksFrom_v1_l4 (n : Nat) (R : Type) (L0 : LK R) (h0 : ∀ id, firstRegion (loopIn 4 (bodyOf Try.f129)) = some id → L0 id = Dimpl_marksFrom_v1_l4.oracle (mkK [(160, Kimpl_keyOf @impl_keyOf n), (124, Kimpl_Net_fired_v1 @impl_Net_fired_v1 n)] R) (Pimpl_marksFrom_v1_l4 @impl_marksFrom_v1_l4 n R)) : LoopOk Try.prog L0 (loopIn 4 (bodyOf Try.f129)) :=
  leimpl_marksFrom_v1_l4.ok mixed ttok (fun n => mkK_nat (cimpl_marksFrom_v1 n)) (fun n => mkK_ok (cimpl_marksFrom_v1 n)) (fun n => inimpl_marksFrom_v1_l4 n R) (mkK_nat (cimpl_marksFrom_v1 n)) h0
@[reducible] def Simpl_marksFrom_v1 : PkS := ⟨[.one (.relt (.pr (.int .i64) (.sl (.pr (.sl (.int .i64)) (.sl (.int .i64)))))), .one (.ro (.int .i64))], []⟩
@[reducible] def Timpl_marksFrom_v1_r0 : PkS := ⟨[.tup [(false, [.dead]), (false, [.bool])], .one (.dead), .one (.dead)], []⟩
@[reducible] def Timpl_marksFrom_v1_r1 : PkS := ⟨[.tup [(false, [.relt (.pr (.sl (.sl (.int .i64))) (.pr (.sl (.int .i64)) (.sl (.int .i64))))]), (false, [.bool])], .one (.dead), .one (.dead)], []⟩
def Himpl_marksFrom_v1 : List Sh := [.tup [(false, [(.lend (.pr (.sl (.sl (.int .i64))) (.pr (.sl (.int .i64)) (.sl (.int .i64)))))]), (false, [.any])], .skip, .skip]
def Kimpl_marksFrom_v1 (g : ∀ {R : Type}, Nat → (Int × List (List Int × List Int)) → (List Int) → (Bool → Option R) → ((List (List Int) × List Int × List Int) → Bool → Option R) → Option R) (n : Nat) : KPs := fun R p k => match (PkS.un Simpl_marksFrom_v1 p : Option ((Int × List (List Int × List Int)) × (List Int) × Unit)) with
  | some (x0, x1, _) => g n x0 x1 (fun r0 => k (PkS.pack Timpl_marksFrom_v1_r0 (r0, ()))) (fun r0 r1 => k (PkS.pack Timpl_marksFrom_v1_r1 (r0, r1, ())))
  | none => none
theorem eimpl_marksFrom_v1 (impl_keyOf : ∀ {R : Type}, Nat → (List Int) → (Int → Int → Int → Int → Int → Int → Int → Int → Option R) → Option R) (impl_Net_fired_v1 : ∀ {R : Type}, Nat → (Int × List (List Int × List Int)) → (List Int) → Int → (Bool → (List Int) → Option R) → Option R) (impl_marksFrom_v1_l7 : ∀ {R : Type}, Nat → (Int × List (List Int × List Int)) → Int → Int → Int → (List (List Int)) → (List Int) → (List Int) → (List (List Int)) → (Bool → Option R) → ((Int × List (List Int × List Int)) → Int → (List (List Int)) → (List Int) → (List Int) → (List (List Int)) → Option R) → Option R) (impl_marksFrom_v1_l4 : ∀ {R : Type}, Nat → (Int × List (List Int × List Int)) → Int → (List (List Int)) → (List Int) → (List Int) → (List (List Int)) → (Bool → Option R) → ((List (List Int)) → (List Int) → (List Int) → Option R) → Option R) {R : Type} (n : Nat) (x0 : Int × List (List Int × List Int)) (x1 : List Int) (k : Pk → Option R) : evF tt sig (mkK [(160, Kimpl_keyOf @impl_keyOf n), (124, Kimpl_Net_fired_v1 @impl_Net_fired_v1 n)] R) (mkL (mkK [(160, Kimpl_keyOf @impl_keyOf n), (124, Kimpl_Net_fired_v1 @impl_Net_fired_v1 n)]) [(7, Dimpl_marksFrom_v1_l7, Pimpl_marksFrom_v1_l7 @impl_marksFrom_v1_l7 n), (4, Dimpl_marksFrom_v1_l4, Pimpl_marksFrom_v1_l4 @impl_marksFrom_v1_l4 n)] R) Try.f129 Himpl_marksFrom_v1 (PkS.pack Simpl_marksFrom_v1 (x0, x1, ())) k = (fun (kk0 : Bool → Option R) (kk1 : (List (List Int) × List Int × List Int) → Bool → Option R) => (impl_keyOf n x1 fun r1 r2 r3 r4 r5 r6 r7 r8 => (bif keyIn [r1, r2, r3, r4, r5, r6, r7, r8] then (impl_marksFrom_v1_l4 n x0 0 [x1] [(-1)] [(-1)] ([r1, r2, r3, r4, r5, r6, r7, r8] :: ([] : List (List Int))) (fun r34 => kk0 r34) (fun r35 r36 r37 => kk1 (r35, (r36, r37)) true)) else none))) (fun r0 => k (PkS.pack Timpl_marksFrom_v1_r0 (r0, ()))) (fun r0 r1 => k (PkS.pack Timpl_marksFrom_v1_r1 (r0, r1, ()))) := by kernel_rfl
theorem okimpl_marksFrom_v1 (n : Nat) : FnOk Try.prog 129 (Kimpl_marksFrom_v1 @impl_marksFrom_v1 n) := by
  refine fn_ok (sig := sig) mixed ttok (mkK_nat (cimpl_marksFrom_v1 n)) (mkK_ok (cimpl_marksFrom_v1 n)) (mkL_nat (mkK_nat (cimpl_marksFrom_v1 n)) (l := [(7, Dimpl_marksFrom_v1_l7, Pimpl_marksFrom_v1_l7 @impl_marksFrom_v1_l7 n), (4, Dimpl_marksFrom_v1_l4, Pimpl_marksFrom_v1_l4 @impl_marksFrom_v1_l4 n)]) ⟨nlimpl_marksFrom_v1_l7 n, ⟨nlimpl_marksFrom_v1_l4 n, trivial⟩⟩) (fn := Try.f129) (c := bodyOf Try.f129) (by kernel_rfl) (by kernel_rfl) (by kernel_rfl) (.eq (l := [.lo (loopIn 4 (bodyOf Try.f129))]) (by kernel_rfl) ⟨(lkimpl_marksFrom_v1_l4 n _ _ (at_id (i := 4) (by kernel_rfl) rfl)), trivial⟩) (shs := Himpl_marksFrom_v1) (S := Simpl_marksFrom_v1) (h1 := by kernel_rfl) fun R p k => ?_
  unfold Kimpl_marksFrom_v1
  cases h : (PkS.un Simpl_marksFrom_v1 p) with
  | none => rfl
  | some d =>
    obtain ⟨x0, x1, u⟩ := (d : (Int × List (List Int × List Int)) × (List Int) × Unit)
    have hp := PkS.un_pack h
    subst hp
    exact (eimpl_marksFrom_v1 @impl_keyOf @impl_Net_fired_v1 @impl_marksFrom_v1_l7 @impl_marksFrom_v1_l4 n x0 x1 k).symm

/-! ### (*loop.example/g00269/impl.Net).soundIn$1 -/
theorem cimpl_Net_soundIn_c1 (n : Nat) : AllOk Try.prog [(138, Kslices_Equal_int @slices_Equal_int n)] := ⟨okslices_Equal_int n, trivial⟩
@[reducible] def Simpl_Net_soundIn_c1 : PkS := ⟨[.one (.ro (.int .i64)), .one (.box (200000, 1) 0)], [((200000, 0), .arr (.int .i64)), ((200000, 1), .box [.whole (200000, 0)])]⟩
@[reducible] def Timpl_Net_soundIn_c1 : PkS := ⟨[.one (.bool), .one (.dead), .one (.box (300000, 1) 0)], [((300000, 0), .arr (.int .i64)), ((300000, 1), .box [.whole (300000, 0)])]⟩
def Himpl_Net_soundIn_c1 : List Sh := [.one .any, .skip, .box [(.own (.int .i64))]]
def Kimpl_Net_soundIn_c1 (g : ∀ {R : Type}, Nat → (List Int) → (List Int) → (Bool → (List Int) → Option R) → Option R) (n : Nat) : KPs := fun R p k => match (PkS.un Simpl_Net_soundIn_c1 p : Option ((List Int) × (List Int) × Unit)) with
  | some (x0, x1, _) => g n x0 x1 (fun r0 r1 => k (PkS.pack Timpl_Net_soundIn_c1 (r0, r1, ())))
  | none => none
theorem eimpl_Net_soundIn_c1 (slices_Equal_int : ∀ {R : Type}, Nat → (List Int) → (List Int) → (Bool → Option R) → Option R) {R : Type} (n : Nat) (x0 : List Int) (x1 : List Int) (k : Pk → Option R) : evF tt sig (mkK [(138, Kslices_Equal_int @slices_Equal_int n)] R) (mkL (mkK [(138, Kslices_Equal_int @slices_Equal_int n)]) [] R) Try.f162 Himpl_Net_soundIn_c1 (PkS.pack Simpl_Net_soundIn_c1 (x0, x1, ())) k = (fun (k : Bool → (List Int) → Option R) => (slices_Equal_int n x0 x1 fun r1 => k r1 x1)) (fun r0 r1 => k (PkS.pack Timpl_Net_soundIn_c1 (r0, r1, ()))) := by kernel_rfl
theorem okimpl_Net_soundIn_c1 (n : Nat) : FnOk Try.prog 162 (Kimpl_Net_soundIn_c1 @impl_Net_soundIn_c1 n) := by
  refine fn_ok (sig := sig) mixed ttok (mkK_nat (cimpl_Net_soundIn_c1 n)) (mkK_ok (cimpl_Net_soundIn_c1 n)) (mkL_nat (mkK_nat (cimpl_Net_soundIn_c1 n)) (l := []) trivial) (fn := Try.f162) (c := bodyOf Try.f162) (by kernel_rfl) (by kernel_rfl) (by kernel_rfl) (.eq (l := []) (by kernel_rfl) trivial) (shs := Himpl_Net_soundIn_c1) (S := Simpl_Net_soundIn_c1) (h1 := by kernel_rfl) fun R p k => ?_
  unfold Kimpl_Net_soundIn_c1
  cases h : (PkS.un Simpl_Net_soundIn_c1 p) with
  | none => rfl
  | some d =>
    obtain ⟨x0, x1, u⟩ := (d : (List Int) × (List Int) × Unit)
    have hp := PkS.un_pack h
    subst hp
    exact (eimpl_Net_soundIn_c1 @slices_Equal_int n x0 x1 k).symm

/-! ### slices.IndexFunc[[][]int,[]int] -/
theorem cslices_IndexFunc_int_impl_Net_soundIn_c1 (n : Nat) : AllOk Try.prog [(162, Kimpl_Net_soundIn_c1 @impl_Net_soundIn_c1 n)] := ⟨okimpl_Net_soundIn_c1 n, trivial⟩
@[reducible] def Sslices_IndexFunc_int_impl_Net_soundIn_c1_l2 : PkS := ⟨[.one (.ro (.sl (.int .i64))), .one (.fn 162 [((100000, 1), 0)]), .one (.int .i64), .one (.int .i64), .one (.dead), .one (.fn 162 [((100000, 1), 0)])], [((100000, 0), .arr (.int .i64)), ((100000, 1), .box [.whole (100000, 0)])]⟩
@[reducible] def Tslices_IndexFunc_int_impl_Net_soundIn_c1_l2_0 : PkS := ⟨[.one (.int .i64), .one (.dead), .one (.fn 162 [((100000, 1), 0)])], [((100000, 0), .arr (.int .i64)), ((100000, 1), .box [.whole (100000, 0)])]⟩
@[reducible] def Tslices_IndexFunc_int_impl_Net_soundIn_c1_l2_1 : PkS := ⟨[.one (.dead), .one (.fn 162 [((100000, 1), 0)])], [((100000, 0), .arr (.int .i64)), ((100000, 1), .box [.whole (100000, 0)])]⟩
def Dslices_IndexFunc_int_impl_Net_soundIn_c1_l2 : LoopD := ⟨19, [0, 1, 7, 8], [.one (.ro (.sl (.int .i64))), .fn 162 [[(.own (.int .i64))]], .one .any, .one .any, .skip, .fn 162 [[(.own (.int .i64))]]], fun x => match x with
  | .ret => some ([4], [.one .any, .skip, .fn 162 [[(.own (.int .i64))]]])
  | .exit 0 => some ([], [.skip, .fn 162 [[(.own (.int .i64))]]])
  | _ => none⟩
def Pslices_IndexFunc_int_impl_Net_soundIn_c1_l2 (g : ∀ {R : Type}, Nat → (List (List Int)) → Int → Int → (List Int) → (Int → (List Int) → Option R) → ((List Int) → Option R) → Option R) (n : Nat) : LPs := fun R q kk => match (PkS.un Sslices_IndexFunc_int_impl_Net_soundIn_c1_l2 q : Option ((List (List Int)) × Int × Int × (List Int) × Unit)) with
  | some (y2_0, y2_1, y2_2, y2_3, _) => g n y2_0 y2_1 y2_2 y2_3 (fun r0 r1 => kk .ret (PkS.pack Tslices_IndexFunc_int_impl_Net_soundIn_c1_l2_0 (r0, r1, ()))) (fun r0 => kk (.exit 0) (PkS.pack Tslices_IndexFunc_int_impl_Net_soundIn_c1_l2_1 (r0, ())))
  | none => none
theorem eslices_IndexFunc_int_impl_Net_soundIn_c1_l2 (impl_Net_soundIn_c1 : ∀ {R : Type}, Nat → (List Int) → (List Int) → (Bool → (List Int) → Option R) → Option R) (slices_IndexFunc_int_impl_Net_soundIn_c1_l2 : ∀ {R : Type}, Nat → (List (List Int)) → Int → Int → (List Int) → (Int → (List Int) → Option R) → ((List Int) → Option R) → Option R) {R : Type} (n : Nat) (y2_0 : List (List Int)) (y2_1 : Int) (y2_2 : Int) (y2_3 : List Int) (kk : Ex → Pk → Option R) : Dslices_IndexFunc_int_impl_Net_soundIn_c1_l2.step tt sig (mkK [(162, Kimpl_Net_soundIn_c1 @impl_Net_soundIn_c1 n)] R) (mkL (mkK [(162, Kimpl_Net_soundIn_c1 @impl_Net_soundIn_c1 n)]) [] R) (loopIn 2 (bodyOf Try.f136)) (fun q' => Pslices_IndexFunc_int_impl_Net_soundIn_c1_l2 @slices_IndexFunc_int_impl_Net_soundIn_c1_l2 n R q' kk) (PkS.pack Sslices_IndexFunc_int_impl_Net_soundIn_c1_l2 (y2_0, y2_1, y2_2, y2_3, ())) kk = (fun (kret : Int → (List Int) → Option R) (kexit0 : (List Int) → Option R) => (bif (decide (y2_2 < y2_1)) then (bif decide (0 ≤ y2_2) then (bif decide (y2_2 < (y2_0.length : Int)) then (impl_Net_soundIn_c1 n (y2_0.getD (Int.toNat y2_2) []) y2_3 fun r1 r2 => (bif r1 then kret y2_2 r2 else slices_IndexFunc_int_impl_Net_soundIn_c1_l2 n y2_0 y2_1 (IntKind.wrap .i64 (y2_2 + 1)) r2 kret kexit0)) else none) else none) else kexit0 y2_3)) (fun r0 r1 => kk .ret (PkS.pack Tslices_IndexFunc_int_impl_Net_soundIn_c1_l2_0 (r0, r1, ()))) (fun r0 => kk (.exit 0) (PkS.pack Tslices_IndexFunc_int_impl_Net_soundIn_c1_l2_1 (r0, ()))) := by kernel_rfl
theorem leslices_IndexFunc_int_impl_Net_soundIn_c1_l2 : LoopEq tt sig (fun n => mkK [(162, Kimpl_Net_soundIn_c1 @impl_Net_soundIn_c1 n)]) (fun n => mkL (mkK [(162, Kimpl_Net_soundIn_c1 @impl_Net_soundIn_c1 n)]) []) Dslices_IndexFunc_int_impl_Net_soundIn_c1_l2 Sslices_IndexFunc_int_impl_Net_soundIn_c1_l2 (loopIn 2 (bodyOf Try.f136)) (Pslices_IndexFunc_int_impl_Net_soundIn_c1_l2 @slices_IndexFunc_int_impl_Net_soundIn_c1_l2) where
  zero R q kk := by unfold Pslices_IndexFunc_int_impl_Net_soundIn_c1_l2; cases (PkS.un Sslices_IndexFunc_int_impl_Net_soundIn_c1_l2 q) <;> rfl
  succ n R q kk := by
    unfold Pslices_IndexFunc_int_impl_Net_soundIn_c1_l2
    cases h : (PkS.un Sslices_IndexFunc_int_impl_Net_soundIn_c1_l2 q) with
    | none => rfl
    | some d =>
      obtain ⟨y2_0, y2_1, y2_2, y2_3, u⟩ := (d : (List (List Int)) × Int × Int × (List Int) × Unit)
      have hp := PkS.un_pack h
      subst hp
      exact (eslices_IndexFunc_int_impl_Net_soundIn_c1_l2 @impl_Net_soundIn_c1 @slices_IndexFunc_int_impl_Net_soundIn_c1_l2 n y2_0 y2_1 y2_2 y2_3 kk).symm
theorem nlslices_IndexFunc_int_impl_Net_soundIn_c1_l2 : ∀ n, NatLP (Pslices_IndexFunc_int_impl_Net_soundIn_c1_l2 @slices_IndexFunc_int_impl_Net_soundIn_c1_l2 n) := leslices_IndexFunc_int_impl_Net_soundIn_c1_l2.nat (fun n => mkK_nat (cslices_IndexFunc_int_impl_Net_soundIn_c1 n)) fun n => mkL_nat (mkK_nat (cslices_IndexFunc_int_impl_Net_soundIn_c1 n)) (l := []) trivial
theorem inslices_IndexFunc_int_impl_Net_soundIn_c1_l2 (n : Nat) (R : Type) : LoopsOk Try.prog (mkL (mkK [(162, Kimpl_Net_soundIn_c1 @impl_Net_soundIn_c1 n)]) [] R) (loopIn 2 (bodyOf Try.f136)) := .eq (l := []) (by kernel_rfl) trivial
theorem lkslices_IndexFunc_int_impl_Net_soundIn_c1_l2 (n : Nat) (R : Type) (L0 : LK R) (h0 : ∀ id, firstRegion (loopIn 2 (bodyOf Try.f136)) = some id → L0 id = Dslices_IndexFunc_int_impl_Net_soundIn_c1_l2.oracle (mkK [(162, Kimpl_Net_soundIn_c1 @impl_Net_soundIn_c1 n)] R) (Pslices_IndexFunc_int_impl_Net_soundIn_c1_l2 @slices_IndexFunc_int_impl_Net_soundIn_c1_l2 n R)) : LoopOk Try.prog L0 (loopIn 2 (bodyOf Try.f136)) :=
  leslices_IndexFunc_int_impl_Net_soundIn_c1_l2.ok mixed ttok (fun n => mkK_nat (cslices_IndexFunc_int_impl_Net_soundIn_c1 n)) (fun n => mkK_ok (cslices_IndexFunc_int_impl_Net_soundIn_c1 n)) (fun n => inslices_IndexFunc_int_impl_Net_soundIn_c1_l2 n R) (mkK_nat (cslices_IndexFunc_int_impl_Net_soundIn_c1 n)) h0
@[reducible] def Sslices_IndexFunc_int_impl_Net_soundIn_c1 : PkS := ⟨[.one (.ro (.sl (.int .i64))), .one (.fn 162 [((200000, 1), 0)])], [((200000, 0), .arr (.int .i64)), ((200000, 1), .box [.whole (200000, 0)])]⟩
@[reducible] def Tslices_IndexFunc_int_impl_Net_soundIn_c1 : PkS := ⟨[.one (.int .i64), .one (.dead), .one (.fn 162 [((300000, 1), 0)])], [((300000, 0), .arr (.int .i64)), ((300000, 1), .box [.whole (300000, 0)])]⟩
def Hslices_IndexFunc_int_impl_Net_soundIn_c1 : List Sh := [.one .any, .skip, .fn 162 [[(.own (.int .i64))]]]
def Kslices_IndexFunc_int_impl_Net_soundIn_c1 (g : ∀ {R : Type}, Nat → (List (List Int)) → (List Int) → (Int → (List Int) → Option R) → Option R) (n : Nat) : KPs := fun R p k => match (PkS.un Sslices_IndexFunc_int_impl_Net_soundIn_c1 p : Option ((List (List Int)) × (List Int) × Unit)) with
  | some (x0, x1, _) => g n x0 x1 (fun r0 r1 => k (PkS.pack Tslices_IndexFunc_int_impl_Net_soundIn_c1 (r0, r1, ())))
  | none => none
theorem eslices_IndexFunc_int_impl_Net_soundIn_c1 (impl_Net_soundIn_c1 : ∀ {R : Type}, Nat → (List Int) → (List Int) → (Bool → (List Int) → Option R) → Option R) (slices_IndexFunc_int_impl_Net_soundIn_c1_l2 : ∀ {R : Type}, Nat → (List (List Int)) → Int → Int → (List Int) → (Int → (List Int) → Option R) → ((List Int) → Option R) → Option R) {R : Type} (n : Nat) (x0 : List (List Int)) (x1 : List Int) (k : Pk → Option R) : evF tt sig (mkK [(162, Kimpl_Net_soundIn_c1 @impl_Net_soundIn_c1 n)] R) (mkL (mkK [(162, Kimpl_Net_soundIn_c1 @impl_Net_soundIn_c1 n)]) [(2, Dslices_IndexFunc_int_impl_Net_soundIn_c1_l2, Pslices_IndexFunc_int_impl_Net_soundIn_c1_l2 @slices_IndexFunc_int_impl_Net_soundIn_c1_l2 n)] R) Try.f136 Hslices_IndexFunc_int_impl_Net_soundIn_c1 (PkS.pack Sslices_IndexFunc_int_impl_Net_soundIn_c1 (x0, x1, ())) k = (fun (k : Int → (List Int) → Option R) => (slices_IndexFunc_int_impl_Net_soundIn_c1_l2 n x0 (x0.length : Int) 0 x1 (fun r3 r4 => k r3 r4) (fun r5 => k (-1) r5))) (fun r0 r1 => k (PkS.pack Tslices_IndexFunc_int_impl_Net_soundIn_c1 (r0, r1, ()))) := by kernel_rfl
theorem okslices_IndexFunc_int_impl_Net_soundIn_c1 (n : Nat) : FnOk Try.prog 136 (Kslices_IndexFunc_int_impl_Net_soundIn_c1 @slices_IndexFunc_int_impl_Net_soundIn_c1 n) := by
  refine fn_ok (sig := sig) mixed ttok (mkK_nat (cslices_IndexFunc_int_impl_Net_soundIn_c1 n)) (mkK_ok (cslices_IndexFunc_int_impl_Net_soundIn_c1 n)) (mkL_nat (mkK_nat (cslices_IndexFunc_int_impl_Net_soundIn_c1 n)) (l := [(2, Dslices_IndexFunc_int_impl_Net_soundIn_c1_l2, Pslices_IndexFunc_int_impl_Net_soundIn_c1_l2 @slices_IndexFunc_int_impl_Net_soundIn_c1_l2 n)]) ⟨nlslices_IndexFunc_int_impl_Net_soundIn_c1_l2 n, trivial⟩) (fn := Try.f136) (c := bodyOf Try.f136) (by kernel_rfl) (by kernel_rfl) (by kernel_rfl) (.eq (l := [.lo (loopIn 2 (bodyOf Try.f136))]) (by kernel_rfl) ⟨(lkslices_IndexFunc_int_impl_Net_soundIn_c1_l2 n _ _ (at_id (i := 2) (by kernel_rfl) rfl)), trivial⟩) (shs := Hslices_IndexFunc_int_impl_Net_soundIn_c1) (S := Sslices_IndexFunc_int_impl_Net_soundIn_c1) (h1 := by kernel_rfl) fun R p k => ?_
  unfold Kslices_IndexFunc_int_impl_Net_soundIn_c1
  cases h : (PkS.un Sslices_IndexFunc_int_impl_Net_soundIn_c1 p) with
  | none => rfl
  | some d =>
    obtain ⟨x0, x1, u⟩ := (d : (List (List Int)) × (List Int) × Unit)
    have hp := PkS.un_pack h
    subst hp
    exact (eslices_IndexFunc_int_impl_Net_soundIn_c1 @impl_Net_soundIn_c1 @slices_IndexFunc_int_impl_Net_soundIn_c1_l2 n x0 x1 k).symm

/-! ### slices.ContainsFunc[[][]int,[]int] -/
theorem cslices_ContainsFunc_int_impl_Net_soundIn_c1 (n : Nat) : AllOk Try.prog [(136, Kslices_IndexFunc_int_impl_Net_soundIn_c1 @slices_IndexFunc_int_impl_Net_soundIn_c1 n)] := ⟨okslices_IndexFunc_int_impl_Net_soundIn_c1 n, trivial⟩
@[reducible] def Sslices_ContainsFunc_int_impl_Net_soundIn_c1 : PkS := ⟨[.one (.ro (.sl (.int .i64))), .one (.fn 162 [((200000, 1), 0)])], [((200000, 0), .arr (.int .i64)), ((200000, 1), .box [.whole (200000, 0)])]⟩
@[reducible] def Tslices_ContainsFunc_int_impl_Net_soundIn_c1 : PkS := ⟨[.one (.bool), .one (.dead), .one (.fn 162 [((300000, 1), 0)])], [((300000, 0), .arr (.int .i64)), ((300000, 1), .box [.whole (300000, 0)])]⟩
def Hslices_ContainsFunc_int_impl_Net_soundIn_c1 : List Sh := [.one .any, .skip, .fn 162 [[(.own (.int .i64))]]]
def Kslices_ContainsFunc_int_impl_Net_soundIn_c1 (g : ∀ {R : Type}, Nat → (List (List Int)) → (List Int) → (Bool → (List Int) → Option R) → Option R) (n : Nat) : KPs := fun R p k => match (PkS.un Sslices_ContainsFunc_int_impl_Net_soundIn_c1 p : Option ((List (List Int)) × (List Int) × Unit)) with
  | some (x0, x1, _) => g n x0 x1 (fun r0 r1 => k (PkS.pack Tslices_ContainsFunc_int_impl_Net_soundIn_c1 (r0, r1, ())))
  | none => none
theorem eslices_ContainsFunc_int_impl_Net_soundIn_c1 (slices_IndexFunc_int_impl_Net_soundIn_c1 : ∀ {R : Type}, Nat → (List (List Int)) → (List Int) → (Int → (List Int) → Option R) → Option R) {R : Type} (n : Nat) (x0 : List (List Int)) (x1 : List Int) (k : Pk → Option R) : evF tt sig (mkK [(136, Kslices_IndexFunc_int_impl_Net_soundIn_c1 @slices_IndexFunc_int_impl_Net_soundIn_c1 n)] R) (mkL (mkK [(136, Kslices_IndexFunc_int_impl_Net_soundIn_c1 @slices_IndexFunc_int_impl_Net_soundIn_c1 n)]) [] R) Try.f161 Hslices_ContainsFunc_int_impl_Net_soundIn_c1 (PkS.pack Sslices_ContainsFunc_int_impl_Net_soundIn_c1 (x0, x1, ())) k = (fun (k : Bool → (List Int) → Option R) => (slices_IndexFunc_int_impl_Net_soundIn_c1 n x0 x1 fun r1 r2 => k (decide (r1 ≥ 0)) r2)) (fun r0 r1 => k (PkS.pack Tslices_ContainsFunc_int_impl_Net_soundIn_c1 (r0, r1, ()))) := by kernel_rfl
theorem okslices_ContainsFunc_int_impl_Net_soundIn_c1 (n : Nat) : FnOk Try.prog 161 (Kslices_ContainsFunc_int_impl_Net_soundIn_c1 @slices_ContainsFunc_int_impl_Net_soundIn_c1 n) := by
  refine fn_ok (sig := sig) mixed ttok (mkK_nat (cslices_ContainsFunc_int_impl_Net_soundIn_c1 n)) (mkK_ok (cslices_ContainsFunc_int_impl_Net_soundIn_c1 n)) (mkL_nat (mkK_nat (cslices_ContainsFunc_int_impl_Net_soundIn_c1 n)) (l := []) trivial) (fn := Try.f161) (c := bodyOf Try.f161) (by kernel_rfl) (by kernel_rfl) (by kernel_rfl) (.eq (l := []) (by kernel_rfl) trivial) (shs := Hslices_ContainsFunc_int_impl_Net_soundIn_c1) (S := Sslices_ContainsFunc_int_impl_Net_soundIn_c1) (h1 := by kernel_rfl) fun R p k => ?_
  unfold Kslices_ContainsFunc_int_impl_Net_soundIn_c1
  cases h : (PkS.un Sslices_ContainsFunc_int_impl_Net_soundIn_c1 p) with
  | none => rfl
  | some d =>
    obtain ⟨x0, x1, u⟩ := (d : (List (List Int)) × (List Int) × Unit)
    have hp := PkS.un_pack h
    subst hp
    exact (eslices_ContainsFunc_int_impl_Net_soundIn_c1 @slices_IndexFunc_int_impl_Net_soundIn_c1 n x0 x1 k).symm

/-! ### (*loop.example/g00269/impl.Net).soundIn$2 -/
theorem cimpl_Net_soundIn_c2 (n : Nat) : AllOk Try.prog [(124, Kimpl_Net_fired_v1 @impl_Net_fired_v1 n)] := ⟨okimpl_Net_fired_v1 n, trivial⟩
@[reducible] def Simpl_Net_soundIn_c2 : PkS := ⟨[.one (.ro (.int .i64)), .one (.box (200000, 0) 0), .one (.box (200000, 1) 0)], [((200000, 0), .box [.relt (.pr (.int .i64) (.sl (.pr (.sl (.int .i64)) (.sl (.int .i64)))))]), ((200000, 1), .box [.int .i64])]⟩
@[reducible] def Timpl_Net_soundIn_c2 : PkS := ⟨[.one (.bool), .one (.dead), .one (.box (300000, 0) 0), .one (.box (300000, 1) 0)], [((300000, 0), .box [.relt (.pr (.int .i64) (.sl (.pr (.sl (.int .i64)) (.sl (.int .i64)))))]), ((300000, 1), .box [.int .i64])]⟩
def Himpl_Net_soundIn_c2 : List Sh := [.one .any, .skip, .box [(.lend (.pr (.int .i64) (.sl (.pr (.sl (.int .i64)) (.sl (.int .i64))))))], .box [.any]]
def Kimpl_Net_soundIn_c2 (g : ∀ {R : Type}, Nat → (List Int) → (Int × List (List Int × List Int)) → Int → (Bool → (Int × List (List Int × List Int)) → Int → Option R) → Option R) (n : Nat) : KPs := fun R p k => match (PkS.un Simpl_Net_soundIn_c2 p : Option ((List Int) × (Int × List (List Int × List Int)) × Int × Unit)) with
  | some (x0, x1, x2, _) => g n x0 x1 x2 (fun r0 r1 r2 => k (PkS.pack Timpl_Net_soundIn_c2 (r0, r1, r2, ())))
  | none => none
theorem eimpl_Net_soundIn_c2 (impl_Net_fired_v1 : ∀ {R : Type}, Nat → (Int × List (List Int × List Int)) → (List Int) → Int → (Bool → (List Int) → Option R) → Option R) {R : Type} (n : Nat) (x0 : List Int) (x1 : Int × List (List Int × List Int)) (x2 : Int) (k : Pk → Option R) : evF tt sig (mkK [(124, Kimpl_Net_fired_v1 @impl_Net_fired_v1 n)] R) (mkL (mkK [(124, Kimpl_Net_fired_v1 @impl_Net_fired_v1 n)]) [] R) Try.f163 Himpl_Net_soundIn_c2 (PkS.pack Simpl_Net_soundIn_c2 (x0, x1, x2, ())) k = (fun (k : Bool → (Int × List (List Int × List Int)) → Int → Option R) => (impl_Net_fired_v1 n x1 x0 x2 fun r1 r2 => k r1 x1 x2)) (fun r0 r1 r2 => k (PkS.pack Timpl_Net_soundIn_c2 (r0, r1, r2, ()))) := by kernel_rfl
theorem okimpl_Net_soundIn_c2 (n : Nat) : FnOk Try.prog 163 (Kimpl_Net_soundIn_c2 @impl_Net_soundIn_c2 n) := by
  refine fn_ok (sig := sig) mixed ttok (mkK_nat (cimpl_Net_soundIn_c2 n)) (mkK_ok (cimpl_Net_soundIn_c2 n)) (mkL_nat (mkK_nat (cimpl_Net_soundIn_c2 n)) (l := []) trivial) (fn := Try.f163) (c := bodyOf Try.f163) (by kernel_rfl) (by kernel_rfl) (by kernel_rfl) (.eq (l := []) (by kernel_rfl) trivial) (shs := Himpl_Net_soundIn_c2) (S := Simpl_Net_soundIn_c2) (h1 := by kernel_rfl) fun R p k => ?_
  unfold Kimpl_Net_soundIn_c2
  cases h : (PkS.un Simpl_Net_soundIn_c2 p) with
  | none => rfl
  | some d =>
    obtain ⟨x0, x1, x2, u⟩ := (d : (List Int) × (Int × List (List Int × List Int)) × Int × Unit)
    have hp := PkS.un_pack h
    subst hp
    exact (eimpl_Net_soundIn_c2 @impl_Net_fired_v1 n x0 x1 x2 k).symm

/-! ### slices.IndexFunc[[][]int,[]int] -/
theorem cslices_IndexFunc_int_impl_Net_soundIn_c2 (n : Nat) : AllOk Try.prog [(163, Kimpl_Net_soundIn_c2 @impl_Net_soundIn_c2 n)] := ⟨okimpl_Net_soundIn_c2 n, trivial⟩
@[reducible] def Sslices_IndexFunc_int_impl_Net_soundIn_c2_l2 : PkS := ⟨[.one (.ro (.sl (.int .i64))), .one (.fn 163 [((100000, 0), 0), ((100000, 1), 0)]), .one (.int .i64), .one (.int .i64), .one (.dead), .one (.fn 163 [((100000, 0), 0), ((100000, 1), 0)])], [((100000, 0), .box [.relt (.pr (.int .i64) (.sl (.pr (.sl (.int .i64)) (.sl (.int .i64)))))]), ((100000, 1), .box [.int .i64])]⟩
@[reducible] def Tslices_IndexFunc_int_impl_Net_soundIn_c2_l2_0 : PkS := ⟨[.one (.int .i64), .one (.dead), .one (.fn 163 [((100000, 0), 0), ((100000, 1), 0)])], [((100000, 0), .box [.relt (.pr (.int .i64) (.sl (.pr (.sl (.int .i64)) (.sl (.int .i64)))))]), ((100000, 1), .box [.int .i64])]⟩
@[reducible] def Tslices_IndexFunc_int_impl_Net_soundIn_c2_l2_1 : PkS := ⟨[.one (.dead), .one (.fn 163 [((100000, 0), 0), ((100000, 1), 0)])], [((100000, 0), .box [.relt (.pr (.int .i64) (.sl (.pr (.sl (.int .i64)) (.sl (.int .i64)))))]), ((100000, 1), .box [.int .i64])]⟩
def Dslices_IndexFunc_int_impl_Net_soundIn_c2_l2 : LoopD := ⟨19, [0, 1, 7, 8], [.one (.ro (.sl (.int .i64))), .fn 163 [[(.lend (.pr (.int .i64) (.sl (.pr (.sl (.int .i64)) (.sl (.int .i64))))))], [.any]], .one .any, .one .any, .skip, .fn 163 [[(.lend (.pr (.int .i64) (.sl (.pr (.sl (.int .i64)) (.sl (.int .i64))))))], [.any]]], fun x => match x with
  | .ret => some ([4], [.one .any, .skip, .fn 163 [[(.lend (.pr (.int .i64) (.sl (.pr (.sl (.int .i64)) (.sl (.int .i64))))))], [.any]]])
  | .exit 0 => some ([], [.skip, .fn 163 [[(.lend (.pr (.int .i64) (.sl (.pr (.sl (.int .i64)) (.sl (.int .i64))))))], [.any]]])
  | _ => none⟩
def Pslices_IndexFunc_int_impl_Net_soundIn_c2_l2 (g : ∀ {R : Type}, Nat → (List (List Int)) → Int → Int → (Int × List (List Int × List Int)) → Int → (Int → (Int × List (List Int × List Int)) → Int → Option R) → ((Int × List (List Int × List Int)) → Int → Option R) → Option R) (n : Nat) : LPs := fun R q kk => match (PkS.un Sslices_IndexFunc_int_impl_Net_soundIn_c2_l2 q : Option ((List (List Int)) × Int × Int × (Int × List (List Int × List Int)) × Int × Unit)) with
  | some (y2_0, y2_1, y2_2, y2_3, y2_4, _) => g n y2_0 y2_1 y2_2 y2_3 y2_4 (fun r0 r1 r2 => kk .ret (PkS.pack Tslices_IndexFunc_int_impl_Net_soundIn_c2_l2_0 (r0, r1, r2, ()))) (fun r0 r1 => kk (.exit 0) (PkS.pack Tslices_IndexFunc_int_impl_Net_soundIn_c2_l2_1 (r0, r1, ())))
  | none => none
theorem eslices_IndexFunc_int_impl_Net_soundIn_c2_l2 (impl_Net_soundIn_c2 : ∀ {R : Type}, Nat → (List Int) → (Int × List (List Int × List Int)) → Int → (Bool → (Int × List (List Int × List Int)) → Int → Option R) → Option R) (slices_IndexFunc_int_impl_Net_soundIn_c2_l2 : ∀ {R : Type}, Nat → (List (List Int)) → Int → Int → (Int × List (List Int × List Int)) → Int → (Int → (Int × List (List Int × List Int)) → Int → Option R) → ((Int × List (List Int × List Int)) → Int → Option R) → Option R) {R : Type} (n : Nat) (y2_0 : List (List Int)) (y2_1 : Int) (y2_2 : Int) (y2_3 : Int × List (List Int × List Int)) (y2_4 : Int) (kk : Ex → Pk → Option R) : Dslices_IndexFunc_int_impl_Net_soundIn_c2_l2.step tt sig (mkK [(163, Kimpl_Net_soundIn_c2 @impl_Net_soundIn_c2 n)] R) (mkL (mkK [(163, Kimpl_Net_soundIn_c2 @impl_Net_soundIn_c2 n)]) [] R) (loopIn 2 (bodyOf Try.f136)) (fun q' => Pslices_IndexFunc_int_impl_Net_soundIn_c2_l2 @slices_IndexFunc_int_impl_Net_soundIn_c2_l2 n R q' kk) (PkS.pack Sslices_IndexFunc_int_impl_Net_soundIn_c2_l2 (y2_0, y2_1, y2_2, y2_3, y2_4, ())) kk = (fun (kret : Int → (Int × List (List Int × List Int)) → Int → Option R) (kexit0 : (Int × List (List Int × List Int)) → Int → Option R) => (bif (decide (y2_2 < y2_1)) then (bif decide (0 ≤ y2_2) then (bif decide (y2_2 < (y2_0.length : Int)) then (impl_Net_soundIn_c2 n (y2_0.getD (Int.toNat y2_2) []) y2_3 y2_4 fun r1 r2 r3 => (bif r1 then kret y2_2 r2 r3 else slices_IndexFunc_int_impl_Net_soundIn_c2_l2 n y2_0 y2_1 (IntKind.wrap .i64 (y2_2 + 1)) r2 r3 kret kexit0)) else none) else none) else kexit0 y2_3 y2_4)) (fun r0 r1 r2 => kk .ret (PkS.pack Tslices_IndexFunc_int_impl_Net_soundIn_c2_l2_0 (r0, r1, r2, ()))) (fun r0 r1 => kk (.exit 0) (PkS.pack Tslices_IndexFunc_int_impl_Net_soundIn_c2_l2_1 (r0, r1, ()))) := by kernel_rfl
theorem leslices_IndexFunc_int_impl_Net_soundIn_c2_l2 : LoopEq tt sig (fun n => mkK [(163, Kimpl_Net_soundIn_c2 @impl_Net_soundIn_c2 n)]) (fun n => mkL (mkK [(163, Kimpl_Net_soundIn_c2 @impl_Net_soundIn_c2 n)]) []) Dslices_IndexFunc_int_impl_Net_soundIn_c2_l2 Sslices_IndexFunc_int_impl_Net_soundIn_c2_l2 (loopIn 2 (bodyOf Try.f136)) (Pslices_IndexFunc_int_impl_Net_soundIn_c2_l2 @slices_IndexFunc_int_impl_Net_soundIn_c2_l2) where
  zero R q kk := by unfold Pslices_IndexFunc_int_impl_Net_soundIn_c2_l2; cases (PkS.un Sslices_IndexFunc_int_impl_Net_soundIn_c2_l2 q) <;> rfl
  succ n R q kk := by
    unfold Pslices_IndexFunc_int_impl_Net_soundIn_c2_l2
    cases h : (PkS.un Sslices_IndexFunc_int_impl_Net_soundIn_c2_l2 q) with
    | none => rfl
    | some d =>
      obtain ⟨y2_0, y2_1, y2_2, y2_3, y2_4, u⟩ := (d : (List (List Int)) × Int × Int × (Int × List (List Int × List Int)) × Int × Unit)
      have hp := PkS.un_pack h
      subst hp
      exact (eslices_IndexFunc_int_impl_Net_soundIn_c2_l2 @impl_Net_soundIn_c2 @slices_IndexFunc_int_impl_Net_soundIn_c2_l2 n y2_0 y2_1 y2_2 y2_3 y2_4 kk).symm
theorem nlslices_IndexFunc_int_impl_Net_soundIn_c2_l2 : ∀ n, NatLP (Pslices_IndexFunc_int_impl_Net_soundIn_c2_l2 @slices_IndexFunc_int_impl_Net_soundIn_c2_l2 n) := leslices_IndexFunc_int_impl_Net_soundIn_c2_l2.nat (fun n => mkK_nat (cslices_IndexFunc_int_impl_Net_soundIn_c2 n)) fun n => mkL_nat (mkK_nat (cslices_IndexFunc_int_impl_Net_soundIn_c2 n)) (l := []) trivial
theorem inslices_IndexFunc_int_impl_Net_soundIn_c2_l2 (n : Nat) (R : Type) : LoopsOk Try.prog (mkL (mkK [(163, Kimpl_Net_soundIn_c2 @impl_Net_soundIn_c2 n)]) [] R) (loopIn 2 (bodyOf Try.f136)) := .eq (l := []) (by kernel_rfl) trivial
theorem lkslices_IndexFunc_int_impl_Net_soundIn_c2_l2 (n : Nat) (R : Type) (L0 : LK R) (h0 : ∀ id, firstRegion (loopIn 2 (bodyOf Try.f136)) = some id → L0 id = Dslices_IndexFunc_int_impl_Net_soundIn_c2_l2.oracle (mkK [(163, Kimpl_Net_soundIn_c2 @impl_Net_soundIn_c2 n)] R) (Pslices_IndexFunc_int_impl_Net_soundIn_c2_l2 @slices_IndexFunc_int_impl_Net_soundIn_c2_l2 n R)) : LoopOk Try.prog L0 (loopIn 2 (bodyOf Try.f136)) :=
  leslices_IndexFunc_int_impl_Net_soundIn_c2_l2.ok mixed ttok (fun n => mkK_nat (cslices_IndexFunc_int_impl_Net_soundIn_c2 n)) (fun n => mkK_ok (cslices_IndexFunc_int_impl_Net_soundIn_c2 n)) (fun n => inslices_IndexFunc_int_impl_Net_soundIn_c2_l2 n R) (mkK_nat (cslices_IndexFunc_int_impl_Net_soundIn_c2 n)) h0
@[reducible] def Sslices_IndexFunc_int_impl_Net_soundIn_c2 : PkS := ⟨[.one (.ro (.sl (.int .i64))), .one (.fn 163 [((200000, 0), 0), ((200000, 1), 0)])], [((200000, 0), .box [.relt (.pr (.int .i64) (.sl (.pr (.sl (.int .i64)) (.sl (.int .i64)))))]), ((200000, 1), .box [.int .i64])]⟩
@[reducible] def Tslices_IndexFunc_int_impl_Net_soundIn_c2 : PkS := ⟨[.one (.int .i64), .one (.dead), .one (.fn 163 [((300000, 0), 0), ((300000, 1), 0)])], [((300000, 0), .box [.relt (.pr (.int .i64) (.sl (.pr (.sl (.int .i64)) (.sl (.int .i64)))))]), ((300000, 1), .box [.int .i64])]⟩
def Hslices_IndexFunc_int_impl_Net_soundIn_c2 : List Sh := [.one .any, .skip, .fn 163 [[(.lend (.pr (.int .i64) (.sl (.pr (.sl (.int .i64)) (.sl (.int .i64))))))], [.any]]]
def Kslices_IndexFunc_int_impl_Net_soundIn_c2 (g : ∀ {R : Type}, Nat → (List (List Int)) → (Int × List (List Int × List Int)) → Int → (Int → (Int × List (List Int × List Int)) → Int → Option R) → Option R) (n : Nat) : KPs := fun R p k => match (PkS.un Sslices_IndexFunc_int_impl_Net_soundIn_c2 p : Option ((List (List Int)) × (Int × List (List Int × List Int)) × Int × Unit)) with
  | some (x0, x1, x2, _) => g n x0 x1 x2 (fun r0 r1 r2 => k (PkS.pack Tslices_IndexFunc_int_impl_Net_soundIn_c2 (r0, r1, r2, ())))
  | none => none
theorem eslices_IndexFunc_int_impl_Net_soundIn_c2 (impl_Net_soundIn_c2 : ∀ {R : Type}, Nat → (List Int) → (Int × List (List Int × List Int)) → Int → (Bool → (Int × List (List Int × List Int)) → Int → Option R) → Option R) (slices_IndexFunc_int_impl_Net_soundIn_c2_l2 : ∀ {R : Type}, Nat → (List (List Int)) → Int → Int → (Int × List (List Int × List Int)) → Int → (Int → (Int × List (List Int × List Int)) → Int → Option R) → ((Int × List (List Int × List Int)) → Int → Option R) → Option R) {R : Type} (n : Nat) (x0 : List (List Int)) (x1 : Int × List (List Int × List Int)) (x2 : Int) (k : Pk → Option R) : evF tt sig (mkK [(163, Kimpl_Net_soundIn_c2 @impl_Net_soundIn_c2 n)] R) (mkL (mkK [(163, Kimpl_Net_soundIn_c2 @impl_Net_soundIn_c2 n)]) [(2, Dslices_IndexFunc_int_impl_Net_soundIn_c2_l2, Pslices_IndexFunc_int_impl_Net_soundIn_c2_l2 @slices_IndexFunc_int_impl_Net_soundIn_c2_l2 n)] R) Try.f136 Hslices_IndexFunc_int_impl_Net_soundIn_c2 (PkS.pack Sslices_IndexFunc_int_impl_Net_soundIn_c2 (x0, x1, x2, ())) k = (fun (k : Int → (Int × List (List Int × List Int)) → Int → Option R) => (slices_IndexFunc_int_impl_Net_soundIn_c2_l2 n x0 (x0.length : Int) 0 x1 x2 (fun r4 r5 r6 => k r4 r5 r6) (fun r7 r8 => k (-1) r7 r8))) (fun r0 r1 r2 => k (PkS.pack Tslices_IndexFunc_int_impl_Net_soundIn_c2 (r0, r1, r2, ()))) := by kernel_rfl
theorem okslices_IndexFunc_int_impl_Net_soundIn_c2 (n : Nat) : FnOk Try.prog 136 (Kslices_IndexFunc_int_impl_Net_soundIn_c2 @slices_IndexFunc_int_impl_Net_soundIn_c2 n) := by
  refine fn_ok (sig := sig) mixed ttok (mkK_nat (cslices_IndexFunc_int_impl_Net_soundIn_c2 n)) (mkK_ok (cslices_IndexFunc_int_impl_Net_soundIn_c2 n)) (mkL_nat (mkK_nat (cslices_IndexFunc_int_impl_Net_soundIn_c2 n)) (l := [(2, Dslices_IndexFunc_int_impl_Net_soundIn_c2_l2, Pslices_IndexFunc_int_impl_Net_soundIn_c2_l2 @slices_IndexFunc_int_impl_Net_soundIn_c2_l2 n)]) ⟨nlslices_IndexFunc_int_impl_Net_soundIn_c2_l2 n, trivial⟩) (fn := Try.f136) (c := bodyOf Try.f136) (by kernel_rfl) (by kernel_rfl) (by kernel_rfl) (.eq (l := [.lo (loopIn 2 (bodyOf Try.f136))]) (by kernel_rfl) ⟨(lkslices_IndexFunc_int_impl_Net_soundIn_c2_l2 n _ _ (at_id (i := 2) (by kernel_rfl) rfl)), trivial⟩) (shs := Hslices_IndexFunc_int_impl_Net_soundIn_c2) (S := Sslices_IndexFunc_int_impl_Net_soundIn_c2) (h1 := by kernel_rfl) fun R p k => ?_
  unfold Kslices_IndexFunc_int_impl_Net_soundIn_c2
  cases h : (PkS.un Sslices_IndexFunc_int_impl_Net_soundIn_c2 p) with
  | none => rfl
  | some d =>
    obtain ⟨x0, x1, x2, u⟩ := (d : (List (List Int)) × (Int × List (List Int × List Int)) × Int × Unit)
    have hp := PkS.un_pack h
    subst hp
    exact (eslices_IndexFunc_int_impl_Net_soundIn_c2 @impl_Net_soundIn_c2 @slices_IndexFunc_int_impl_Net_soundIn_c2_l2 n x0 x1 x2 k).symm

/-! ### slices.ContainsFunc[[][]int,[]int] -/
theorem cslices_ContainsFunc_int_impl_Net_soundIn_c2 (n : Nat) : AllOk Try.prog [(136, Kslices_IndexFunc_int_impl_Net_soundIn_c2 @slices_IndexFunc_int_impl_Net_soundIn_c2 n)] := ⟨okslices_IndexFunc_int_impl_Net_soundIn_c2 n, trivial⟩
@[reducible] def Sslices_ContainsFunc_int_impl_Net_soundIn_c2 : PkS := ⟨[.one (.ro (.sl (.int .i64))), .one (.fn 163 [((200000, 0), 0), ((200000, 1), 0)])], [((200000, 0), .box [.relt (.pr (.int .i64) (.sl (.pr (.sl (.int .i64)) (.sl (.int .i64)))))]), ((200000, 1), .box [.int .i64])]⟩
@[reducible] def Tslices_ContainsFunc_int_impl_Net_soundIn_c2 : PkS := ⟨[.one (.bool), .one (.dead), .one (.fn 163 [((300000, 0), 0), ((300000, 1), 0)])], [((300000, 0), .box [.relt (.pr (.int .i64) (.sl (.pr (.sl (.int .i64)) (.sl (.int .i64)))))]), ((300000, 1), .box [.int .i64])]⟩
def Hslices_ContainsFunc_int_impl_Net_soundIn_c2 : List Sh := [.one .any, .skip, .fn 163 [[(.lend (.pr (.int .i64) (.sl (.pr (.sl (.int .i64)) (.sl (.int .i64))))))], [.any]]]
def Kslices_ContainsFunc_int_impl_Net_soundIn_c2 (g : ∀ {R : Type}, Nat → (List (List Int)) → (Int × List (List Int × List Int)) → Int → (Bool → (Int × List (List Int × List Int)) → Int → Option R) → Option R) (n : Nat) : KPs := fun R p k => match (PkS.un Sslices_ContainsFunc_int_impl_Net_soundIn_c2 p : Option ((List (List Int)) × (Int × List (List Int × List Int)) × Int × Unit)) with
  | some (x0, x1, x2, _) => g n x0 x1 x2 (fun r0 r1 r2 => k (PkS.pack Tslices_ContainsFunc_int_impl_Net_soundIn_c2 (r0, r1, r2, ())))
  | none => none
theorem eslices_ContainsFunc_int_impl_Net_soundIn_c2 (slices_IndexFunc_int_impl_Net_soundIn_c2 : ∀ {R : Type}, Nat → (List (List Int)) → (Int × List (List Int × List Int)) → Int → (Int → (Int × List (List Int × List Int)) → Int → Option R) → Option R) {R : Type} (n : Nat) (x0 : List (List Int)) (x1 : Int × List (List Int × List Int)) (x2 : Int) (k : Pk → Option R) : evF tt sig (mkK [(136, Kslices_IndexFunc_int_impl_Net_soundIn_c2 @slices_IndexFunc_int_impl_Net_soundIn_c2 n)] R) (mkL (mkK [(136, Kslices_IndexFunc_int_impl_Net_soundIn_c2 @slices_IndexFunc_int_impl_Net_soundIn_c2 n)]) [] R) Try.f161 Hslices_ContainsFunc_int_impl_Net_soundIn_c2 (PkS.pack Sslices_ContainsFunc_int_impl_Net_soundIn_c2 (x0, x1, x2, ())) k = (fun (k : Bool → (Int × List (List Int × List Int)) → Int → Option R) => (slices_IndexFunc_int_impl_Net_soundIn_c2 n x0 x1 x2 fun r1 r2 r3 => k (decide (r1 ≥ 0)) r2 r3)) (fun r0 r1 r2 => k (PkS.pack Tslices_ContainsFunc_int_impl_Net_soundIn_c2 (r0, r1, r2, ()))) := by kernel_rfl
theorem okslices_ContainsFunc_int_impl_Net_soundIn_c2 (n : Nat) : FnOk Try.prog 161 (Kslices_ContainsFunc_int_impl_Net_soundIn_c2 @slices_ContainsFunc_int_impl_Net_soundIn_c2 n) := by
  refine fn_ok (sig := sig) mixed ttok (mkK_nat (cslices_ContainsFunc_int_impl_Net_soundIn_c2 n)) (mkK_ok (cslices_ContainsFunc_int_impl_Net_soundIn_c2 n)) (mkL_nat (mkK_nat (cslices_ContainsFunc_int_impl_Net_soundIn_c2 n)) (l := []) trivial) (fn := Try.f161) (c := bodyOf Try.f161) (by kernel_rfl) (by kernel_rfl) (by kernel_rfl) (.eq (l := []) (by kernel_rfl) trivial) (shs := Hslices_ContainsFunc_int_impl_Net_soundIn_c2) (S := Sslices_ContainsFunc_int_impl_Net_soundIn_c2) (h1 := by kernel_rfl) fun R p k => ?_
  unfold Kslices_ContainsFunc_int_impl_Net_soundIn_c2
  cases h : (PkS.un Sslices_ContainsFunc_int_impl_Net_soundIn_c2 p) with
  | none => rfl
  | some d =>
    obtain ⟨x0, x1, x2, u⟩ := (d : (List (List Int)) × (Int × List (List Int × List Int)) × Int × Unit)
    have hp := PkS.un_pack h
    subst hp
    exact (eslices_ContainsFunc_int_impl_Net_soundIn_c2 @slices_IndexFunc_int_impl_Net_soundIn_c2 n x0 x1 x2 k).symm

/-! ### (*loop.example/g00269/impl.Net).soundIn -/
theorem cimpl_Net_soundIn (n : Nat) : AllOk Try.prog [(130, Kimpl_single @impl_single n), (138, Kslices_Equal_int @slices_Equal_int n), (129, Kimpl_marksFrom_v1 @impl_marksFrom_v1 n), (161, orK Sslices_ContainsFunc_int_impl_Net_soundIn_c1 (Kslices_ContainsFunc_int_impl_Net_soundIn_c1 @slices_ContainsFunc_int_impl_Net_soundIn_c1 n) (Kslices_ContainsFunc_int_impl_Net_soundIn_c2 @slices_ContainsFunc_int_impl_Net_soundIn_c2 n))] := ⟨okimpl_single n, ⟨okslices_Equal_int n, ⟨okimpl_marksFrom_v1 n, ⟨(FnOk.orElse Sslices_ContainsFunc_int_impl_Net_soundIn_c1 (okslices_ContainsFunc_int_impl_Net_soundIn_c1 n) (okslices_ContainsFunc_int_impl_Net_soundIn_c2 n)), trivial⟩⟩⟩⟩
@[reducible] def Simpl_Net_soundIn_l3 : PkS := ⟨[.one (.ro (.sl (.int .i64))), .one (.box (100000, 0) 0), .one (.box (100000, 2) 0), .one (.ro (.sl (.int .i64))), .one (.int .i64), .one (.int .i64), .one (.dead), .one (.dead)], [((100000, 0), .box [.relt (.pr (.int .i64) (.sl (.pr (.sl (.int .i64)) (.sl (.int .i64)))))]), ((100000, 1), .arr (.int .i64)), ((100000, 2), .box [.whole (100000, 1)])]⟩
@[reducible] def Timpl_Net_soundIn_l3_0 : PkS := ⟨[.one (.bool), .one (.dead), .one (.dead)], []⟩
@[reducible] def Timpl_Net_soundIn_l3_1 : PkS := ⟨[.one (.ro (.sl (.int .i64))), .one (.box (100000, 0) 0), .one (.dead), .one (.dead)], [((100000, 0), .box [.relt (.pr (.int .i64) (.sl (.pr (.sl (.int .i64)) (.sl (.int .i64)))))])]⟩
def Dimpl_Net_soundIn_l3 : LoopD := ⟨69, [1, 2, 5, 21, 22, 23], [.one (.ro (.sl (.int .i64))), .box [(.lend (.pr (.int .i64) (.sl (.pr (.sl (.int .i64)) (.sl (.int .i64))))))], .box [(.own (.int .i64))], .one (.ro (.sl (.int .i64))), .one .any, .one .any, .skip, .skip], fun x => match x with
  | .ret => some ([4], [.one .any, .skip, .skip])
  | .exit 0 => some ([1, 2], [.one (.ro (.sl (.int .i64))), .box [(.lend (.pr (.int .i64) (.sl (.pr (.sl (.int .i64)) (.sl (.int .i64))))))], .skip, .skip])
  | _ => none⟩
def Pimpl_Net_soundIn_l3 (g : ∀ {R : Type}, Nat → (List (List Int)) → (List (List Int)) → Int → Int → (Int × List (List Int × List Int)) → (List Int) → (Bool → Option R) → ((List (List Int)) → (Int × List (List Int × List Int)) → Option R) → Option R) (n : Nat) : LPs := fun R q kk => match (PkS.un Simpl_Net_soundIn_l3 q : Option ((List (List Int)) × (List (List Int)) × Int × Int × (Int × List (List Int × List Int)) × (List Int) × Unit)) with
  | some (y3_0, y3_1, y3_2, y3_3, y3_4, y3_5, _) => g n y3_0 y3_1 y3_2 y3_3 y3_4 y3_5 (fun r0 => kk .ret (PkS.pack Timpl_Net_soundIn_l3_0 (r0, ()))) (fun r0 r1 => kk (.exit 0) (PkS.pack Timpl_Net_soundIn_l3_1 (r0, r1, ())))
  | none => none
theorem eimpl_Net_soundIn_l3 (impl_single : ∀ {R : Type}, Nat → Int → Int → ((List Int) → Option R) → Option R) (slices_Equal_int : ∀ {R : Type}, Nat → (List Int) → (List Int) → (Bool → Option R) → Option R) (impl_marksFrom_v1 : ∀ {R : Type}, Nat → (Int × List (List Int × List Int)) → (List Int) → (Bool → Option R) → ((List (List Int) × List Int × List Int) → Bool → Option R) → Option R) (slices_ContainsFunc_int_impl_Net_soundIn_c1 : ∀ {R : Type}, Nat → (List (List Int)) → (List Int) → (Bool → (List Int) → Option R) → Option R) (slices_ContainsFunc_int_impl_Net_soundIn_c2 : ∀ {R : Type}, Nat → (List (List Int)) → (Int × List (List Int × List Int)) → Int → (Bool → (Int × List (List Int × List Int)) → Int → Option R) → Option R) (impl_Net_soundIn_l3 : ∀ {R : Type}, Nat → (List (List Int)) → (List (List Int)) → Int → Int → (Int × List (List Int × List Int)) → (List Int) → (Bool → Option R) → ((List (List Int)) → (Int × List (List Int × List Int)) → Option R) → Option R) {R : Type} (n : Nat) (y3_0 : List (List Int)) (y3_1 : List (List Int)) (y3_2 : Int) (y3_3 : Int) (y3_4 : Int × List (List Int × List Int)) (y3_5 : List Int) (kk : Ex → Pk → Option R) : Dimpl_Net_soundIn_l3.step tt sig (mkK [(130, Kimpl_single @impl_single n), (138, Kslices_Equal_int @slices_Equal_int n), (129, Kimpl_marksFrom_v1 @impl_marksFrom_v1 n), (161, orK Sslices_ContainsFunc_int_impl_Net_soundIn_c1 (Kslices_ContainsFunc_int_impl_Net_soundIn_c1 @slices_ContainsFunc_int_impl_Net_soundIn_c1 n) (Kslices_ContainsFunc_int_impl_Net_soundIn_c2 @slices_ContainsFunc_int_impl_Net_soundIn_c2 n))] R) (mkL (mkK [(130, Kimpl_single @impl_single n), (138, Kslices_Equal_int @slices_Equal_int n), (129, Kimpl_marksFrom_v1 @impl_marksFrom_v1 n), (161, orK Sslices_ContainsFunc_int_impl_Net_soundIn_c1 (Kslices_ContainsFunc_int_impl_Net_soundIn_c1 @slices_ContainsFunc_int_impl_Net_soundIn_c1 n) (Kslices_ContainsFunc_int_impl_Net_soundIn_c2 @slices_ContainsFunc_int_impl_Net_soundIn_c2 n))]) [] R) (loopIn 3 (bodyOf Try.f131)) (fun q' => Pimpl_Net_soundIn_l3 @impl_Net_soundIn_l3 n R q' kk) (PkS.pack Simpl_Net_soundIn_l3 (y3_0, y3_1, y3_2, y3_3, y3_4, y3_5, ())) kk = (fun (kret : Bool → Option R) (kexit0 : (List (List Int)) → (Int × List (List Int × List Int)) → Option R) => (bif (decide (y3_3 < y3_2)) then (bif decide (0 ≤ y3_3) then (bif decide (y3_3 < (y3_1.length : Int)) then (bif decide (0 ≤ (IntKind.wrap .i64 (y3_4.1 - 1))) then (bif decide ((IntKind.wrap .i64 (y3_4.1 - 1)) < ((y3_1.getD (Int.toNat y3_3) []).length : Int)) then (bif (decide (((y3_1.getD (Int.toNat y3_3) []).getD (Int.toNat (IntKind.wrap .i64 (y3_4.1 - 1))) 0) > 0)) then (slices_Equal_int n (y3_1.getD (Int.toNat y3_3) []) y3_5 fun r2 => (bif (!r2) then kret false else (impl_marksFrom_v1 n y3_4 (y3_1.getD (Int.toNat y3_3) []) (fun r3 => none) (fun r4 r5 => (slices_ContainsFunc_int_impl_Net_soundIn_c1 n r4.1 y3_5 fun r6 r7 => (bif (!r6) then kret false else impl_Net_soundIn_l3 n y3_0 y3_1 y3_2 (IntKind.wrap .i64 (y3_3 + 1)) y3_4 r7 kret kexit0)))))) else (impl_marksFrom_v1 n y3_4 (y3_1.getD (Int.toNat y3_3) []) (fun r8 => none) (fun r9 r10 => (slices_ContainsFunc_int_impl_Net_soundIn_c1 n r9.1 y3_5 fun r11 r12 => (bif (!r11) then kret false else impl_Net_soundIn_l3 n y3_0 y3_1 y3_2 (IntKind.wrap .i64 (y3_3 + 1)) y3_4 r12 kret kexit0))))) else none) else none) else none) else none) else kexit0 y3_0 y3_4)) (fun r0 => kk .ret (PkS.pack Timpl_Net_soundIn_l3_0 (r0, ()))) (fun r0 r1 => kk (.exit 0) (PkS.pack Timpl_Net_soundIn_l3_1 (r0, r1, ()))) := by kernel_rfl
theorem leimpl_Net_soundIn_l3 : LoopEq tt sig (fun n => mkK [(130, Kimpl_single @impl_single n), (138, Kslices_Equal_int @slices_Equal_int n), (129, Kimpl_marksFrom_v1 @impl_marksFrom_v1 n), (161, orK Sslices_ContainsFunc_int_impl_Net_soundIn_c1 (Kslices_ContainsFunc_int_impl_Net_soundIn_c1 @slices_ContainsFunc_int_impl_Net_soundIn_c1 n) (Kslices_ContainsFunc_int_impl_Net_soundIn_c2 @slices_ContainsFunc_int_impl_Net_soundIn_c2 n))]) (fun n => mkL (mkK [(130, Kimpl_single @impl_single n), (138, Kslices_Equal_int @slices_Equal_int n), (129, Kimpl_marksFrom_v1 @impl_marksFrom_v1 n), (161, orK Sslices_ContainsFunc_int_impl_Net_soundIn_c1 (Kslices_ContainsFunc_int_impl_Net_soundIn_c1 @slices_ContainsFunc_int_impl_Net_soundIn_c1 n) (Kslices_ContainsFunc_int_impl_Net_soundIn_c2 @slices_ContainsFunc_int_impl_Net_soundIn_c2 n))]) []) Dimpl_Net_soundIn_l3 Simpl_Net_soundIn_l3 (loopIn 3 (bodyOf Try.f131)) (Pimpl_Net_soundIn_l3 @impl_Net_soundIn_l3) where
  zero R q kk := by unfold Pimpl_Net_soundIn_l3; cases (PkS.un Simpl_Net_soundIn_l3 q) <;> rfl
  succ n R q kk := by
    unfold Pimpl_Net_soundIn_l3
    cases h : (PkS.un Simpl_Net_soundIn_l3 q) with
    | none => rfl
    | some d =>
      obtain ⟨y3_0, y3_1, y3_2, y3_3, y3_4, y3_5, u⟩ := (d : (List (List Int)) × (List (List Int)) × Int × Int × (Int × List (List Int × List Int)) × (List Int) × Unit)
      have hp := PkS.un_pack h
      subst hp
      exact (eimpl_Net_soundIn_l3 @impl_single @slices_Equal_int @impl_marksFrom_v1 @slices_ContainsFunc_int_impl_Net_soundIn_c1 @slices_ContainsFunc_int_impl_Net_soundIn_c2 @impl_Net_soundIn_l3 n y3_0 y3_1 y3_2 y3_3 y3_4 y3_5 kk).symm
theorem nlimpl_Net_soundIn_l3 : ∀ n, NatLP (Pimpl_Net_soundIn_l3 @impl_Net_soundIn_l3 n) := leimpl_Net_soundIn_l3.nat (fun n => mkK_nat (cimpl_Net_soundIn n)) fun n => mkL_nat (mkK_nat (cimpl_Net_soundIn n)) (l := []) trivial
theorem inimpl_Net_soundIn_l3 (n : Nat) (R : Type) : LoopsOk Try.prog (mkL (mkK [(130, Kimpl_single @impl_single n), (138, Kslices_Equal_int @slices_Equal_int n), (129, Kimpl_marksFrom_v1 @impl_marksFrom_v1 n), (161, orK Sslices_ContainsFunc_int_impl_Net_soundIn_c1 (Kslices_ContainsFunc_int_impl_Net_soundIn_c1 @slices_ContainsFunc_int_impl_Net_soundIn_c1 n) (Kslices_ContainsFunc_int_impl_Net_soundIn_c2 @slices_ContainsFunc_int_impl_Net_soundIn_c2 n))]) [] R) (loopIn 3 (bodyOf Try.f131)) := .eq (l := []) (by kernel_rfl) trivial
theorem lkimpl_Net_soundIn_l3 (n : Nat) (R : Type) (L0 : LK R) (h0 : ∀ id, firstRegion (loopIn 3 (bodyOf Try.f131)) = some id → L0 id = Dimpl_Net_soundIn_l3.oracle (mkK [(130, Kimpl_single @impl_single n), (138, Kslices_Equal_int @slices_Equal_int n), (129, Kimpl_marksFrom_v1 @impl_marksFrom_v1 n), (161, orK Sslices_ContainsFunc_int_impl_Net_soundIn_c1 (Kslices_ContainsFunc_int_impl_Net_soundIn_c1 @slices_ContainsFunc_int_impl_Net_soundIn_c1 n) (Kslices_ContainsFunc_int_impl_Net_soundIn_c2 @slices_ContainsFunc_int_impl_Net_soundIn_c2 n))] R) (Pimpl_Net_soundIn_l3 @impl_Net_soundIn_l3 n R)) : LoopOk Try.prog L0 (loopIn 3 (bodyOf Try.f131)) :=
  leimpl_Net_soundIn_l3.ok mixed ttok (fun n => mkK_nat (cimpl_Net_soundIn n)) (fun n => mkK_ok (cimpl_Net_soundIn n)) (fun n => inimpl_Net_soundIn_l3 n R) (mkK_nat (cimpl_Net_soundIn n)) h0
@[reducible] def Simpl_Net_soundIn_l12 : PkS := ⟨[.one (.ro (.sl (.int .i64))), .one (.box (100000, 0) 0), .one (.int .i64), .one (.int .i64), .one (.dead), .one (.dead)], [((100000, 0), .box [.relt (.pr (.int .i64) (.sl (.pr (.sl (.int .i64)) (.sl (.int .i64)))))])]⟩
@[reducible] def Timpl_Net_soundIn_l12_0 : PkS := ⟨[.one (.bool), .one (.dead), .one (.dead)], []⟩
@[reducible] def Timpl_Net_soundIn_l12_1 : PkS := ⟨[.one (.dead), .one (.dead)], []⟩
def Dimpl_Net_soundIn_l12 : LoopD := ⟨69, [1, 2, 60, 61], [.one (.ro (.sl (.int .i64))), .box [(.lend (.pr (.int .i64) (.sl (.pr (.sl (.int .i64)) (.sl (.int .i64))))))], .one .any, .one .any, .skip, .skip], fun x => match x with
  | .ret => some ([4], [.one .any, .skip, .skip])
  | .exit 2 => some ([], [.skip, .skip])
  | _ => none⟩
def Pimpl_Net_soundIn_l12 (g : ∀ {R : Type}, Nat → (List (List Int)) → Int → Int → (Int × List (List Int × List Int)) → (Bool → Option R) → (Option R) → Option R) (n : Nat) : LPs := fun R q kk => match (PkS.un Simpl_Net_soundIn_l12 q : Option ((List (List Int)) × Int × Int × (Int × List (List Int × List Int)) × Unit)) with
  | some (y12_0, y12_1, y12_2, y12_3, _) => g n y12_0 y12_1 y12_2 y12_3 (fun r0 => kk .ret (PkS.pack Timpl_Net_soundIn_l12_0 (r0, ()))) (kk (.exit 2) (PkS.pack Timpl_Net_soundIn_l12_1 ()))
  | none => none
theorem eimpl_Net_soundIn_l12 (impl_single : ∀ {R : Type}, Nat → Int → Int → ((List Int) → Option R) → Option R) (slices_Equal_int : ∀ {R : Type}, Nat → (List Int) → (List Int) → (Bool → Option R) → Option R) (impl_marksFrom_v1 : ∀ {R : Type}, Nat → (Int × List (List Int × List Int)) → (List Int) → (Bool → Option R) → ((List (List Int) × List Int × List Int) → Bool → Option R) → Option R) (slices_ContainsFunc_int_impl_Net_soundIn_c1 : ∀ {R : Type}, Nat → (List (List Int)) → (List Int) → (Bool → (List Int) → Option R) → Option R) (slices_ContainsFunc_int_impl_Net_soundIn_c2 : ∀ {R : Type}, Nat → (List (List Int)) → (Int × List (List Int × List Int)) → Int → (Bool → (Int × List (List Int × List Int)) → Int → Option R) → Option R) (impl_Net_soundIn_l3 : ∀ {R : Type}, Nat → (List (List Int)) → (List (List Int)) → Int → Int → (Int × List (List Int × List Int)) → (List Int) → (Bool → Option R) → ((List (List Int)) → (Int × List (List Int × List Int)) → Option R) → Option R) (impl_Net_soundIn_l12 : ∀ {R : Type}, Nat → (List (List Int)) → Int → Int → (Int × List (List Int × List Int)) → (Bool → Option R) → (Option R) → Option R) {R : Type} (n : Nat) (y12_0 : List (List Int)) (y12_1 : Int) (y12_2 : Int) (y12_3 : Int × List (List Int × List Int)) (kk : Ex → Pk → Option R) : Dimpl_Net_soundIn_l12.step tt sig (mkK [(130, Kimpl_single @impl_single n), (138, Kslices_Equal_int @slices_Equal_int n), (129, Kimpl_marksFrom_v1 @impl_marksFrom_v1 n), (161, orK Sslices_ContainsFunc_int_impl_Net_soundIn_c1 (Kslices_ContainsFunc_int_impl_Net_soundIn_c1 @slices_ContainsFunc_int_impl_Net_soundIn_c1 n) (Kslices_ContainsFunc_int_impl_Net_soundIn_c2 @slices_ContainsFunc_int_impl_Net_soundIn_c2 n))] R) (mkL (mkK [(130, Kimpl_single @impl_single n), (138, Kslices_Equal_int @slices_Equal_int n), (129, Kimpl_marksFrom_v1 @impl_marksFrom_v1 n), (161, orK Sslices_ContainsFunc_int_impl_Net_soundIn_c1 (Kslices_ContainsFunc_int_impl_Net_soundIn_c1 @slices_ContainsFunc_int_impl_Net_soundIn_c1 n) (Kslices_ContainsFunc_int_impl_Net_soundIn_c2 @slices_ContainsFunc_int_impl_Net_soundIn_c2 n))]) [(3, Dimpl_Net_soundIn_l3, Pimpl_Net_soundIn_l3 @impl_Net_soundIn_l3 n)] R) (loopIn 12 (bodyOf Try.f131)) (fun q' => Pimpl_Net_soundIn_l12 @impl_Net_soundIn_l12 n R q' kk) (PkS.pack Simpl_Net_soundIn_l12 (y12_0, y12_1, y12_2, y12_3, ())) kk = (fun (kret : Bool → Option R) (kexit2 : Option R) => (bif (decide (y12_2 < y12_1)) then (slices_ContainsFunc_int_impl_Net_soundIn_c2 n y12_0 y12_3 y12_2 fun r16 r17 r18 => (bif (!r16) then kret false else impl_Net_soundIn_l12 n y12_0 y12_1 (IntKind.wrap .i64 (y12_2 + 1)) r17 kret kexit2)) else kexit2)) (fun r0 => kk .ret (PkS.pack Timpl_Net_soundIn_l12_0 (r0, ()))) (kk (.exit 2) (PkS.pack Timpl_Net_soundIn_l12_1 ())) := by kernel_rfl
theorem leimpl_Net_soundIn_l12 : LoopEq tt sig (fun n => mkK [(130, Kimpl_single @impl_single n), (138, Kslices_Equal_int @slices_Equal_int n), (129, Kimpl_marksFrom_v1 @impl_marksFrom_v1 n), (161, orK Sslices_ContainsFunc_int_impl_Net_soundIn_c1 (Kslices_ContainsFunc_int_impl_Net_soundIn_c1 @slices_ContainsFunc_int_impl_Net_soundIn_c1 n) (Kslices_ContainsFunc_int_impl_Net_soundIn_c2 @slices_ContainsFunc_int_impl_Net_soundIn_c2 n))]) (fun n => mkL (mkK [(130, Kimpl_single @impl_single n), (138, Kslices_Equal_int @slices_Equal_int n), (129, Kimpl_marksFrom_v1 @impl_marksFrom_v1 n), (161, orK Sslices_ContainsFunc_int_impl_Net_soundIn_c1 (Kslices_ContainsFunc_int_impl_Net_soundIn_c1 @slices_ContainsFunc_int_impl_Net_soundIn_c1 n) (Kslices_ContainsFunc_int_impl_Net_soundIn_c2 @slices_ContainsFunc_int_impl_Net_soundIn_c2 n))]) [(3, Dimpl_Net_soundIn_l3, Pimpl_Net_soundIn_l3 @impl_Net_soundIn_l3 n)]) Dimpl_Net_soundIn_l12 Simpl_Net_soundIn_l12 (loopIn 12 (bodyOf Try.f131)) (Pimpl_Net_soundIn_l12 @impl_Net_soundIn_l12) where
  zero R q kk := by unfold Pimpl_Net_soundIn_l12; cases (PkS.un Simpl_Net_soundIn_l12 q) <;> rfl
  succ n R q kk := by
    unfold Pimpl_Net_soundIn_l12
    cases h : (PkS.un Simpl_Net_soundIn_l12 q) with
    | none => rfl
    | some d =>
      obtain ⟨y12_0, y12_1, y12_2, y12_3, u⟩ := (d : (List (List Int)) × Int × Int × (Int × List (List Int × List Int)) × Unit)
      have hp := PkS.un_pack h
      subst hp
      exact (eimpl_Net_soundIn_l12 @impl_single @slices_Equal_int @impl_marksFrom_v1 @slices_ContainsFunc_int_impl_Net_soundIn_c1 @slices_ContainsFunc_int_impl_Net_soundIn_c2 @impl_Net_soundIn_l3 @impl_Net_soundIn_l12 n y12_0 y12_1 y12_2 y12_3 kk).symm
theorem nlimpl_Net_soundIn_l12 : ∀ n, NatLP (Pimpl_Net_soundIn_l12 @impl_Net_soundIn_l12 n) := leimpl_Net_soundIn_l12.nat (fun n => mkK_nat (cimpl_Net_soundIn n)) fun n => mkL_nat (mkK_nat (cimpl_Net_soundIn n)) (l := [(3, Dimpl_Net_soundIn_l3, Pimpl_Net_soundIn_l3 @impl_Net_soundIn_l3 n)]) ⟨nlimpl_Net_soundIn_l3 n, trivial⟩
theorem inimpl_Net_soundIn_l12 (n : Nat) (R : Type) : LoopsOk Try.prog (mkL (mkK [(130, Kimpl_single @impl_single n), (138, Kslices_Equal_int @slices_Equal_int n), (129, Kimpl_marksFrom_v1 @impl_marksFrom_v1 n), (161, orK Sslices_ContainsFunc_int_impl_Net_soundIn_c1 (Kslices_ContainsFunc_int_impl_Net_soundIn_c1 @slices_ContainsFunc_int_impl_Net_soundIn_c1 n) (Kslices_ContainsFunc_int_impl_Net_soundIn_c2 @slices_ContainsFunc_int_impl_Net_soundIn_c2 n))]) [(3, Dimpl_Net_soundIn_l3, Pimpl_Net_soundIn_l3 @impl_Net_soundIn_l3 n)] R) (loopIn 12 (bodyOf Try.f131)) := .eq (l := []) (by kernel_rfl) trivial
theorem lkimpl_Net_soundIn_l12 (n : Nat) (R : Type) (L0 : LK R) (h0 : ∀ id, firstRegion (loopIn 12 (bodyOf Try.f131)) = some id → L0 id = Dimpl_Net_soundIn_l12.oracle (mkK [(130, Kimpl_single @impl_single n), (138, Kslices_Equal_int @slices_Equal_int n), (129, Kimpl_marksFrom_v1 @impl_marksFrom_v1 n), (161, orK Sslices_ContainsFunc_int_impl_Net_soundIn_c1 (Kslices_ContainsFunc_int_impl_Net_soundIn_c1 @slices_ContainsFunc_int_impl_Net_soundIn_c1 n) (Kslices_ContainsFunc_int_impl_Net_soundIn_c2 @slices_ContainsFunc_int_impl_Net_soundIn_c2 n))] R) (Pimpl_Net_soundIn_l12 @impl_Net_soundIn_l12 n R)) : LoopOk Try.prog L0 (loopIn 12 (bodyOf Try.f131)) :=
  leimpl_Net_soundIn_l12.ok mixed ttok (fun n => mkK_nat (cimpl_Net_soundIn n)) (fun n => mkK_ok (cimpl_Net_soundIn n)) (fun n => inimpl_Net_soundIn_l12 n R) (mkK_nat (cimpl_Net_soundIn n)) h0
@[reducible] def Simpl_Net_soundIn : PkS := ⟨[.one (.relt (.pr (.int .i64) (.sl (.pr (.sl (.int .i64)) (.sl (.int .i64)))))), .one (.ro (.sl (.int .i64)))], []⟩
@[reducible] def Timpl_Net_soundIn : PkS := ⟨[.one (.bool), .one (.dead), .one (.dead)], []⟩
def Himpl_Net_soundIn : List Sh := [.one .any, .skip, .skip]
def Kimpl_Net_soundIn (g : ∀ {R : Type}, Nat → (Int × List (List Int × List Int)) → (List (List Int)) → (Bool → Option R) → Option R) (n : Nat) : KPs := fun R p k => match (PkS.un Simpl_Net_soundIn p : Option ((Int × List (List Int × List Int)) × (List (List Int)) × Unit)) with
  | some (x0, x1, _) => g n x0 x1 (fun r0 => k (PkS.pack Timpl_Net_soundIn (r0, ())))
  | none => none
theorem eimpl_Net_soundIn (impl_single : ∀ {R : Type}, Nat → Int → Int → ((List Int) → Option R) → Option R) (slices_Equal_int : ∀ {R : Type}, Nat → (List Int) → (List Int) → (Bool → Option R) → Option R) (impl_marksFrom_v1 : ∀ {R : Type}, Nat → (Int × List (List Int × List Int)) → (List Int) → (Bool → Option R) → ((List (List Int) × List Int × List Int) → Bool → Option R) → Option R) (slices_ContainsFunc_int_impl_Net_soundIn_c1 : ∀ {R : Type}, Nat → (List (List Int)) → (List Int) → (Bool → (List Int) → Option R) → Option R) (slices_ContainsFunc_int_impl_Net_soundIn_c2 : ∀ {R : Type}, Nat → (List (List Int)) → (Int × List (List Int × List Int)) → Int → (Bool → (Int × List (List Int × List Int)) → Int → Option R) → Option R) (impl_Net_soundIn_l3 : ∀ {R : Type}, Nat → (List (List Int)) → (List (List Int)) → Int → Int → (Int × List (List Int × List Int)) → (List Int) → (Bool → Option R) → ((List (List Int)) → (Int × List (List Int × List Int)) → Option R) → Option R) (impl_Net_soundIn_l12 : ∀ {R : Type}, Nat → (List (List Int)) → Int → Int → (Int × List (List Int × List Int)) → (Bool → Option R) → (Option R) → Option R) {R : Type} (n : Nat) (x0 : Int × List (List Int × List Int)) (x1 : List (List Int)) (k : Pk → Option R) : evF tt sig (mkK [(130, Kimpl_single @impl_single n), (138, Kslices_Equal_int @slices_Equal_int n), (129, Kimpl_marksFrom_v1 @impl_marksFrom_v1 n), (161, orK Sslices_ContainsFunc_int_impl_Net_soundIn_c1 (Kslices_ContainsFunc_int_impl_Net_soundIn_c1 @slices_ContainsFunc_int_impl_Net_soundIn_c1 n) (Kslices_ContainsFunc_int_impl_Net_soundIn_c2 @slices_ContainsFunc_int_impl_Net_soundIn_c2 n))] R) (mkL (mkK [(130, Kimpl_single @impl_single n), (138, Kslices_Equal_int @slices_Equal_int n), (129, Kimpl_marksFrom_v1 @impl_marksFrom_v1 n), (161, orK Sslices_ContainsFunc_int_impl_Net_soundIn_c1 (Kslices_ContainsFunc_int_impl_Net_soundIn_c1 @slices_ContainsFunc_int_impl_Net_soundIn_c1 n) (Kslices_ContainsFunc_int_impl_Net_soundIn_c2 @slices_ContainsFunc_int_impl_Net_soundIn_c2 n))]) [(3, Dimpl_Net_soundIn_l3, Pimpl_Net_soundIn_l3 @impl_Net_soundIn_l3 n), (12, Dimpl_Net_soundIn_l12, Pimpl_Net_soundIn_l12 @impl_Net_soundIn_l12 n)] R) Try.f131 Himpl_Net_soundIn (PkS.pack Simpl_Net_soundIn (x0, x1, ())) k = (fun (k : Bool → Option R) => (impl_single n x0.1 (IntKind.wrap .i64 (x0.1 - 1)) fun r1 => (impl_Net_soundIn_l3 n x1 x1 (x1.length : Int) 0 x0 r1 (fun r13 => k r13) (fun r14 r15 => (impl_Net_soundIn_l12 n r14 (r15.2.length : Int) 0 r15 (fun r19 => k r19) (k true)))))) (fun r0 => k (PkS.pack Timpl_Net_soundIn (r0, ()))) := by kernel_rfl
theorem okimpl_Net_soundIn (n : Nat) : FnOk Try.prog 131 (Kimpl_Net_soundIn @impl_Net_soundIn n) := by
  refine fn_ok (sig := sig) mixed ttok (mkK_nat (cimpl_Net_soundIn n)) (mkK_ok (cimpl_Net_soundIn n)) (mkL_nat (mkK_nat (cimpl_Net_soundIn n)) (l := [(3, Dimpl_Net_soundIn_l3, Pimpl_Net_soundIn_l3 @impl_Net_soundIn_l3 n), (12, Dimpl_Net_soundIn_l12, Pimpl_Net_soundIn_l12 @impl_Net_soundIn_l12 n)]) ⟨nlimpl_Net_soundIn_l3 n, ⟨nlimpl_Net_soundIn_l12 n, trivial⟩⟩) (fn := Try.f131) (c := bodyOf Try.f131) (by kernel_rfl) (by kernel_rfl) (by kernel_rfl) (.eq (l := [.lo (loopIn 3 (bodyOf Try.f131)), .lo (loopIn 12 (bodyOf Try.f131))]) (by kernel_rfl) ⟨(lkimpl_Net_soundIn_l3 n _ _ (at_id (i := 3) (by kernel_rfl) rfl)), ⟨(lkimpl_Net_soundIn_l12 n _ _ (at_id (i := 12) (by kernel_rfl) rfl)), trivial⟩⟩) (shs := Himpl_Net_soundIn) (S := Simpl_Net_soundIn) (h1 := by kernel_rfl) fun R p k => ?_
  unfold Kimpl_Net_soundIn
  cases h : (PkS.un Simpl_Net_soundIn p) with
  | none => rfl
  | some d =>
    obtain ⟨x0, x1, u⟩ := (d : (Int × List (List Int × List Int)) × (List (List Int)) × Unit)
    have hp := PkS.un_pack h
    subst hp
    exact (eimpl_Net_soundIn @impl_single @slices_Equal_int @impl_marksFrom_v1 @slices_ContainsFunc_int_impl_Net_soundIn_c1 @slices_ContainsFunc_int_impl_Net_soundIn_c2 @impl_Net_soundIn_l3 @impl_Net_soundIn_l12 n x0 x1 k).symm

/-! ### loop.example/g00269/impl.IsSound -/
theorem cimpl_IsSound (n : Nat) : AllOk Try.prog [(59, Kimpl_GoodNet @impl_GoodNet n), (130, Kimpl_single @impl_single n), (129, Kimpl_marksFrom @impl_marksFrom n), (131, Kimpl_Net_soundIn @impl_Net_soundIn n)] := ⟨okimpl_GoodNet n, ⟨okimpl_single n, ⟨okimpl_marksFrom n, ⟨okimpl_Net_soundIn n, trivial⟩⟩⟩⟩
@[reducible] def Simpl_IsSound : PkS := ⟨[.agg [.int .i64, .ro (.pr (.sl (.int .i64)) (.sl (.int .i64)))]], []⟩
@[reducible] def Timpl_IsSound : PkS := ⟨[.tup [(false, [.bool]), (false, [.bool])], .one (.dead)], []⟩
def Himpl_IsSound : List Sh := [.tup [(false, [.any]), (false, [.any])], .skip]
def Kimpl_IsSound (g : ∀ {R : Type}, Nat → Int → (List (List Int × List Int)) → (Bool → Bool → Option R) → Option R) (n : Nat) : KPs := fun R p k => match (PkS.un Simpl_IsSound p : Option (Int × (List (List Int × List Int)) × Unit)) with
  | some (x0, x1, _) => g n x0 x1 (fun r0 r1 => k (PkS.pack Timpl_IsSound (r0, r1, ())))
  | none => none
theorem eimpl_IsSound (impl_GoodNet : ∀ {R : Type}, Nat → Int → (List (List Int × List Int)) → (Bool → Option R) → Option R) (impl_single : ∀ {R : Type}, Nat → Int → Int → ((List Int) → Option R) → Option R) (impl_marksFrom : ∀ {R : Type}, Nat → (List Int) → Int → (List (List Int × List Int)) → (Bool → Int → (List (List Int × List Int)) → Option R) → ((List (List Int) × List Int × List Int) → Bool → Int → (List (List Int × List Int)) → Option R) → Option R) (impl_Net_soundIn : ∀ {R : Type}, Nat → (Int × List (List Int × List Int)) → (List (List Int)) → (Bool → Option R) → Option R) {R : Type} (n : Nat) (x0 : Int) (x1 : List (List Int × List Int)) (k : Pk → Option R) : evF tt sig (mkK [(59, Kimpl_GoodNet @impl_GoodNet n), (130, Kimpl_single @impl_single n), (129, Kimpl_marksFrom @impl_marksFrom n), (131, Kimpl_Net_soundIn @impl_Net_soundIn n)] R) (mkL (mkK [(59, Kimpl_GoodNet @impl_GoodNet n), (130, Kimpl_single @impl_single n), (129, Kimpl_marksFrom @impl_marksFrom n), (131, Kimpl_Net_soundIn @impl_Net_soundIn n)]) [] R) Try.f65 Himpl_IsSound (PkS.pack Simpl_IsSound (x0, x1, ())) k = (fun (k : Bool → Bool → Option R) => (impl_GoodNet n x0 x1 fun r1 => (bif (!r1) then k false false else (bif (decide (x0 < 2)) then k false false else (impl_single n x0 0 fun r2 => (impl_marksFrom n r2 x0 x1 (fun r3 r4 r5 => (bif r3 then none else k false r3)) (fun r6 r7 r8 r9 => (bif r7 then (impl_Net_soundIn n (r8, r9) r6.1 fun r10 => k r10 r7) else k false r7)))))))) (fun r0 r1 => k (PkS.pack Timpl_IsSound (r0, r1, ()))) := by kernel_rfl
theorem okimpl_IsSound (n : Nat) : FnOk Try.prog 65 (Kimpl_IsSound @impl_IsSound n) := by
  refine fn_ok (sig := sig) mixed ttok (mkK_nat (cimpl_IsSound n)) (mkK_ok (cimpl_IsSound n)) (mkL_nat (mkK_nat (cimpl_IsSound n)) (l := []) trivial) (fn := Try.f65) (c := bodyOf Try.f65) (by kernel_rfl) (by kernel_rfl) (by kernel_rfl) (.eq (l := []) (by kernel_rfl) trivial) (shs := Himpl_IsSound) (S := Simpl_IsSound) (h1 := by kernel_rfl) fun R p k => ?_
  unfold Kimpl_IsSound
  cases h : (PkS.un Simpl_IsSound p) with
  | none => rfl
  | some d =>
    obtain ⟨x0, x1, u⟩ := (d : Int × (List (List Int × List Int)) × Unit)
    have hp := PkS.un_pack h
    subst hp
    exact (eimpl_IsSound @impl_GoodNet @impl_single @impl_marksFrom @impl_Net_soundIn n x0 x1 k).symm

/-! ### loop.example/g00269/spec.l1In -/
theorem cspec_l1In (n : Nat) : AllOk Try.prog [] := trivial
@[reducible] def Sspec_l1In : PkS := ⟨[.one (.int .i64), .one (.int .i64), .one (.int .i64)], []⟩
@[reducible] def Tspec_l1In : PkS := ⟨[.one (.bool), .one (.dead), .one (.dead), .one (.dead)], []⟩
def Hspec_l1In : List Sh := [.one .any, .skip, .skip, .skip]
def Kspec_l1In (g : ∀ {R : Type}, Nat → Int → Int → Int → (Bool → Option R) → Option R) (n : Nat) : KPs := fun R p k => match (PkS.un Sspec_l1In p : Option (Int × Int × Int × Unit)) with
  | some (x0, x1, x2, _) => g n x0 x1 x2 (fun r0 => k (PkS.pack Tspec_l1In (r0, ())))
  | none => none
theorem espec_l1In  {R : Type} (n : Nat) (x0 : Int) (x1 : Int) (x2 : Int) (k : Pk → Option R) : evF tt sig (mkK [] R) (mkL (mkK []) [] R) Try.f72 Hspec_l1In (PkS.pack Sspec_l1In (x0, x1, x2, ())) k = (fun (k : Bool → Option R) => (bif (decide (x0 ≥ x1)) then k (decide (x0 ≤ x2)) else k false)) (fun r0 => k (PkS.pack Tspec_l1In (r0, ()))) := by kernel_rfl
theorem okspec_l1In (n : Nat) : FnOk Try.prog 72 (Kspec_l1In @spec_l1In n) := by
  refine fn_ok (sig := sig) mixed ttok (mkK_nat (cspec_l1In n)) (mkK_ok (cspec_l1In n)) (mkL_nat (mkK_nat (cspec_l1In n)) (l := []) trivial) (fn := Try.f72) (c := bodyOf Try.f72) (by kernel_rfl) (by kernel_rfl) (by kernel_rfl) (.eq (l := []) (by kernel_rfl) trivial) (shs := Hspec_l1In) (S := Sspec_l1In) (h1 := by kernel_rfl) fun R p k => ?_
  unfold Kspec_l1In
  cases h : (PkS.un Sspec_l1In p) with
  | none => rfl
  | some d =>
    obtain ⟨x0, x1, x2, u⟩ := (d : Int × Int × Int × Unit)
    have hp := PkS.un_pack h
    subst hp
    exact (espec_l1In  n x0 x1 x2 k).symm

/-! ### loop.example/g00269/spec.l3List -/
theorem cspec_l3List (n : Nat) : AllOk Try.prog [(72, Kspec_l1In @spec_l1In n)] := ⟨okspec_l1In n, trivial⟩
@[reducible] def Sspec_l3List_l2 : PkS := ⟨[.one (.ro (.int .i64)), .one (.int .i64), .one (.ro (.int .i64)), .one (.int .i64), .one (.int .i64), .one (.dead), .one (.dead)], []⟩
@[reducible] def Tspec_l3List_l2_0 : PkS := ⟨[.one (.bool), .one (.dead), .one (.dead)], []⟩
@[reducible] def Tspec_l3List_l2_1 : PkS := ⟨[.one (.dead), .one (.dead)], []⟩
def Dspec_l3List_l2 : LoopD := ⟨33, [0, 1, 7, 8, 9], [.one (.ro (.int .i64)), .one .any, .one (.ro (.int .i64)), .one .any, .one .any, .skip, .skip], fun x => match x with
  | .ret => some ([4], [.one .any, .skip, .skip])
  | .exit 0 => some ([], [.skip, .skip])
  | _ => none⟩
def Pspec_l3List_l2 (g : ∀ {R : Type}, Nat → (List Int) → Int → (List Int) → Int → Int → (Bool → Option R) → (Option R) → Option R) (n : Nat) : LPs := fun R q kk => match (PkS.un Sspec_l3List_l2 q : Option ((List Int) × Int × (List Int) × Int × Int × Unit)) with
  | some (y2_0, y2_1, y2_2, y2_3, y2_4, _) => g n y2_0 y2_1 y2_2 y2_3 y2_4 (fun r0 => kk .ret (PkS.pack Tspec_l3List_l2_0 (r0, ()))) (kk (.exit 0) (PkS.pack Tspec_l3List_l2_1 ()))
  | none => none
theorem espec_l3List_l2 (spec_l1In : ∀ {R : Type}, Nat → Int → Int → Int → (Bool → Option R) → Option R) (spec_l3List_l2 : ∀ {R : Type}, Nat → (List Int) → Int → (List Int) → Int → Int → (Bool → Option R) → (Option R) → Option R) {R : Type} (n : Nat) (y2_0 : List Int) (y2_1 : Int) (y2_2 : List Int) (y2_3 : Int) (y2_4 : Int) (kk : Ex → Pk → Option R) : Dspec_l3List_l2.step tt sig (mkK [(72, Kspec_l1In @spec_l1In n)] R) (mkL (mkK [(72, Kspec_l1In @spec_l1In n)]) [] R) (loopIn 2 (bodyOf Try.f119)) (fun q' => Pspec_l3List_l2 @spec_l3List_l2 n R q' kk) (PkS.pack Sspec_l3List_l2 (y2_0, y2_1, y2_2, y2_3, y2_4, ())) kk = (fun (kret : Bool → Option R) (kexit0 : Option R) => (bif (decide (y2_4 < y2_3)) then (bif decide (0 ≤ y2_4) then (bif decide (y2_4 < (y2_2.length : Int)) then (spec_l1In n (y2_2.getD (Int.toNat y2_4) 0) 0 (IntKind.wrap .i64 (y2_1 - 1)) fun r1 => (bif (!r1) then kret false else (bif (decide (y2_4 > 0)) then (bif decide (0 ≤ (IntKind.wrap .i64 (y2_4 - 1))) then (bif decide ((IntKind.wrap .i64 (y2_4 - 1)) < (y2_0.length : Int)) then (bif (decide ((y2_0.getD (Int.toNat (IntKind.wrap .i64 (y2_4 - 1))) 0) ≥ (y2_2.getD (Int.toNat y2_4) 0))) then kret false else spec_l3List_l2 n y2_0 y2_1 y2_2 y2_3 (IntKind.wrap .i64 (y2_4 + 1)) kret kexit0) else none) else none) else spec_l3List_l2 n y2_0 y2_1 y2_2 y2_3 (IntKind.wrap .i64 (y2_4 + 1)) kret kexit0))) else none) else none) else kexit0)) (fun r0 => kk .ret (PkS.pack Tspec_l3List_l2_0 (r0, ()))) (kk (.exit 0) (PkS.pack Tspec_l3List_l2_1 ())) := by kernel_rfl
theorem lespec_l3List_l2 : LoopEq tt sig (fun n => mkK [(72, Kspec_l1In @spec_l1In n)]) (fun n => mkL (mkK [(72, Kspec_l1In @spec_l1In n)]) []) Dspec_l3List_l2 Sspec_l3List_l2 (loopIn 2 (bodyOf Try.f119)) (Pspec_l3List_l2 @spec_l3List_l2) where
  zero R q kk := by unfold Pspec_l3List_l2; cases (PkS.un Sspec_l3List_l2 q) <;> rfl
  succ n R q kk := by
    unfold Pspec_l3List_l2
    cases h : (PkS.un Sspec_l3List_l2 q) with
    | none => rfl
    | some d =>
      obtain ⟨y2_0, y2_1, y2_2, y2_3, y2_4, u⟩ := (d : (List Int) × Int × (List Int) × Int × Int × Unit)
      have hp := PkS.un_pack h
      subst hp
      exact (espec_l3List_l2 @spec_l1In @spec_l3List_l2 n y2_0 y2_1 y2_2 y2_3 y2_4 kk).symm
theorem nlspec_l3List_l2 : ∀ n, NatLP (Pspec_l3List_l2 @spec_l3List_l2 n) := lespec_l3List_l2.nat (fun n => mkK_nat (cspec_l3List n)) fun n => mkL_nat (mkK_nat (cspec_l3List n)) (l := []) trivial
theorem inspec_l3List_l2 (n : Nat) (R : Type) : LoopsOk Try.prog (mkL (mkK [(72, Kspec_l1In @spec_l1In n)]) [] R) (loopIn 2 (bodyOf Try.f119)) := .eq (l := []) (by kernel_rfl) trivial
theorem lkspec_l3List_l2 (n : Nat) (R : Type) (L0 : LK R) (h0 : ∀ id, firstRegion (loopIn 2 (bodyOf Try.f119)) = some id → L0 id = Dspec_l3List_l2.oracle (mkK [(72, Kspec_l1In @spec_l1In n)] R) (Pspec_l3List_l2 @spec_l3List_l2 n R)) : LoopOk Try.prog L0 (loopIn 2 (bodyOf Try.f119)) :=
  lespec_l3List_l2.ok mixed ttok (fun n => mkK_nat (cspec_l3List n)) (fun n => mkK_ok (cspec_l3List n)) (fun n => inspec_l3List_l2 n R) (mkK_nat (cspec_l3List n)) h0
@[reducible] def Sspec_l3List : PkS := ⟨[.one (.ro (.int .i64)), .one (.int .i64)], []⟩
@[reducible] def Tspec_l3List : PkS := ⟨[.one (.bool), .one (.dead), .one (.dead)], []⟩
def Hspec_l3List : List Sh := [.one .any, .skip, .skip]
def Kspec_l3List (g : ∀ {R : Type}, Nat → (List Int) → Int → (Bool → Option R) → Option R) (n : Nat) : KPs := fun R p k => match (PkS.un Sspec_l3List p : Option ((List Int) × Int × Unit)) with
  | some (x0, x1, _) => g n x0 x1 (fun r0 => k (PkS.pack Tspec_l3List (r0, ())))
  | none => none
theorem espec_l3List (spec_l1In : ∀ {R : Type}, Nat → Int → Int → Int → (Bool → Option R) → Option R) (spec_l3List_l2 : ∀ {R : Type}, Nat → (List Int) → Int → (List Int) → Int → Int → (Bool → Option R) → (Option R) → Option R) {R : Type} (n : Nat) (x0 : List Int) (x1 : Int) (k : Pk → Option R) : evF tt sig (mkK [(72, Kspec_l1In @spec_l1In n)] R) (mkL (mkK [(72, Kspec_l1In @spec_l1In n)]) [(2, Dspec_l3List_l2, Pspec_l3List_l2 @spec_l3List_l2 n)] R) Try.f119 Hspec_l3List (PkS.pack Sspec_l3List (x0, x1, ())) k = (fun (k : Bool → Option R) => (spec_l3List_l2 n x0 x1 x0 (x0.length : Int) 0 (fun r2 => k r2) (k true))) (fun r0 => k (PkS.pack Tspec_l3List (r0, ()))) := by kernel_rfl
theorem okspec_l3List (n : Nat) : FnOk Try.prog 119 (Kspec_l3List @spec_l3List n) := by
  refine fn_ok (sig := sig) mixed ttok (mkK_nat (cspec_l3List n)) (mkK_ok (cspec_l3List n)) (mkL_nat (mkK_nat (cspec_l3List n)) (l := [(2, Dspec_l3List_l2, Pspec_l3List_l2 @spec_l3List_l2 n)]) ⟨nlspec_l3List_l2 n, trivial⟩) (fn := Try.f119) (c := bodyOf Try.f119) (by kernel_rfl) (by kernel_rfl) (by kernel_rfl) (.eq (l := [.lo (loopIn 2 (bodyOf Try.f119))]) (by kernel_rfl) ⟨(lkspec_l3List_l2 n _ _ (at_id (i := 2) (by kernel_rfl) rfl)), trivial⟩) (shs := Hspec_l3List) (S := Sspec_l3List) (h1 := by kernel_rfl) fun R p k => ?_
  unfold Kspec_l3List
  cases h : (PkS.un Sspec_l3List p) with
  | none => rfl
  | some d =>
    obtain ⟨x0, x1, u⟩ := (d : (List Int) × Int × Unit)
    have hp := PkS.un_pack h
    subst hp
    exact (espec_l3List @spec_l1In @spec_l3List_l2 n x0 x1 k).symm

/-! ### loop.example/g00269/spec.GoodNet -/
theorem cspec_GoodNet (n : Nat) : AllOk Try.prog [(119, Kspec_l3List @spec_l3List n), (72, Kspec_l1In @spec_l1In n)] := ⟨okspec_l3List n, ⟨okspec_l1In n, trivial⟩⟩
@[reducible] def Sspec_GoodNet_l2 : PkS := ⟨[.one (.box (100000, 0) 0), .one (.ro (.pr (.sl (.int .i64)) (.sl (.int .i64)))), .one (.int .i64), .one (.int .i64), .one (.dead)], [((100000, 0), .box [.int .i64, .ro (.pr (.sl (.int .i64)) (.sl (.int .i64)))])]⟩
@[reducible] def Tspec_GoodNet_l2_0 : PkS := ⟨[.one (.bool), .one (.dead)], []⟩
@[reducible] def Tspec_GoodNet_l2_1 : PkS := ⟨[.one (.box (100000, 0) 0), .one (.dead)], [((100000, 0), .box [.int .i64, .ro (.pr (.sl (.int .i64)) (.sl (.int .i64)))])]⟩
def Dspec_GoodNet_l2 : LoopD := ⟨36, [1, 6, 7, 8], [.box [.any, (.ro (.pr (.sl (.int .i64)) (.sl (.int .i64))))], .one (.ro (.pr (.sl (.int .i64)) (.sl (.int .i64)))), .one .any, .one .any, .skip], fun x => match x with
  | .ret => some ([2], [.one .any, .skip])
  | .exit 0 => some ([1], [.box [.any, (.ro (.pr (.sl (.int .i64)) (.sl (.int .i64))))], .skip])
  | _ => none⟩
def Pspec_GoodNet_l2 (g : ∀ {R : Type}, Nat → (List (List Int × List Int)) → Int → Int → Int → (List (List Int × List Int)) → (Bool → Option R) → (Int → (List (List Int × List Int)) → Option R) → Option R) (n : Nat) : LPs := fun R q kk => match (PkS.un Sspec_GoodNet_l2 q : Option ((List (List Int × List Int)) × Int × Int × Int × (List (List Int × List Int)) × Unit)) with
  | some (y2_0, y2_1, y2_2, y2_3, y2_4, _) => g n y2_0 y2_1 y2_2 y2_3 y2_4 (fun r0 => kk .ret (PkS.pack Tspec_GoodNet_l2_0 (r0, ()))) (fun r0 r1 => kk (.exit 0) (PkS.pack Tspec_GoodNet_l2_1 (r0, r1, ())))
  | none => none
theorem espec_GoodNet_l2 (spec_l3List : ∀ {R : Type}, Nat → (List Int) → Int → (Bool → Option R) → Option R) (spec_l1In : ∀ {R : Type}, Nat → Int → Int → Int → (Bool → Option R) → Option R) (spec_GoodNet_l2 : ∀ {R : Type}, Nat → (List (List Int × List Int)) → Int → Int → Int → (List (List Int × List Int)) → (Bool → Option R) → (Int → (List (List Int × List Int)) → Option R) → Option R) {R : Type} (n : Nat) (y2_0 : List (List Int × List Int)) (y2_1 : Int) (y2_2 : Int) (y2_3 : Int) (y2_4 : List (List Int × List Int)) (kk : Ex → Pk → Option R) : Dspec_GoodNet_l2.step tt sig (mkK [(119, Kspec_l3List @spec_l3List n), (72, Kspec_l1In @spec_l1In n)] R) (mkL (mkK [(119, Kspec_l3List @spec_l3List n), (72, Kspec_l1In @spec_l1In n)]) [] R) (loopIn 2 (bodyOf Try.f60)) (fun q' => Pspec_GoodNet_l2 @spec_GoodNet_l2 n R q' kk) (PkS.pack Sspec_GoodNet_l2 (y2_0, y2_1, y2_2, y2_3, y2_4, ())) kk = (fun (kret : Bool → Option R) (kexit0 : Int → (List (List Int × List Int)) → Option R) => (bif (decide (y2_2 < y2_1)) then (bif decide (0 ≤ y2_2) then (bif decide (y2_2 < (y2_0.length : Int)) then (spec_l3List n ((y2_0.getD (Int.toNat y2_2) ([], [])).1) y2_3 fun r1 => (bif (!r1) then kret false else (spec_l3List n ((y2_0.getD (Int.toNat y2_2) ([], [])).2) y2_3 fun r2 => (bif (!r2) then kret false else spec_GoodNet_l2 n y2_0 y2_1 (IntKind.wrap .i64 (y2_2 + 1)) y2_3 y2_4 kret kexit0)))) else none) else none) else kexit0 y2_3 y2_4)) (fun r0 => kk .ret (PkS.pack Tspec_GoodNet_l2_0 (r0, ()))) (fun r0 r1 => kk (.exit 0) (PkS.pack Tspec_GoodNet_l2_1 (r0, r1, ()))) := by kernel_rfl
theorem lespec_GoodNet_l2 : LoopEq tt sig (fun n => mkK [(119, Kspec_l3List @spec_l3List n), (72, Kspec_l1In @spec_l1In n)]) (fun n => mkL (mkK [(119, Kspec_l3List @spec_l3List n), (72, Kspec_l1In @spec_l1In n)]) []) Dspec_GoodNet_l2 Sspec_GoodNet_l2 (loopIn 2 (bodyOf Try.f60)) (Pspec_GoodNet_l2 @spec_GoodNet_l2) where
  zero R q kk := by unfold Pspec_GoodNet_l2; cases (PkS.un Sspec_GoodNet_l2 q) <;> rfl
  succ n R q kk := by
    unfold Pspec_GoodNet_l2
    cases h : (PkS.un Sspec_GoodNet_l2 q) with
    | none => rfl
    | some d =>
      obtain ⟨y2_0, y2_1, y2_2, y2_3, y2_4, u⟩ := (d : (List (List Int × List Int)) × Int × Int × Int × (List (List Int × List Int)) × Unit)
      have hp := PkS.un_pack h
      subst hp
      exact (espec_GoodNet_l2 @spec_l3List @spec_l1In @spec_GoodNet_l2 n y2_0 y2_1 y2_2 y2_3 y2_4 kk).symm
theorem nlspec_GoodNet_l2 : ∀ n, NatLP (Pspec_GoodNet_l2 @spec_GoodNet_l2 n) := lespec_GoodNet_l2.nat (fun n => mkK_nat (cspec_GoodNet n)) fun n => mkL_nat (mkK_nat (cspec_GoodNet n)) (l := []) trivial
theorem inspec_GoodNet_l2 (n : Nat) (R : Type) : LoopsOk Try.prog (mkL (mkK [(119, Kspec_l3List @spec_l3List n), (72, Kspec_l1In @spec_l1In n)]) [] R) (loopIn 2 (bodyOf Try.f60)) := .eq (l := []) (by kernel_rfl) trivial
theorem lkspec_GoodNet_l2 (n : Nat) (R : Type) (L0 : LK R) (h0 : ∀ id, firstRegion (loopIn 2 (bodyOf Try.f60)) = some id → L0 id = Dspec_GoodNet_l2.oracle (mkK [(119, Kspec_l3List @spec_l3List n), (72, Kspec_l1In @spec_l1In n)] R) (Pspec_GoodNet_l2 @spec_GoodNet_l2 n R)) : LoopOk Try.prog L0 (loopIn 2 (bodyOf Try.f60)) :=
  lespec_GoodNet_l2.ok mixed ttok (fun n => mkK_nat (cspec_GoodNet n)) (fun n => mkK_ok (cspec_GoodNet n)) (fun n => inspec_GoodNet_l2 n R) (mkK_nat (cspec_GoodNet n)) h0
@[reducible] def Sspec_GoodNet : PkS := ⟨[.agg [.int .i64, .ro (.pr (.sl (.int .i64)) (.sl (.int .i64)))]], []⟩
@[reducible] def Tspec_GoodNet : PkS := ⟨[.one (.bool), .one (.dead)], []⟩
def Hspec_GoodNet : List Sh := [.one .any, .skip]
def Kspec_GoodNet (g : ∀ {R : Type}, Nat → Int → (List (List Int × List Int)) → (Bool → Option R) → Option R) (n : Nat) : KPs := fun R p k => match (PkS.un Sspec_GoodNet p : Option (Int × (List (List Int × List Int)) × Unit)) with
  | some (x0, x1, _) => g n x0 x1 (fun r0 => k (PkS.pack Tspec_GoodNet (r0, ())))
  | none => none
theorem espec_GoodNet (spec_l3List : ∀ {R : Type}, Nat → (List Int) → Int → (Bool → Option R) → Option R) (spec_l1In : ∀ {R : Type}, Nat → Int → Int → Int → (Bool → Option R) → Option R) (spec_GoodNet_l2 : ∀ {R : Type}, Nat → (List (List Int × List Int)) → Int → Int → Int → (List (List Int × List Int)) → (Bool → Option R) → (Int → (List (List Int × List Int)) → Option R) → Option R) {R : Type} (n : Nat) (x0 : Int) (x1 : List (List Int × List Int)) (k : Pk → Option R) : evF tt sig (mkK [(119, Kspec_l3List @spec_l3List n), (72, Kspec_l1In @spec_l1In n)] R) (mkL (mkK [(119, Kspec_l3List @spec_l3List n), (72, Kspec_l1In @spec_l1In n)]) [(2, Dspec_GoodNet_l2, Pspec_GoodNet_l2 @spec_GoodNet_l2 n)] R) Try.f60 Hspec_GoodNet (PkS.pack Sspec_GoodNet (x0, x1, ())) k = (fun (k : Bool → Option R) => (spec_GoodNet_l2 n x1 (x1.length : Int) 0 x0 x1 (fun r3 => k r3) (fun r4 r5 => (spec_l1In n r4 1 8 fun r6 => (bif r6 then k (decide ((r5.length : Int) ≤ 12)) else k false))))) (fun r0 => k (PkS.pack Tspec_GoodNet (r0, ()))) := by kernel_rfl
theorem okspec_GoodNet (n : Nat) : FnOk Try.prog 60 (Kspec_GoodNet @spec_GoodNet n) := by
  refine fn_ok (sig := sig) mixed ttok (mkK_nat (cspec_GoodNet n)) (mkK_ok (cspec_GoodNet n)) (mkL_nat (mkK_nat (cspec_GoodNet n)) (l := [(2, Dspec_GoodNet_l2, Pspec_GoodNet_l2 @spec_GoodNet_l2 n)]) ⟨nlspec_GoodNet_l2 n, trivial⟩) (fn := Try.f60) (c := bodyOf Try.f60) (by kernel_rfl) (by kernel_rfl) (by kernel_rfl) (.eq (l := [.lo (loopIn 2 (bodyOf Try.f60))]) (by kernel_rfl) ⟨(lkspec_GoodNet_l2 n _ _ (at_id (i := 2) (by kernel_rfl) rfl)), trivial⟩) (shs := Hspec_GoodNet) (S := Sspec_GoodNet) (h1 := by kernel_rfl) fun R p k => ?_
  unfold Kspec_GoodNet
  cases h : (PkS.un Sspec_GoodNet p) with
  | none => rfl
  | some d =>
    obtain ⟨x0, x1, u⟩ := (d : Int × (List (List Int × List Int)) × Unit)
    have hp := PkS.un_pack h
    subst hp
    exact (espec_GoodNet @spec_l3List @spec_l1In @spec_GoodNet_l2 n x0 x1 k).symm

/-! ### loop.example/g00269/spec.l3One -/
theorem cspec_l3One (n : Nat) : AllOk Try.prog [] := trivial
@[reducible] def Sspec_l3One : PkS := ⟨[.one (.int .i64), .one (.int .i64)], []⟩
@[reducible] def Tspec_l3One : PkS := ⟨[.one (.whole (300000, 0)), .one (.dead), .one (.dead)], [((300000, 0), .arr (.int .i64))]⟩
def Hspec_l3One : List Sh := [.one (.own (.int .i64)), .skip, .skip]
def Kspec_l3One (g : ∀ {R : Type}, Nat → Int → Int → ((List Int) → Option R) → Option R) (n : Nat) : KPs := fun R p k => match (PkS.un Sspec_l3One p : Option (Int × Int × Unit)) with
  | some (x0, x1, _) => g n x0 x1 (fun r0 => k (PkS.pack Tspec_l3One (r0, ())))
  | none => none
theorem espec_l3One  {R : Type} (n : Nat) (x0 : Int) (x1 : Int) (k : Pk → Option R) : evF tt sig (mkK [] R) (mkL (mkK []) [] R) Try.f132 Hspec_l3One (PkS.pack Sspec_l3One (x0, x1, ())) k = (fun (k : (List Int) → Option R) => (bif decide (0 ≤ x0) then (bif decide (x0 ≤ x0) then (bif decide (x0 ≤ 1099511627776) then (bif decide (0 ≤ x1) then (bif decide (x1 < ((List.replicate (Int.toNat x0) (0 : Int)).length : Int)) then k ((List.replicate (Int.toNat x0) (0 : Int)).set (Int.toNat x1) 1) else none) else none) else none) else none) else none)) (fun r0 => k (PkS.pack Tspec_l3One (r0, ()))) := by kernel_rfl
theorem okspec_l3One (n : Nat) : FnOk Try.prog 132 (Kspec_l3One @spec_l3One n) := by
  refine fn_ok (sig := sig) mixed ttok (mkK_nat (cspec_l3One n)) (mkK_ok (cspec_l3One n)) (mkL_nat (mkK_nat (cspec_l3One n)) (l := []) trivial) (fn := Try.f132) (c := bodyOf Try.f132) (by kernel_rfl) (by kernel_rfl) (by kernel_rfl) (.eq (l := []) (by kernel_rfl) trivial) (shs := Hspec_l3One) (S := Sspec_l3One) (h1 := by kernel_rfl) fun R p k => ?_
  unfold Kspec_l3One
  cases h : (PkS.un Sspec_l3One p) with
  | none => rfl
  | some d =>
    obtain ⟨x0, x1, u⟩ := (d : Int × Int × Unit)
    have hp := PkS.un_pack h
    subst hp
    exact (espec_l3One  n x0 x1 k).symm
end Go.Am.G
