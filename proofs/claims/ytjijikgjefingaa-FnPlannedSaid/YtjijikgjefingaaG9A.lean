/- The code of the functions that the law reaches does what the plain functions say. -/
import Derived.Test.YtjijikgjefingaaF9
import Derived.Test.YtjijikgjefingaaAmC
import Derived.KernelRfl
import Derived.Test.YtjijikgjefingaaProg
set_option linter.unusedVariables false
set_option maxRecDepth 100000
namespace Go.Am.G
open Go Go.Am
open Go.Proofs
def tt : TT := [(3, ⟨1, false, (.int .i64), 0, [], [.int .i64 0], 8, true, false, []⟩), (4, ⟨1, false, .bool, 0, [], [.bool false], 1, true, false, []⟩), (5, ⟨1, false, (.int .u8), 0, [], [.int .u8 0], 1, true, false, []⟩), (22, ⟨1, false, (.sl (.int .i64)), 3, [], [.nil], 24, true, true, []⟩), (50, ⟨1, false, (.sl (.int .u8)), 5, [], [.nil], 24, true, true, []⟩), (51, ⟨1, false, (.sl (.pr (.int .i64) (.sl (.int .i64)))), 63, [], [.nil], 24, true, true, []⟩), (63, ⟨2, true, (.pr (.int .i64) (.sl (.int .i64))), 0, [(0, 1, false), (1, 1, false)], [.int .i64 0, .nil], 32, true, false, []⟩), (107, ⟨1, false, (.sl .bool), 4, [], [.nil], 24, true, true, []⟩), (112, ⟨1, false, (.int .u64), 0, [], [.int .u64 0], 8, true, false, []⟩), (114, ⟨3, true, (.pr (.sl (.int .u8)) (.pr (.int .i64) (.int .u64))), 0, [(0, 1, false), (1, 1, false), (2, 1, false)], [.nil, .int .i64 0, .int .u64 0], 40, true, false, []⟩)]
def sig : Sig := sigOf [(9, [.one (.ro (.int .u8))]), (38, [.one (.ro (.int .i64)), .one (.ro (.int .i64))]), (42, [.one (.ro (.int .u8))]), (43, [.one (.ro (.pr (.int .i64) (.sl (.int .i64))))]), (44, [.one (.ro (.pr (.int .i64) (.sl (.int .i64))))]), (45, [.one (.ro (.pr (.int .i64) (.sl (.int .i64))))]), (46, [.one (.ro (.pr (.int .i64) (.sl (.int .i64))))]), (47, [.one (.ro (.pr (.int .i64) (.sl (.int .i64))))]), (48, [.one (.ro (.pr (.int .i64) (.sl (.int .i64))))]), (49, [.one (.ro (.pr (.int .i64) (.sl (.int .i64))))]), (72, [.one .any, .one .any, .one .any]), (80, [.one .any, .one .any, .one .any]), (93, [.one (.ro (.int .u8))]), (94, [.one (.ro (.pr (.int .i64) (.sl (.int .i64))))]), (95, [.one (.ro (.pr (.int .i64) (.sl (.int .i64))))]), (96, [.one (.ro (.pr (.int .i64) (.sl (.int .i64))))]), (97, [.one (.ro (.int .i64))]), (98, [.box [(.ro (.int .u8)), .any, .any]]), (99, [.box [(.ro (.int .u8)), .any, .any], .one .any]), (100, [.one (.ro (.pr (.int .i64) (.sl (.int .i64))))]), (101, [.one (.ro (.pr (.int .i64) (.sl (.int .i64))))]), (102, [.one (.ro (.pr (.int .i64) (.sl (.int .i64))))]), (103, [.one (.ro (.int .i64)), .one .any]), (104, [.one (.ro (.pr (.int .i64) (.sl (.int .i64))))]), (105, [.one (.ro (.int .i64)), .one .any]), (106, [.one (.ro (.int .i64)), .one .any]), (107, [.box [(.ro (.int .u8)), .any, .any], .one (.ro (.int .i64))]), (112, [.box [(.ro (.int .u8)), .any, .any], .one .any]), (119, [.one (.ro (.int .i64)), .one .any]), (120, [.one (.ro (.int .i64)), .fn 147 [[(.own .bool)]]]), (147, [.one .any, .box [(.own .bool)]]), (149, [.box [(.ro (.int .u8)), .any, .any]]), (150, [.one (.ro (.int .i64)), .one .any]), (157, [.one (.ro (.int .i64)), .fn 147 [[(.own .bool)]]])]
theorem ttok : TTok Try.prog tt := .of_chk (by kernel_rfl)
theorem mixed : Try.prog.follows .mixedOrders = true := by kernel_rfl

/-! ### (*loop.example/g00269/spec.l1Cur).next -/
theorem cspec_l1Cur_next (n : Nat) : AllOk Try.prog [] := trivial
@[reducible] def Sspec_l1Cur_next : PkS := ⟨[.one (.box (200000, 0) 0)], [((200000, 0), .box [.ro (.int .u8), .int .i64, .int .u64])]⟩
@[reducible] def Tspec_l1Cur_next : PkS := ⟨[.one (.int .i64), .one (.box (300000, 0) 0)], [((300000, 0), .box [.ro (.int .u8), .int .i64, .int .u64])]⟩
def Hspec_l1Cur_next : List Sh := [.one .any, .box [(.ro (.int .u8)), .any, .any]]
def Kspec_l1Cur_next (g : ∀ {R : Type}, Nat → (List Int) → Int → Int → (Int → (List Int) → Int → Int → Option R) → Option R) (n : Nat) : KPs := fun R p k => match (PkS.un Sspec_l1Cur_next p : Option ((List Int) × Int × Int × Unit)) with
  | some (x0, x1, x2, _) => g n x0 x1 x2 (fun r0 r1 r2 r3 => k (PkS.pack Tspec_l1Cur_next (r0, r1, r2, r3, ())))
  | none => none
theorem espec_l1Cur_next  {R : Type} (n : Nat) (x0 : List Int) (x1 : Int) (x2 : Int) (k : Pk → Option R) : evF tt sig (mkK [] R) (mkL (mkK []) [] R) Try.f149 Hspec_l1Cur_next (PkS.pack Sspec_l1Cur_next (x0, x1, x2, ())) k = (fun (k : Int → (List Int) → Int → Int → Option R) => (bif (decide (x1 < (x0.length : Int))) then (bif decide (0 ≤ x1) then (bif decide (x1 < (x0.length : Int)) then (bif (decide ((IntKind.wrap .i64 (x1 + 1)) ≤ (x0.length : Int))) then k (IntKind.wrap .i64 ((x0.getD (Int.toNat x1) 0))) x0 (IntKind.wrap .i64 (x1 + 1)) (IntKind.wrap .u64 ((IntKind.wrap .u64 ((IntKind.wrap .u64 (x2 * 6364136223846793005)) + (IntKind.wrap .u64 ((IntKind.wrap .i64 ((x0.getD (Int.toNat x1) 0))))))) + 1442695040888963407)) else k (IntKind.wrap .i64 ((IntKind.wrap .u64 (Int.ofNat (BitVec.toNat (BitVec.ofInt (IntKind.bits .u64) (Int.fdiv (IntKind.wrap .u64 ((IntKind.wrap .u64 ((IntKind.wrap .u64 (x2 * 6364136223846793005)) + (IntKind.wrap .u64 ((IntKind.wrap .i64 ((x0.getD (Int.toNat x1) 0))))))) + 1442695040888963407)) (2 ^ (min (Int.toNat 40) (IntKind.bits .u64)))) &&& BitVec.ofInt (IntKind.bits .u64) 255)))))) x0 (IntKind.wrap .i64 (x1 + 1)) (IntKind.wrap .u64 ((IntKind.wrap .u64 ((IntKind.wrap .u64 (x2 * 6364136223846793005)) + (IntKind.wrap .u64 ((IntKind.wrap .i64 ((x0.getD (Int.toNat x1) 0))))))) + 1442695040888963407))) else none) else none) else (bif (decide ((IntKind.wrap .i64 (x1 + 1)) ≤ (x0.length : Int))) then k 0 x0 (IntKind.wrap .i64 (x1 + 1)) (IntKind.wrap .u64 ((IntKind.wrap .u64 ((IntKind.wrap .u64 (x2 * 6364136223846793005)) + 0)) + 1442695040888963407)) else k (IntKind.wrap .i64 ((IntKind.wrap .u64 (Int.ofNat (BitVec.toNat (BitVec.ofInt (IntKind.bits .u64) (Int.fdiv (IntKind.wrap .u64 ((IntKind.wrap .u64 ((IntKind.wrap .u64 (x2 * 6364136223846793005)) + 0)) + 1442695040888963407)) (2 ^ (min (Int.toNat 40) (IntKind.bits .u64)))) &&& BitVec.ofInt (IntKind.bits .u64) 255)))))) x0 (IntKind.wrap .i64 (x1 + 1)) (IntKind.wrap .u64 ((IntKind.wrap .u64 ((IntKind.wrap .u64 (x2 * 6364136223846793005)) + 0)) + 1442695040888963407))))) (fun r0 r1 r2 r3 => k (PkS.pack Tspec_l1Cur_next (r0, r1, r2, r3, ()))) := by kernel_rfl
theorem okspec_l1Cur_next (n : Nat) : FnOk Try.prog 149 (Kspec_l1Cur_next @spec_l1Cur_next n) := by
  refine fn_ok (sig := sig) mixed ttok (mkK_nat (cspec_l1Cur_next n)) (mkK_ok (cspec_l1Cur_next n)) (mkL_nat (mkK_nat (cspec_l1Cur_next n)) (l := []) trivial) (fn := Try.f149) (c := bodyOf Try.f149) (by kernel_rfl) (by kernel_rfl) (by kernel_rfl) (.eq (l := []) (by kernel_rfl) trivial) (shs := Hspec_l1Cur_next) (S := Sspec_l1Cur_next) (h1 := by kernel_rfl) fun R p k => ?_
  unfold Kspec_l1Cur_next
  cases h : (PkS.un Sspec_l1Cur_next p) with
  | none => rfl
  | some d =>
    obtain ⟨x0, x1, x2, u⟩ := (d : (List Int) × Int × Int × Unit)
    have hp := PkS.un_pack h
    subst hp
    exact (espec_l1Cur_next  n x0 x1 x2 k).symm

/-! ### (*loop.example/g00269/spec.l1Cur).pick -/
theorem cspec_l1Cur_pick (n : Nat) : AllOk Try.prog [(149, Kspec_l1Cur_next @spec_l1Cur_next n)] := ⟨okspec_l1Cur_next n, trivial⟩
@[reducible] def Sspec_l1Cur_pick : PkS := ⟨[.one (.box (200000, 0) 0), .one (.int .i64)], [((200000, 0), .box [.ro (.int .u8), .int .i64, .int .u64])]⟩
@[reducible] def Tspec_l1Cur_pick : PkS := ⟨[.one (.int .i64), .one (.box (300000, 0) 0), .one (.dead)], [((300000, 0), .box [.ro (.int .u8), .int .i64, .int .u64])]⟩
def Hspec_l1Cur_pick : List Sh := [.one .any, .box [(.ro (.int .u8)), .any, .any], .skip]
def Kspec_l1Cur_pick (g : ∀ {R : Type}, Nat → Int → (List Int) → Int → Int → (Int → (List Int) → Int → Int → Option R) → Option R) (n : Nat) : KPs := fun R p k => match (PkS.un Sspec_l1Cur_pick p : Option (Int × (List Int) × Int × Int × Unit)) with
  | some (x0, x1, x2, x3, _) => g n x0 x1 x2 x3 (fun r0 r1 r2 r3 => k (PkS.pack Tspec_l1Cur_pick (r0, r1, r2, r3, ())))
  | none => none
theorem espec_l1Cur_pick (spec_l1Cur_next : ∀ {R : Type}, Nat → (List Int) → Int → Int → (Int → (List Int) → Int → Int → Option R) → Option R) {R : Type} (n : Nat) (x0 : Int) (x1 : List Int) (x2 : Int) (x3 : Int) (k : Pk → Option R) : evF tt sig (mkK [(149, Kspec_l1Cur_next @spec_l1Cur_next n)] R) (mkL (mkK [(149, Kspec_l1Cur_next @spec_l1Cur_next n)]) [] R) Try.f99 Hspec_l1Cur_pick (PkS.pack Sspec_l1Cur_pick (x0, x1, x2, x3, ())) k = (fun (k : Int → (List Int) → Int → Int → Option R) => (bif (decide (x0 ≤ 1)) then k 0 x1 x2 x3 else (spec_l1Cur_next n x1 x2 x3 fun r1 r2 r3 r4 => (bif (decide (x0 > 200)) then (spec_l1Cur_next n r2 r3 r4 fun r5 r6 r7 r8 => (bif decide (x0 ≠ 0) then k (Int.tmod (IntKind.wrap .i64 ((IntKind.wrap .i64 (r1 * 256)) + r5)) x0) r6 r7 r8 else none)) else (bif decide (x0 ≠ 0) then k (Int.tmod r1 x0) r2 r3 r4 else none))))) (fun r0 r1 r2 r3 => k (PkS.pack Tspec_l1Cur_pick (r0, r1, r2, r3, ()))) := by kernel_rfl
theorem okspec_l1Cur_pick (n : Nat) : FnOk Try.prog 99 (Kspec_l1Cur_pick @spec_l1Cur_pick n) := by
  refine fn_ok (sig := sig) mixed ttok (mkK_nat (cspec_l1Cur_pick n)) (mkK_ok (cspec_l1Cur_pick n)) (mkL_nat (mkK_nat (cspec_l1Cur_pick n)) (l := []) trivial) (fn := Try.f99) (c := bodyOf Try.f99) (by kernel_rfl) (by kernel_rfl) (by kernel_rfl) (.eq (l := []) (by kernel_rfl) trivial) (shs := Hspec_l1Cur_pick) (S := Sspec_l1Cur_pick) (h1 := by kernel_rfl) fun R p k => ?_
  unfold Kspec_l1Cur_pick
  cases h : (PkS.un Sspec_l1Cur_pick p) with
  | none => rfl
  | some d =>
    obtain ⟨x0, x1, x2, x3, u⟩ := (d : Int × (List Int) × Int × Int × Unit)
    have hp := PkS.un_pack h
    subst hp
    exact (espec_l1Cur_pick @spec_l1Cur_next n x0 x1 x2 x3 k).symm

/-! ### (*loop.example/g00269/spec.l1Cur).one -/
theorem cspec_l1Cur_one (n : Nat) : AllOk Try.prog [(99, Kspec_l1Cur_pick @spec_l1Cur_pick n)] := ⟨okspec_l1Cur_pick n, trivial⟩
@[reducible] def Sspec_l1Cur_one : PkS := ⟨[.one (.box (200000, 0) 0), .one (.int .i64)], [((200000, 0), .box [.ro (.int .u8), .int .i64, .int .u64])]⟩
@[reducible] def Tspec_l1Cur_one : PkS := ⟨[.one (.bool), .one (.box (300000, 0) 0), .one (.dead)], [((300000, 0), .box [.ro (.int .u8), .int .i64, .int .u64])]⟩
def Hspec_l1Cur_one : List Sh := [.one .any, .box [(.ro (.int .u8)), .any, .any], .skip]
def Kspec_l1Cur_one (g : ∀ {R : Type}, Nat → Int → (List Int) → Int → Int → (Bool → (List Int) → Int → Int → Option R) → Option R) (n : Nat) : KPs := fun R p k => match (PkS.un Sspec_l1Cur_one p : Option (Int × (List Int) × Int × Int × Unit)) with
  | some (x0, x1, x2, x3, _) => g n x0 x1 x2 x3 (fun r0 r1 r2 r3 => k (PkS.pack Tspec_l1Cur_one (r0, r1, r2, r3, ())))
  | none => none
theorem espec_l1Cur_one (spec_l1Cur_pick : ∀ {R : Type}, Nat → Int → (List Int) → Int → Int → (Int → (List Int) → Int → Int → Option R) → Option R) {R : Type} (n : Nat) (x0 : Int) (x1 : List Int) (x2 : Int) (x3 : Int) (k : Pk → Option R) : evF tt sig (mkK [(99, Kspec_l1Cur_pick @spec_l1Cur_pick n)] R) (mkL (mkK [(99, Kspec_l1Cur_pick @spec_l1Cur_pick n)]) [] R) Try.f112 Hspec_l1Cur_one (PkS.pack Sspec_l1Cur_one (x0, x1, x2, x3, ())) k = (fun (k : Bool → (List Int) → Int → Int → Option R) => (spec_l1Cur_pick n x0 x1 x2 x3 fun r1 r2 r3 r4 => k (r1 == 0) r2 r3 r4)) (fun r0 r1 r2 r3 => k (PkS.pack Tspec_l1Cur_one (r0, r1, r2, r3, ()))) := by kernel_rfl
theorem okspec_l1Cur_one (n : Nat) : FnOk Try.prog 112 (Kspec_l1Cur_one @spec_l1Cur_one n) := by
  refine fn_ok (sig := sig) mixed ttok (mkK_nat (cspec_l1Cur_one n)) (mkK_ok (cspec_l1Cur_one n)) (mkL_nat (mkK_nat (cspec_l1Cur_one n)) (l := []) trivial) (fn := Try.f112) (c := bodyOf Try.f112) (by kernel_rfl) (by kernel_rfl) (by kernel_rfl) (.eq (l := []) (by kernel_rfl) trivial) (shs := Hspec_l1Cur_one) (S := Sspec_l1Cur_one) (h1 := by kernel_rfl) fun R p k => ?_
  unfold Kspec_l1Cur_one
  cases h : (PkS.un Sspec_l1Cur_one p) with
  | none => rfl
  | some d =>
    obtain ⟨x0, x1, x2, x3, u⟩ := (d : Int × (List Int) × Int × Int × Unit)
    have hp := PkS.un_pack h
    subst hp
    exact (espec_l1Cur_one @spec_l1Cur_pick n x0 x1 x2 x3 k).symm

/-! ### (*loop.example/g00269/spec.l1Cur).among -/
theorem cspec_l1Cur_among (n : Nat) : AllOk Try.prog [(99, Kspec_l1Cur_pick @spec_l1Cur_pick n)] := ⟨okspec_l1Cur_pick n, trivial⟩
@[reducible] def Sspec_l1Cur_among : PkS := ⟨[.one (.box (200000, 0) 0), .one (.ro (.int .i64))], [((200000, 0), .box [.ro (.int .u8), .int .i64, .int .u64])]⟩
@[reducible] def Tspec_l1Cur_among : PkS := ⟨[.one (.int .i64), .one (.box (300000, 0) 0), .one (.dead)], [((300000, 0), .box [.ro (.int .u8), .int .i64, .int .u64])]⟩
def Hspec_l1Cur_among : List Sh := [.one .any, .box [(.ro (.int .u8)), .any, .any], .skip]
def Kspec_l1Cur_among (g : ∀ {R : Type}, Nat → (List Int) → (List Int) → Int → Int → (Int → (List Int) → Int → Int → Option R) → Option R) (n : Nat) : KPs := fun R p k => match (PkS.un Sspec_l1Cur_among p : Option ((List Int) × (List Int) × Int × Int × Unit)) with
  | some (x0, x1, x2, x3, _) => g n x0 x1 x2 x3 (fun r0 r1 r2 r3 => k (PkS.pack Tspec_l1Cur_among (r0, r1, r2, r3, ())))
  | none => none
theorem espec_l1Cur_among (spec_l1Cur_pick : ∀ {R : Type}, Nat → Int → (List Int) → Int → Int → (Int → (List Int) → Int → Int → Option R) → Option R) {R : Type} (n : Nat) (x0 : List Int) (x1 : List Int) (x2 : Int) (x3 : Int) (k : Pk → Option R) : evF tt sig (mkK [(99, Kspec_l1Cur_pick @spec_l1Cur_pick n)] R) (mkL (mkK [(99, Kspec_l1Cur_pick @spec_l1Cur_pick n)]) [] R) Try.f107 Hspec_l1Cur_among (PkS.pack Sspec_l1Cur_among (x0, x1, x2, x3, ())) k = (fun (k : Int → (List Int) → Int → Int → Option R) => (spec_l1Cur_pick n (x0.length : Int) x1 x2 x3 fun r1 r2 r3 r4 => (bif decide (0 ≤ r1) then (bif decide (r1 < (x0.length : Int)) then k (x0.getD (Int.toNat r1) 0) r2 r3 r4 else none) else none))) (fun r0 r1 r2 r3 => k (PkS.pack Tspec_l1Cur_among (r0, r1, r2, r3, ()))) := by kernel_rfl
theorem okspec_l1Cur_among (n : Nat) : FnOk Try.prog 107 (Kspec_l1Cur_among @spec_l1Cur_among n) := by
  refine fn_ok (sig := sig) mixed ttok (mkK_nat (cspec_l1Cur_among n)) (mkK_ok (cspec_l1Cur_among n)) (mkL_nat (mkK_nat (cspec_l1Cur_among n)) (l := []) trivial) (fn := Try.f107) (c := bodyOf Try.f107) (by kernel_rfl) (by kernel_rfl) (by kernel_rfl) (.eq (l := []) (by kernel_rfl) trivial) (shs := Hspec_l1Cur_among) (S := Sspec_l1Cur_among) (h1 := by kernel_rfl) fun R p k => ?_
  unfold Kspec_l1Cur_among
  cases h : (PkS.un Sspec_l1Cur_among p) with
  | none => rfl
  | some d =>
    obtain ⟨x0, x1, x2, x3, u⟩ := (d : (List Int) × (List Int) × Int × Int × Unit)
    have hp := PkS.un_pack h
    subst hp
    exact (espec_l1Cur_among @spec_l1Cur_pick n x0 x1 x2 x3 k).symm

/-! ### (*loop.example/g00269/spec.l1Cur).plan -/
theorem cspec_l1Cur_plan (n : Nat) : AllOk Try.prog [(99, Kspec_l1Cur_pick @spec_l1Cur_pick n), (112, Kspec_l1Cur_one @spec_l1Cur_one n), (107, Kspec_l1Cur_among @spec_l1Cur_among n)] := ⟨okspec_l1Cur_pick n, ⟨okspec_l1Cur_one n, ⟨okspec_l1Cur_among n, trivial⟩⟩⟩
@[reducible] def Sspec_l1Cur_plan_l10 : PkS := ⟨[.one (.box (100000, 0) 0), .one (.whole (100000, 1)), .one (.int .i64), .one (.int .i64), .one (.box (100000, 3) 0), .one (.int .i64), .one (.box (100000, 0) 0)], [((100000, 0), .box [.ro (.int .u8), .int .i64, .int .u64]), ((100000, 1), .arr (.pr (.int .i64) (.sl (.int .i64)))), ((100000, 2), .arr (.int .i64)), ((100000, 3), .box [.int .i64, .whole (100000, 2)])]⟩
@[reducible] def Tspec_l1Cur_plan_l10_0 : PkS := ⟨[.one (.box (100000, 0) 0), .one (.whole (100000, 1)), .one (.int .i64), .one (.int .i64), .one (.box (100000, 3) 0), .one (.box (100000, 0) 0)], [((100000, 0), .box [.ro (.int .u8), .int .i64, .int .u64]), ((100000, 1), .arr (.pr (.int .i64) (.sl (.int .i64)))), ((100000, 2), .arr (.int .i64)), ((100000, 3), .box [.int .i64, .whole (100000, 2)])]⟩
def Dspec_l1Cur_plan_l10 : LoopD := ⟨75, [0, 3, 4, 5, 6, 7], [.box [(.ro (.int .u8)), .any, .any], .one (.own (.pr (.int .i64) (.sl (.int .i64)))), .one .any, .one .any, .box [.any, (.own (.int .i64))], .one .any, .box [(.ro (.int .u8)), .any, .any]], fun x => match x with
  | .exit 2 => some ([0, 3, 4, 5, 6], [.box [(.ro (.int .u8)), .any, .any], .one (.own (.pr (.int .i64) (.sl (.int .i64)))), .one .any, .one .any, .box [.any, (.own (.int .i64))], .box [(.ro (.int .u8)), .any, .any]])
  | _ => none⟩
def Pspec_l1Cur_plan_l10 (g : ∀ {R : Type}, Nat → Int → Int → Int → (List Int) → Int → Int → (List (Int × List Int)) → (List Int) → Int → (Int → Int → (List Int) → Int → Int → (List (Int × List Int)) → (List Int) → Int → Option R) → Option R) (n : Nat) : LPs := fun R q kk => match (PkS.un Sspec_l1Cur_plan_l10 q : Option (Int × Int × Int × (List Int) × Int × Int × (List (Int × List Int)) × (List Int) × Int × Unit)) with
  | some (y10_0, y10_1, y10_2, y10_3, y10_4, y10_5, y10_6, y10_7, y10_8, _) => g n y10_0 y10_1 y10_2 y10_3 y10_4 y10_5 y10_6 y10_7 y10_8 (fun r0 r1 r2 r3 r4 r5 r6 r7 => kk (.exit 2) (PkS.pack Tspec_l1Cur_plan_l10_0 (r0, r1, r2, r3, r4, r5, r6, r7, ())))
  | none => none
theorem espec_l1Cur_plan_l10 (spec_l1Cur_pick : ∀ {R : Type}, Nat → Int → (List Int) → Int → Int → (Int → (List Int) → Int → Int → Option R) → Option R) (spec_l1Cur_one : ∀ {R : Type}, Nat → Int → (List Int) → Int → Int → (Bool → (List Int) → Int → Int → Option R) → Option R) (spec_l1Cur_among : ∀ {R : Type}, Nat → (List Int) → (List Int) → Int → Int → (Int → (List Int) → Int → Int → Option R) → Option R) (spec_l1Cur_plan_l10 : ∀ {R : Type}, Nat → Int → Int → Int → (List Int) → Int → Int → (List (Int × List Int)) → (List Int) → Int → (Int → Int → (List Int) → Int → Int → (List (Int × List Int)) → (List Int) → Int → Option R) → Option R) {R : Type} (n : Nat) (y10_0 : Int) (y10_1 : Int) (y10_2 : Int) (y10_3 : List Int) (y10_4 : Int) (y10_5 : Int) (y10_6 : List (Int × List Int)) (y10_7 : List Int) (y10_8 : Int) (kk : Ex → Pk → Option R) : Dspec_l1Cur_plan_l10.step tt sig (mkK [(99, Kspec_l1Cur_pick @spec_l1Cur_pick n), (112, Kspec_l1Cur_one @spec_l1Cur_one n), (107, Kspec_l1Cur_among @spec_l1Cur_among n)] R) (mkL (mkK [(99, Kspec_l1Cur_pick @spec_l1Cur_pick n), (112, Kspec_l1Cur_one @spec_l1Cur_one n), (107, Kspec_l1Cur_among @spec_l1Cur_among n)]) [] R) (loopIn 10 (bodyOf Try.f98)) (fun q' => Pspec_l1Cur_plan_l10 @spec_l1Cur_plan_l10 n R q' kk) (PkS.pack Sspec_l1Cur_plan_l10 (y10_0, y10_1, y10_2, y10_3, y10_4, y10_5, y10_6, y10_7, y10_8, ())) kk = (fun (kexit2 : Int → Int → (List Int) → Int → Int → (List (Int × List Int)) → (List Int) → Int → Option R) => (bif (decide (y10_2 < y10_1)) then (spec_l1Cur_one n 3 y10_3 y10_4 y10_5 fun r17 r18 r19 r20 => (bif r17 then (bif (decide ((y10_7.length : Int) < 4)) then (bif decide (y10_7.length + [y10_2].length ≤ LIM) then spec_l1Cur_plan_l10 n y10_0 y10_1 (IntKind.wrap .i64 (y10_2 + 1)) r18 r19 r20 y10_6 (y10_7 ++ [y10_2]) y10_8 kexit2 else none) else spec_l1Cur_plan_l10 n y10_0 y10_1 (IntKind.wrap .i64 (y10_2 + 1)) r18 r19 r20 y10_6 y10_7 y10_8 kexit2) else spec_l1Cur_plan_l10 n y10_0 y10_1 (IntKind.wrap .i64 (y10_2 + 1)) r18 r19 r20 y10_6 y10_7 y10_8 kexit2)) else kexit2 y10_0 y10_1 y10_3 y10_4 y10_5 y10_6 y10_7 y10_8)) (fun r0 r1 r2 r3 r4 r5 r6 r7 => kk (.exit 2) (PkS.pack Tspec_l1Cur_plan_l10_0 (r0, r1, r2, r3, r4, r5, r6, r7, ()))) := by kernel_rfl
theorem lespec_l1Cur_plan_l10 : LoopEq tt sig (fun n => mkK [(99, Kspec_l1Cur_pick @spec_l1Cur_pick n), (112, Kspec_l1Cur_one @spec_l1Cur_one n), (107, Kspec_l1Cur_among @spec_l1Cur_among n)]) (fun n => mkL (mkK [(99, Kspec_l1Cur_pick @spec_l1Cur_pick n), (112, Kspec_l1Cur_one @spec_l1Cur_one n), (107, Kspec_l1Cur_among @spec_l1Cur_among n)]) []) Dspec_l1Cur_plan_l10 Sspec_l1Cur_plan_l10 (loopIn 10 (bodyOf Try.f98)) (Pspec_l1Cur_plan_l10 @spec_l1Cur_plan_l10) where
  zero R q kk := by unfold Pspec_l1Cur_plan_l10; cases (PkS.un Sspec_l1Cur_plan_l10 q) <;> rfl
  succ n R q kk := by
    unfold Pspec_l1Cur_plan_l10
    cases h : (PkS.un Sspec_l1Cur_plan_l10 q) with
    | none => rfl
    | some d =>
      obtain ⟨y10_0, y10_1, y10_2, y10_3, y10_4, y10_5, y10_6, y10_7, y10_8, u⟩ := (d : Int × Int × Int × (List Int) × Int × Int × (List (Int × List Int)) × (List Int) × Int × Unit)
      have hp := PkS.un_pack h
      subst hp
      exact (espec_l1Cur_plan_l10 @spec_l1Cur_pick @spec_l1Cur_one @spec_l1Cur_among @spec_l1Cur_plan_l10 n y10_0 y10_1 y10_2 y10_3 y10_4 y10_5 y10_6 y10_7 y10_8 kk).symm
theorem nlspec_l1Cur_plan_l10 : ∀ n, NatLP (Pspec_l1Cur_plan_l10 @spec_l1Cur_plan_l10 n) := lespec_l1Cur_plan_l10.nat (fun n => mkK_nat (cspec_l1Cur_plan n)) fun n => mkL_nat (mkK_nat (cspec_l1Cur_plan n)) (l := []) trivial
theorem inspec_l1Cur_plan_l10 (n : Nat) (R : Type) : LoopsOk Try.prog (mkL (mkK [(99, Kspec_l1Cur_pick @spec_l1Cur_pick n), (112, Kspec_l1Cur_one @spec_l1Cur_one n), (107, Kspec_l1Cur_among @spec_l1Cur_among n)]) [] R) (loopIn 10 (bodyOf Try.f98)) := .eq (l := []) (by kernel_rfl) trivial
theorem lkspec_l1Cur_plan_l10 (n : Nat) (R : Type) (L0 : LK R) (h0 : ∀ id, firstRegion (loopIn 10 (bodyOf Try.f98)) = some id → L0 id = Dspec_l1Cur_plan_l10.oracle (mkK [(99, Kspec_l1Cur_pick @spec_l1Cur_pick n), (112, Kspec_l1Cur_one @spec_l1Cur_one n), (107, Kspec_l1Cur_among @spec_l1Cur_among n)] R) (Pspec_l1Cur_plan_l10 @spec_l1Cur_plan_l10 n R)) : LoopOk Try.prog L0 (loopIn 10 (bodyOf Try.f98)) :=
  lespec_l1Cur_plan_l10.ok mixed ttok (fun n => mkK_nat (cspec_l1Cur_plan n)) (fun n => mkK_ok (cspec_l1Cur_plan n)) (fun n => inspec_l1Cur_plan_l10 n R) (mkK_nat (cspec_l1Cur_plan n)) h0
@[reducible] def Sspec_l1Cur_plan_l6 : PkS := ⟨[.one (.box (100000, 0) 0), .one (.whole (100000, 1)), .one (.int .i64), .one (.int .i64), .one (.box (100000, 0) 0)], [((100000, 0), .box [.ro (.int .u8), .int .i64, .int .u64]), ((100000, 1), .arr (.pr (.int .i64) (.sl (.int .i64))))]⟩
@[reducible] def Tspec_l1Cur_plan_l6_0 : PkS := ⟨[.one (.box (100000, 0) 0), .one (.whole (100000, 1)), .one (.box (100000, 0) 0)], [((100000, 0), .box [.ro (.int .u8), .int .i64, .int .u64]), ((100000, 1), .arr (.pr (.int .i64) (.sl (.int .i64))))]⟩
def Dspec_l1Cur_plan_l6 : LoopD := ⟨75, [0, 3, 4, 5], [.box [(.ro (.int .u8)), .any, .any], .one (.own (.pr (.int .i64) (.sl (.int .i64)))), .one .any, .one .any, .box [(.ro (.int .u8)), .any, .any]], fun x => match x with
  | .exit 0 => some ([0, 3], [.box [(.ro (.int .u8)), .any, .any], .one (.own (.pr (.int .i64) (.sl (.int .i64)))), .box [(.ro (.int .u8)), .any, .any]])
  | _ => none⟩
def Pspec_l1Cur_plan_l6 (g : ∀ {R : Type}, Nat → Int → Int → (List Int) → Int → Int → (List (Int × List Int)) → ((List Int) → Int → Int → (List (Int × List Int)) → Option R) → Option R) (n : Nat) : LPs := fun R q kk => match (PkS.un Sspec_l1Cur_plan_l6 q : Option (Int × Int × (List Int) × Int × Int × (List (Int × List Int)) × Unit)) with
  | some (y6_0, y6_1, y6_2, y6_3, y6_4, y6_5, _) => g n y6_0 y6_1 y6_2 y6_3 y6_4 y6_5 (fun r0 r1 r2 r3 => kk (.exit 0) (PkS.pack Tspec_l1Cur_plan_l6_0 (r0, r1, r2, r3, ())))
  | none => none
theorem espec_l1Cur_plan_l6 (spec_l1Cur_pick : ∀ {R : Type}, Nat → Int → (List Int) → Int → Int → (Int → (List Int) → Int → Int → Option R) → Option R) (spec_l1Cur_one : ∀ {R : Type}, Nat → Int → (List Int) → Int → Int → (Bool → (List Int) → Int → Int → Option R) → Option R) (spec_l1Cur_among : ∀ {R : Type}, Nat → (List Int) → (List Int) → Int → Int → (Int → (List Int) → Int → Int → Option R) → Option R) (spec_l1Cur_plan_l10 : ∀ {R : Type}, Nat → Int → Int → Int → (List Int) → Int → Int → (List (Int × List Int)) → (List Int) → Int → (Int → Int → (List Int) → Int → Int → (List (Int × List Int)) → (List Int) → Int → Option R) → Option R) (spec_l1Cur_plan_l6 : ∀ {R : Type}, Nat → Int → Int → (List Int) → Int → Int → (List (Int × List Int)) → ((List Int) → Int → Int → (List (Int × List Int)) → Option R) → Option R) {R : Type} (n : Nat) (y6_0 : Int) (y6_1 : Int) (y6_2 : List Int) (y6_3 : Int) (y6_4 : Int) (y6_5 : List (Int × List Int)) (kk : Ex → Pk → Option R) : Dspec_l1Cur_plan_l6.step tt sig (mkK [(99, Kspec_l1Cur_pick @spec_l1Cur_pick n), (112, Kspec_l1Cur_one @spec_l1Cur_one n), (107, Kspec_l1Cur_among @spec_l1Cur_among n)] R) (mkL (mkK [(99, Kspec_l1Cur_pick @spec_l1Cur_pick n), (112, Kspec_l1Cur_one @spec_l1Cur_one n), (107, Kspec_l1Cur_among @spec_l1Cur_among n)]) [(10, Dspec_l1Cur_plan_l10, Pspec_l1Cur_plan_l10 @spec_l1Cur_plan_l10 n)] R) (loopIn 6 (bodyOf Try.f98)) (fun q' => Pspec_l1Cur_plan_l6 @spec_l1Cur_plan_l6 n R q' kk) (PkS.pack Sspec_l1Cur_plan_l6 (y6_0, y6_1, y6_2, y6_3, y6_4, y6_5, ())) kk = (fun (kexit0 : (List Int) → Int → Int → (List (Int × List Int)) → Option R) => (bif (decide (y6_1 < y6_0)) then (spec_l1Cur_pick n 9 y6_2 y6_3 y6_4 fun r13 r14 r15 r16 => (spec_l1Cur_plan_l10 n y6_0 y6_1 0 r14 r15 r16 y6_5 ([] : List Int) (IntKind.wrap .i64 (1 + r13)) (fun r21 r22 r23 r24 r25 r26 r27 r28 => (bif decide (r26.length + ([(r28, r27)]).length ≤ LIM) then spec_l1Cur_plan_l6 n r21 (IntKind.wrap .i64 (r22 + 1)) r23 r24 r25 (r26 ++ [(r28, r27)]) kexit0 else none)))) else kexit0 y6_2 y6_3 y6_4 y6_5)) (fun r0 r1 r2 r3 => kk (.exit 0) (PkS.pack Tspec_l1Cur_plan_l6_0 (r0, r1, r2, r3, ()))) := by kernel_rfl
theorem lespec_l1Cur_plan_l6 : LoopEq tt sig (fun n => mkK [(99, Kspec_l1Cur_pick @spec_l1Cur_pick n), (112, Kspec_l1Cur_one @spec_l1Cur_one n), (107, Kspec_l1Cur_among @spec_l1Cur_among n)]) (fun n => mkL (mkK [(99, Kspec_l1Cur_pick @spec_l1Cur_pick n), (112, Kspec_l1Cur_one @spec_l1Cur_one n), (107, Kspec_l1Cur_among @spec_l1Cur_among n)]) [(10, Dspec_l1Cur_plan_l10, Pspec_l1Cur_plan_l10 @spec_l1Cur_plan_l10 n)]) Dspec_l1Cur_plan_l6 Sspec_l1Cur_plan_l6 (loopIn 6 (bodyOf Try.f98)) (Pspec_l1Cur_plan_l6 @spec_l1Cur_plan_l6) where
  zero R q kk := by unfold Pspec_l1Cur_plan_l6; cases (PkS.un Sspec_l1Cur_plan_l6 q) <;> rfl
  succ n R q kk := by
    unfold Pspec_l1Cur_plan_l6
    cases h : (PkS.un Sspec_l1Cur_plan_l6 q) with
    | none => rfl
    | some d =>
      obtain ⟨y6_0, y6_1, y6_2, y6_3, y6_4, y6_5, u⟩ := (d : Int × Int × (List Int) × Int × Int × (List (Int × List Int)) × Unit)
      have hp := PkS.un_pack h
      subst hp
      exact (espec_l1Cur_plan_l6 @spec_l1Cur_pick @spec_l1Cur_one @spec_l1Cur_among @spec_l1Cur_plan_l10 @spec_l1Cur_plan_l6 n y6_0 y6_1 y6_2 y6_3 y6_4 y6_5 kk).symm
theorem nlspec_l1Cur_plan_l6 : ∀ n, NatLP (Pspec_l1Cur_plan_l6 @spec_l1Cur_plan_l6 n) := lespec_l1Cur_plan_l6.nat (fun n => mkK_nat (cspec_l1Cur_plan n)) fun n => mkL_nat (mkK_nat (cspec_l1Cur_plan n)) (l := [(10, Dspec_l1Cur_plan_l10, Pspec_l1Cur_plan_l10 @spec_l1Cur_plan_l10 n)]) ⟨nlspec_l1Cur_plan_l10 n, trivial⟩
theorem inspec_l1Cur_plan_l6 (n : Nat) (R : Type) : LoopsOk Try.prog (mkL (mkK [(99, Kspec_l1Cur_pick @spec_l1Cur_pick n), (112, Kspec_l1Cur_one @spec_l1Cur_one n), (107, Kspec_l1Cur_among @spec_l1Cur_among n)]) [(10, Dspec_l1Cur_plan_l10, Pspec_l1Cur_plan_l10 @spec_l1Cur_plan_l10 n)] R) (loopIn 6 (bodyOf Try.f98)) := .eq (l := [.lo (loopIn 10 (bodyOf Try.f98))]) (by kernel_rfl) ⟨(lkspec_l1Cur_plan_l10 n R _ (at_id (i := 10) (by kernel_rfl) rfl)), trivial⟩
theorem lkspec_l1Cur_plan_l6 (n : Nat) (R : Type) (L0 : LK R) (h0 : ∀ id, firstRegion (loopIn 6 (bodyOf Try.f98)) = some id → L0 id = Dspec_l1Cur_plan_l6.oracle (mkK [(99, Kspec_l1Cur_pick @spec_l1Cur_pick n), (112, Kspec_l1Cur_one @spec_l1Cur_one n), (107, Kspec_l1Cur_among @spec_l1Cur_among n)] R) (Pspec_l1Cur_plan_l6 @spec_l1Cur_plan_l6 n R)) : LoopOk Try.prog L0 (loopIn 6 (bodyOf Try.f98)) :=
  lespec_l1Cur_plan_l6.ok mixed ttok (fun n => mkK_nat (cspec_l1Cur_plan n)) (fun n => mkK_ok (cspec_l1Cur_plan n)) (fun n => inspec_l1Cur_plan_l6 n R) (mkK_nat (cspec_l1Cur_plan n)) h0
@[reducible] def Sspec_l1Cur_plan : PkS := ⟨[.one (.box (200000, 0) 0)], [((200000, 0), .box [.ro (.int .u8), .int .i64, .int .u64])]⟩
@[reducible] def Tspec_l1Cur_plan : PkS := ⟨[.one (.whole (300000, 0)), .one (.box (300000, 1) 0)], [((300000, 0), .arr (.pr (.int .i64) (.sl (.int .i64)))), ((300000, 1), .box [.ro (.int .u8), .int .i64, .int .u64])]⟩
def Hspec_l1Cur_plan : List Sh := [.one (.own (.pr (.int .i64) (.sl (.int .i64)))), .box [(.ro (.int .u8)), .any, .any]]
def Kspec_l1Cur_plan (g : ∀ {R : Type}, Nat → (List Int) → Int → Int → ((List (Int × List Int)) → (List Int) → Int → Int → Option R) → Option R) (n : Nat) : KPs := fun R p k => match (PkS.un Sspec_l1Cur_plan p : Option ((List Int) × Int × Int × Unit)) with
  | some (x0, x1, x2, _) => g n x0 x1 x2 (fun r0 r1 r2 r3 => k (PkS.pack Tspec_l1Cur_plan (r0, r1, r2, r3, ())))
  | none => none
theorem espec_l1Cur_plan (spec_l1Cur_pick : ∀ {R : Type}, Nat → Int → (List Int) → Int → Int → (Int → (List Int) → Int → Int → Option R) → Option R) (spec_l1Cur_one : ∀ {R : Type}, Nat → Int → (List Int) → Int → Int → (Bool → (List Int) → Int → Int → Option R) → Option R) (spec_l1Cur_among : ∀ {R : Type}, Nat → (List Int) → (List Int) → Int → Int → (Int → (List Int) → Int → Int → Option R) → Option R) (spec_l1Cur_plan_l10 : ∀ {R : Type}, Nat → Int → Int → Int → (List Int) → Int → Int → (List (Int × List Int)) → (List Int) → Int → (Int → Int → (List Int) → Int → Int → (List (Int × List Int)) → (List Int) → Int → Option R) → Option R) (spec_l1Cur_plan_l6 : ∀ {R : Type}, Nat → Int → Int → (List Int) → Int → Int → (List (Int × List Int)) → ((List Int) → Int → Int → (List (Int × List Int)) → Option R) → Option R) {R : Type} (n : Nat) (x0 : List Int) (x1 : Int) (x2 : Int) (k : Pk → Option R) : evF tt sig (mkK [(99, Kspec_l1Cur_pick @spec_l1Cur_pick n), (112, Kspec_l1Cur_one @spec_l1Cur_one n), (107, Kspec_l1Cur_among @spec_l1Cur_among n)] R) (mkL (mkK [(99, Kspec_l1Cur_pick @spec_l1Cur_pick n), (112, Kspec_l1Cur_one @spec_l1Cur_one n), (107, Kspec_l1Cur_among @spec_l1Cur_among n)]) [(10, Dspec_l1Cur_plan_l10, Pspec_l1Cur_plan_l10 @spec_l1Cur_plan_l10 n), (6, Dspec_l1Cur_plan_l6, Pspec_l1Cur_plan_l6 @spec_l1Cur_plan_l6 n)] R) Try.f98 Hspec_l1Cur_plan (PkS.pack Sspec_l1Cur_plan (x0, x1, x2, ())) k = (fun (k : (List (Int × List Int)) → (List Int) → Int → Int → Option R) => (spec_l1Cur_pick n 9 x0 x1 x2 fun r1 r2 r3 r4 => (spec_l1Cur_one n 20 r2 r3 r4 fun r5 r6 r7 r8 => (bif r5 then (spec_l1Cur_pick n 2 r6 r7 r8 fun r9 r10 r11 r12 => (spec_l1Cur_plan_l6 n (IntKind.wrap .i64 (30 + r9)) 0 r10 r11 r12 ([] : List (Int × List Int)) (fun r29 r30 r31 r32 => (bif (decide ((r32.length : Int) > 1)) then (spec_l1Cur_one n 12 r29 r30 r31 fun r33 r34 r35 r36 => (bif r33 then (bif decide (0 < (r32.length : Int)) then (bif (decide (((r32.set 0 ((r32.getD 0 (0, [])).1, [(IntKind.wrap .i64 ((r32.length : Int) - 1))])).length : Int) > 0)) then (spec_l1Cur_one n 40 r34 r35 r36 fun r37 r38 r39 r40 => (bif r37 then (spec_l1Cur_among n ([0, 100, 101]) r38 r39 r40 fun r41 r42 r43 r44 => (bif decide (0 < ((r32.set 0 ((r32.getD 0 (0, [])).1, [(IntKind.wrap .i64 ((r32.length : Int) - 1))])).length : Int)) then k ((r32.set 0 ((r32.getD 0 (0, [])).1, [(IntKind.wrap .i64 ((r32.length : Int) - 1))])).set 0 (r41, ((r32.set 0 ((r32.getD 0 (0, [])).1, [(IntKind.wrap .i64 ((r32.length : Int) - 1))])).getD 0 (0, [])).2)) r42 r43 r44 else none)) else k (r32.set 0 ((r32.getD 0 (0, [])).1, [(IntKind.wrap .i64 ((r32.length : Int) - 1))])) r38 r39 r40)) else k (r32.set 0 ((r32.getD 0 (0, [])).1, [(IntKind.wrap .i64 ((r32.length : Int) - 1))])) r34 r35 r36) else none) else (bif (decide ((r32.length : Int) > 0)) then (spec_l1Cur_one n 40 r34 r35 r36 fun r45 r46 r47 r48 => (bif r45 then (spec_l1Cur_among n ([0, 100, 101]) r46 r47 r48 fun r49 r50 r51 r52 => (bif decide (0 < (r32.length : Int)) then k (r32.set 0 (r49, (r32.getD 0 (0, [])).2)) r50 r51 r52 else none)) else k r32 r46 r47 r48)) else k r32 r34 r35 r36))) else (bif (decide ((r32.length : Int) > 0)) then (spec_l1Cur_one n 40 r29 r30 r31 fun r53 r54 r55 r56 => (bif r53 then (spec_l1Cur_among n ([0, 100, 101]) r54 r55 r56 fun r57 r58 r59 r60 => (bif decide (0 < (r32.length : Int)) then k (r32.set 0 (r57, (r32.getD 0 (0, [])).2)) r58 r59 r60 else none)) else k r32 r54 r55 r56)) else k r32 r29 r30 r31))))) else (spec_l1Cur_plan_l6 n r1 0 r6 r7 r8 ([] : List (Int × List Int)) (fun r61 r62 r63 r64 => (bif (decide ((r64.length : Int) > 1)) then (spec_l1Cur_one n 12 r61 r62 r63 fun r65 r66 r67 r68 => (bif r65 then (bif decide (0 < (r64.length : Int)) then (bif (decide (((r64.set 0 ((r64.getD 0 (0, [])).1, [(IntKind.wrap .i64 ((r64.length : Int) - 1))])).length : Int) > 0)) then (spec_l1Cur_one n 40 r66 r67 r68 fun r69 r70 r71 r72 => (bif r69 then (spec_l1Cur_among n ([0, 100, 101]) r70 r71 r72 fun r73 r74 r75 r76 => (bif decide (0 < ((r64.set 0 ((r64.getD 0 (0, [])).1, [(IntKind.wrap .i64 ((r64.length : Int) - 1))])).length : Int)) then k ((r64.set 0 ((r64.getD 0 (0, [])).1, [(IntKind.wrap .i64 ((r64.length : Int) - 1))])).set 0 (r73, ((r64.set 0 ((r64.getD 0 (0, [])).1, [(IntKind.wrap .i64 ((r64.length : Int) - 1))])).getD 0 (0, [])).2)) r74 r75 r76 else none)) else k (r64.set 0 ((r64.getD 0 (0, [])).1, [(IntKind.wrap .i64 ((r64.length : Int) - 1))])) r70 r71 r72)) else k (r64.set 0 ((r64.getD 0 (0, [])).1, [(IntKind.wrap .i64 ((r64.length : Int) - 1))])) r66 r67 r68) else none) else (bif (decide ((r64.length : Int) > 0)) then (spec_l1Cur_one n 40 r66 r67 r68 fun r77 r78 r79 r80 => (bif r77 then (spec_l1Cur_among n ([0, 100, 101]) r78 r79 r80 fun r81 r82 r83 r84 => (bif decide (0 < (r64.length : Int)) then k (r64.set 0 (r81, (r64.getD 0 (0, [])).2)) r82 r83 r84 else none)) else k r64 r78 r79 r80)) else k r64 r66 r67 r68))) else (bif (decide ((r64.length : Int) > 0)) then (spec_l1Cur_one n 40 r61 r62 r63 fun r85 r86 r87 r88 => (bif r85 then (spec_l1Cur_among n ([0, 100, 101]) r86 r87 r88 fun r89 r90 r91 r92 => (bif decide (0 < (r64.length : Int)) then k (r64.set 0 (r89, (r64.getD 0 (0, [])).2)) r90 r91 r92 else none)) else k r64 r86 r87 r88)) else k r64 r61 r62 r63)))))))) (fun r0 r1 r2 r3 => k (PkS.pack Tspec_l1Cur_plan (r0, r1, r2, r3, ()))) := by kernel_rfl
theorem okspec_l1Cur_plan (n : Nat) : FnOk Try.prog 98 (Kspec_l1Cur_plan @spec_l1Cur_plan n) := by
  refine fn_ok (sig := sig) mixed ttok (mkK_nat (cspec_l1Cur_plan n)) (mkK_ok (cspec_l1Cur_plan n)) (mkL_nat (mkK_nat (cspec_l1Cur_plan n)) (l := [(10, Dspec_l1Cur_plan_l10, Pspec_l1Cur_plan_l10 @spec_l1Cur_plan_l10 n), (6, Dspec_l1Cur_plan_l6, Pspec_l1Cur_plan_l6 @spec_l1Cur_plan_l6 n)]) ⟨nlspec_l1Cur_plan_l10 n, ⟨nlspec_l1Cur_plan_l6 n, trivial⟩⟩) (fn := Try.f98) (c := bodyOf Try.f98) (by kernel_rfl) (by kernel_rfl) (by kernel_rfl) (.eq (l := [.lo (loopIn 6 (bodyOf Try.f98))]) (by kernel_rfl) ⟨(lkspec_l1Cur_plan_l6 n _ _ (at_id (i := 6) (by kernel_rfl) rfl)), trivial⟩) (shs := Hspec_l1Cur_plan) (S := Sspec_l1Cur_plan) (h1 := by kernel_rfl) fun R p k => ?_
  unfold Kspec_l1Cur_plan
  cases h : (PkS.un Sspec_l1Cur_plan p) with
  | none => rfl
  | some d =>
    obtain ⟨x0, x1, x2, u⟩ := (d : (List Int) × Int × Int × Unit)
    have hp := PkS.un_pack h
    subst hp
    exact (espec_l1Cur_plan @spec_l1Cur_pick @spec_l1Cur_one @spec_l1Cur_among @spec_l1Cur_plan_l10 @spec_l1Cur_plan_l6 n x0 x1 x2 k).symm

/-! ### loop.example/g00269/spec.DrawGoodPlan -/
theorem cspec_DrawGoodPlan (n : Nat) : AllOk Try.prog [(98, Kspec_l1Cur_plan @spec_l1Cur_plan n)] := ⟨okspec_l1Cur_plan n, trivial⟩
@[reducible] def Sspec_DrawGoodPlan : PkS := ⟨[.one (.ro (.int .u8))], []⟩
@[reducible] def Tspec_DrawGoodPlan : PkS := ⟨[.one (.whole (300000, 0)), .one (.dead)], [((300000, 0), .arr (.pr (.int .i64) (.sl (.int .i64))))]⟩
def Hspec_DrawGoodPlan : List Sh := [.one (.own (.pr (.int .i64) (.sl (.int .i64)))), .skip]
def Kspec_DrawGoodPlan (g : ∀ {R : Type}, Nat → (List Int) → ((List (Int × List Int)) → Option R) → Option R) (n : Nat) : KPs := fun R p k => match (PkS.un Sspec_DrawGoodPlan p : Option ((List Int) × Unit)) with
  | some (x0, _) => g n x0 (fun r0 => k (PkS.pack Tspec_DrawGoodPlan (r0, ())))
  | none => none
theorem espec_DrawGoodPlan (spec_l1Cur_plan : ∀ {R : Type}, Nat → (List Int) → Int → Int → ((List (Int × List Int)) → (List Int) → Int → Int → Option R) → Option R) {R : Type} (n : Nat) (x0 : List Int) (k : Pk → Option R) : evF tt sig (mkK [(98, Kspec_l1Cur_plan @spec_l1Cur_plan n)] R) (mkL (mkK [(98, Kspec_l1Cur_plan @spec_l1Cur_plan n)]) [] R) Try.f93 Hspec_DrawGoodPlan (PkS.pack Sspec_DrawGoodPlan (x0, ())) k = (fun (k : (List (Int × List Int)) → Option R) => (spec_l1Cur_plan n x0 0 0 fun r1 r2 r3 r4 => k r1)) (fun r0 => k (PkS.pack Tspec_DrawGoodPlan (r0, ()))) := by kernel_rfl
theorem okspec_DrawGoodPlan (n : Nat) : FnOk Try.prog 93 (Kspec_DrawGoodPlan @spec_DrawGoodPlan n) := by
  refine fn_ok (sig := sig) mixed ttok (mkK_nat (cspec_DrawGoodPlan n)) (mkK_ok (cspec_DrawGoodPlan n)) (mkL_nat (mkK_nat (cspec_DrawGoodPlan n)) (l := []) trivial) (fn := Try.f93) (c := bodyOf Try.f93) (by kernel_rfl) (by kernel_rfl) (by kernel_rfl) (.eq (l := []) (by kernel_rfl) trivial) (shs := Hspec_DrawGoodPlan) (S := Sspec_DrawGoodPlan) (h1 := by kernel_rfl) fun R p k => ?_
  unfold Kspec_DrawGoodPlan
  cases h : (PkS.un Sspec_DrawGoodPlan p) with
  | none => rfl
  | some d =>
    obtain ⟨x0, u⟩ := (d : (List Int) × Unit)
    have hp := PkS.un_pack h
    subst hp
    exact (espec_DrawGoodPlan @spec_l1Cur_plan n x0 k).symm

/-! ### loop.example/g00269/spec.DrawCriticalOf -/
theorem cspec_DrawCriticalOf (n : Nat) : AllOk Try.prog [(93, Kspec_DrawGoodPlan @spec_DrawGoodPlan n)] := ⟨okspec_DrawGoodPlan n, trivial⟩
@[reducible] def Sspec_DrawCriticalOf : PkS := ⟨[.one (.ro (.int .u8))], []⟩
@[reducible] def Tspec_DrawCriticalOf : PkS := ⟨[.one (.whole (300000, 0)), .one (.dead)], [((300000, 0), .arr (.pr (.int .i64) (.sl (.int .i64))))]⟩
def Hspec_DrawCriticalOf : List Sh := [.one (.own (.pr (.int .i64) (.sl (.int .i64)))), .skip]
def Kspec_DrawCriticalOf (g : ∀ {R : Type}, Nat → (List Int) → ((List (Int × List Int)) → Option R) → Option R) (n : Nat) : KPs := fun R p k => match (PkS.un Sspec_DrawCriticalOf p : Option ((List Int) × Unit)) with
  | some (x0, _) => g n x0 (fun r0 => k (PkS.pack Tspec_DrawCriticalOf (r0, ())))
  | none => none
theorem espec_DrawCriticalOf (spec_DrawGoodPlan : ∀ {R : Type}, Nat → (List Int) → ((List (Int × List Int)) → Option R) → Option R) {R : Type} (n : Nat) (x0 : List Int) (k : Pk → Option R) : evF tt sig (mkK [(93, Kspec_DrawGoodPlan @spec_DrawGoodPlan n)] R) (mkL (mkK [(93, Kspec_DrawGoodPlan @spec_DrawGoodPlan n)]) [] R) Try.f42 Hspec_DrawCriticalOf (PkS.pack Sspec_DrawCriticalOf (x0, ())) k = (fun (k : (List (Int × List Int)) → Option R) => (spec_DrawGoodPlan n x0 fun r1 => k r1)) (fun r0 => k (PkS.pack Tspec_DrawCriticalOf (r0, ()))) := by kernel_rfl
theorem okspec_DrawCriticalOf (n : Nat) : FnOk Try.prog 42 (Kspec_DrawCriticalOf @spec_DrawCriticalOf n) := by
  refine fn_ok (sig := sig) mixed ttok (mkK_nat (cspec_DrawCriticalOf n)) (mkK_ok (cspec_DrawCriticalOf n)) (mkL_nat (mkK_nat (cspec_DrawCriticalOf n)) (l := []) trivial) (fn := Try.f42) (c := bodyOf Try.f42) (by kernel_rfl) (by kernel_rfl) (by kernel_rfl) (.eq (l := []) (by kernel_rfl) trivial) (shs := Hspec_DrawCriticalOf) (S := Sspec_DrawCriticalOf) (h1 := by kernel_rfl) fun R p k => ?_
  unfold Kspec_DrawCriticalOf
  cases h : (PkS.un Sspec_DrawCriticalOf p) with
  | none => rfl
  | some d =>
    obtain ⟨x0, u⟩ := (d : (List Int) × Unit)
    have hp := PkS.un_pack h
    subst hp
    exact (espec_DrawCriticalOf @spec_DrawGoodPlan n x0 k).symm

/-! ### loop.example/g00269/impl.in -/
theorem cimpl_in (n : Nat) : AllOk Try.prog [] := trivial
@[reducible] def Simpl_in : PkS := ⟨[.one (.int .i64), .one (.int .i64), .one (.int .i64)], []⟩
@[reducible] def Timpl_in : PkS := ⟨[.one (.bool), .one (.dead), .one (.dead), .one (.dead)], []⟩
def Himpl_in : List Sh := [.one .any, .skip, .skip, .skip]
def Kimpl_in (g : ∀ {R : Type}, Nat → Int → Int → Int → (Bool → Option R) → Option R) (n : Nat) : KPs := fun R p k => match (PkS.un Simpl_in p : Option (Int × Int × Int × Unit)) with
  | some (x0, x1, x2, _) => g n x0 x1 x2 (fun r0 => k (PkS.pack Timpl_in (r0, ())))
  | none => none
theorem eimpl_in  {R : Type} (n : Nat) (x0 : Int) (x1 : Int) (x2 : Int) (k : Pk → Option R) : evF tt sig (mkK [] R) (mkL (mkK []) [] R) Try.f80 Himpl_in (PkS.pack Simpl_in (x0, x1, x2, ())) k = (fun (k : Bool → Option R) => (bif (decide (x0 ≥ x1)) then k (decide (x0 ≤ x2)) else k false)) (fun r0 => k (PkS.pack Timpl_in (r0, ()))) := by kernel_rfl
theorem okimpl_in (n : Nat) : FnOk Try.prog 80 (Kimpl_in @impl_in n) := by
  refine fn_ok (sig := sig) mixed ttok (mkK_nat (cimpl_in n)) (mkK_ok (cimpl_in n)) (mkL_nat (mkK_nat (cimpl_in n)) (l := []) trivial) (fn := Try.f80) (c := bodyOf Try.f80) (by kernel_rfl) (by kernel_rfl) (by kernel_rfl) (.eq (l := []) (by kernel_rfl) trivial) (shs := Himpl_in) (S := Simpl_in) (h1 := by kernel_rfl) fun R p k => ?_
  unfold Kimpl_in
  cases h : (PkS.un Simpl_in p) with
  | none => rfl
  | some d =>
    obtain ⟨x0, x1, x2, u⟩ := (d : Int × Int × Int × Unit)
    have hp := PkS.un_pack h
    subst hp
    exact (eimpl_in  n x0 x1 x2 k).symm

/-! ### loop.example/g00269/impl.rising -/
theorem cimpl_rising (n : Nat) : AllOk Try.prog [(80, Kimpl_in @impl_in n)] := ⟨okimpl_in n, trivial⟩
@[reducible] def Simpl_rising_l2 : PkS := ⟨[.one (.ro (.int .i64)), .one (.int .i64), .one (.ro (.int .i64)), .one (.int .i64), .one (.int .i64), .one (.dead), .one (.dead)], []⟩
@[reducible] def Timpl_rising_l2_0 : PkS := ⟨[.one (.bool), .one (.dead), .one (.dead)], []⟩
@[reducible] def Timpl_rising_l2_1 : PkS := ⟨[.one (.dead), .one (.dead)], []⟩
def Dimpl_rising_l2 : LoopD := ⟨33, [0, 1, 7, 8, 9], [.one (.ro (.int .i64)), .one .any, .one (.ro (.int .i64)), .one .any, .one .any, .skip, .skip], fun x => match x with
  | .ret => some ([4], [.one .any, .skip, .skip])
  | .exit 0 => some ([], [.skip, .skip])
  | _ => none⟩
def Pimpl_rising_l2 (g : ∀ {R : Type}, Nat → (List Int) → Int → (List Int) → Int → Int → (Bool → Option R) → (Option R) → Option R) (n : Nat) : LPs := fun R q kk => match (PkS.un Simpl_rising_l2 q : Option ((List Int) × Int × (List Int) × Int × Int × Unit)) with
  | some (y2_0, y2_1, y2_2, y2_3, y2_4, _) => g n y2_0 y2_1 y2_2 y2_3 y2_4 (fun r0 => kk .ret (PkS.pack Timpl_rising_l2_0 (r0, ()))) (kk (.exit 0) (PkS.pack Timpl_rising_l2_1 ()))
  | none => none
theorem eimpl_rising_l2 (impl_in : ∀ {R : Type}, Nat → Int → Int → Int → (Bool → Option R) → Option R) (impl_rising_l2 : ∀ {R : Type}, Nat → (List Int) → Int → (List Int) → Int → Int → (Bool → Option R) → (Option R) → Option R) {R : Type} (n : Nat) (y2_0 : List Int) (y2_1 : Int) (y2_2 : List Int) (y2_3 : Int) (y2_4 : Int) (kk : Ex → Pk → Option R) : Dimpl_rising_l2.step tt sig (mkK [(80, Kimpl_in @impl_in n)] R) (mkL (mkK [(80, Kimpl_in @impl_in n)]) [] R) (loopIn 2 (bodyOf Try.f106)) (fun q' => Pimpl_rising_l2 @impl_rising_l2 n R q' kk) (PkS.pack Simpl_rising_l2 (y2_0, y2_1, y2_2, y2_3, y2_4, ())) kk = (fun (kret : Bool → Option R) (kexit0 : Option R) => (bif (decide (y2_4 < y2_3)) then (bif decide (0 ≤ y2_4) then (bif decide (y2_4 < (y2_2.length : Int)) then (impl_in n (y2_2.getD (Int.toNat y2_4) 0) 0 (IntKind.wrap .i64 (y2_1 - 1)) fun r1 => (bif (!r1) then kret false else (bif (decide (y2_4 > 0)) then (bif decide (0 ≤ (IntKind.wrap .i64 (y2_4 - 1))) then (bif decide ((IntKind.wrap .i64 (y2_4 - 1)) < (y2_0.length : Int)) then (bif (decide ((y2_0.getD (Int.toNat (IntKind.wrap .i64 (y2_4 - 1))) 0) ≥ (y2_2.getD (Int.toNat y2_4) 0))) then kret false else impl_rising_l2 n y2_0 y2_1 y2_2 y2_3 (IntKind.wrap .i64 (y2_4 + 1)) kret kexit0) else none) else none) else impl_rising_l2 n y2_0 y2_1 y2_2 y2_3 (IntKind.wrap .i64 (y2_4 + 1)) kret kexit0))) else none) else none) else kexit0)) (fun r0 => kk .ret (PkS.pack Timpl_rising_l2_0 (r0, ()))) (kk (.exit 0) (PkS.pack Timpl_rising_l2_1 ())) := by kernel_rfl
theorem leimpl_rising_l2 : LoopEq tt sig (fun n => mkK [(80, Kimpl_in @impl_in n)]) (fun n => mkL (mkK [(80, Kimpl_in @impl_in n)]) []) Dimpl_rising_l2 Simpl_rising_l2 (loopIn 2 (bodyOf Try.f106)) (Pimpl_rising_l2 @impl_rising_l2) where
  zero R q kk := by unfold Pimpl_rising_l2; cases (PkS.un Simpl_rising_l2 q) <;> rfl
  succ n R q kk := by
    unfold Pimpl_rising_l2
    cases h : (PkS.un Simpl_rising_l2 q) with
    | none => rfl
    | some d =>
      obtain ⟨y2_0, y2_1, y2_2, y2_3, y2_4, u⟩ := (d : (List Int) × Int × (List Int) × Int × Int × Unit)
      have hp := PkS.un_pack h
      subst hp
      exact (eimpl_rising_l2 @impl_in @impl_rising_l2 n y2_0 y2_1 y2_2 y2_3 y2_4 kk).symm
theorem nlimpl_rising_l2 : ∀ n, NatLP (Pimpl_rising_l2 @impl_rising_l2 n) := leimpl_rising_l2.nat (fun n => mkK_nat (cimpl_rising n)) fun n => mkL_nat (mkK_nat (cimpl_rising n)) (l := []) trivial
theorem inimpl_rising_l2 (n : Nat) (R : Type) : LoopsOk Try.prog (mkL (mkK [(80, Kimpl_in @impl_in n)]) [] R) (loopIn 2 (bodyOf Try.f106)) := .eq (l := []) (by kernel_rfl) trivial
theorem lkimpl_rising_l2 (n : Nat) (R : Type) (L0 : LK R) (h0 : ∀ id, firstRegion (loopIn 2 (bodyOf Try.f106)) = some id → L0 id = Dimpl_rising_l2.oracle (mkK [(80, Kimpl_in @impl_in n)] R) (Pimpl_rising_l2 @impl_rising_l2 n R)) : LoopOk Try.prog L0 (loopIn 2 (bodyOf Try.f106)) :=
  leimpl_rising_l2.ok mixed ttok (fun n => mkK_nat (cimpl_rising n)) (fun n => mkK_ok (cimpl_rising n)) (fun n => inimpl_rising_l2 n R) (mkK_nat (cimpl_rising n)) h0
@[reducible] def Simpl_rising : PkS := ⟨[.one (.ro (.int .i64)), .one (.int .i64)], []⟩
@[reducible] def Timpl_rising : PkS := ⟨[.one (.bool), .one (.dead), .one (.dead)], []⟩
def Himpl_rising : List Sh := [.one .any, .skip, .skip]
def Kimpl_rising (g : ∀ {R : Type}, Nat → (List Int) → Int → (Bool → Option R) → Option R) (n : Nat) : KPs := fun R p k => match (PkS.un Simpl_rising p : Option ((List Int) × Int × Unit)) with
  | some (x0, x1, _) => g n x0 x1 (fun r0 => k (PkS.pack Timpl_rising (r0, ())))
  | none => none
theorem eimpl_rising (impl_in : ∀ {R : Type}, Nat → Int → Int → Int → (Bool → Option R) → Option R) (impl_rising_l2 : ∀ {R : Type}, Nat → (List Int) → Int → (List Int) → Int → Int → (Bool → Option R) → (Option R) → Option R) {R : Type} (n : Nat) (x0 : List Int) (x1 : Int) (k : Pk → Option R) : evF tt sig (mkK [(80, Kimpl_in @impl_in n)] R) (mkL (mkK [(80, Kimpl_in @impl_in n)]) [(2, Dimpl_rising_l2, Pimpl_rising_l2 @impl_rising_l2 n)] R) Try.f106 Himpl_rising (PkS.pack Simpl_rising (x0, x1, ())) k = (fun (k : Bool → Option R) => (impl_rising_l2 n x0 x1 x0 (x0.length : Int) 0 (fun r2 => k r2) (k true))) (fun r0 => k (PkS.pack Timpl_rising (r0, ()))) := by kernel_rfl
theorem okimpl_rising (n : Nat) : FnOk Try.prog 106 (Kimpl_rising @impl_rising n) := by
  refine fn_ok (sig := sig) mixed ttok (mkK_nat (cimpl_rising n)) (mkK_ok (cimpl_rising n)) (mkL_nat (mkK_nat (cimpl_rising n)) (l := [(2, Dimpl_rising_l2, Pimpl_rising_l2 @impl_rising_l2 n)]) ⟨nlimpl_rising_l2 n, trivial⟩) (fn := Try.f106) (c := bodyOf Try.f106) (by kernel_rfl) (by kernel_rfl) (by kernel_rfl) (.eq (l := [.lo (loopIn 2 (bodyOf Try.f106))]) (by kernel_rfl) ⟨(lkimpl_rising_l2 n _ _ (at_id (i := 2) (by kernel_rfl) rfl)), trivial⟩) (shs := Himpl_rising) (S := Simpl_rising) (h1 := by kernel_rfl) fun R p k => ?_
  unfold Kimpl_rising
  cases h : (PkS.un Simpl_rising p) with
  | none => rfl
  | some d =>
    obtain ⟨x0, x1, u⟩ := (d : (List Int) × Int × Unit)
    have hp := PkS.un_pack h
    subst hp
    exact (eimpl_rising @impl_in @impl_rising_l2 n x0 x1 k).symm

/-! ### slices.Index[[]int,int] -/
theorem cslices_Index_int (n : Nat) : AllOk Try.prog [] := trivial
@[reducible] def Sslices_Index_int_l2 : PkS := ⟨[.one (.ro (.int .i64)), .one (.int .i64), .one (.int .i64), .one (.int .i64), .one (.dead), .one (.dead)], []⟩
@[reducible] def Tslices_Index_int_l2_0 : PkS := ⟨[.one (.int .i64), .one (.dead), .one (.dead)], []⟩
@[reducible] def Tslices_Index_int_l2_1 : PkS := ⟨[.one (.dead), .one (.dead)], []⟩
def Dslices_Index_int_l2 : LoopD := ⟨19, [0, 1, 7, 8], [.one (.ro (.int .i64)), .one .any, .one .any, .one .any, .skip, .skip], fun x => match x with
  | .ret => some ([4], [.one .any, .skip, .skip])
  | .exit 0 => some ([], [.skip, .skip])
  | _ => none⟩
def Pslices_Index_int_l2 (g : ∀ {R : Type}, Nat → (List Int) → Int → Int → Int → (Int → Option R) → (Option R) → Option R) (n : Nat) : LPs := fun R q kk => match (PkS.un Sslices_Index_int_l2 q : Option ((List Int) × Int × Int × Int × Unit)) with
  | some (y2_0, y2_1, y2_2, y2_3, _) => g n y2_0 y2_1 y2_2 y2_3 (fun r0 => kk .ret (PkS.pack Tslices_Index_int_l2_0 (r0, ()))) (kk (.exit 0) (PkS.pack Tslices_Index_int_l2_1 ()))
  | none => none
theorem eslices_Index_int_l2 (slices_Index_int_l2 : ∀ {R : Type}, Nat → (List Int) → Int → Int → Int → (Int → Option R) → (Option R) → Option R) {R : Type} (n : Nat) (y2_0 : List Int) (y2_1 : Int) (y2_2 : Int) (y2_3 : Int) (kk : Ex → Pk → Option R) : Dslices_Index_int_l2.step tt sig (mkK [] R) (mkL (mkK []) [] R) (loopIn 2 (bodyOf Try.f150)) (fun q' => Pslices_Index_int_l2 @slices_Index_int_l2 n R q' kk) (PkS.pack Sslices_Index_int_l2 (y2_0, y2_1, y2_2, y2_3, ())) kk = (fun (kret : Int → Option R) (kexit0 : Option R) => (bif (decide (y2_3 < y2_2)) then (bif decide (0 ≤ y2_3) then (bif decide (y2_3 < (y2_0.length : Int)) then (bif (y2_1 == (y2_0.getD (Int.toNat y2_3) 0)) then kret y2_3 else slices_Index_int_l2 n y2_0 y2_1 y2_2 (IntKind.wrap .i64 (y2_3 + 1)) kret kexit0) else none) else none) else kexit0)) (fun r0 => kk .ret (PkS.pack Tslices_Index_int_l2_0 (r0, ()))) (kk (.exit 0) (PkS.pack Tslices_Index_int_l2_1 ())) := by kernel_rfl
theorem leslices_Index_int_l2 : LoopEq tt sig (fun n => mkK []) (fun n => mkL (mkK []) []) Dslices_Index_int_l2 Sslices_Index_int_l2 (loopIn 2 (bodyOf Try.f150)) (Pslices_Index_int_l2 @slices_Index_int_l2) where
  zero R q kk := by unfold Pslices_Index_int_l2; cases (PkS.un Sslices_Index_int_l2 q) <;> rfl
  succ n R q kk := by
    unfold Pslices_Index_int_l2
    cases h : (PkS.un Sslices_Index_int_l2 q) with
    | none => rfl
    | some d =>
      obtain ⟨y2_0, y2_1, y2_2, y2_3, u⟩ := (d : (List Int) × Int × Int × Int × Unit)
      have hp := PkS.un_pack h
      subst hp
      exact (eslices_Index_int_l2 @slices_Index_int_l2 n y2_0 y2_1 y2_2 y2_3 kk).symm
theorem nlslices_Index_int_l2 : ∀ n, NatLP (Pslices_Index_int_l2 @slices_Index_int_l2 n) := leslices_Index_int_l2.nat (fun n => mkK_nat (cslices_Index_int n)) fun n => mkL_nat (mkK_nat (cslices_Index_int n)) (l := []) trivial
theorem inslices_Index_int_l2 (n : Nat) (R : Type) : LoopsOk Try.prog (mkL (mkK []) [] R) (loopIn 2 (bodyOf Try.f150)) := .eq (l := []) (by kernel_rfl) trivial
theorem lkslices_Index_int_l2 (n : Nat) (R : Type) (L0 : LK R) (h0 : ∀ id, firstRegion (loopIn 2 (bodyOf Try.f150)) = some id → L0 id = Dslices_Index_int_l2.oracle (mkK [] R) (Pslices_Index_int_l2 @slices_Index_int_l2 n R)) : LoopOk Try.prog L0 (loopIn 2 (bodyOf Try.f150)) :=
  leslices_Index_int_l2.ok mixed ttok (fun n => mkK_nat (cslices_Index_int n)) (fun n => mkK_ok (cslices_Index_int n)) (fun n => inslices_Index_int_l2 n R) (mkK_nat (cslices_Index_int n)) h0
@[reducible] def Sslices_Index_int : PkS := ⟨[.one (.ro (.int .i64)), .one (.int .i64)], []⟩
@[reducible] def Tslices_Index_int : PkS := ⟨[.one (.int .i64), .one (.dead), .one (.dead)], []⟩
def Hslices_Index_int : List Sh := [.one .any, .skip, .skip]
def Kslices_Index_int (g : ∀ {R : Type}, Nat → (List Int) → Int → (Int → Option R) → Option R) (n : Nat) : KPs := fun R p k => match (PkS.un Sslices_Index_int p : Option ((List Int) × Int × Unit)) with
  | some (x0, x1, _) => g n x0 x1 (fun r0 => k (PkS.pack Tslices_Index_int (r0, ())))
  | none => none
theorem eslices_Index_int (slices_Index_int_l2 : ∀ {R : Type}, Nat → (List Int) → Int → Int → Int → (Int → Option R) → (Option R) → Option R) {R : Type} (n : Nat) (x0 : List Int) (x1 : Int) (k : Pk → Option R) : evF tt sig (mkK [] R) (mkL (mkK []) [(2, Dslices_Index_int_l2, Pslices_Index_int_l2 @slices_Index_int_l2 n)] R) Try.f150 Hslices_Index_int (PkS.pack Sslices_Index_int (x0, x1, ())) k = (fun (k : Int → Option R) => (slices_Index_int_l2 n x0 x1 (x0.length : Int) 0 (fun r1 => k r1) (k (-1)))) (fun r0 => k (PkS.pack Tslices_Index_int (r0, ()))) := by kernel_rfl
theorem okslices_Index_int (n : Nat) : FnOk Try.prog 150 (Kslices_Index_int @slices_Index_int n) := by
  refine fn_ok (sig := sig) mixed ttok (mkK_nat (cslices_Index_int n)) (mkK_ok (cslices_Index_int n)) (mkL_nat (mkK_nat (cslices_Index_int n)) (l := [(2, Dslices_Index_int_l2, Pslices_Index_int_l2 @slices_Index_int_l2 n)]) ⟨nlslices_Index_int_l2 n, trivial⟩) (fn := Try.f150) (c := bodyOf Try.f150) (by kernel_rfl) (by kernel_rfl) (by kernel_rfl) (.eq (l := [.lo (loopIn 2 (bodyOf Try.f150))]) (by kernel_rfl) ⟨(lkslices_Index_int_l2 n _ _ (at_id (i := 2) (by kernel_rfl) rfl)), trivial⟩) (shs := Hslices_Index_int) (S := Sslices_Index_int) (h1 := by kernel_rfl) fun R p k => ?_
  unfold Kslices_Index_int
  cases h : (PkS.un Sslices_Index_int p) with
  | none => rfl
  | some d =>
    obtain ⟨x0, x1, u⟩ := (d : (List Int) × Int × Unit)
    have hp := PkS.un_pack h
    subst hp
    exact (eslices_Index_int @slices_Index_int_l2 n x0 x1 k).symm

/-! ### slices.Contains[[]int,int] -/
theorem cslices_Contains_int (n : Nat) : AllOk Try.prog [(150, Kslices_Index_int @slices_Index_int n)] := ⟨okslices_Index_int n, trivial⟩
@[reducible] def Sslices_Contains_int : PkS := ⟨[.one (.ro (.int .i64)), .one (.int .i64)], []⟩
@[reducible] def Tslices_Contains_int : PkS := ⟨[.one (.bool), .one (.dead), .one (.dead)], []⟩
def Hslices_Contains_int : List Sh := [.one .any, .skip, .skip]
def Kslices_Contains_int (g : ∀ {R : Type}, Nat → (List Int) → Int → (Bool → Option R) → Option R) (n : Nat) : KPs := fun R p k => match (PkS.un Sslices_Contains_int p : Option ((List Int) × Int × Unit)) with
  | some (x0, x1, _) => g n x0 x1 (fun r0 => k (PkS.pack Tslices_Contains_int (r0, ())))
  | none => none
theorem eslices_Contains_int (slices_Index_int : ∀ {R : Type}, Nat → (List Int) → Int → (Int → Option R) → Option R) {R : Type} (n : Nat) (x0 : List Int) (x1 : Int) (k : Pk → Option R) : evF tt sig (mkK [(150, Kslices_Index_int @slices_Index_int n)] R) (mkL (mkK [(150, Kslices_Index_int @slices_Index_int n)]) [] R) Try.f103 Hslices_Contains_int (PkS.pack Sslices_Contains_int (x0, x1, ())) k = (fun (k : Bool → Option R) => (slices_Index_int n x0 x1 fun r1 => k (decide (r1 ≥ 0)))) (fun r0 => k (PkS.pack Tslices_Contains_int (r0, ()))) := by kernel_rfl
theorem okslices_Contains_int (n : Nat) : FnOk Try.prog 103 (Kslices_Contains_int @slices_Contains_int n) := by
  refine fn_ok (sig := sig) mixed ttok (mkK_nat (cslices_Contains_int n)) (mkK_ok (cslices_Contains_int n)) (mkL_nat (mkK_nat (cslices_Contains_int n)) (l := []) trivial) (fn := Try.f103) (c := bodyOf Try.f103) (by kernel_rfl) (by kernel_rfl) (by kernel_rfl) (.eq (l := []) (by kernel_rfl) trivial) (shs := Hslices_Contains_int) (S := Sslices_Contains_int) (h1 := by kernel_rfl) fun R p k => ?_
  unfold Kslices_Contains_int
  cases h : (PkS.un Sslices_Contains_int p) with
  | none => rfl
  | some d =>
    obtain ⟨x0, x1, u⟩ := (d : (List Int) × Int × Unit)
    have hp := PkS.un_pack h
    subst hp
    exact (eslices_Contains_int @slices_Index_int n x0 x1 k).symm

/-! ### loop.example/g00269/impl.order$1 -/
theorem cimpl_order_c1 (n : Nat) : AllOk Try.prog [] := trivial
@[reducible] def Simpl_order_c1 : PkS := ⟨[.one (.int .i64), .one (.box (200000, 1) 0)], [((200000, 0), .arr .bool), ((200000, 1), .box [.whole (200000, 0)])]⟩
@[reducible] def Timpl_order_c1 : PkS := ⟨[.one (.bool), .one (.dead), .one (.box (300000, 1) 0)], [((300000, 0), .arr .bool), ((300000, 1), .box [.whole (300000, 0)])]⟩
def Himpl_order_c1 : List Sh := [.one .any, .skip, .box [(.own .bool)]]
def Kimpl_order_c1 (g : ∀ {R : Type}, Nat → Int → (List Bool) → (Bool → (List Bool) → Option R) → Option R) (n : Nat) : KPs := fun R p k => match (PkS.un Simpl_order_c1 p : Option (Int × (List Bool) × Unit)) with
  | some (x0, x1, _) => g n x0 x1 (fun r0 r1 => k (PkS.pack Timpl_order_c1 (r0, r1, ())))
  | none => none
theorem eimpl_order_c1  {R : Type} (n : Nat) (x0 : Int) (x1 : List Bool) (k : Pk → Option R) : evF tt sig (mkK [] R) (mkL (mkK []) [] R) Try.f147 Himpl_order_c1 (PkS.pack Simpl_order_c1 (x0, x1, ())) k = (fun (k : Bool → (List Bool) → Option R) => (bif decide (0 ≤ x0) then (bif decide (x0 < (x1.length : Int)) then k (!(x1.getD (Int.toNat x0) false)) x1 else none) else none)) (fun r0 r1 => k (PkS.pack Timpl_order_c1 (r0, r1, ()))) := by kernel_rfl
theorem okimpl_order_c1 (n : Nat) : FnOk Try.prog 147 (Kimpl_order_c1 @impl_order_c1 n) := by
  refine fn_ok (sig := sig) mixed ttok (mkK_nat (cimpl_order_c1 n)) (mkK_ok (cimpl_order_c1 n)) (mkL_nat (mkK_nat (cimpl_order_c1 n)) (l := []) trivial) (fn := Try.f147) (c := bodyOf Try.f147) (by kernel_rfl) (by kernel_rfl) (by kernel_rfl) (.eq (l := []) (by kernel_rfl) trivial) (shs := Himpl_order_c1) (S := Simpl_order_c1) (h1 := by kernel_rfl) fun R p k => ?_
  unfold Kimpl_order_c1
  cases h : (PkS.un Simpl_order_c1 p) with
  | none => rfl
  | some d =>
    obtain ⟨x0, x1, u⟩ := (d : Int × (List Bool) × Unit)
    have hp := PkS.un_pack h
    subst hp
    exact (eimpl_order_c1  n x0 x1 k).symm

/-! ### slices.IndexFunc[[]int,int] -/
theorem cslices_IndexFunc_int_impl_order_c1 (n : Nat) : AllOk Try.prog [(147, Kimpl_order_c1 @impl_order_c1 n)] := ⟨okimpl_order_c1 n, trivial⟩
@[reducible] def Sslices_IndexFunc_int_impl_order_c1_l2 : PkS := ⟨[.one (.ro (.int .i64)), .one (.fn 147 [((100000, 1), 0)]), .one (.int .i64), .one (.int .i64), .one (.dead), .one (.fn 147 [((100000, 1), 0)])], [((100000, 0), .arr .bool), ((100000, 1), .box [.whole (100000, 0)])]⟩
@[reducible] def Tslices_IndexFunc_int_impl_order_c1_l2_0 : PkS := ⟨[.one (.int .i64), .one (.dead), .one (.fn 147 [((100000, 1), 0)])], [((100000, 0), .arr .bool), ((100000, 1), .box [.whole (100000, 0)])]⟩
@[reducible] def Tslices_IndexFunc_int_impl_order_c1_l2_1 : PkS := ⟨[.one (.dead), .one (.fn 147 [((100000, 1), 0)])], [((100000, 0), .arr .bool), ((100000, 1), .box [.whole (100000, 0)])]⟩
def Dslices_IndexFunc_int_impl_order_c1_l2 : LoopD := ⟨19, [0, 1, 7, 8], [.one (.ro (.int .i64)), .fn 147 [[(.own .bool)]], .one .any, .one .any, .skip, .fn 147 [[(.own .bool)]]], fun x => match x with
  | .ret => some ([4], [.one .any, .skip, .fn 147 [[(.own .bool)]]])
  | .exit 0 => some ([], [.skip, .fn 147 [[(.own .bool)]]])
  | _ => none⟩
def Pslices_IndexFunc_int_impl_order_c1_l2 (g : ∀ {R : Type}, Nat → (List Int) → Int → Int → (List Bool) → (Int → (List Bool) → Option R) → ((List Bool) → Option R) → Option R) (n : Nat) : LPs := fun R q kk => match (PkS.un Sslices_IndexFunc_int_impl_order_c1_l2 q : Option ((List Int) × Int × Int × (List Bool) × Unit)) with
  | some (y2_0, y2_1, y2_2, y2_3, _) => g n y2_0 y2_1 y2_2 y2_3 (fun r0 r1 => kk .ret (PkS.pack Tslices_IndexFunc_int_impl_order_c1_l2_0 (r0, r1, ()))) (fun r0 => kk (.exit 0) (PkS.pack Tslices_IndexFunc_int_impl_order_c1_l2_1 (r0, ())))
  | none => none
theorem eslices_IndexFunc_int_impl_order_c1_l2 (impl_order_c1 : ∀ {R : Type}, Nat → Int → (List Bool) → (Bool → (List Bool) → Option R) → Option R) (slices_IndexFunc_int_impl_order_c1_l2 : ∀ {R : Type}, Nat → (List Int) → Int → Int → (List Bool) → (Int → (List Bool) → Option R) → ((List Bool) → Option R) → Option R) {R : Type} (n : Nat) (y2_0 : List Int) (y2_1 : Int) (y2_2 : Int) (y2_3 : List Bool) (kk : Ex → Pk → Option R) : Dslices_IndexFunc_int_impl_order_c1_l2.step tt sig (mkK [(147, Kimpl_order_c1 @impl_order_c1 n)] R) (mkL (mkK [(147, Kimpl_order_c1 @impl_order_c1 n)]) [] R) (loopIn 2 (bodyOf Try.f157)) (fun q' => Pslices_IndexFunc_int_impl_order_c1_l2 @slices_IndexFunc_int_impl_order_c1_l2 n R q' kk) (PkS.pack Sslices_IndexFunc_int_impl_order_c1_l2 (y2_0, y2_1, y2_2, y2_3, ())) kk = (fun (kret : Int → (List Bool) → Option R) (kexit0 : (List Bool) → Option R) => (bif (decide (y2_2 < y2_1)) then (bif decide (0 ≤ y2_2) then (bif decide (y2_2 < (y2_0.length : Int)) then (impl_order_c1 n (y2_0.getD (Int.toNat y2_2) 0) y2_3 fun r1 r2 => (bif r1 then kret y2_2 r2 else slices_IndexFunc_int_impl_order_c1_l2 n y2_0 y2_1 (IntKind.wrap .i64 (y2_2 + 1)) r2 kret kexit0)) else none) else none) else kexit0 y2_3)) (fun r0 r1 => kk .ret (PkS.pack Tslices_IndexFunc_int_impl_order_c1_l2_0 (r0, r1, ()))) (fun r0 => kk (.exit 0) (PkS.pack Tslices_IndexFunc_int_impl_order_c1_l2_1 (r0, ()))) := by kernel_rfl
theorem leslices_IndexFunc_int_impl_order_c1_l2 : LoopEq tt sig (fun n => mkK [(147, Kimpl_order_c1 @impl_order_c1 n)]) (fun n => mkL (mkK [(147, Kimpl_order_c1 @impl_order_c1 n)]) []) Dslices_IndexFunc_int_impl_order_c1_l2 Sslices_IndexFunc_int_impl_order_c1_l2 (loopIn 2 (bodyOf Try.f157)) (Pslices_IndexFunc_int_impl_order_c1_l2 @slices_IndexFunc_int_impl_order_c1_l2) where
  zero R q kk := by unfold Pslices_IndexFunc_int_impl_order_c1_l2; cases (PkS.un Sslices_IndexFunc_int_impl_order_c1_l2 q) <;> rfl
  succ n R q kk := by
    unfold Pslices_IndexFunc_int_impl_order_c1_l2
    cases h : (PkS.un Sslices_IndexFunc_int_impl_order_c1_l2 q) with
    | none => rfl
    | some d =>
      obtain ⟨y2_0, y2_1, y2_2, y2_3, u⟩ := (d : (List Int) × Int × Int × (List Bool) × Unit)
      have hp := PkS.un_pack h
      subst hp
      exact (eslices_IndexFunc_int_impl_order_c1_l2 @impl_order_c1 @slices_IndexFunc_int_impl_order_c1_l2 n y2_0 y2_1 y2_2 y2_3 kk).symm
theorem nlslices_IndexFunc_int_impl_order_c1_l2 : ∀ n, NatLP (Pslices_IndexFunc_int_impl_order_c1_l2 @slices_IndexFunc_int_impl_order_c1_l2 n) := leslices_IndexFunc_int_impl_order_c1_l2.nat (fun n => mkK_nat (cslices_IndexFunc_int_impl_order_c1 n)) fun n => mkL_nat (mkK_nat (cslices_IndexFunc_int_impl_order_c1 n)) (l := []) trivial
theorem inslices_IndexFunc_int_impl_order_c1_l2 (n : Nat) (R : Type) : LoopsOk Try.prog (mkL (mkK [(147, Kimpl_order_c1 @impl_order_c1 n)]) [] R) (loopIn 2 (bodyOf Try.f157)) := .eq (l := []) (by kernel_rfl) trivial
theorem lkslices_IndexFunc_int_impl_order_c1_l2 (n : Nat) (R : Type) (L0 : LK R) (h0 : ∀ id, firstRegion (loopIn 2 (bodyOf Try.f157)) = some id → L0 id = Dslices_IndexFunc_int_impl_order_c1_l2.oracle (mkK [(147, Kimpl_order_c1 @impl_order_c1 n)] R) (Pslices_IndexFunc_int_impl_order_c1_l2 @slices_IndexFunc_int_impl_order_c1_l2 n R)) : LoopOk Try.prog L0 (loopIn 2 (bodyOf Try.f157)) :=
  leslices_IndexFunc_int_impl_order_c1_l2.ok mixed ttok (fun n => mkK_nat (cslices_IndexFunc_int_impl_order_c1 n)) (fun n => mkK_ok (cslices_IndexFunc_int_impl_order_c1 n)) (fun n => inslices_IndexFunc_int_impl_order_c1_l2 n R) (mkK_nat (cslices_IndexFunc_int_impl_order_c1 n)) h0
@[reducible] def Sslices_IndexFunc_int_impl_order_c1 : PkS := ⟨[.one (.ro (.int .i64)), .one (.fn 147 [((200000, 1), 0)])], [((200000, 0), .arr .bool), ((200000, 1), .box [.whole (200000, 0)])]⟩
@[reducible] def Tslices_IndexFunc_int_impl_order_c1 : PkS := ⟨[.one (.int .i64), .one (.dead), .one (.fn 147 [((300000, 1), 0)])], [((300000, 0), .arr .bool), ((300000, 1), .box [.whole (300000, 0)])]⟩
def Hslices_IndexFunc_int_impl_order_c1 : List Sh := [.one .any, .skip, .fn 147 [[(.own .bool)]]]
def Kslices_IndexFunc_int_impl_order_c1 (g : ∀ {R : Type}, Nat → (List Int) → (List Bool) → (Int → (List Bool) → Option R) → Option R) (n : Nat) : KPs := fun R p k => match (PkS.un Sslices_IndexFunc_int_impl_order_c1 p : Option ((List Int) × (List Bool) × Unit)) with
  | some (x0, x1, _) => g n x0 x1 (fun r0 r1 => k (PkS.pack Tslices_IndexFunc_int_impl_order_c1 (r0, r1, ())))
  | none => none
theorem eslices_IndexFunc_int_impl_order_c1 (impl_order_c1 : ∀ {R : Type}, Nat → Int → (List Bool) → (Bool → (List Bool) → Option R) → Option R) (slices_IndexFunc_int_impl_order_c1_l2 : ∀ {R : Type}, Nat → (List Int) → Int → Int → (List Bool) → (Int → (List Bool) → Option R) → ((List Bool) → Option R) → Option R) {R : Type} (n : Nat) (x0 : List Int) (x1 : List Bool) (k : Pk → Option R) : evF tt sig (mkK [(147, Kimpl_order_c1 @impl_order_c1 n)] R) (mkL (mkK [(147, Kimpl_order_c1 @impl_order_c1 n)]) [(2, Dslices_IndexFunc_int_impl_order_c1_l2, Pslices_IndexFunc_int_impl_order_c1_l2 @slices_IndexFunc_int_impl_order_c1_l2 n)] R) Try.f157 Hslices_IndexFunc_int_impl_order_c1 (PkS.pack Sslices_IndexFunc_int_impl_order_c1 (x0, x1, ())) k = (fun (k : Int → (List Bool) → Option R) => (slices_IndexFunc_int_impl_order_c1_l2 n x0 (x0.length : Int) 0 x1 (fun r3 r4 => k r3 r4) (fun r5 => k (-1) r5))) (fun r0 r1 => k (PkS.pack Tslices_IndexFunc_int_impl_order_c1 (r0, r1, ()))) := by kernel_rfl
theorem okslices_IndexFunc_int_impl_order_c1 (n : Nat) : FnOk Try.prog 157 (Kslices_IndexFunc_int_impl_order_c1 @slices_IndexFunc_int_impl_order_c1 n) := by
  refine fn_ok (sig := sig) mixed ttok (mkK_nat (cslices_IndexFunc_int_impl_order_c1 n)) (mkK_ok (cslices_IndexFunc_int_impl_order_c1 n)) (mkL_nat (mkK_nat (cslices_IndexFunc_int_impl_order_c1 n)) (l := [(2, Dslices_IndexFunc_int_impl_order_c1_l2, Pslices_IndexFunc_int_impl_order_c1_l2 @slices_IndexFunc_int_impl_order_c1_l2 n)]) ⟨nlslices_IndexFunc_int_impl_order_c1_l2 n, trivial⟩) (fn := Try.f157) (c := bodyOf Try.f157) (by kernel_rfl) (by kernel_rfl) (by kernel_rfl) (.eq (l := [.lo (loopIn 2 (bodyOf Try.f157))]) (by kernel_rfl) ⟨(lkslices_IndexFunc_int_impl_order_c1_l2 n _ _ (at_id (i := 2) (by kernel_rfl) rfl)), trivial⟩) (shs := Hslices_IndexFunc_int_impl_order_c1) (S := Sslices_IndexFunc_int_impl_order_c1) (h1 := by kernel_rfl) fun R p k => ?_
  unfold Kslices_IndexFunc_int_impl_order_c1
  cases h : (PkS.un Sslices_IndexFunc_int_impl_order_c1 p) with
  | none => rfl
  | some d =>
    obtain ⟨x0, x1, u⟩ := (d : (List Int) × (List Bool) × Unit)
    have hp := PkS.un_pack h
    subst hp
    exact (eslices_IndexFunc_int_impl_order_c1 @impl_order_c1 @slices_IndexFunc_int_impl_order_c1_l2 n x0 x1 k).symm

/-! ### slices.ContainsFunc[[]int,int] -/
theorem cslices_ContainsFunc_int_impl_order_c1 (n : Nat) : AllOk Try.prog [(157, Kslices_IndexFunc_int_impl_order_c1 @slices_IndexFunc_int_impl_order_c1 n)] := ⟨okslices_IndexFunc_int_impl_order_c1 n, trivial⟩
@[reducible] def Sslices_ContainsFunc_int_impl_order_c1 : PkS := ⟨[.one (.ro (.int .i64)), .one (.fn 147 [((200000, 1), 0)])], [((200000, 0), .arr .bool), ((200000, 1), .box [.whole (200000, 0)])]⟩
@[reducible] def Tslices_ContainsFunc_int_impl_order_c1 : PkS := ⟨[.one (.bool), .one (.dead), .one (.fn 147 [((300000, 1), 0)])], [((300000, 0), .arr .bool), ((300000, 1), .box [.whole (300000, 0)])]⟩
def Hslices_ContainsFunc_int_impl_order_c1 : List Sh := [.one .any, .skip, .fn 147 [[(.own .bool)]]]
def Kslices_ContainsFunc_int_impl_order_c1 (g : ∀ {R : Type}, Nat → (List Int) → (List Bool) → (Bool → (List Bool) → Option R) → Option R) (n : Nat) : KPs := fun R p k => match (PkS.un Sslices_ContainsFunc_int_impl_order_c1 p : Option ((List Int) × (List Bool) × Unit)) with
  | some (x0, x1, _) => g n x0 x1 (fun r0 r1 => k (PkS.pack Tslices_ContainsFunc_int_impl_order_c1 (r0, r1, ())))
  | none => none
theorem eslices_ContainsFunc_int_impl_order_c1 (slices_IndexFunc_int_impl_order_c1 : ∀ {R : Type}, Nat → (List Int) → (List Bool) → (Int → (List Bool) → Option R) → Option R) {R : Type} (n : Nat) (x0 : List Int) (x1 : List Bool) (k : Pk → Option R) : evF tt sig (mkK [(157, Kslices_IndexFunc_int_impl_order_c1 @slices_IndexFunc_int_impl_order_c1 n)] R) (mkL (mkK [(157, Kslices_IndexFunc_int_impl_order_c1 @slices_IndexFunc_int_impl_order_c1 n)]) [] R) Try.f120 Hslices_ContainsFunc_int_impl_order_c1 (PkS.pack Sslices_ContainsFunc_int_impl_order_c1 (x0, x1, ())) k = (fun (k : Bool → (List Bool) → Option R) => (slices_IndexFunc_int_impl_order_c1 n x0 x1 fun r1 r2 => k (decide (r1 ≥ 0)) r2)) (fun r0 r1 => k (PkS.pack Tslices_ContainsFunc_int_impl_order_c1 (r0, r1, ()))) := by kernel_rfl
theorem okslices_ContainsFunc_int_impl_order_c1 (n : Nat) : FnOk Try.prog 120 (Kslices_ContainsFunc_int_impl_order_c1 @slices_ContainsFunc_int_impl_order_c1 n) := by
  refine fn_ok (sig := sig) mixed ttok (mkK_nat (cslices_ContainsFunc_int_impl_order_c1 n)) (mkK_ok (cslices_ContainsFunc_int_impl_order_c1 n)) (mkL_nat (mkK_nat (cslices_ContainsFunc_int_impl_order_c1 n)) (l := []) trivial) (fn := Try.f120) (c := bodyOf Try.f120) (by kernel_rfl) (by kernel_rfl) (by kernel_rfl) (.eq (l := []) (by kernel_rfl) trivial) (shs := Hslices_ContainsFunc_int_impl_order_c1) (S := Sslices_ContainsFunc_int_impl_order_c1) (h1 := by kernel_rfl) fun R p k => ?_
  unfold Kslices_ContainsFunc_int_impl_order_c1
  cases h : (PkS.un Sslices_ContainsFunc_int_impl_order_c1 p) with
  | none => rfl
  | some d =>
    obtain ⟨x0, x1, u⟩ := (d : (List Int) × (List Bool) × Unit)
    have hp := PkS.un_pack h
    subst hp
    exact (eslices_ContainsFunc_int_impl_order_c1 @slices_IndexFunc_int_impl_order_c1 n x0 x1 k).symm

/-! ### loop.example/g00269/impl.order -/
theorem cimpl_order (n : Nat) : AllOk Try.prog [(120, Kslices_ContainsFunc_int_impl_order_c1 @slices_ContainsFunc_int_impl_order_c1 n)] := ⟨okslices_ContainsFunc_int_impl_order_c1 n, trivial⟩
@[reducible] def Simpl_order_l4 : PkS := ⟨[.one (.ro (.pr (.int .i64) (.sl (.int .i64)))), .one (.whole (100000, 0)), .one (.box (100000, 2) 0), .one (.int .i64), .one (.ro (.pr (.int .i64) (.sl (.int .i64)))), .one (.int .i64), .one (.int .i64), .one (.dead)], [((100000, 0), .arr (.int .i64)), ((100000, 1), .arr .bool), ((100000, 2), .box [.whole (100000, 1)])]⟩
@[reducible] def Timpl_order_l4_0 : PkS := ⟨[.one (.ro (.pr (.int .i64) (.sl (.int .i64)))), .one (.whole (100000, 0)), .one (.box (100000, 2) 0), .one (.int .i64), .one (.dead)], [((100000, 0), .arr (.int .i64)), ((100000, 1), .arr .bool), ((100000, 2), .box [.whole (100000, 1)])]⟩
def Dimpl_order_l4 : LoopD := ⟨43, [0, 3, 4, 5, 12, 13, 14], [.one (.ro (.pr (.int .i64) (.sl (.int .i64)))), .one (.own (.int .i64)), .box [(.own .bool)], .one .any, .one (.ro (.pr (.int .i64) (.sl (.int .i64)))), .one .any, .one .any, .skip], fun x => match x with
  | .exit 2 => some ([0, 3, 4, 5], [.one (.ro (.pr (.int .i64) (.sl (.int .i64)))), .one (.own (.int .i64)), .box [(.own .bool)], .one .any, .skip])
  | _ => none⟩
def Pimpl_order_l4 (g : ∀ {R : Type}, Nat → (List (Int × List Int)) → Int → (List (Int × List Int)) → Int → Int → (List Int) → (List Bool) → ((List (Int × List Int)) → Int → (List Int) → (List Bool) → Option R) → Option R) (n : Nat) : LPs := fun R q kk => match (PkS.un Simpl_order_l4 q : Option ((List (Int × List Int)) × Int × (List (Int × List Int)) × Int × Int × (List Int) × (List Bool) × Unit)) with
  | some (y4_0, y4_1, y4_2, y4_3, y4_4, y4_5, y4_6, _) => g n y4_0 y4_1 y4_2 y4_3 y4_4 y4_5 y4_6 (fun r0 r1 r2 r3 => kk (.exit 2) (PkS.pack Timpl_order_l4_0 (r0, r1, r2, r3, ())))
  | none => none
theorem eimpl_order_l4 (slices_ContainsFunc_int_impl_order_c1 : ∀ {R : Type}, Nat → (List Int) → (List Bool) → (Bool → (List Bool) → Option R) → Option R) (impl_order_l4 : ∀ {R : Type}, Nat → (List (Int × List Int)) → Int → (List (Int × List Int)) → Int → Int → (List Int) → (List Bool) → ((List (Int × List Int)) → Int → (List Int) → (List Bool) → Option R) → Option R) {R : Type} (n : Nat) (y4_0 : List (Int × List Int)) (y4_1 : Int) (y4_2 : List (Int × List Int)) (y4_3 : Int) (y4_4 : Int) (y4_5 : List Int) (y4_6 : List Bool) (kk : Ex → Pk → Option R) : Dimpl_order_l4.step tt sig (mkK [(120, Kslices_ContainsFunc_int_impl_order_c1 @slices_ContainsFunc_int_impl_order_c1 n)] R) (mkL (mkK [(120, Kslices_ContainsFunc_int_impl_order_c1 @slices_ContainsFunc_int_impl_order_c1 n)]) [] R) (loopIn 4 (bodyOf Try.f94)) (fun q' => Pimpl_order_l4 @impl_order_l4 n R q' kk) (PkS.pack Simpl_order_l4 (y4_0, y4_1, y4_2, y4_3, y4_4, y4_5, y4_6, ())) kk = (fun (kexit2 : (List (Int × List Int)) → Int → (List Int) → (List Bool) → Option R) => (bif (decide (y4_4 < y4_3)) then (bif decide (0 ≤ y4_4) then (bif decide (y4_4 < (y4_2.length : Int)) then (bif decide (0 ≤ y4_4) then (bif decide (y4_4 < (y4_6.length : Int)) then (bif (!(y4_6.getD (Int.toNat y4_4) false)) then (slices_ContainsFunc_int_impl_order_c1 n ((y4_2.getD (Int.toNat y4_4) (0, [])).2) y4_6 fun r1 r2 => (bif (!r1) then kexit2 y4_0 y4_4 y4_5 r2 else impl_order_l4 n y4_0 y4_1 y4_2 y4_3 (IntKind.wrap .i64 (y4_4 + 1)) y4_5 r2 kexit2)) else impl_order_l4 n y4_0 y4_1 y4_2 y4_3 (IntKind.wrap .i64 (y4_4 + 1)) y4_5 y4_6 kexit2) else none) else none) else none) else none) else kexit2 y4_0 y4_1 y4_5 y4_6)) (fun r0 r1 r2 r3 => kk (.exit 2) (PkS.pack Timpl_order_l4_0 (r0, r1, r2, r3, ()))) := by kernel_rfl
theorem leimpl_order_l4 : LoopEq tt sig (fun n => mkK [(120, Kslices_ContainsFunc_int_impl_order_c1 @slices_ContainsFunc_int_impl_order_c1 n)]) (fun n => mkL (mkK [(120, Kslices_ContainsFunc_int_impl_order_c1 @slices_ContainsFunc_int_impl_order_c1 n)]) []) Dimpl_order_l4 Simpl_order_l4 (loopIn 4 (bodyOf Try.f94)) (Pimpl_order_l4 @impl_order_l4) where
  zero R q kk := by unfold Pimpl_order_l4; cases (PkS.un Simpl_order_l4 q) <;> rfl
  succ n R q kk := by
    unfold Pimpl_order_l4
    cases h : (PkS.un Simpl_order_l4 q) with
    | none => rfl
    | some d =>
      obtain ⟨y4_0, y4_1, y4_2, y4_3, y4_4, y4_5, y4_6, u⟩ := (d : (List (Int × List Int)) × Int × (List (Int × List Int)) × Int × Int × (List Int) × (List Bool) × Unit)
      have hp := PkS.un_pack h
      subst hp
      exact (eimpl_order_l4 @slices_ContainsFunc_int_impl_order_c1 @impl_order_l4 n y4_0 y4_1 y4_2 y4_3 y4_4 y4_5 y4_6 kk).symm
theorem nlimpl_order_l4 : ∀ n, NatLP (Pimpl_order_l4 @impl_order_l4 n) := leimpl_order_l4.nat (fun n => mkK_nat (cimpl_order n)) fun n => mkL_nat (mkK_nat (cimpl_order n)) (l := []) trivial
theorem inimpl_order_l4 (n : Nat) (R : Type) : LoopsOk Try.prog (mkL (mkK [(120, Kslices_ContainsFunc_int_impl_order_c1 @slices_ContainsFunc_int_impl_order_c1 n)]) [] R) (loopIn 4 (bodyOf Try.f94)) := .eq (l := []) (by kernel_rfl) trivial
theorem lkimpl_order_l4 (n : Nat) (R : Type) (L0 : LK R) (h0 : ∀ id, firstRegion (loopIn 4 (bodyOf Try.f94)) = some id → L0 id = Dimpl_order_l4.oracle (mkK [(120, Kslices_ContainsFunc_int_impl_order_c1 @slices_ContainsFunc_int_impl_order_c1 n)] R) (Pimpl_order_l4 @impl_order_l4 n R)) : LoopOk Try.prog L0 (loopIn 4 (bodyOf Try.f94)) :=
  leimpl_order_l4.ok mixed ttok (fun n => mkK_nat (cimpl_order n)) (fun n => mkK_ok (cimpl_order n)) (fun n => inimpl_order_l4 n R) (mkK_nat (cimpl_order n)) h0
@[reducible] def Simpl_order_l2 : PkS := ⟨[.one (.ro (.pr (.int .i64) (.sl (.int .i64)))), .one (.whole (100000, 0)), .one (.box (100000, 2) 0), .one (.dead)], [((100000, 0), .arr (.int .i64)), ((100000, 1), .arr .bool), ((100000, 2), .box [.whole (100000, 1)])]⟩
@[reducible] def Timpl_order_l2_0 : PkS := ⟨[.one (.whole (100000, 0)), .one (.dead)], [((100000, 0), .arr (.int .i64))]⟩
def Dimpl_order_l2 : LoopD := ⟨43, [0, 3, 4], [.one (.ro (.pr (.int .i64) (.sl (.int .i64)))), .one (.own (.int .i64)), .box [(.own .bool)], .skip], fun x => match x with
  | .ret => some ([2], [.one (.own (.int .i64)), .skip])
  | _ => none⟩
def Pimpl_order_l2 (g : ∀ {R : Type}, Nat → (List (Int × List Int)) → (List Int) → (List Bool) → ((List Int) → Option R) → Option R) (n : Nat) : LPs := fun R q kk => match (PkS.un Simpl_order_l2 q : Option ((List (Int × List Int)) × (List Int) × (List Bool) × Unit)) with
  | some (y2_0, y2_1, y2_2, _) => g n y2_0 y2_1 y2_2 (fun r0 => kk .ret (PkS.pack Timpl_order_l2_0 (r0, ())))
  | none => none
theorem eimpl_order_l2 (slices_ContainsFunc_int_impl_order_c1 : ∀ {R : Type}, Nat → (List Int) → (List Bool) → (Bool → (List Bool) → Option R) → Option R) (impl_order_l4 : ∀ {R : Type}, Nat → (List (Int × List Int)) → Int → (List (Int × List Int)) → Int → Int → (List Int) → (List Bool) → ((List (Int × List Int)) → Int → (List Int) → (List Bool) → Option R) → Option R) (impl_order_l2 : ∀ {R : Type}, Nat → (List (Int × List Int)) → (List Int) → (List Bool) → ((List Int) → Option R) → Option R) {R : Type} (n : Nat) (y2_0 : List (Int × List Int)) (y2_1 : List Int) (y2_2 : List Bool) (kk : Ex → Pk → Option R) : Dimpl_order_l2.step tt sig (mkK [(120, Kslices_ContainsFunc_int_impl_order_c1 @slices_ContainsFunc_int_impl_order_c1 n)] R) (mkL (mkK [(120, Kslices_ContainsFunc_int_impl_order_c1 @slices_ContainsFunc_int_impl_order_c1 n)]) [(4, Dimpl_order_l4, Pimpl_order_l4 @impl_order_l4 n)] R) (loopIn 2 (bodyOf Try.f94)) (fun q' => Pimpl_order_l2 @impl_order_l2 n R q' kk) (PkS.pack Simpl_order_l2 (y2_0, y2_1, y2_2, ())) kk = (fun (kret : (List Int) → Option R) => (impl_order_l4 n y2_0 (-1) y2_0 (y2_0.length : Int) 0 y2_1 y2_2 (fun r3 r4 r5 r6 => (bif (decide (r4 < 0)) then kret r5 else (bif decide (0 ≤ r4) then (bif decide (r4 < (r6.length : Int)) then (bif decide (r5.length + [r4].length ≤ LIM) then impl_order_l2 n r3 (r5 ++ [r4]) (r6.set (Int.toNat r4) true) kret else none) else none) else none))))) (fun r0 => kk .ret (PkS.pack Timpl_order_l2_0 (r0, ()))) := by kernel_rfl
theorem leimpl_order_l2 : LoopEq tt sig (fun n => mkK [(120, Kslices_ContainsFunc_int_impl_order_c1 @slices_ContainsFunc_int_impl_order_c1 n)]) (fun n => mkL (mkK [(120, Kslices_ContainsFunc_int_impl_order_c1 @slices_ContainsFunc_int_impl_order_c1 n)]) [(4, Dimpl_order_l4, Pimpl_order_l4 @impl_order_l4 n)]) Dimpl_order_l2 Simpl_order_l2 (loopIn 2 (bodyOf Try.f94)) (Pimpl_order_l2 @impl_order_l2) where
  zero R q kk := by unfold Pimpl_order_l2; cases (PkS.un Simpl_order_l2 q) <;> rfl
  succ n R q kk := by
    unfold Pimpl_order_l2
    cases h : (PkS.un Simpl_order_l2 q) with
    | none => rfl
    | some d =>
      obtain ⟨y2_0, y2_1, y2_2, u⟩ := (d : (List (Int × List Int)) × (List Int) × (List Bool) × Unit)
      have hp := PkS.un_pack h
      subst hp
      exact (eimpl_order_l2 @slices_ContainsFunc_int_impl_order_c1 @impl_order_l4 @impl_order_l2 n y2_0 y2_1 y2_2 kk).symm
theorem nlimpl_order_l2 : ∀ n, NatLP (Pimpl_order_l2 @impl_order_l2 n) := leimpl_order_l2.nat (fun n => mkK_nat (cimpl_order n)) fun n => mkL_nat (mkK_nat (cimpl_order n)) (l := [(4, Dimpl_order_l4, Pimpl_order_l4 @impl_order_l4 n)]) ⟨nlimpl_order_l4 n, trivial⟩
theorem inimpl_order_l2 (n : Nat) (R : Type) : LoopsOk Try.prog (mkL (mkK [(120, Kslices_ContainsFunc_int_impl_order_c1 @slices_ContainsFunc_int_impl_order_c1 n)]) [(4, Dimpl_order_l4, Pimpl_order_l4 @impl_order_l4 n)] R) (loopIn 2 (bodyOf Try.f94)) := .eq (l := [.lo (loopIn 4 (bodyOf Try.f94))]) (by kernel_rfl) ⟨(lkimpl_order_l4 n R _ (at_id (i := 4) (by kernel_rfl) rfl)), trivial⟩
theorem lkimpl_order_l2 (n : Nat) (R : Type) (L0 : LK R) (h0 : ∀ id, firstRegion (loopIn 2 (bodyOf Try.f94)) = some id → L0 id = Dimpl_order_l2.oracle (mkK [(120, Kslices_ContainsFunc_int_impl_order_c1 @slices_ContainsFunc_int_impl_order_c1 n)] R) (Pimpl_order_l2 @impl_order_l2 n R)) : LoopOk Try.prog L0 (loopIn 2 (bodyOf Try.f94)) :=
  leimpl_order_l2.ok mixed ttok (fun n => mkK_nat (cimpl_order n)) (fun n => mkK_ok (cimpl_order n)) (fun n => inimpl_order_l2 n R) (mkK_nat (cimpl_order n)) h0
@[reducible] def Simpl_order : PkS := ⟨[.one (.ro (.pr (.int .i64) (.sl (.int .i64))))], []⟩
@[reducible] def Timpl_order : PkS := ⟨[.one (.whole (300000, 0)), .one (.dead)], [((300000, 0), .arr (.int .i64))]⟩
def Himpl_order : List Sh := [.one (.own (.int .i64)), .skip]
def Kimpl_order (g : ∀ {R : Type}, Nat → (List (Int × List Int)) → ((List Int) → Option R) → Option R) (n : Nat) : KPs := fun R p k => match (PkS.un Simpl_order p : Option ((List (Int × List Int)) × Unit)) with
  | some (x0, _) => g n x0 (fun r0 => k (PkS.pack Timpl_order (r0, ())))
  | none => none
theorem eimpl_order (slices_ContainsFunc_int_impl_order_c1 : ∀ {R : Type}, Nat → (List Int) → (List Bool) → (Bool → (List Bool) → Option R) → Option R) (impl_order_l4 : ∀ {R : Type}, Nat → (List (Int × List Int)) → Int → (List (Int × List Int)) → Int → Int → (List Int) → (List Bool) → ((List (Int × List Int)) → Int → (List Int) → (List Bool) → Option R) → Option R) (impl_order_l2 : ∀ {R : Type}, Nat → (List (Int × List Int)) → (List Int) → (List Bool) → ((List Int) → Option R) → Option R) {R : Type} (n : Nat) (x0 : List (Int × List Int)) (k : Pk → Option R) : evF tt sig (mkK [(120, Kslices_ContainsFunc_int_impl_order_c1 @slices_ContainsFunc_int_impl_order_c1 n)] R) (mkL (mkK [(120, Kslices_ContainsFunc_int_impl_order_c1 @slices_ContainsFunc_int_impl_order_c1 n)]) [(4, Dimpl_order_l4, Pimpl_order_l4 @impl_order_l4 n), (2, Dimpl_order_l2, Pimpl_order_l2 @impl_order_l2 n)] R) Try.f94 Himpl_order (PkS.pack Simpl_order (x0, ())) k = (fun (k : (List Int) → Option R) => (bif decide (0 ≤ (x0.length : Int)) then (bif decide ((x0.length : Int) ≤ (x0.length : Int)) then (bif decide ((x0.length : Int) ≤ 1099511627776) then (impl_order_l2 n x0 ([] : List Int) (List.replicate (Int.toNat (x0.length : Int)) false) (fun r7 => k r7)) else none) else none) else none)) (fun r0 => k (PkS.pack Timpl_order (r0, ()))) := by kernel_rfl
theorem okimpl_order (n : Nat) : FnOk Try.prog 94 (Kimpl_order @impl_order n) := by
  refine fn_ok (sig := sig) mixed ttok (mkK_nat (cimpl_order n)) (mkK_ok (cimpl_order n)) (mkL_nat (mkK_nat (cimpl_order n)) (l := [(4, Dimpl_order_l4, Pimpl_order_l4 @impl_order_l4 n), (2, Dimpl_order_l2, Pimpl_order_l2 @impl_order_l2 n)]) ⟨nlimpl_order_l4 n, ⟨nlimpl_order_l2 n, trivial⟩⟩) (fn := Try.f94) (c := bodyOf Try.f94) (by kernel_rfl) (by kernel_rfl) (by kernel_rfl) (.eq (l := [.lo (loopIn 2 (bodyOf Try.f94))]) (by kernel_rfl) ⟨(lkimpl_order_l2 n _ _ (at_id (i := 2) (by kernel_rfl) rfl)), trivial⟩) (shs := Himpl_order) (S := Simpl_order) (h1 := by kernel_rfl) fun R p k => ?_
  unfold Kimpl_order
  cases h : (PkS.un Simpl_order p) with
  | none => rfl
  | some d =>
    obtain ⟨x0, u⟩ := (d : (List (Int × List Int)) × Unit)
    have hp := PkS.un_pack h
    subst hp
    exact (eimpl_order @slices_ContainsFunc_int_impl_order_c1 @impl_order_l4 @impl_order_l2 n x0 k).symm

/-! ### loop.example/g00269/impl.GoodPlan -/
theorem cimpl_GoodPlan (n : Nat) : AllOk Try.prog [(80, Kimpl_in @impl_in n), (106, Kimpl_rising @impl_rising n), (103, Kslices_Contains_int @slices_Contains_int n), (94, Kimpl_order @impl_order n)] := ⟨okimpl_in n, ⟨okimpl_rising n, ⟨okslices_Contains_int n, ⟨okimpl_order n, trivial⟩⟩⟩⟩
@[reducible] def Simpl_GoodPlan_l4 : PkS := ⟨[.one (.ro (.pr (.int .i64) (.sl (.int .i64)))), .one (.ro (.pr (.int .i64) (.sl (.int .i64)))), .one (.int .i64), .one (.int .i64), .one (.dead)], []⟩
@[reducible] def Timpl_GoodPlan_l4_0 : PkS := ⟨[.one (.bool), .one (.dead)], []⟩
@[reducible] def Timpl_GoodPlan_l4_1 : PkS := ⟨[.one (.ro (.pr (.int .i64) (.sl (.int .i64)))), .one (.dead)], []⟩
def Dimpl_GoodPlan_l4 : LoopD := ⟨40, [0, 8, 9, 10], [.one (.ro (.pr (.int .i64) (.sl (.int .i64)))), .one (.ro (.pr (.int .i64) (.sl (.int .i64)))), .one .any, .one .any, .skip], fun x => match x with
  | .ret => some ([2], [.one .any, .skip])
  | .exit 0 => some ([0], [.one (.ro (.pr (.int .i64) (.sl (.int .i64)))), .skip])
  | _ => none⟩
def Pimpl_GoodPlan_l4 (g : ∀ {R : Type}, Nat → (List (Int × List Int)) → (List (Int × List Int)) → Int → Int → (Bool → Option R) → ((List (Int × List Int)) → Option R) → Option R) (n : Nat) : LPs := fun R q kk => match (PkS.un Simpl_GoodPlan_l4 q : Option ((List (Int × List Int)) × (List (Int × List Int)) × Int × Int × Unit)) with
  | some (y4_0, y4_1, y4_2, y4_3, _) => g n y4_0 y4_1 y4_2 y4_3 (fun r0 => kk .ret (PkS.pack Timpl_GoodPlan_l4_0 (r0, ()))) (fun r0 => kk (.exit 0) (PkS.pack Timpl_GoodPlan_l4_1 (r0, ())))
  | none => none
theorem eimpl_GoodPlan_l4 (impl_in : ∀ {R : Type}, Nat → Int → Int → Int → (Bool → Option R) → Option R) (impl_rising : ∀ {R : Type}, Nat → (List Int) → Int → (Bool → Option R) → Option R) (slices_Contains_int : ∀ {R : Type}, Nat → (List Int) → Int → (Bool → Option R) → Option R) (impl_order : ∀ {R : Type}, Nat → (List (Int × List Int)) → ((List Int) → Option R) → Option R) (impl_GoodPlan_l4 : ∀ {R : Type}, Nat → (List (Int × List Int)) → (List (Int × List Int)) → Int → Int → (Bool → Option R) → ((List (Int × List Int)) → Option R) → Option R) {R : Type} (n : Nat) (y4_0 : List (Int × List Int)) (y4_1 : List (Int × List Int)) (y4_2 : Int) (y4_3 : Int) (kk : Ex → Pk → Option R) : Dimpl_GoodPlan_l4.step tt sig (mkK [(80, Kimpl_in @impl_in n), (106, Kimpl_rising @impl_rising n), (103, Kslices_Contains_int @slices_Contains_int n), (94, Kimpl_order @impl_order n)] R) (mkL (mkK [(80, Kimpl_in @impl_in n), (106, Kimpl_rising @impl_rising n), (103, Kslices_Contains_int @slices_Contains_int n), (94, Kimpl_order @impl_order n)]) [] R) (loopIn 4 (bodyOf Try.f49)) (fun q' => Pimpl_GoodPlan_l4 @impl_GoodPlan_l4 n R q' kk) (PkS.pack Simpl_GoodPlan_l4 (y4_0, y4_1, y4_2, y4_3, ())) kk = (fun (kret : Bool → Option R) (kexit0 : (List (Int × List Int)) → Option R) => (bif (decide (y4_3 < y4_2)) then (bif decide (0 ≤ y4_3) then (bif decide (y4_3 < (y4_1.length : Int)) then (impl_in n ((y4_1.getD (Int.toNat y4_3) (0, [])).1) 1 100 fun r1 => (bif (!r1) then kret false else (impl_rising n ((y4_1.getD (Int.toNat y4_3) (0, [])).2) (y4_0.length : Int) fun r2 => (bif (!r2) then kret false else (slices_Contains_int n ((y4_1.getD (Int.toNat y4_3) (0, [])).2) y4_3 fun r3 => (bif r3 then kret false else impl_GoodPlan_l4 n y4_0 y4_1 y4_2 (IntKind.wrap .i64 (y4_3 + 1)) kret kexit0)))))) else none) else none) else kexit0 y4_0)) (fun r0 => kk .ret (PkS.pack Timpl_GoodPlan_l4_0 (r0, ()))) (fun r0 => kk (.exit 0) (PkS.pack Timpl_GoodPlan_l4_1 (r0, ()))) := by kernel_rfl
theorem leimpl_GoodPlan_l4 : LoopEq tt sig (fun n => mkK [(80, Kimpl_in @impl_in n), (106, Kimpl_rising @impl_rising n), (103, Kslices_Contains_int @slices_Contains_int n), (94, Kimpl_order @impl_order n)]) (fun n => mkL (mkK [(80, Kimpl_in @impl_in n), (106, Kimpl_rising @impl_rising n), (103, Kslices_Contains_int @slices_Contains_int n), (94, Kimpl_order @impl_order n)]) []) Dimpl_GoodPlan_l4 Simpl_GoodPlan_l4 (loopIn 4 (bodyOf Try.f49)) (Pimpl_GoodPlan_l4 @impl_GoodPlan_l4) where
  zero R q kk := by unfold Pimpl_GoodPlan_l4; cases (PkS.un Simpl_GoodPlan_l4 q) <;> rfl
  succ n R q kk := by
    unfold Pimpl_GoodPlan_l4
    cases h : (PkS.un Simpl_GoodPlan_l4 q) with
    | none => rfl
    | some d =>
      obtain ⟨y4_0, y4_1, y4_2, y4_3, u⟩ := (d : (List (Int × List Int)) × (List (Int × List Int)) × Int × Int × Unit)
      have hp := PkS.un_pack h
      subst hp
      exact (eimpl_GoodPlan_l4 @impl_in @impl_rising @slices_Contains_int @impl_order @impl_GoodPlan_l4 n y4_0 y4_1 y4_2 y4_3 kk).symm
theorem nlimpl_GoodPlan_l4 : ∀ n, NatLP (Pimpl_GoodPlan_l4 @impl_GoodPlan_l4 n) := leimpl_GoodPlan_l4.nat (fun n => mkK_nat (cimpl_GoodPlan n)) fun n => mkL_nat (mkK_nat (cimpl_GoodPlan n)) (l := []) trivial
theorem inimpl_GoodPlan_l4 (n : Nat) (R : Type) : LoopsOk Try.prog (mkL (mkK [(80, Kimpl_in @impl_in n), (106, Kimpl_rising @impl_rising n), (103, Kslices_Contains_int @slices_Contains_int n), (94, Kimpl_order @impl_order n)]) [] R) (loopIn 4 (bodyOf Try.f49)) := .eq (l := []) (by kernel_rfl) trivial
theorem lkimpl_GoodPlan_l4 (n : Nat) (R : Type) (L0 : LK R) (h0 : ∀ id, firstRegion (loopIn 4 (bodyOf Try.f49)) = some id → L0 id = Dimpl_GoodPlan_l4.oracle (mkK [(80, Kimpl_in @impl_in n), (106, Kimpl_rising @impl_rising n), (103, Kslices_Contains_int @slices_Contains_int n), (94, Kimpl_order @impl_order n)] R) (Pimpl_GoodPlan_l4 @impl_GoodPlan_l4 n R)) : LoopOk Try.prog L0 (loopIn 4 (bodyOf Try.f49)) :=
  leimpl_GoodPlan_l4.ok mixed ttok (fun n => mkK_nat (cimpl_GoodPlan n)) (fun n => mkK_ok (cimpl_GoodPlan n)) (fun n => inimpl_GoodPlan_l4 n R) (mkK_nat (cimpl_GoodPlan n)) h0
@[reducible] def Simpl_GoodPlan : PkS := ⟨[.one (.ro (.pr (.int .i64) (.sl (.int .i64))))], []⟩
@[reducible] def Timpl_GoodPlan : PkS := ⟨[.one (.bool), .one (.dead)], []⟩
def Himpl_GoodPlan : List Sh := [.one .any, .skip]
def Kimpl_GoodPlan (g : ∀ {R : Type}, Nat → (List (Int × List Int)) → (Bool → Option R) → Option R) (n : Nat) : KPs := fun R p k => match (PkS.un Simpl_GoodPlan p : Option ((List (Int × List Int)) × Unit)) with
  | some (x0, _) => g n x0 (fun r0 => k (PkS.pack Timpl_GoodPlan (r0, ())))
  | none => none
theorem eimpl_GoodPlan (impl_in : ∀ {R : Type}, Nat → Int → Int → Int → (Bool → Option R) → Option R) (impl_rising : ∀ {R : Type}, Nat → (List Int) → Int → (Bool → Option R) → Option R) (slices_Contains_int : ∀ {R : Type}, Nat → (List Int) → Int → (Bool → Option R) → Option R) (impl_order : ∀ {R : Type}, Nat → (List (Int × List Int)) → ((List Int) → Option R) → Option R) (impl_GoodPlan_l4 : ∀ {R : Type}, Nat → (List (Int × List Int)) → (List (Int × List Int)) → Int → Int → (Bool → Option R) → ((List (Int × List Int)) → Option R) → Option R) {R : Type} (n : Nat) (x0 : List (Int × List Int)) (k : Pk → Option R) : evF tt sig (mkK [(80, Kimpl_in @impl_in n), (106, Kimpl_rising @impl_rising n), (103, Kslices_Contains_int @slices_Contains_int n), (94, Kimpl_order @impl_order n)] R) (mkL (mkK [(80, Kimpl_in @impl_in n), (106, Kimpl_rising @impl_rising n), (103, Kslices_Contains_int @slices_Contains_int n), (94, Kimpl_order @impl_order n)]) [(4, Dimpl_GoodPlan_l4, Pimpl_GoodPlan_l4 @impl_GoodPlan_l4 n)] R) Try.f49 Himpl_GoodPlan (PkS.pack Simpl_GoodPlan (x0, ())) k = (fun (k : Bool → Option R) => (bif (decide ((x0.length : Int) > 30)) then k false else (impl_GoodPlan_l4 n x0 x0 (x0.length : Int) 0 (fun r4 => k r4) (fun r5 => (impl_order n r5 fun r6 => k ((r6.length : Int) == (r5.length : Int))))))) (fun r0 => k (PkS.pack Timpl_GoodPlan (r0, ()))) := by kernel_rfl
theorem okimpl_GoodPlan (n : Nat) : FnOk Try.prog 49 (Kimpl_GoodPlan @impl_GoodPlan n) := by
  refine fn_ok (sig := sig) mixed ttok (mkK_nat (cimpl_GoodPlan n)) (mkK_ok (cimpl_GoodPlan n)) (mkL_nat (mkK_nat (cimpl_GoodPlan n)) (l := [(4, Dimpl_GoodPlan_l4, Pimpl_GoodPlan_l4 @impl_GoodPlan_l4 n)]) ⟨nlimpl_GoodPlan_l4 n, trivial⟩) (fn := Try.f49) (c := bodyOf Try.f49) (by kernel_rfl) (by kernel_rfl) (by kernel_rfl) (.eq (l := [.lo (loopIn 4 (bodyOf Try.f49))]) (by kernel_rfl) ⟨(lkimpl_GoodPlan_l4 n _ _ (at_id (i := 4) (by kernel_rfl) rfl)), trivial⟩) (shs := Himpl_GoodPlan) (S := Simpl_GoodPlan) (h1 := by kernel_rfl) fun R p k => ?_
  unfold Kimpl_GoodPlan
  cases h : (PkS.un Simpl_GoodPlan p) with
  | none => rfl
  | some d =>
    obtain ⟨x0, u⟩ := (d : (List (Int × List Int)) × Unit)
    have hp := PkS.un_pack h
    subst hp
    exact (eimpl_GoodPlan @impl_in @impl_rising @slices_Contains_int @impl_order @impl_GoodPlan_l4 n x0 k).symm

/-! ### loop.example/g00269/impl.earliest -/
theorem cimpl_earliest (n : Nat) : AllOk Try.prog [(94, Kimpl_order @impl_order n)] := ⟨okimpl_order n, trivial⟩
@[reducible] def Simpl_earliest_l6 : PkS := ⟨[.one (.ro (.pr (.int .i64) (.sl (.int .i64)))), .one (.whole (100000, 0)), .one (.int .i64), .one (.int .i64), .one (.whole (100000, 1)), .one (.int .i64), .one (.int .i64), .one (.ro (.int .i64)), .one (.int .i64), .one (.int .i64), .one (.dead)], [((100000, 0), .arr (.int .i64)), ((100000, 1), .arr (.int .i64))]⟩
@[reducible] def Timpl_earliest_l6_0 : PkS := ⟨[.one (.ro (.pr (.int .i64) (.sl (.int .i64)))), .one (.whole (100000, 0)), .one (.int .i64), .one (.int .i64), .one (.whole (100000, 1)), .one (.int .i64), .one (.int .i64), .one (.dead)], [((100000, 0), .arr (.int .i64)), ((100000, 1), .arr (.int .i64))]⟩
def Dimpl_earliest_l6 : LoopD := ⟨64, [0, 4, 5, 7, 14, 15, 16, 24, 25, 26], [.one (.ro (.pr (.int .i64) (.sl (.int .i64)))), .one (.own (.int .i64)), .one .any, .one .any, .one (.own (.int .i64)), .one .any, .one .any, .one (.ro (.int .i64)), .one .any, .one .any, .skip], fun x => match x with
  | .exit 2 => some ([0, 4, 5, 7, 14, 15, 16], [.one (.ro (.pr (.int .i64) (.sl (.int .i64)))), .one (.own (.int .i64)), .one .any, .one .any, .one (.own (.int .i64)), .one .any, .one .any, .skip])
  | _ => none⟩
def Pimpl_earliest_l6 (g : ∀ {R : Type}, Nat → (List (Int × List Int)) → Int → Int → Int → Int → (List Int) → Int → Int → (List Int) → (List Int) → ((List (Int × List Int)) → Int → Int → Int → Int → (List Int) → (List Int) → Option R) → Option R) (n : Nat) : LPs := fun R q kk => match (PkS.un Simpl_earliest_l6 q : Option ((List (Int × List Int)) × Int × Int × Int × Int × (List Int) × Int × Int × (List Int) × (List Int) × Unit)) with
  | some (y6_0, y6_1, y6_2, y6_3, y6_4, y6_5, y6_6, y6_7, y6_8, y6_9, _) => g n y6_0 y6_1 y6_2 y6_3 y6_4 y6_5 y6_6 y6_7 y6_8 y6_9 (fun r0 r1 r2 r3 r4 r5 r6 => kk (.exit 2) (PkS.pack Timpl_earliest_l6_0 (r0, r1, r2, r3, r4, r5, r6, ())))
  | none => none
theorem eimpl_earliest_l6 (impl_order : ∀ {R : Type}, Nat → (List (Int × List Int)) → ((List Int) → Option R) → Option R) (impl_earliest_l6 : ∀ {R : Type}, Nat → (List (Int × List Int)) → Int → Int → Int → Int → (List Int) → Int → Int → (List Int) → (List Int) → ((List (Int × List Int)) → Int → Int → Int → Int → (List Int) → (List Int) → Option R) → Option R) {R : Type} (n : Nat) (y6_0 : List (Int × List Int)) (y6_1 : Int) (y6_2 : Int) (y6_3 : Int) (y6_4 : Int) (y6_5 : List Int) (y6_6 : Int) (y6_7 : Int) (y6_8 : List Int) (y6_9 : List Int) (kk : Ex → Pk → Option R) : Dimpl_earliest_l6.step tt sig (mkK [(94, Kimpl_order @impl_order n)] R) (mkL (mkK [(94, Kimpl_order @impl_order n)]) [] R) (loopIn 6 (bodyOf Try.f100)) (fun q' => Pimpl_earliest_l6 @impl_earliest_l6 n R q' kk) (PkS.pack Simpl_earliest_l6 (y6_0, y6_1, y6_2, y6_3, y6_4, y6_5, y6_6, y6_7, y6_8, y6_9, ())) kk = (fun (kexit2 : (List (Int × List Int)) → Int → Int → Int → Int → (List Int) → (List Int) → Option R) => (bif (decide (y6_7 < y6_6)) then (bif decide (0 ≤ y6_7) then (bif decide (y6_7 < (y6_5.length : Int)) then (bif decide (0 ≤ y6_2) then (bif decide (y6_2 < (y6_8.length : Int)) then (bif decide (0 ≤ (y6_5.getD (Int.toNat y6_7) 0)) then (bif decide ((y6_5.getD (Int.toNat y6_7) 0) < (y6_8.length : Int)) then (bif decide (0 ≤ (y6_5.getD (Int.toNat y6_7) 0)) then (bif decide ((y6_5.getD (Int.toNat y6_7) 0) < (y6_0.length : Int)) then (bif decide (0 ≤ y6_2) then (bif decide (y6_2 < (y6_8.length : Int)) then impl_earliest_l6 n y6_0 y6_1 y6_2 y6_3 y6_4 y6_5 y6_6 (IntKind.wrap .i64 (y6_7 + 1)) (y6_8.set (Int.toNat y6_2) (if (IntKind.wrap .i64 ((y6_8.getD (Int.toNat (y6_5.getD (Int.toNat y6_7) 0)) 0) + ((y6_0.getD (Int.toNat (y6_5.getD (Int.toNat y6_7) 0)) (0, [])).1))) > (y6_8.getD (Int.toNat y6_2) 0) then (IntKind.wrap .i64 ((y6_8.getD (Int.toNat (y6_5.getD (Int.toNat y6_7) 0)) 0) + ((y6_0.getD (Int.toNat (y6_5.getD (Int.toNat y6_7) 0)) (0, [])).1))) else (y6_8.getD (Int.toNat y6_2) 0))) y6_9 kexit2 else none) else none) else none) else none) else none) else none) else none) else none) else none) else none) else kexit2 y6_0 y6_1 y6_2 y6_3 y6_4 y6_8 y6_9)) (fun r0 r1 r2 r3 r4 r5 r6 => kk (.exit 2) (PkS.pack Timpl_earliest_l6_0 (r0, r1, r2, r3, r4, r5, r6, ()))) := by kernel_rfl
theorem leimpl_earliest_l6 : LoopEq tt sig (fun n => mkK [(94, Kimpl_order @impl_order n)]) (fun n => mkL (mkK [(94, Kimpl_order @impl_order n)]) []) Dimpl_earliest_l6 Simpl_earliest_l6 (loopIn 6 (bodyOf Try.f100)) (Pimpl_earliest_l6 @impl_earliest_l6) where
  zero R q kk := by unfold Pimpl_earliest_l6; cases (PkS.un Simpl_earliest_l6 q) <;> rfl
  succ n R q kk := by
    unfold Pimpl_earliest_l6
    cases h : (PkS.un Simpl_earliest_l6 q) with
    | none => rfl
    | some d =>
      obtain ⟨y6_0, y6_1, y6_2, y6_3, y6_4, y6_5, y6_6, y6_7, y6_8, y6_9, u⟩ := (d : (List (Int × List Int)) × Int × Int × Int × Int × (List Int) × Int × Int × (List Int) × (List Int) × Unit)
      have hp := PkS.un_pack h
      subst hp
      exact (eimpl_earliest_l6 @impl_order @impl_earliest_l6 n y6_0 y6_1 y6_2 y6_3 y6_4 y6_5 y6_6 y6_7 y6_8 y6_9 kk).symm
theorem nlimpl_earliest_l6 : ∀ n, NatLP (Pimpl_earliest_l6 @impl_earliest_l6 n) := leimpl_earliest_l6.nat (fun n => mkK_nat (cimpl_earliest n)) fun n => mkL_nat (mkK_nat (cimpl_earliest n)) (l := []) trivial
theorem inimpl_earliest_l6 (n : Nat) (R : Type) : LoopsOk Try.prog (mkL (mkK [(94, Kimpl_order @impl_order n)]) [] R) (loopIn 6 (bodyOf Try.f100)) := .eq (l := []) (by kernel_rfl) trivial
theorem lkimpl_earliest_l6 (n : Nat) (R : Type) (L0 : LK R) (h0 : ∀ id, firstRegion (loopIn 6 (bodyOf Try.f100)) = some id → L0 id = Dimpl_earliest_l6.oracle (mkK [(94, Kimpl_order @impl_order n)] R) (Pimpl_earliest_l6 @impl_earliest_l6 n R)) : LoopOk Try.prog L0 (loopIn 6 (bodyOf Try.f100)) :=
  leimpl_earliest_l6.ok mixed ttok (fun n => mkK_nat (cimpl_earliest n)) (fun n => mkK_ok (cimpl_earliest n)) (fun n => inimpl_earliest_l6 n R) (mkK_nat (cimpl_earliest n)) h0
@[reducible] def Simpl_earliest_l3 : PkS := ⟨[.one (.ro (.pr (.int .i64) (.sl (.int .i64)))), .one (.whole (100000, 0)), .one (.int .i64), .one (.whole (100000, 1)), .one (.int .i64), .one (.int .i64), .one (.dead)], [((100000, 0), .arr (.int .i64)), ((100000, 1), .arr (.int .i64))]⟩
@[reducible] def Timpl_earliest_l3_0 : PkS := ⟨[.one (.whole (100000, 0)), .one (.int .i64), .one (.dead)], [((100000, 0), .arr (.int .i64))]⟩
def Dimpl_earliest_l3 : LoopD := ⟨64, [0, 4, 5, 14, 15, 16], [.one (.ro (.pr (.int .i64) (.sl (.int .i64)))), .one (.own (.int .i64)), .one .any, .one (.own (.int .i64)), .one .any, .one .any, .skip], fun x => match x with
  | .exit 0 => some ([4, 5], [.one (.own (.int .i64)), .one .any, .skip])
  | _ => none⟩
def Pimpl_earliest_l3 (g : ∀ {R : Type}, Nat → (List (Int × List Int)) → Int → Int → Int → (List Int) → (List Int) → (Int → (List Int) → Option R) → Option R) (n : Nat) : LPs := fun R q kk => match (PkS.un Simpl_earliest_l3 q : Option ((List (Int × List Int)) × Int × Int × Int × (List Int) × (List Int) × Unit)) with
  | some (y3_0, y3_1, y3_2, y3_3, y3_4, y3_5, _) => g n y3_0 y3_1 y3_2 y3_3 y3_4 y3_5 (fun r0 r1 => kk (.exit 0) (PkS.pack Timpl_earliest_l3_0 (r0, r1, ())))
  | none => none
theorem eimpl_earliest_l3 (impl_order : ∀ {R : Type}, Nat → (List (Int × List Int)) → ((List Int) → Option R) → Option R) (impl_earliest_l6 : ∀ {R : Type}, Nat → (List (Int × List Int)) → Int → Int → Int → Int → (List Int) → Int → Int → (List Int) → (List Int) → ((List (Int × List Int)) → Int → Int → Int → Int → (List Int) → (List Int) → Option R) → Option R) (impl_earliest_l3 : ∀ {R : Type}, Nat → (List (Int × List Int)) → Int → Int → Int → (List Int) → (List Int) → (Int → (List Int) → Option R) → Option R) {R : Type} (n : Nat) (y3_0 : List (Int × List Int)) (y3_1 : Int) (y3_2 : Int) (y3_3 : Int) (y3_4 : List Int) (y3_5 : List Int) (kk : Ex → Pk → Option R) : Dimpl_earliest_l3.step tt sig (mkK [(94, Kimpl_order @impl_order n)] R) (mkL (mkK [(94, Kimpl_order @impl_order n)]) [(6, Dimpl_earliest_l6, Pimpl_earliest_l6 @impl_earliest_l6 n)] R) (loopIn 3 (bodyOf Try.f100)) (fun q' => Pimpl_earliest_l3 @impl_earliest_l3 n R q' kk) (PkS.pack Simpl_earliest_l3 (y3_0, y3_1, y3_2, y3_3, y3_4, y3_5, ())) kk = (fun (kexit0 : Int → (List Int) → Option R) => (bif (decide (y3_3 < y3_2)) then (bif decide (0 ≤ y3_3) then (bif decide (y3_3 < (y3_5.length : Int)) then (bif decide (0 ≤ (y3_5.getD (Int.toNat y3_3) 0)) then (bif decide ((y3_5.getD (Int.toNat y3_3) 0) < (y3_0.length : Int)) then (impl_earliest_l6 n y3_0 y3_1 (y3_5.getD (Int.toNat y3_3) 0) y3_2 y3_3 ((y3_0.getD (Int.toNat (y3_5.getD (Int.toNat y3_3) 0)) (0, [])).2) (((y3_0.getD (Int.toNat (y3_5.getD (Int.toNat y3_3) 0)) (0, [])).2).length : Int) 0 y3_4 y3_5 (fun r2 r3 r4 r5 r6 r7 r8 => (bif decide (0 ≤ r4) then (bif decide (r4 < (r7.length : Int)) then (bif decide (0 ≤ r4) then (bif decide (r4 < (r2.length : Int)) then impl_earliest_l3 n r2 (if (IntKind.wrap .i64 ((r7.getD (Int.toNat r4) 0) + ((r2.getD (Int.toNat r4) (0, [])).1))) > r3 then (IntKind.wrap .i64 ((r7.getD (Int.toNat r4) 0) + ((r2.getD (Int.toNat r4) (0, [])).1))) else r3) r5 (IntKind.wrap .i64 (r6 + 1)) r7 r8 kexit0 else none) else none) else none) else none))) else none) else none) else none) else none) else kexit0 y3_1 y3_4)) (fun r0 r1 => kk (.exit 0) (PkS.pack Timpl_earliest_l3_0 (r0, r1, ()))) := by kernel_rfl
theorem leimpl_earliest_l3 : LoopEq tt sig (fun n => mkK [(94, Kimpl_order @impl_order n)]) (fun n => mkL (mkK [(94, Kimpl_order @impl_order n)]) [(6, Dimpl_earliest_l6, Pimpl_earliest_l6 @impl_earliest_l6 n)]) Dimpl_earliest_l3 Simpl_earliest_l3 (loopIn 3 (bodyOf Try.f100)) (Pimpl_earliest_l3 @impl_earliest_l3) where
  zero R q kk := by unfold Pimpl_earliest_l3; cases (PkS.un Simpl_earliest_l3 q) <;> rfl
  succ n R q kk := by
    unfold Pimpl_earliest_l3
    cases h : (PkS.un Simpl_earliest_l3 q) with
    | none => rfl
    | some d =>
      obtain ⟨y3_0, y3_1, y3_2, y3_3, y3_4, y3_5, u⟩ := (d : (List (Int × List Int)) × Int × Int × Int × (List Int) × (List Int) × Unit)
      have hp := PkS.un_pack h
      subst hp
      exact (eimpl_earliest_l3 @impl_order @impl_earliest_l6 @impl_earliest_l3 n y3_0 y3_1 y3_2 y3_3 y3_4 y3_5 kk).symm
theorem nlimpl_earliest_l3 : ∀ n, NatLP (Pimpl_earliest_l3 @impl_earliest_l3 n) := leimpl_earliest_l3.nat (fun n => mkK_nat (cimpl_earliest n)) fun n => mkL_nat (mkK_nat (cimpl_earliest n)) (l := [(6, Dimpl_earliest_l6, Pimpl_earliest_l6 @impl_earliest_l6 n)]) ⟨nlimpl_earliest_l6 n, trivial⟩
theorem inimpl_earliest_l3 (n : Nat) (R : Type) : LoopsOk Try.prog (mkL (mkK [(94, Kimpl_order @impl_order n)]) [(6, Dimpl_earliest_l6, Pimpl_earliest_l6 @impl_earliest_l6 n)] R) (loopIn 3 (bodyOf Try.f100)) := .eq (l := [.lo (loopIn 6 (bodyOf Try.f100))]) (by kernel_rfl) ⟨(lkimpl_earliest_l6 n R _ (at_id (i := 6) (by kernel_rfl) rfl)), trivial⟩
theorem lkimpl_earliest_l3 (n : Nat) (R : Type) (L0 : LK R) (h0 : ∀ id, firstRegion (loopIn 3 (bodyOf Try.f100)) = some id → L0 id = Dimpl_earliest_l3.oracle (mkK [(94, Kimpl_order @impl_order n)] R) (Pimpl_earliest_l3 @impl_earliest_l3 n R)) : LoopOk Try.prog L0 (loopIn 3 (bodyOf Try.f100)) :=
  leimpl_earliest_l3.ok mixed ttok (fun n => mkK_nat (cimpl_earliest n)) (fun n => mkK_ok (cimpl_earliest n)) (fun n => inimpl_earliest_l3 n R) (mkK_nat (cimpl_earliest n)) h0
@[reducible] def Simpl_earliest : PkS := ⟨[.one (.ro (.pr (.int .i64) (.sl (.int .i64))))], []⟩
@[reducible] def Timpl_earliest : PkS := ⟨[.tup [(false, [.whole (300000, 0)]), (false, [.int .i64])], .one (.dead)], [((300000, 0), .arr (.int .i64))]⟩
def Himpl_earliest : List Sh := [.tup [(false, [(.own (.int .i64))]), (false, [.any])], .skip]
def Kimpl_earliest (g : ∀ {R : Type}, Nat → (List (Int × List Int)) → (Int → (List Int) → Option R) → Option R) (n : Nat) : KPs := fun R p k => match (PkS.un Simpl_earliest p : Option ((List (Int × List Int)) × Unit)) with
  | some (x0, _) => g n x0 (fun r0 r1 => k (PkS.pack Timpl_earliest (r0, r1, ())))
  | none => none
theorem eimpl_earliest (impl_order : ∀ {R : Type}, Nat → (List (Int × List Int)) → ((List Int) → Option R) → Option R) (impl_earliest_l6 : ∀ {R : Type}, Nat → (List (Int × List Int)) → Int → Int → Int → Int → (List Int) → Int → Int → (List Int) → (List Int) → ((List (Int × List Int)) → Int → Int → Int → Int → (List Int) → (List Int) → Option R) → Option R) (impl_earliest_l3 : ∀ {R : Type}, Nat → (List (Int × List Int)) → Int → Int → Int → (List Int) → (List Int) → (Int → (List Int) → Option R) → Option R) {R : Type} (n : Nat) (x0 : List (Int × List Int)) (k : Pk → Option R) : evF tt sig (mkK [(94, Kimpl_order @impl_order n)] R) (mkL (mkK [(94, Kimpl_order @impl_order n)]) [(6, Dimpl_earliest_l6, Pimpl_earliest_l6 @impl_earliest_l6 n), (3, Dimpl_earliest_l3, Pimpl_earliest_l3 @impl_earliest_l3 n)] R) Try.f100 Himpl_earliest (PkS.pack Simpl_earliest (x0, ())) k = (fun (k : Int → (List Int) → Option R) => (bif decide (0 ≤ (x0.length : Int)) then (bif decide ((x0.length : Int) ≤ (x0.length : Int)) then (bif decide ((x0.length : Int) ≤ 1099511627776) then (impl_order n x0 fun r1 => (impl_earliest_l3 n x0 0 (r1.length : Int) 0 (List.replicate (Int.toNat (x0.length : Int)) (0 : Int)) r1 (fun r9 r10 => k r9 r10))) else none) else none) else none)) (fun r0 r1 => k (PkS.pack Timpl_earliest (r0, r1, ()))) := by kernel_rfl
theorem okimpl_earliest (n : Nat) : FnOk Try.prog 100 (Kimpl_earliest @impl_earliest n) := by
  refine fn_ok (sig := sig) mixed ttok (mkK_nat (cimpl_earliest n)) (mkK_ok (cimpl_earliest n)) (mkL_nat (mkK_nat (cimpl_earliest n)) (l := [(6, Dimpl_earliest_l6, Pimpl_earliest_l6 @impl_earliest_l6 n), (3, Dimpl_earliest_l3, Pimpl_earliest_l3 @impl_earliest_l3 n)]) ⟨nlimpl_earliest_l6 n, ⟨nlimpl_earliest_l3 n, trivial⟩⟩) (fn := Try.f100) (c := bodyOf Try.f100) (by kernel_rfl) (by kernel_rfl) (by kernel_rfl) (.eq (l := [.lo (loopIn 3 (bodyOf Try.f100))]) (by kernel_rfl) ⟨(lkimpl_earliest_l3 n _ _ (at_id (i := 3) (by kernel_rfl) rfl)), trivial⟩) (shs := Himpl_earliest) (S := Simpl_earliest) (h1 := by kernel_rfl) fun R p k => ?_
  unfold Kimpl_earliest
  cases h : (PkS.un Simpl_earliest p) with
  | none => rfl
  | some d =>
    obtain ⟨x0, u⟩ := (d : (List (Int × List Int)) × Unit)
    have hp := PkS.un_pack h
    subst hp
    exact (eimpl_earliest @impl_order @impl_earliest_l6 @impl_earliest_l3 n x0 k).symm

/-! ### loop.example/g00269/impl.EarliestOf -/
theorem cimpl_EarliestOf (n : Nat) : AllOk Try.prog [(49, Kimpl_GoodPlan @impl_GoodPlan n), (100, Kimpl_earliest @impl_earliest n)] := ⟨okimpl_GoodPlan n, ⟨okimpl_earliest n, trivial⟩⟩
@[reducible] def Simpl_EarliestOf : PkS := ⟨[.one (.ro (.pr (.int .i64) (.sl (.int .i64))))], []⟩
@[reducible] def Timpl_EarliestOf : PkS := ⟨[.tup [(false, [.whole (300000, 0)]), (false, [.int .i64]), (false, [.bool])], .one (.dead)], [((300000, 0), .arr (.int .i64))]⟩
def Himpl_EarliestOf : List Sh := [.tup [(false, [(.own (.int .i64))]), (false, [.any]), (false, [.any])], .skip]
def Kimpl_EarliestOf (g : ∀ {R : Type}, Nat → (List (Int × List Int)) → (Int → Bool → (List Int) → Option R) → Option R) (n : Nat) : KPs := fun R p k => match (PkS.un Simpl_EarliestOf p : Option ((List (Int × List Int)) × Unit)) with
  | some (x0, _) => g n x0 (fun r0 r1 r2 => k (PkS.pack Timpl_EarliestOf (r0, r1, r2, ())))
  | none => none
theorem eimpl_EarliestOf (impl_GoodPlan : ∀ {R : Type}, Nat → (List (Int × List Int)) → (Bool → Option R) → Option R) (impl_earliest : ∀ {R : Type}, Nat → (List (Int × List Int)) → (Int → (List Int) → Option R) → Option R) {R : Type} (n : Nat) (x0 : List (Int × List Int)) (k : Pk → Option R) : evF tt sig (mkK [(49, Kimpl_GoodPlan @impl_GoodPlan n), (100, Kimpl_earliest @impl_earliest n)] R) (mkL (mkK [(49, Kimpl_GoodPlan @impl_GoodPlan n), (100, Kimpl_earliest @impl_earliest n)]) [] R) Try.f43 Himpl_EarliestOf (PkS.pack Simpl_EarliestOf (x0, ())) k = (fun (k : Int → Bool → (List Int) → Option R) => (impl_GoodPlan n x0 fun r1 => (bif (!r1) then k 0 false ([] : List Int) else (impl_earliest n x0 fun r2 r3 => k r2 true r3)))) (fun r0 r1 r2 => k (PkS.pack Timpl_EarliestOf (r0, r1, r2, ()))) := by kernel_rfl
theorem okimpl_EarliestOf (n : Nat) : FnOk Try.prog 43 (Kimpl_EarliestOf @impl_EarliestOf n) := by
  refine fn_ok (sig := sig) mixed ttok (mkK_nat (cimpl_EarliestOf n)) (mkK_ok (cimpl_EarliestOf n)) (mkL_nat (mkK_nat (cimpl_EarliestOf n)) (l := []) trivial) (fn := Try.f43) (c := bodyOf Try.f43) (by kernel_rfl) (by kernel_rfl) (by kernel_rfl) (.eq (l := []) (by kernel_rfl) trivial) (shs := Himpl_EarliestOf) (S := Simpl_EarliestOf) (h1 := by kernel_rfl) fun R p k => ?_
  unfold Kimpl_EarliestOf
  cases h : (PkS.un Simpl_EarliestOf p) with
  | none => rfl
  | some d =>
    obtain ⟨x0, u⟩ := (d : (List (Int × List Int)) × Unit)
    have hp := PkS.un_pack h
    subst hp
    exact (eimpl_EarliestOf @impl_GoodPlan @impl_earliest n x0 k).symm

/-! ### loop.example/g00269/spec.l1In -/
theorem cspec_l1In (n : Nat) : AllOk Try.prog [] := trivial
@[reducible] def Sspec_l1In : PkS := ⟨[.one (.int .i64), .one (.int .i64), .one (.int .i64)], []⟩
@[reducible] def Tspec_l1In : PkS := ⟨[.one (.bool), .one (.dead), .one (.dead), .one (.dead)], []⟩
def Hspec_l1In : List Sh := [.one .any, .skip, .skip, .skip]
def Kspec_l1In (g : ∀ {R : Type}, Nat → Int → Int → Int → (Bool → Option R) → Option R) (n : Nat) : KPs := fun R p k => match (PkS.un Sspec_l1In p : Option (Int × Int × Int × Unit)) with
  | some (x0, x1, x2, _) => g n x0 x1 x2 (fun r0 => k (PkS.pack Tspec_l1In (r0, ())))
  | none => none
theorem espec_l1In  {R : Type} (n : Nat) (x0 : Int) (x1 : Int) (x2 : Int) (k : Pk → Option R) : evF tt sig (mkK [] R) (mkL (mkK []) [] R) Try.f72 Hspec_l1In (PkS.pack Sspec_l1In (x0, x1, x2, ())) k = (fun (k : Bool → Option R) => (bif (decide (x0 ≥ x1)) then k (decide (x0 ≤ x2)) else k false)) (fun r0 => k (PkS.pack Tspec_l1In (r0, ()))) := by kernel_rfl
theorem okspec_l1In (n : Nat) : FnOk Try.prog 72 (Kspec_l1In @spec_l1In n) := by
  refine fn_ok (sig := sig) mixed ttok (mkK_nat (cspec_l1In n)) (mkK_ok (cspec_l1In n)) (mkL_nat (mkK_nat (cspec_l1In n)) (l := []) trivial) (fn := Try.f72) (c := bodyOf Try.f72) (by kernel_rfl) (by kernel_rfl) (by kernel_rfl) (.eq (l := []) (by kernel_rfl) trivial) (shs := Hspec_l1In) (S := Sspec_l1In) (h1 := by kernel_rfl) fun R p k => ?_
  unfold Kspec_l1In
  cases h : (PkS.un Sspec_l1In p) with
  | none => rfl
  | some d =>
    obtain ⟨x0, x1, x2, u⟩ := (d : Int × Int × Int × Unit)
    have hp := PkS.un_pack h
    subst hp
    exact (espec_l1In  n x0 x1 x2 k).symm

/-! ### loop.example/g00269/spec.l3List -/
theorem cspec_l3List (n : Nat) : AllOk Try.prog [(72, Kspec_l1In @spec_l1In n)] := ⟨okspec_l1In n, trivial⟩
@[reducible] def Sspec_l3List_l2 : PkS := ⟨[.one (.ro (.int .i64)), .one (.int .i64), .one (.ro (.int .i64)), .one (.int .i64), .one (.int .i64), .one (.dead), .one (.dead)], []⟩
@[reducible] def Tspec_l3List_l2_0 : PkS := ⟨[.one (.bool), .one (.dead), .one (.dead)], []⟩
@[reducible] def Tspec_l3List_l2_1 : PkS := ⟨[.one (.dead), .one (.dead)], []⟩
def Dspec_l3List_l2 : LoopD := ⟨33, [0, 1, 7, 8, 9], [.one (.ro (.int .i64)), .one .any, .one (.ro (.int .i64)), .one .any, .one .any, .skip, .skip], fun x => match x with
  | .ret => some ([4], [.one .any, .skip, .skip])
  | .exit 0 => some ([], [.skip, .skip])
  | _ => none⟩
def Pspec_l3List_l2 (g : ∀ {R : Type}, Nat → (List Int) → Int → (List Int) → Int → Int → (Bool → Option R) → (Option R) → Option R) (n : Nat) : LPs := fun R q kk => match (PkS.un Sspec_l3List_l2 q : Option ((List Int) × Int × (List Int) × Int × Int × Unit)) with
  | some (y2_0, y2_1, y2_2, y2_3, y2_4, _) => g n y2_0 y2_1 y2_2 y2_3 y2_4 (fun r0 => kk .ret (PkS.pack Tspec_l3List_l2_0 (r0, ()))) (kk (.exit 0) (PkS.pack Tspec_l3List_l2_1 ()))
  | none => none
theorem espec_l3List_l2 (spec_l1In : ∀ {R : Type}, Nat → Int → Int → Int → (Bool → Option R) → Option R) (spec_l3List_l2 : ∀ {R : Type}, Nat → (List Int) → Int → (List Int) → Int → Int → (Bool → Option R) → (Option R) → Option R) {R : Type} (n : Nat) (y2_0 : List Int) (y2_1 : Int) (y2_2 : List Int) (y2_3 : Int) (y2_4 : Int) (kk : Ex → Pk → Option R) : Dspec_l3List_l2.step tt sig (mkK [(72, Kspec_l1In @spec_l1In n)] R) (mkL (mkK [(72, Kspec_l1In @spec_l1In n)]) [] R) (loopIn 2 (bodyOf Try.f119)) (fun q' => Pspec_l3List_l2 @spec_l3List_l2 n R q' kk) (PkS.pack Sspec_l3List_l2 (y2_0, y2_1, y2_2, y2_3, y2_4, ())) kk = (fun (kret : Bool → Option R) (kexit0 : Option R) => (bif (decide (y2_4 < y2_3)) then (bif decide (0 ≤ y2_4) then (bif decide (y2_4 < (y2_2.length : Int)) then (spec_l1In n (y2_2.getD (Int.toNat y2_4) 0) 0 (IntKind.wrap .i64 (y2_1 - 1)) fun r1 => (bif (!r1) then kret false else (bif (decide (y2_4 > 0)) then (bif decide (0 ≤ (IntKind.wrap .i64 (y2_4 - 1))) then (bif decide ((IntKind.wrap .i64 (y2_4 - 1)) < (y2_0.length : Int)) then (bif (decide ((y2_0.getD (Int.toNat (IntKind.wrap .i64 (y2_4 - 1))) 0) ≥ (y2_2.getD (Int.toNat y2_4) 0))) then kret false else spec_l3List_l2 n y2_0 y2_1 y2_2 y2_3 (IntKind.wrap .i64 (y2_4 + 1)) kret kexit0) else none) else none) else spec_l3List_l2 n y2_0 y2_1 y2_2 y2_3 (IntKind.wrap .i64 (y2_4 + 1)) kret kexit0))) else none) else none) else kexit0)) (fun r0 => kk .ret (PkS.pack Tspec_l3List_l2_0 (r0, ()))) (kk (.exit 0) (PkS.pack Tspec_l3List_l2_1 ())) := by kernel_rfl
theorem lespec_l3List_l2 : LoopEq tt sig (fun n => mkK [(72, Kspec_l1In @spec_l1In n)]) (fun n => mkL (mkK [(72, Kspec_l1In @spec_l1In n)]) []) Dspec_l3List_l2 Sspec_l3List_l2 (loopIn 2 (bodyOf Try.f119)) (Pspec_l3List_l2 @spec_l3List_l2) where
  zero R q kk := by unfold Pspec_l3List_l2; cases (PkS.un Sspec_l3List_l2 q) <;> rfl
  succ n R q kk := by
    unfold Pspec_l3List_l2
    cases h : (PkS.un Sspec_l3List_l2 q) with
    | none => rfl
    | some d =>
      obtain ⟨y2_0, y2_1, y2_2, y2_3, y2_4, u⟩ := (d : (List Int) × Int × (List Int) × Int × Int × Unit)
      have hp := PkS.un_pack h
      subst hp
      exact (espec_l3List_l2 @spec_l1In @spec_l3List_l2 n y2_0 y2_1 y2_2 y2_3 y2_4 kk).symm
theorem nlspec_l3List_l2 : ∀ n, NatLP (Pspec_l3List_l2 @spec_l3List_l2 n) := lespec_l3List_l2.nat (fun n => mkK_nat (cspec_l3List n)) fun n => mkL_nat (mkK_nat (cspec_l3List n)) (l := []) trivial
theorem inspec_l3List_l2 (n : Nat) (R : Type) : LoopsOk Try.prog (mkL (mkK [(72, Kspec_l1In @spec_l1In n)]) [] R) (loopIn 2 (bodyOf Try.f119)) := .eq (l := []) (by kernel_rfl) trivial
theorem lkspec_l3List_l2 (n : Nat) (R : Type) (L0 : LK R) (h0 : ∀ id, firstRegion (loopIn 2 (bodyOf Try.f119)) = some id → L0 id = Dspec_l3List_l2.oracle (mkK [(72, Kspec_l1In @spec_l1In n)] R) (Pspec_l3List_l2 @spec_l3List_l2 n R)) : LoopOk Try.prog L0 (loopIn 2 (bodyOf Try.f119)) :=
  lespec_l3List_l2.ok mixed ttok (fun n => mkK_nat (cspec_l3List n)) (fun n => mkK_ok (cspec_l3List n)) (fun n => inspec_l3List_l2 n R) (mkK_nat (cspec_l3List n)) h0
@[reducible] def Sspec_l3List : PkS := ⟨[.one (.ro (.int .i64)), .one (.int .i64)], []⟩
@[reducible] def Tspec_l3List : PkS := ⟨[.one (.bool), .one (.dead), .one (.dead)], []⟩
def Hspec_l3List : List Sh := [.one .any, .skip, .skip]
def Kspec_l3List (g : ∀ {R : Type}, Nat → (List Int) → Int → (Bool → Option R) → Option R) (n : Nat) : KPs := fun R p k => match (PkS.un Sspec_l3List p : Option ((List Int) × Int × Unit)) with
  | some (x0, x1, _) => g n x0 x1 (fun r0 => k (PkS.pack Tspec_l3List (r0, ())))
  | none => none
theorem espec_l3List (spec_l1In : ∀ {R : Type}, Nat → Int → Int → Int → (Bool → Option R) → Option R) (spec_l3List_l2 : ∀ {R : Type}, Nat → (List Int) → Int → (List Int) → Int → Int → (Bool → Option R) → (Option R) → Option R) {R : Type} (n : Nat) (x0 : List Int) (x1 : Int) (k : Pk → Option R) : evF tt sig (mkK [(72, Kspec_l1In @spec_l1In n)] R) (mkL (mkK [(72, Kspec_l1In @spec_l1In n)]) [(2, Dspec_l3List_l2, Pspec_l3List_l2 @spec_l3List_l2 n)] R) Try.f119 Hspec_l3List (PkS.pack Sspec_l3List (x0, x1, ())) k = (fun (k : Bool → Option R) => (spec_l3List_l2 n x0 x1 x0 (x0.length : Int) 0 (fun r2 => k r2) (k true))) (fun r0 => k (PkS.pack Tspec_l3List (r0, ()))) := by kernel_rfl
theorem okspec_l3List (n : Nat) : FnOk Try.prog 119 (Kspec_l3List @spec_l3List n) := by
  refine fn_ok (sig := sig) mixed ttok (mkK_nat (cspec_l3List n)) (mkK_ok (cspec_l3List n)) (mkL_nat (mkK_nat (cspec_l3List n)) (l := [(2, Dspec_l3List_l2, Pspec_l3List_l2 @spec_l3List_l2 n)]) ⟨nlspec_l3List_l2 n, trivial⟩) (fn := Try.f119) (c := bodyOf Try.f119) (by kernel_rfl) (by kernel_rfl) (by kernel_rfl) (.eq (l := [.lo (loopIn 2 (bodyOf Try.f119))]) (by kernel_rfl) ⟨(lkspec_l3List_l2 n _ _ (at_id (i := 2) (by kernel_rfl) rfl)), trivial⟩) (shs := Hspec_l3List) (S := Sspec_l3List) (h1 := by kernel_rfl) fun R p k => ?_
  unfold Kspec_l3List
  cases h : (PkS.un Sspec_l3List p) with
  | none => rfl
  | some d =>
    obtain ⟨x0, x1, u⟩ := (d : (List Int) × Int × Unit)
    have hp := PkS.un_pack h
    subst hp
    exact (espec_l3List @spec_l1In @spec_l3List_l2 n x0 x1 k).symm

/-! ### loop.example/g00269/spec.l1Has -/
theorem cspec_l1Has (n : Nat) : AllOk Try.prog [] := trivial
@[reducible] def Sspec_l1Has_l2 : PkS := ⟨[.one (.int .i64), .one (.ro (.int .i64)), .one (.int .i64), .one (.int .i64), .one (.dead), .one (.dead)], []⟩
@[reducible] def Tspec_l1Has_l2_0 : PkS := ⟨[.one (.bool), .one (.dead), .one (.dead)], []⟩
@[reducible] def Tspec_l1Has_l2_1 : PkS := ⟨[.one (.dead), .one (.dead)], []⟩
def Dspec_l1Has_l2 : LoopD := ⟨17, [1, 7, 8, 9], [.one .any, .one (.ro (.int .i64)), .one .any, .one .any, .skip, .skip], fun x => match x with
  | .ret => some ([4], [.one .any, .skip, .skip])
  | .exit 0 => some ([], [.skip, .skip])
  | _ => none⟩
def Pspec_l1Has_l2 (g : ∀ {R : Type}, Nat → Int → (List Int) → Int → Int → (Bool → Option R) → (Option R) → Option R) (n : Nat) : LPs := fun R q kk => match (PkS.un Sspec_l1Has_l2 q : Option (Int × (List Int) × Int × Int × Unit)) with
  | some (y2_0, y2_1, y2_2, y2_3, _) => g n y2_0 y2_1 y2_2 y2_3 (fun r0 => kk .ret (PkS.pack Tspec_l1Has_l2_0 (r0, ()))) (kk (.exit 0) (PkS.pack Tspec_l1Has_l2_1 ()))
  | none => none
theorem espec_l1Has_l2 (spec_l1Has_l2 : ∀ {R : Type}, Nat → Int → (List Int) → Int → Int → (Bool → Option R) → (Option R) → Option R) {R : Type} (n : Nat) (y2_0 : Int) (y2_1 : List Int) (y2_2 : Int) (y2_3 : Int) (kk : Ex → Pk → Option R) : Dspec_l1Has_l2.step tt sig (mkK [] R) (mkL (mkK []) [] R) (loopIn 2 (bodyOf Try.f105)) (fun q' => Pspec_l1Has_l2 @spec_l1Has_l2 n R q' kk) (PkS.pack Sspec_l1Has_l2 (y2_0, y2_1, y2_2, y2_3, ())) kk = (fun (kret : Bool → Option R) (kexit0 : Option R) => (bif (decide (y2_3 < y2_2)) then (bif decide (0 ≤ y2_3) then (bif decide (y2_3 < (y2_1.length : Int)) then (bif ((y2_1.getD (Int.toNat y2_3) 0) == y2_0) then kret true else spec_l1Has_l2 n y2_0 y2_1 y2_2 (IntKind.wrap .i64 (y2_3 + 1)) kret kexit0) else none) else none) else kexit0)) (fun r0 => kk .ret (PkS.pack Tspec_l1Has_l2_0 (r0, ()))) (kk (.exit 0) (PkS.pack Tspec_l1Has_l2_1 ())) := by kernel_rfl
theorem lespec_l1Has_l2 : LoopEq tt sig (fun n => mkK []) (fun n => mkL (mkK []) []) Dspec_l1Has_l2 Sspec_l1Has_l2 (loopIn 2 (bodyOf Try.f105)) (Pspec_l1Has_l2 @spec_l1Has_l2) where
  zero R q kk := by unfold Pspec_l1Has_l2; cases (PkS.un Sspec_l1Has_l2 q) <;> rfl
  succ n R q kk := by
    unfold Pspec_l1Has_l2
    cases h : (PkS.un Sspec_l1Has_l2 q) with
    | none => rfl
    | some d =>
      obtain ⟨y2_0, y2_1, y2_2, y2_3, u⟩ := (d : Int × (List Int) × Int × Int × Unit)
      have hp := PkS.un_pack h
      subst hp
      exact (espec_l1Has_l2 @spec_l1Has_l2 n y2_0 y2_1 y2_2 y2_3 kk).symm
theorem nlspec_l1Has_l2 : ∀ n, NatLP (Pspec_l1Has_l2 @spec_l1Has_l2 n) := lespec_l1Has_l2.nat (fun n => mkK_nat (cspec_l1Has n)) fun n => mkL_nat (mkK_nat (cspec_l1Has n)) (l := []) trivial
theorem inspec_l1Has_l2 (n : Nat) (R : Type) : LoopsOk Try.prog (mkL (mkK []) [] R) (loopIn 2 (bodyOf Try.f105)) := .eq (l := []) (by kernel_rfl) trivial
theorem lkspec_l1Has_l2 (n : Nat) (R : Type) (L0 : LK R) (h0 : ∀ id, firstRegion (loopIn 2 (bodyOf Try.f105)) = some id → L0 id = Dspec_l1Has_l2.oracle (mkK [] R) (Pspec_l1Has_l2 @spec_l1Has_l2 n R)) : LoopOk Try.prog L0 (loopIn 2 (bodyOf Try.f105)) :=
  lespec_l1Has_l2.ok mixed ttok (fun n => mkK_nat (cspec_l1Has n)) (fun n => mkK_ok (cspec_l1Has n)) (fun n => inspec_l1Has_l2 n R) (mkK_nat (cspec_l1Has n)) h0
@[reducible] def Sspec_l1Has : PkS := ⟨[.one (.ro (.int .i64)), .one (.int .i64)], []⟩
@[reducible] def Tspec_l1Has : PkS := ⟨[.one (.bool), .one (.dead), .one (.dead)], []⟩
def Hspec_l1Has : List Sh := [.one .any, .skip, .skip]
def Kspec_l1Has (g : ∀ {R : Type}, Nat → (List Int) → Int → (Bool → Option R) → Option R) (n : Nat) : KPs := fun R p k => match (PkS.un Sspec_l1Has p : Option ((List Int) × Int × Unit)) with
  | some (x0, x1, _) => g n x0 x1 (fun r0 => k (PkS.pack Tspec_l1Has (r0, ())))
  | none => none
theorem espec_l1Has (spec_l1Has_l2 : ∀ {R : Type}, Nat → Int → (List Int) → Int → Int → (Bool → Option R) → (Option R) → Option R) {R : Type} (n : Nat) (x0 : List Int) (x1 : Int) (k : Pk → Option R) : evF tt sig (mkK [] R) (mkL (mkK []) [(2, Dspec_l1Has_l2, Pspec_l1Has_l2 @spec_l1Has_l2 n)] R) Try.f105 Hspec_l1Has (PkS.pack Sspec_l1Has (x0, x1, ())) k = (fun (k : Bool → Option R) => (spec_l1Has_l2 n x1 x0 (x0.length : Int) 0 (fun r1 => k r1) (k false))) (fun r0 => k (PkS.pack Tspec_l1Has (r0, ()))) := by kernel_rfl
theorem okspec_l1Has (n : Nat) : FnOk Try.prog 105 (Kspec_l1Has @spec_l1Has n) := by
  refine fn_ok (sig := sig) mixed ttok (mkK_nat (cspec_l1Has n)) (mkK_ok (cspec_l1Has n)) (mkL_nat (mkK_nat (cspec_l1Has n)) (l := [(2, Dspec_l1Has_l2, Pspec_l1Has_l2 @spec_l1Has_l2 n)]) ⟨nlspec_l1Has_l2 n, trivial⟩) (fn := Try.f105) (c := bodyOf Try.f105) (by kernel_rfl) (by kernel_rfl) (by kernel_rfl) (.eq (l := [.lo (loopIn 2 (bodyOf Try.f105))]) (by kernel_rfl) ⟨(lkspec_l1Has_l2 n _ _ (at_id (i := 2) (by kernel_rfl) rfl)), trivial⟩) (shs := Hspec_l1Has) (S := Sspec_l1Has) (h1 := by kernel_rfl) fun R p k => ?_
  unfold Kspec_l1Has
  cases h : (PkS.un Sspec_l1Has p) with
  | none => rfl
  | some d =>
    obtain ⟨x0, x1, u⟩ := (d : (List Int) × Int × Unit)
    have hp := PkS.un_pack h
    subst hp
    exact (espec_l1Has @spec_l1Has_l2 n x0 x1 k).symm

/-! ### loop.example/g00269/spec.l4Order -/
theorem cspec_l4Order (n : Nat) : AllOk Try.prog [(105, Kspec_l1Has @spec_l1Has n)] := ⟨okspec_l1Has n, trivial⟩
@[reducible] def Sspec_l4Order_l9 : PkS := ⟨[.one (.ro (.pr (.int .i64) (.sl (.int .i64)))), .one (.whole (100000, 0)), .one (.int .i64), .one (.int .i64), .one (.bool), .one (.ro (.pr (.int .i64) (.sl (.int .i64)))), .one (.int .i64), .one (.int .i64), .one (.ro (.int .i64)), .one (.int .i64), .one (.int .i64), .one (.dead)], [((100000, 0), .arr (.int .i64))]⟩
@[reducible] def Tspec_l4Order_l9_0 : PkS := ⟨[.one (.ro (.pr (.int .i64) (.sl (.int .i64)))), .one (.whole (100000, 0)), .one (.int .i64), .one (.int .i64), .one (.bool), .one (.ro (.pr (.int .i64) (.sl (.int .i64)))), .one (.int .i64), .one (.int .i64), .one (.dead)], [((100000, 0), .arr (.int .i64))]⟩
def Dspec_l4Order_l9 : LoopD := ⟨51, [0, 4, 5, 6, 8, 16, 17, 18, 28, 29, 30], [.one (.ro (.pr (.int .i64) (.sl (.int .i64)))), .one (.own (.int .i64)), .one .any, .one .any, .one .any, .one (.ro (.pr (.int .i64) (.sl (.int .i64)))), .one .any, .one .any, .one (.ro (.int .i64)), .one .any, .one .any, .skip], fun x => match x with
  | .exit 4 => some ([0, 4, 5, 6, 8, 16, 17, 18], [.one (.ro (.pr (.int .i64) (.sl (.int .i64)))), .one (.own (.int .i64)), .one .any, .one .any, .one .any, .one (.ro (.pr (.int .i64) (.sl (.int .i64)))), .one .any, .one .any, .skip])
  | _ => none⟩
def Pspec_l4Order_l9 (g : ∀ {R : Type}, Nat → (List (Int × List Int)) → Int → Int → Bool → (List (Int × List Int)) → Int → Int → (List Int) → Int → Int → (List Int) → ((List (Int × List Int)) → Int → Int → Bool → (List (Int × List Int)) → Int → Int → (List Int) → Option R) → Option R) (n : Nat) : LPs := fun R q kk => match (PkS.un Sspec_l4Order_l9 q : Option ((List (Int × List Int)) × Int × Int × Bool × (List (Int × List Int)) × Int × Int × (List Int) × Int × Int × (List Int) × Unit)) with
  | some (y9_0, y9_1, y9_2, y9_3, y9_4, y9_5, y9_6, y9_7, y9_8, y9_9, y9_10, _) => g n y9_0 y9_1 y9_2 y9_3 y9_4 y9_5 y9_6 y9_7 y9_8 y9_9 y9_10 (fun r0 r1 r2 r3 r4 r5 r6 r7 => kk (.exit 4) (PkS.pack Tspec_l4Order_l9_0 (r0, r1, r2, r3, r4, r5, r6, r7, ())))
  | none => none
theorem espec_l4Order_l9 (spec_l1Has : ∀ {R : Type}, Nat → (List Int) → Int → (Bool → Option R) → Option R) (spec_l4Order_l9 : ∀ {R : Type}, Nat → (List (Int × List Int)) → Int → Int → Bool → (List (Int × List Int)) → Int → Int → (List Int) → Int → Int → (List Int) → ((List (Int × List Int)) → Int → Int → Bool → (List (Int × List Int)) → Int → Int → (List Int) → Option R) → Option R) {R : Type} (n : Nat) (y9_0 : List (Int × List Int)) (y9_1 : Int) (y9_2 : Int) (y9_3 : Bool) (y9_4 : List (Int × List Int)) (y9_5 : Int) (y9_6 : Int) (y9_7 : List Int) (y9_8 : Int) (y9_9 : Int) (y9_10 : List Int) (kk : Ex → Pk → Option R) : Dspec_l4Order_l9.step tt sig (mkK [(105, Kspec_l1Has @spec_l1Has n)] R) (mkL (mkK [(105, Kspec_l1Has @spec_l1Has n)]) [] R) (loopIn 9 (bodyOf Try.f96)) (fun q' => Pspec_l4Order_l9 @spec_l4Order_l9 n R q' kk) (PkS.pack Sspec_l4Order_l9 (y9_0, y9_1, y9_2, y9_3, y9_4, y9_5, y9_6, y9_7, y9_8, y9_9, y9_10, ())) kk = (fun (kexit4 : (List (Int × List Int)) → Int → Int → Bool → (List (Int × List Int)) → Int → Int → (List Int) → Option R) => (bif (decide (y9_9 < y9_8)) then (bif decide (0 ≤ y9_9) then (bif decide (y9_9 < (y9_7.length : Int)) then (bif y9_3 then (spec_l1Has n y9_10 (y9_7.getD (Int.toNat y9_9) 0) fun r2 => spec_l4Order_l9 n y9_0 y9_1 y9_2 r2 y9_4 y9_5 y9_6 y9_7 y9_8 (IntKind.wrap .i64 (y9_9 + 1)) y9_10 kexit4) else spec_l4Order_l9 n y9_0 y9_1 y9_2 false y9_4 y9_5 y9_6 y9_7 y9_8 (IntKind.wrap .i64 (y9_9 + 1)) y9_10 kexit4) else none) else none) else kexit4 y9_0 y9_1 y9_2 y9_3 y9_4 y9_5 y9_6 y9_10)) (fun r0 r1 r2 r3 r4 r5 r6 r7 => kk (.exit 4) (PkS.pack Tspec_l4Order_l9_0 (r0, r1, r2, r3, r4, r5, r6, r7, ()))) := by kernel_rfl
theorem lespec_l4Order_l9 : LoopEq tt sig (fun n => mkK [(105, Kspec_l1Has @spec_l1Has n)]) (fun n => mkL (mkK [(105, Kspec_l1Has @spec_l1Has n)]) []) Dspec_l4Order_l9 Sspec_l4Order_l9 (loopIn 9 (bodyOf Try.f96)) (Pspec_l4Order_l9 @spec_l4Order_l9) where
  zero R q kk := by unfold Pspec_l4Order_l9; cases (PkS.un Sspec_l4Order_l9 q) <;> rfl
  succ n R q kk := by
    unfold Pspec_l4Order_l9
    cases h : (PkS.un Sspec_l4Order_l9 q) with
    | none => rfl
    | some d =>
      obtain ⟨y9_0, y9_1, y9_2, y9_3, y9_4, y9_5, y9_6, y9_7, y9_8, y9_9, y9_10, u⟩ := (d : (List (Int × List Int)) × Int × Int × Bool × (List (Int × List Int)) × Int × Int × (List Int) × Int × Int × (List Int) × Unit)
      have hp := PkS.un_pack h
      subst hp
      exact (espec_l4Order_l9 @spec_l1Has @spec_l4Order_l9 n y9_0 y9_1 y9_2 y9_3 y9_4 y9_5 y9_6 y9_7 y9_8 y9_9 y9_10 kk).symm
theorem nlspec_l4Order_l9 : ∀ n, NatLP (Pspec_l4Order_l9 @spec_l4Order_l9 n) := lespec_l4Order_l9.nat (fun n => mkK_nat (cspec_l4Order n)) fun n => mkL_nat (mkK_nat (cspec_l4Order n)) (l := []) trivial
theorem inspec_l4Order_l9 (n : Nat) (R : Type) : LoopsOk Try.prog (mkL (mkK [(105, Kspec_l1Has @spec_l1Has n)]) [] R) (loopIn 9 (bodyOf Try.f96)) := .eq (l := []) (by kernel_rfl) trivial
theorem lkspec_l4Order_l9 (n : Nat) (R : Type) (L0 : LK R) (h0 : ∀ id, firstRegion (loopIn 9 (bodyOf Try.f96)) = some id → L0 id = Dspec_l4Order_l9.oracle (mkK [(105, Kspec_l1Has @spec_l1Has n)] R) (Pspec_l4Order_l9 @spec_l4Order_l9 n R)) : LoopOk Try.prog L0 (loopIn 9 (bodyOf Try.f96)) :=
  lespec_l4Order_l9.ok mixed ttok (fun n => mkK_nat (cspec_l4Order n)) (fun n => mkK_ok (cspec_l4Order n)) (fun n => inspec_l4Order_l9 n R) (mkK_nat (cspec_l4Order n)) h0
@[reducible] def Sspec_l4Order_l5 : PkS := ⟨[.one (.ro (.pr (.int .i64) (.sl (.int .i64)))), .one (.whole (100000, 0)), .one (.int .i64), .one (.ro (.pr (.int .i64) (.sl (.int .i64)))), .one (.int .i64), .one (.int .i64), .one (.dead)], [((100000, 0), .arr (.int .i64))]⟩
@[reducible] def Tspec_l4Order_l5_0 : PkS := ⟨[.one (.ro (.pr (.int .i64) (.sl (.int .i64)))), .one (.whole (100000, 0)), .one (.int .i64), .one (.dead)], [((100000, 0), .arr (.int .i64))]⟩
def Dspec_l4Order_l5 : LoopD := ⟨51, [0, 4, 5, 16, 17, 18], [.one (.ro (.pr (.int .i64) (.sl (.int .i64)))), .one (.own (.int .i64)), .one .any, .one (.ro (.pr (.int .i64) (.sl (.int .i64)))), .one .any, .one .any, .skip], fun x => match x with
  | .exit 2 => some ([0, 4, 5], [.one (.ro (.pr (.int .i64) (.sl (.int .i64)))), .one (.own (.int .i64)), .one .any, .skip])
  | _ => none⟩
def Pspec_l4Order_l5 (g : ∀ {R : Type}, Nat → (List (Int × List Int)) → Int → (List (Int × List Int)) → Int → Int → (List Int) → ((List (Int × List Int)) → Int → (List Int) → Option R) → Option R) (n : Nat) : LPs := fun R q kk => match (PkS.un Sspec_l4Order_l5 q : Option ((List (Int × List Int)) × Int × (List (Int × List Int)) × Int × Int × (List Int) × Unit)) with
  | some (y5_0, y5_1, y5_2, y5_3, y5_4, y5_5, _) => g n y5_0 y5_1 y5_2 y5_3 y5_4 y5_5 (fun r0 r1 r2 => kk (.exit 2) (PkS.pack Tspec_l4Order_l5_0 (r0, r1, r2, ())))
  | none => none
theorem espec_l4Order_l5 (spec_l1Has : ∀ {R : Type}, Nat → (List Int) → Int → (Bool → Option R) → Option R) (spec_l4Order_l9 : ∀ {R : Type}, Nat → (List (Int × List Int)) → Int → Int → Bool → (List (Int × List Int)) → Int → Int → (List Int) → Int → Int → (List Int) → ((List (Int × List Int)) → Int → Int → Bool → (List (Int × List Int)) → Int → Int → (List Int) → Option R) → Option R) (spec_l4Order_l5 : ∀ {R : Type}, Nat → (List (Int × List Int)) → Int → (List (Int × List Int)) → Int → Int → (List Int) → ((List (Int × List Int)) → Int → (List Int) → Option R) → Option R) {R : Type} (n : Nat) (y5_0 : List (Int × List Int)) (y5_1 : Int) (y5_2 : List (Int × List Int)) (y5_3 : Int) (y5_4 : Int) (y5_5 : List Int) (kk : Ex → Pk → Option R) : Dspec_l4Order_l5.step tt sig (mkK [(105, Kspec_l1Has @spec_l1Has n)] R) (mkL (mkK [(105, Kspec_l1Has @spec_l1Has n)]) [(9, Dspec_l4Order_l9, Pspec_l4Order_l9 @spec_l4Order_l9 n)] R) (loopIn 5 (bodyOf Try.f96)) (fun q' => Pspec_l4Order_l5 @spec_l4Order_l5 n R q' kk) (PkS.pack Sspec_l4Order_l5 (y5_0, y5_1, y5_2, y5_3, y5_4, y5_5, ())) kk = (fun (kexit2 : (List (Int × List Int)) → Int → (List Int) → Option R) => (bif (decide (y5_4 < y5_3)) then (bif decide (0 ≤ y5_4) then (bif decide (y5_4 < (y5_2.length : Int)) then (spec_l1Has n y5_5 y5_4 fun r1 => (spec_l4Order_l9 n y5_0 y5_1 y5_4 (!r1) y5_2 y5_3 y5_4 ((y5_2.getD (Int.toNat y5_4) (0, [])).2) (((y5_2.getD (Int.toNat y5_4) (0, [])).2).length : Int) 0 y5_5 (fun r3 r4 r5 r6 r7 r8 r9 r10 => (bif r6 then kexit2 r3 r5 r10 else spec_l4Order_l5 n r3 r4 r7 r8 (IntKind.wrap .i64 (r9 + 1)) r10 kexit2)))) else none) else none) else kexit2 y5_0 y5_1 y5_5)) (fun r0 r1 r2 => kk (.exit 2) (PkS.pack Tspec_l4Order_l5_0 (r0, r1, r2, ()))) := by kernel_rfl
theorem lespec_l4Order_l5 : LoopEq tt sig (fun n => mkK [(105, Kspec_l1Has @spec_l1Has n)]) (fun n => mkL (mkK [(105, Kspec_l1Has @spec_l1Has n)]) [(9, Dspec_l4Order_l9, Pspec_l4Order_l9 @spec_l4Order_l9 n)]) Dspec_l4Order_l5 Sspec_l4Order_l5 (loopIn 5 (bodyOf Try.f96)) (Pspec_l4Order_l5 @spec_l4Order_l5) where
  zero R q kk := by unfold Pspec_l4Order_l5; cases (PkS.un Sspec_l4Order_l5 q) <;> rfl
  succ n R q kk := by
    unfold Pspec_l4Order_l5
    cases h : (PkS.un Sspec_l4Order_l5 q) with
    | none => rfl
    | some d =>
      obtain ⟨y5_0, y5_1, y5_2, y5_3, y5_4, y5_5, u⟩ := (d : (List (Int × List Int)) × Int × (List (Int × List Int)) × Int × Int × (List Int) × Unit)
      have hp := PkS.un_pack h
      subst hp
      exact (espec_l4Order_l5 @spec_l1Has @spec_l4Order_l9 @spec_l4Order_l5 n y5_0 y5_1 y5_2 y5_3 y5_4 y5_5 kk).symm
theorem nlspec_l4Order_l5 : ∀ n, NatLP (Pspec_l4Order_l5 @spec_l4Order_l5 n) := lespec_l4Order_l5.nat (fun n => mkK_nat (cspec_l4Order n)) fun n => mkL_nat (mkK_nat (cspec_l4Order n)) (l := [(9, Dspec_l4Order_l9, Pspec_l4Order_l9 @spec_l4Order_l9 n)]) ⟨nlspec_l4Order_l9 n, trivial⟩
theorem inspec_l4Order_l5 (n : Nat) (R : Type) : LoopsOk Try.prog (mkL (mkK [(105, Kspec_l1Has @spec_l1Has n)]) [(9, Dspec_l4Order_l9, Pspec_l4Order_l9 @spec_l4Order_l9 n)] R) (loopIn 5 (bodyOf Try.f96)) := .eq (l := [.lo (loopIn 9 (bodyOf Try.f96))]) (by kernel_rfl) ⟨(lkspec_l4Order_l9 n R _ (at_id (i := 9) (by kernel_rfl) rfl)), trivial⟩
theorem lkspec_l4Order_l5 (n : Nat) (R : Type) (L0 : LK R) (h0 : ∀ id, firstRegion (loopIn 5 (bodyOf Try.f96)) = some id → L0 id = Dspec_l4Order_l5.oracle (mkK [(105, Kspec_l1Has @spec_l1Has n)] R) (Pspec_l4Order_l5 @spec_l4Order_l5 n R)) : LoopOk Try.prog L0 (loopIn 5 (bodyOf Try.f96)) :=
  lespec_l4Order_l5.ok mixed ttok (fun n => mkK_nat (cspec_l4Order n)) (fun n => mkK_ok (cspec_l4Order n)) (fun n => inspec_l4Order_l5 n R) (mkK_nat (cspec_l4Order n)) h0
@[reducible] def Sspec_l4Order_l2 : PkS := ⟨[.one (.ro (.pr (.int .i64) (.sl (.int .i64)))), .one (.whole (100000, 0)), .one (.dead)], [((100000, 0), .arr (.int .i64))]⟩
@[reducible] def Tspec_l4Order_l2_0 : PkS := ⟨[.one (.ro (.int .i64)), .one (.bool), .one (.dead)], []⟩
@[reducible] def Tspec_l4Order_l2_1 : PkS := ⟨[.one (.whole (100000, 0)), .one (.dead)], [((100000, 0), .arr (.int .i64))]⟩
def Dspec_l4Order_l2 : LoopD := ⟨51, [0, 4], [.one (.ro (.pr (.int .i64) (.sl (.int .i64)))), .one (.own (.int .i64)), .skip], fun x => match x with
  | .ret => some ([2, 3], [.one (.ro (.int .i64)), .one .any, .skip])
  | .exit 0 => some ([4], [.one (.own (.int .i64)), .skip])
  | _ => none⟩
def Pspec_l4Order_l2 (g : ∀ {R : Type}, Nat → (List (Int × List Int)) → (List Int) → ((List Int) → Bool → Option R) → ((List Int) → Option R) → Option R) (n : Nat) : LPs := fun R q kk => match (PkS.un Sspec_l4Order_l2 q : Option ((List (Int × List Int)) × (List Int) × Unit)) with
  | some (y2_0, y2_1, _) => g n y2_0 y2_1 (fun r0 r1 => kk .ret (PkS.pack Tspec_l4Order_l2_0 (r0, r1, ()))) (fun r0 => kk (.exit 0) (PkS.pack Tspec_l4Order_l2_1 (r0, ())))
  | none => none
theorem espec_l4Order_l2 (spec_l1Has : ∀ {R : Type}, Nat → (List Int) → Int → (Bool → Option R) → Option R) (spec_l4Order_l9 : ∀ {R : Type}, Nat → (List (Int × List Int)) → Int → Int → Bool → (List (Int × List Int)) → Int → Int → (List Int) → Int → Int → (List Int) → ((List (Int × List Int)) → Int → Int → Bool → (List (Int × List Int)) → Int → Int → (List Int) → Option R) → Option R) (spec_l4Order_l5 : ∀ {R : Type}, Nat → (List (Int × List Int)) → Int → (List (Int × List Int)) → Int → Int → (List Int) → ((List (Int × List Int)) → Int → (List Int) → Option R) → Option R) (spec_l4Order_l2 : ∀ {R : Type}, Nat → (List (Int × List Int)) → (List Int) → ((List Int) → Bool → Option R) → ((List Int) → Option R) → Option R) {R : Type} (n : Nat) (y2_0 : List (Int × List Int)) (y2_1 : List Int) (kk : Ex → Pk → Option R) : Dspec_l4Order_l2.step tt sig (mkK [(105, Kspec_l1Has @spec_l1Has n)] R) (mkL (mkK [(105, Kspec_l1Has @spec_l1Has n)]) [(9, Dspec_l4Order_l9, Pspec_l4Order_l9 @spec_l4Order_l9 n), (5, Dspec_l4Order_l5, Pspec_l4Order_l5 @spec_l4Order_l5 n)] R) (loopIn 2 (bodyOf Try.f96)) (fun q' => Pspec_l4Order_l2 @spec_l4Order_l2 n R q' kk) (PkS.pack Sspec_l4Order_l2 (y2_0, y2_1, ())) kk = (fun (kret : (List Int) → Bool → Option R) (kexit0 : (List Int) → Option R) => (bif (decide ((y2_1.length : Int) < (y2_0.length : Int))) then (spec_l4Order_l5 n y2_0 (-1) y2_0 (y2_0.length : Int) 0 y2_1 (fun r11 r12 r13 => (bif (decide (r12 < 0)) then kret ([] : List Int) false else (bif decide (r13.length + [r12].length ≤ LIM) then spec_l4Order_l2 n r11 (r13 ++ [r12]) kret kexit0 else none)))) else kexit0 y2_1)) (fun r0 r1 => kk .ret (PkS.pack Tspec_l4Order_l2_0 (r0, r1, ()))) (fun r0 => kk (.exit 0) (PkS.pack Tspec_l4Order_l2_1 (r0, ()))) := by kernel_rfl
theorem lespec_l4Order_l2 : LoopEq tt sig (fun n => mkK [(105, Kspec_l1Has @spec_l1Has n)]) (fun n => mkL (mkK [(105, Kspec_l1Has @spec_l1Has n)]) [(9, Dspec_l4Order_l9, Pspec_l4Order_l9 @spec_l4Order_l9 n), (5, Dspec_l4Order_l5, Pspec_l4Order_l5 @spec_l4Order_l5 n)]) Dspec_l4Order_l2 Sspec_l4Order_l2 (loopIn 2 (bodyOf Try.f96)) (Pspec_l4Order_l2 @spec_l4Order_l2) where
  zero R q kk := by unfold Pspec_l4Order_l2; cases (PkS.un Sspec_l4Order_l2 q) <;> rfl
  succ n R q kk := by
    unfold Pspec_l4Order_l2
    cases h : (PkS.un Sspec_l4Order_l2 q) with
    | none => rfl
    | some d =>
      obtain ⟨y2_0, y2_1, u⟩ := (d : (List (Int × List Int)) × (List Int) × Unit)
      have hp := PkS.un_pack h
      subst hp
      exact (espec_l4Order_l2 @spec_l1Has @spec_l4Order_l9 @spec_l4Order_l5 @spec_l4Order_l2 n y2_0 y2_1 kk).symm
theorem nlspec_l4Order_l2 : ∀ n, NatLP (Pspec_l4Order_l2 @spec_l4Order_l2 n) := lespec_l4Order_l2.nat (fun n => mkK_nat (cspec_l4Order n)) fun n => mkL_nat (mkK_nat (cspec_l4Order n)) (l := [(9, Dspec_l4Order_l9, Pspec_l4Order_l9 @spec_l4Order_l9 n), (5, Dspec_l4Order_l5, Pspec_l4Order_l5 @spec_l4Order_l5 n)]) ⟨nlspec_l4Order_l9 n, ⟨nlspec_l4Order_l5 n, trivial⟩⟩
theorem inspec_l4Order_l2 (n : Nat) (R : Type) : LoopsOk Try.prog (mkL (mkK [(105, Kspec_l1Has @spec_l1Has n)]) [(9, Dspec_l4Order_l9, Pspec_l4Order_l9 @spec_l4Order_l9 n), (5, Dspec_l4Order_l5, Pspec_l4Order_l5 @spec_l4Order_l5 n)] R) (loopIn 2 (bodyOf Try.f96)) := .eq (l := [.lo (loopIn 5 (bodyOf Try.f96))]) (by kernel_rfl) ⟨(lkspec_l4Order_l5 n R _ (at_id (i := 5) (by kernel_rfl) rfl)), trivial⟩
theorem lkspec_l4Order_l2 (n : Nat) (R : Type) (L0 : LK R) (h0 : ∀ id, firstRegion (loopIn 2 (bodyOf Try.f96)) = some id → L0 id = Dspec_l4Order_l2.oracle (mkK [(105, Kspec_l1Has @spec_l1Has n)] R) (Pspec_l4Order_l2 @spec_l4Order_l2 n R)) : LoopOk Try.prog L0 (loopIn 2 (bodyOf Try.f96)) :=
  lespec_l4Order_l2.ok mixed ttok (fun n => mkK_nat (cspec_l4Order n)) (fun n => mkK_ok (cspec_l4Order n)) (fun n => inspec_l4Order_l2 n R) (mkK_nat (cspec_l4Order n)) h0
@[reducible] def Sspec_l4Order : PkS := ⟨[.one (.ro (.pr (.int .i64) (.sl (.int .i64))))], []⟩
@[reducible] def Tspec_l4Order : PkS := ⟨[.tup [(false, [.ro (.int .i64)]), (false, [.bool])], .one (.dead)], []⟩
def Hspec_l4Order : List Sh := [.tup [(false, [(.ro (.int .i64))]), (false, [.any])], .skip]
def Kspec_l4Order (g : ∀ {R : Type}, Nat → (List (Int × List Int)) → ((List Int) → Bool → Option R) → Option R) (n : Nat) : KPs := fun R p k => match (PkS.un Sspec_l4Order p : Option ((List (Int × List Int)) × Unit)) with
  | some (x0, _) => g n x0 (fun r0 r1 => k (PkS.pack Tspec_l4Order (r0, r1, ())))
  | none => none
theorem espec_l4Order (spec_l1Has : ∀ {R : Type}, Nat → (List Int) → Int → (Bool → Option R) → Option R) (spec_l4Order_l9 : ∀ {R : Type}, Nat → (List (Int × List Int)) → Int → Int → Bool → (List (Int × List Int)) → Int → Int → (List Int) → Int → Int → (List Int) → ((List (Int × List Int)) → Int → Int → Bool → (List (Int × List Int)) → Int → Int → (List Int) → Option R) → Option R) (spec_l4Order_l5 : ∀ {R : Type}, Nat → (List (Int × List Int)) → Int → (List (Int × List Int)) → Int → Int → (List Int) → ((List (Int × List Int)) → Int → (List Int) → Option R) → Option R) (spec_l4Order_l2 : ∀ {R : Type}, Nat → (List (Int × List Int)) → (List Int) → ((List Int) → Bool → Option R) → ((List Int) → Option R) → Option R) {R : Type} (n : Nat) (x0 : List (Int × List Int)) (k : Pk → Option R) : evF tt sig (mkK [(105, Kspec_l1Has @spec_l1Has n)] R) (mkL (mkK [(105, Kspec_l1Has @spec_l1Has n)]) [(9, Dspec_l4Order_l9, Pspec_l4Order_l9 @spec_l4Order_l9 n), (5, Dspec_l4Order_l5, Pspec_l4Order_l5 @spec_l4Order_l5 n), (2, Dspec_l4Order_l2, Pspec_l4Order_l2 @spec_l4Order_l2 n)] R) Try.f96 Hspec_l4Order (PkS.pack Sspec_l4Order (x0, ())) k = (fun (k : (List Int) → Bool → Option R) => (spec_l4Order_l2 n x0 ([] : List Int) (fun r14 r15 => k r14 r15) (fun r16 => k r16 true))) (fun r0 r1 => k (PkS.pack Tspec_l4Order (r0, r1, ()))) := by kernel_rfl
theorem okspec_l4Order (n : Nat) : FnOk Try.prog 96 (Kspec_l4Order @spec_l4Order n) := by
  refine fn_ok (sig := sig) mixed ttok (mkK_nat (cspec_l4Order n)) (mkK_ok (cspec_l4Order n)) (mkL_nat (mkK_nat (cspec_l4Order n)) (l := [(9, Dspec_l4Order_l9, Pspec_l4Order_l9 @spec_l4Order_l9 n), (5, Dspec_l4Order_l5, Pspec_l4Order_l5 @spec_l4Order_l5 n), (2, Dspec_l4Order_l2, Pspec_l4Order_l2 @spec_l4Order_l2 n)]) ⟨nlspec_l4Order_l9 n, ⟨nlspec_l4Order_l5 n, ⟨nlspec_l4Order_l2 n, trivial⟩⟩⟩) (fn := Try.f96) (c := bodyOf Try.f96) (by kernel_rfl) (by kernel_rfl) (by kernel_rfl) (.eq (l := [.lo (loopIn 2 (bodyOf Try.f96))]) (by kernel_rfl) ⟨(lkspec_l4Order_l2 n _ _ (at_id (i := 2) (by kernel_rfl) rfl)), trivial⟩) (shs := Hspec_l4Order) (S := Sspec_l4Order) (h1 := by kernel_rfl) fun R p k => ?_
  unfold Kspec_l4Order
  cases h : (PkS.un Sspec_l4Order p) with
  | none => rfl
  | some d =>
    obtain ⟨x0, u⟩ := (d : (List (Int × List Int)) × Unit)
    have hp := PkS.un_pack h
    subst hp
    exact (espec_l4Order @spec_l1Has @spec_l4Order_l9 @spec_l4Order_l5 @spec_l4Order_l2 n x0 k).symm

/-! ### loop.example/g00269/spec.GoodPlan -/
theorem cspec_GoodPlan (n : Nat) : AllOk Try.prog [(72, Kspec_l1In @spec_l1In n), (119, Kspec_l3List @spec_l3List n), (105, Kspec_l1Has @spec_l1Has n), (96, Kspec_l4Order @spec_l4Order n)] := ⟨okspec_l1In n, ⟨okspec_l3List n, ⟨okspec_l1Has n, ⟨okspec_l4Order n, trivial⟩⟩⟩⟩
@[reducible] def Sspec_GoodPlan_l4 : PkS := ⟨[.one (.ro (.pr (.int .i64) (.sl (.int .i64)))), .one (.ro (.pr (.int .i64) (.sl (.int .i64)))), .one (.int .i64), .one (.int .i64), .one (.dead)], []⟩
@[reducible] def Tspec_GoodPlan_l4_0 : PkS := ⟨[.one (.bool), .one (.dead)], []⟩
@[reducible] def Tspec_GoodPlan_l4_1 : PkS := ⟨[.one (.ro (.pr (.int .i64) (.sl (.int .i64)))), .one (.dead)], []⟩
def Dspec_GoodPlan_l4 : LoopD := ⟨42, [0, 10, 11, 12], [.one (.ro (.pr (.int .i64) (.sl (.int .i64)))), .one (.ro (.pr (.int .i64) (.sl (.int .i64)))), .one .any, .one .any, .skip], fun x => match x with
  | .ret => some ([2], [.one .any, .skip])
  | .exit 0 => some ([0], [.one (.ro (.pr (.int .i64) (.sl (.int .i64)))), .skip])
  | _ => none⟩
def Pspec_GoodPlan_l4 (g : ∀ {R : Type}, Nat → (List (Int × List Int)) → (List (Int × List Int)) → Int → Int → (Bool → Option R) → ((List (Int × List Int)) → Option R) → Option R) (n : Nat) : LPs := fun R q kk => match (PkS.un Sspec_GoodPlan_l4 q : Option ((List (Int × List Int)) × (List (Int × List Int)) × Int × Int × Unit)) with
  | some (y4_0, y4_1, y4_2, y4_3, _) => g n y4_0 y4_1 y4_2 y4_3 (fun r0 => kk .ret (PkS.pack Tspec_GoodPlan_l4_0 (r0, ()))) (fun r0 => kk (.exit 0) (PkS.pack Tspec_GoodPlan_l4_1 (r0, ())))
  | none => none
theorem espec_GoodPlan_l4 (spec_l1In : ∀ {R : Type}, Nat → Int → Int → Int → (Bool → Option R) → Option R) (spec_l3List : ∀ {R : Type}, Nat → (List Int) → Int → (Bool → Option R) → Option R) (spec_l1Has : ∀ {R : Type}, Nat → (List Int) → Int → (Bool → Option R) → Option R) (spec_l4Order : ∀ {R : Type}, Nat → (List (Int × List Int)) → ((List Int) → Bool → Option R) → Option R) (spec_GoodPlan_l4 : ∀ {R : Type}, Nat → (List (Int × List Int)) → (List (Int × List Int)) → Int → Int → (Bool → Option R) → ((List (Int × List Int)) → Option R) → Option R) {R : Type} (n : Nat) (y4_0 : List (Int × List Int)) (y4_1 : List (Int × List Int)) (y4_2 : Int) (y4_3 : Int) (kk : Ex → Pk → Option R) : Dspec_GoodPlan_l4.step tt sig (mkK [(72, Kspec_l1In @spec_l1In n), (119, Kspec_l3List @spec_l3List n), (105, Kspec_l1Has @spec_l1Has n), (96, Kspec_l4Order @spec_l4Order n)] R) (mkL (mkK [(72, Kspec_l1In @spec_l1In n), (119, Kspec_l3List @spec_l3List n), (105, Kspec_l1Has @spec_l1Has n), (96, Kspec_l4Order @spec_l4Order n)]) [] R) (loopIn 4 (bodyOf Try.f95)) (fun q' => Pspec_GoodPlan_l4 @spec_GoodPlan_l4 n R q' kk) (PkS.pack Sspec_GoodPlan_l4 (y4_0, y4_1, y4_2, y4_3, ())) kk = (fun (kret : Bool → Option R) (kexit0 : (List (Int × List Int)) → Option R) => (bif (decide (y4_3 < y4_2)) then (bif decide (0 ≤ y4_3) then (bif decide (y4_3 < (y4_1.length : Int)) then (spec_l1In n ((y4_1.getD (Int.toNat y4_3) (0, [])).1) 1 100 fun r1 => (bif (!r1) then kret false else (spec_l3List n ((y4_1.getD (Int.toNat y4_3) (0, [])).2) (y4_0.length : Int) fun r2 => (bif (!r2) then kret false else (spec_l1Has n ((y4_1.getD (Int.toNat y4_3) (0, [])).2) y4_3 fun r3 => (bif r3 then kret false else spec_GoodPlan_l4 n y4_0 y4_1 y4_2 (IntKind.wrap .i64 (y4_3 + 1)) kret kexit0)))))) else none) else none) else kexit0 y4_0)) (fun r0 => kk .ret (PkS.pack Tspec_GoodPlan_l4_0 (r0, ()))) (fun r0 => kk (.exit 0) (PkS.pack Tspec_GoodPlan_l4_1 (r0, ()))) := by kernel_rfl
theorem lespec_GoodPlan_l4 : LoopEq tt sig (fun n => mkK [(72, Kspec_l1In @spec_l1In n), (119, Kspec_l3List @spec_l3List n), (105, Kspec_l1Has @spec_l1Has n), (96, Kspec_l4Order @spec_l4Order n)]) (fun n => mkL (mkK [(72, Kspec_l1In @spec_l1In n), (119, Kspec_l3List @spec_l3List n), (105, Kspec_l1Has @spec_l1Has n), (96, Kspec_l4Order @spec_l4Order n)]) []) Dspec_GoodPlan_l4 Sspec_GoodPlan_l4 (loopIn 4 (bodyOf Try.f95)) (Pspec_GoodPlan_l4 @spec_GoodPlan_l4) where
  zero R q kk := by unfold Pspec_GoodPlan_l4; cases (PkS.un Sspec_GoodPlan_l4 q) <;> rfl
  succ n R q kk := by
    unfold Pspec_GoodPlan_l4
    cases h : (PkS.un Sspec_GoodPlan_l4 q) with
    | none => rfl
    | some d =>
      obtain ⟨y4_0, y4_1, y4_2, y4_3, u⟩ := (d : (List (Int × List Int)) × (List (Int × List Int)) × Int × Int × Unit)
      have hp := PkS.un_pack h
      subst hp
      exact (espec_GoodPlan_l4 @spec_l1In @spec_l3List @spec_l1Has @spec_l4Order @spec_GoodPlan_l4 n y4_0 y4_1 y4_2 y4_3 kk).symm
theorem nlspec_GoodPlan_l4 : ∀ n, NatLP (Pspec_GoodPlan_l4 @spec_GoodPlan_l4 n) := lespec_GoodPlan_l4.nat (fun n => mkK_nat (cspec_GoodPlan n)) fun n => mkL_nat (mkK_nat (cspec_GoodPlan n)) (l := []) trivial
theorem inspec_GoodPlan_l4 (n : Nat) (R : Type) : LoopsOk Try.prog (mkL (mkK [(72, Kspec_l1In @spec_l1In n), (119, Kspec_l3List @spec_l3List n), (105, Kspec_l1Has @spec_l1Has n), (96, Kspec_l4Order @spec_l4Order n)]) [] R) (loopIn 4 (bodyOf Try.f95)) := .eq (l := []) (by kernel_rfl) trivial
theorem lkspec_GoodPlan_l4 (n : Nat) (R : Type) (L0 : LK R) (h0 : ∀ id, firstRegion (loopIn 4 (bodyOf Try.f95)) = some id → L0 id = Dspec_GoodPlan_l4.oracle (mkK [(72, Kspec_l1In @spec_l1In n), (119, Kspec_l3List @spec_l3List n), (105, Kspec_l1Has @spec_l1Has n), (96, Kspec_l4Order @spec_l4Order n)] R) (Pspec_GoodPlan_l4 @spec_GoodPlan_l4 n R)) : LoopOk Try.prog L0 (loopIn 4 (bodyOf Try.f95)) :=
  lespec_GoodPlan_l4.ok mixed ttok (fun n => mkK_nat (cspec_GoodPlan n)) (fun n => mkK_ok (cspec_GoodPlan n)) (fun n => inspec_GoodPlan_l4 n R) (mkK_nat (cspec_GoodPlan n)) h0
@[reducible] def Sspec_GoodPlan : PkS := ⟨[.one (.ro (.pr (.int .i64) (.sl (.int .i64))))], []⟩
@[reducible] def Tspec_GoodPlan : PkS := ⟨[.one (.bool), .one (.dead)], []⟩
def Hspec_GoodPlan : List Sh := [.one .any, .skip]
def Kspec_GoodPlan (g : ∀ {R : Type}, Nat → (List (Int × List Int)) → (Bool → Option R) → Option R) (n : Nat) : KPs := fun R p k => match (PkS.un Sspec_GoodPlan p : Option ((List (Int × List Int)) × Unit)) with
  | some (x0, _) => g n x0 (fun r0 => k (PkS.pack Tspec_GoodPlan (r0, ())))
  | none => none
theorem espec_GoodPlan (spec_l1In : ∀ {R : Type}, Nat → Int → Int → Int → (Bool → Option R) → Option R) (spec_l3List : ∀ {R : Type}, Nat → (List Int) → Int → (Bool → Option R) → Option R) (spec_l1Has : ∀ {R : Type}, Nat → (List Int) → Int → (Bool → Option R) → Option R) (spec_l4Order : ∀ {R : Type}, Nat → (List (Int × List Int)) → ((List Int) → Bool → Option R) → Option R) (spec_GoodPlan_l4 : ∀ {R : Type}, Nat → (List (Int × List Int)) → (List (Int × List Int)) → Int → Int → (Bool → Option R) → ((List (Int × List Int)) → Option R) → Option R) {R : Type} (n : Nat) (x0 : List (Int × List Int)) (k : Pk → Option R) : evF tt sig (mkK [(72, Kspec_l1In @spec_l1In n), (119, Kspec_l3List @spec_l3List n), (105, Kspec_l1Has @spec_l1Has n), (96, Kspec_l4Order @spec_l4Order n)] R) (mkL (mkK [(72, Kspec_l1In @spec_l1In n), (119, Kspec_l3List @spec_l3List n), (105, Kspec_l1Has @spec_l1Has n), (96, Kspec_l4Order @spec_l4Order n)]) [(4, Dspec_GoodPlan_l4, Pspec_GoodPlan_l4 @spec_GoodPlan_l4 n)] R) Try.f95 Hspec_GoodPlan (PkS.pack Sspec_GoodPlan (x0, ())) k = (fun (k : Bool → Option R) => (bif (decide ((x0.length : Int) > 30)) then k false else (spec_GoodPlan_l4 n x0 x0 (x0.length : Int) 0 (fun r4 => k r4) (fun r5 => (spec_l4Order n r5 fun r6 r7 => k r7))))) (fun r0 => k (PkS.pack Tspec_GoodPlan (r0, ()))) := by kernel_rfl
theorem okspec_GoodPlan (n : Nat) : FnOk Try.prog 95 (Kspec_GoodPlan @spec_GoodPlan n) := by
  refine fn_ok (sig := sig) mixed ttok (mkK_nat (cspec_GoodPlan n)) (mkK_ok (cspec_GoodPlan n)) (mkL_nat (mkK_nat (cspec_GoodPlan n)) (l := [(4, Dspec_GoodPlan_l4, Pspec_GoodPlan_l4 @spec_GoodPlan_l4 n)]) ⟨nlspec_GoodPlan_l4 n, trivial⟩) (fn := Try.f95) (c := bodyOf Try.f95) (by kernel_rfl) (by kernel_rfl) (by kernel_rfl) (.eq (l := [.lo (loopIn 4 (bodyOf Try.f95))]) (by kernel_rfl) ⟨(lkspec_GoodPlan_l4 n _ _ (at_id (i := 4) (by kernel_rfl) rfl)), trivial⟩) (shs := Hspec_GoodPlan) (S := Sspec_GoodPlan) (h1 := by kernel_rfl) fun R p k => ?_
  unfold Kspec_GoodPlan
  cases h : (PkS.un Sspec_GoodPlan p) with
  | none => rfl
  | some d =>
    obtain ⟨x0, u⟩ := (d : (List (Int × List Int)) × Unit)
    have hp := PkS.un_pack h
    subst hp
    exact (espec_GoodPlan @spec_l1In @spec_l3List @spec_l1Has @spec_l4Order @spec_GoodPlan_l4 n x0 k).symm

/-! ### loop.example/g00269/spec.l4Earliest -/
theorem cspec_l4Earliest (n : Nat) : AllOk Try.prog [(96, Kspec_l4Order @spec_l4Order n)] := ⟨okspec_l4Order n, trivial⟩
@[reducible] def Sspec_l4Earliest_l8 : PkS := ⟨[.one (.ro (.pr (.int .i64) (.sl (.int .i64)))), .one (.whole (100000, 0)), .one (.int .i64), .one (.int .i64), .one (.ro (.int .i64)), .one (.int .i64), .one (.int .i64), .one (.ro (.int .i64)), .one (.int .i64), .one (.int .i64), .one (.dead)], [((100000, 0), .arr (.int .i64))]⟩
@[reducible] def Tspec_l4Earliest_l8_0 : PkS := ⟨[.one (.ro (.pr (.int .i64) (.sl (.int .i64)))), .one (.whole (100000, 0)), .one (.int .i64), .one (.int .i64), .one (.ro (.int .i64)), .one (.int .i64), .one (.int .i64), .one (.dead)], [((100000, 0), .arr (.int .i64))]⟩
def Dspec_l4Earliest_l8 : LoopD := ⟨76, [0, 6, 7, 9, 22, 23, 24, 32, 33, 34], [.one (.ro (.pr (.int .i64) (.sl (.int .i64)))), .one (.own (.int .i64)), .one .any, .one .any, .one (.ro (.int .i64)), .one .any, .one .any, .one (.ro (.int .i64)), .one .any, .one .any, .skip], fun x => match x with
  | .exit 2 => some ([0, 6, 7, 9, 22, 23, 24], [.one (.ro (.pr (.int .i64) (.sl (.int .i64)))), .one (.own (.int .i64)), .one .any, .one .any, .one (.ro (.int .i64)), .one .any, .one .any, .skip])
  | _ => none⟩
def Pspec_l4Earliest_l8 (g : ∀ {R : Type}, Nat → (List (Int × List Int)) → Int → Int → (List Int) → Int → Int → (List Int) → Int → Int → (List Int) → ((List (Int × List Int)) → Int → Int → (List Int) → Int → Int → (List Int) → Option R) → Option R) (n : Nat) : LPs := fun R q kk => match (PkS.un Sspec_l4Earliest_l8 q : Option ((List (Int × List Int)) × Int × Int × (List Int) × Int × Int × (List Int) × Int × Int × (List Int) × Unit)) with
  | some (y8_0, y8_1, y8_2, y8_3, y8_4, y8_5, y8_6, y8_7, y8_8, y8_9, _) => g n y8_0 y8_1 y8_2 y8_3 y8_4 y8_5 y8_6 y8_7 y8_8 y8_9 (fun r0 r1 r2 r3 r4 r5 r6 => kk (.exit 2) (PkS.pack Tspec_l4Earliest_l8_0 (r0, r1, r2, r3, r4, r5, r6, ())))
  | none => none
theorem espec_l4Earliest_l8 (spec_l4Order : ∀ {R : Type}, Nat → (List (Int × List Int)) → ((List Int) → Bool → Option R) → Option R) (spec_l4Earliest_l8 : ∀ {R : Type}, Nat → (List (Int × List Int)) → Int → Int → (List Int) → Int → Int → (List Int) → Int → Int → (List Int) → ((List (Int × List Int)) → Int → Int → (List Int) → Int → Int → (List Int) → Option R) → Option R) {R : Type} (n : Nat) (y8_0 : List (Int × List Int)) (y8_1 : Int) (y8_2 : Int) (y8_3 : List Int) (y8_4 : Int) (y8_5 : Int) (y8_6 : List Int) (y8_7 : Int) (y8_8 : Int) (y8_9 : List Int) (kk : Ex → Pk → Option R) : Dspec_l4Earliest_l8.step tt sig (mkK [(96, Kspec_l4Order @spec_l4Order n)] R) (mkL (mkK [(96, Kspec_l4Order @spec_l4Order n)]) [] R) (loopIn 8 (bodyOf Try.f101)) (fun q' => Pspec_l4Earliest_l8 @spec_l4Earliest_l8 n R q' kk) (PkS.pack Sspec_l4Earliest_l8 (y8_0, y8_1, y8_2, y8_3, y8_4, y8_5, y8_6, y8_7, y8_8, y8_9, ())) kk = (fun (kexit2 : (List (Int × List Int)) → Int → Int → (List Int) → Int → Int → (List Int) → Option R) => (bif (decide (y8_8 < y8_7)) then (bif decide (0 ≤ y8_8) then (bif decide (y8_8 < (y8_6.length : Int)) then (bif decide (0 ≤ (y8_6.getD (Int.toNat y8_8) 0)) then (bif decide ((y8_6.getD (Int.toNat y8_8) 0) < (y8_9.length : Int)) then (bif decide (0 ≤ (y8_6.getD (Int.toNat y8_8) 0)) then (bif decide ((y8_6.getD (Int.toNat y8_8) 0) < (y8_0.length : Int)) then (bif decide (0 ≤ y8_2) then (bif decide (y8_2 < (y8_9.length : Int)) then (bif (decide ((IntKind.wrap .i64 ((y8_9.getD (Int.toNat (y8_6.getD (Int.toNat y8_8) 0)) 0) + ((y8_0.getD (Int.toNat (y8_6.getD (Int.toNat y8_8) 0)) (0, [])).1))) > (y8_9.getD (Int.toNat y8_2) 0))) then (bif decide (0 ≤ y8_2) then (bif decide (y8_2 < (y8_9.length : Int)) then spec_l4Earliest_l8 n y8_0 y8_1 y8_2 y8_3 y8_4 y8_5 y8_6 y8_7 (IntKind.wrap .i64 (y8_8 + 1)) (y8_9.set (Int.toNat y8_2) (IntKind.wrap .i64 ((y8_9.getD (Int.toNat (y8_6.getD (Int.toNat y8_8) 0)) 0) + ((y8_0.getD (Int.toNat (y8_6.getD (Int.toNat y8_8) 0)) (0, [])).1)))) kexit2 else none) else none) else spec_l4Earliest_l8 n y8_0 y8_1 y8_2 y8_3 y8_4 y8_5 y8_6 y8_7 (IntKind.wrap .i64 (y8_8 + 1)) y8_9 kexit2) else none) else none) else none) else none) else none) else none) else none) else none) else kexit2 y8_0 y8_1 y8_2 y8_3 y8_4 y8_5 y8_9)) (fun r0 r1 r2 r3 r4 r5 r6 => kk (.exit 2) (PkS.pack Tspec_l4Earliest_l8_0 (r0, r1, r2, r3, r4, r5, r6, ()))) := by kernel_rfl
theorem lespec_l4Earliest_l8 : LoopEq tt sig (fun n => mkK [(96, Kspec_l4Order @spec_l4Order n)]) (fun n => mkL (mkK [(96, Kspec_l4Order @spec_l4Order n)]) []) Dspec_l4Earliest_l8 Sspec_l4Earliest_l8 (loopIn 8 (bodyOf Try.f101)) (Pspec_l4Earliest_l8 @spec_l4Earliest_l8) where
  zero R q kk := by unfold Pspec_l4Earliest_l8; cases (PkS.un Sspec_l4Earliest_l8 q) <;> rfl
  succ n R q kk := by
    unfold Pspec_l4Earliest_l8
    cases h : (PkS.un Sspec_l4Earliest_l8 q) with
    | none => rfl
    | some d =>
      obtain ⟨y8_0, y8_1, y8_2, y8_3, y8_4, y8_5, y8_6, y8_7, y8_8, y8_9, u⟩ := (d : (List (Int × List Int)) × Int × Int × (List Int) × Int × Int × (List Int) × Int × Int × (List Int) × Unit)
      have hp := PkS.un_pack h
      subst hp
      exact (espec_l4Earliest_l8 @spec_l4Order @spec_l4Earliest_l8 n y8_0 y8_1 y8_2 y8_3 y8_4 y8_5 y8_6 y8_7 y8_8 y8_9 kk).symm
theorem nlspec_l4Earliest_l8 : ∀ n, NatLP (Pspec_l4Earliest_l8 @spec_l4Earliest_l8 n) := lespec_l4Earliest_l8.nat (fun n => mkK_nat (cspec_l4Earliest n)) fun n => mkL_nat (mkK_nat (cspec_l4Earliest n)) (l := []) trivial
theorem inspec_l4Earliest_l8 (n : Nat) (R : Type) : LoopsOk Try.prog (mkL (mkK [(96, Kspec_l4Order @spec_l4Order n)]) [] R) (loopIn 8 (bodyOf Try.f101)) := .eq (l := []) (by kernel_rfl) trivial
theorem lkspec_l4Earliest_l8 (n : Nat) (R : Type) (L0 : LK R) (h0 : ∀ id, firstRegion (loopIn 8 (bodyOf Try.f101)) = some id → L0 id = Dspec_l4Earliest_l8.oracle (mkK [(96, Kspec_l4Order @spec_l4Order n)] R) (Pspec_l4Earliest_l8 @spec_l4Earliest_l8 n R)) : LoopOk Try.prog L0 (loopIn 8 (bodyOf Try.f101)) :=
  lespec_l4Earliest_l8.ok mixed ttok (fun n => mkK_nat (cspec_l4Earliest n)) (fun n => mkK_ok (cspec_l4Earliest n)) (fun n => inspec_l4Earliest_l8 n R) (mkK_nat (cspec_l4Earliest n)) h0
@[reducible] def Sspec_l4Earliest_l5 : PkS := ⟨[.one (.ro (.pr (.int .i64) (.sl (.int .i64)))), .one (.whole (100000, 0)), .one (.int .i64), .one (.ro (.int .i64)), .one (.int .i64), .one (.int .i64), .one (.dead)], [((100000, 0), .arr (.int .i64))]⟩
@[reducible] def Tspec_l4Earliest_l5_0 : PkS := ⟨[.one (.whole (100000, 0)), .one (.int .i64), .one (.dead)], [((100000, 0), .arr (.int .i64))]⟩
def Dspec_l4Earliest_l5 : LoopD := ⟨76, [0, 6, 7, 22, 23, 24], [.one (.ro (.pr (.int .i64) (.sl (.int .i64)))), .one (.own (.int .i64)), .one .any, .one (.ro (.int .i64)), .one .any, .one .any, .skip], fun x => match x with
  | .exit 0 => some ([6, 7], [.one (.own (.int .i64)), .one .any, .skip])
  | _ => none⟩
def Pspec_l4Earliest_l5 (g : ∀ {R : Type}, Nat → (List (Int × List Int)) → Int → (List Int) → Int → Int → (List Int) → (Int → (List Int) → Option R) → Option R) (n : Nat) : LPs := fun R q kk => match (PkS.un Sspec_l4Earliest_l5 q : Option ((List (Int × List Int)) × Int × (List Int) × Int × Int × (List Int) × Unit)) with
  | some (y5_0, y5_1, y5_2, y5_3, y5_4, y5_5, _) => g n y5_0 y5_1 y5_2 y5_3 y5_4 y5_5 (fun r0 r1 => kk (.exit 0) (PkS.pack Tspec_l4Earliest_l5_0 (r0, r1, ())))
  | none => none
theorem espec_l4Earliest_l5 (spec_l4Order : ∀ {R : Type}, Nat → (List (Int × List Int)) → ((List Int) → Bool → Option R) → Option R) (spec_l4Earliest_l8 : ∀ {R : Type}, Nat → (List (Int × List Int)) → Int → Int → (List Int) → Int → Int → (List Int) → Int → Int → (List Int) → ((List (Int × List Int)) → Int → Int → (List Int) → Int → Int → (List Int) → Option R) → Option R) (spec_l4Earliest_l5 : ∀ {R : Type}, Nat → (List (Int × List Int)) → Int → (List Int) → Int → Int → (List Int) → (Int → (List Int) → Option R) → Option R) {R : Type} (n : Nat) (y5_0 : List (Int × List Int)) (y5_1 : Int) (y5_2 : List Int) (y5_3 : Int) (y5_4 : Int) (y5_5 : List Int) (kk : Ex → Pk → Option R) : Dspec_l4Earliest_l5.step tt sig (mkK [(96, Kspec_l4Order @spec_l4Order n)] R) (mkL (mkK [(96, Kspec_l4Order @spec_l4Order n)]) [(8, Dspec_l4Earliest_l8, Pspec_l4Earliest_l8 @spec_l4Earliest_l8 n)] R) (loopIn 5 (bodyOf Try.f101)) (fun q' => Pspec_l4Earliest_l5 @spec_l4Earliest_l5 n R q' kk) (PkS.pack Sspec_l4Earliest_l5 (y5_0, y5_1, y5_2, y5_3, y5_4, y5_5, ())) kk = (fun (kexit0 : Int → (List Int) → Option R) => (bif (decide (y5_4 < y5_3)) then (bif decide (0 ≤ y5_4) then (bif decide (y5_4 < (y5_2.length : Int)) then (bif decide (0 ≤ (y5_2.getD (Int.toNat y5_4) 0)) then (bif decide ((y5_2.getD (Int.toNat y5_4) 0) < (y5_0.length : Int)) then (spec_l4Earliest_l8 n y5_0 y5_1 (y5_2.getD (Int.toNat y5_4) 0) y5_2 y5_3 y5_4 ((y5_0.getD (Int.toNat (y5_2.getD (Int.toNat y5_4) 0)) (0, [])).2) (((y5_0.getD (Int.toNat (y5_2.getD (Int.toNat y5_4) 0)) (0, [])).2).length : Int) 0 y5_5 (fun r3 r4 r5 r6 r7 r8 r9 => (bif decide (0 ≤ r5) then (bif decide (r5 < (r9.length : Int)) then (bif decide (0 ≤ r5) then (bif decide (r5 < (r3.length : Int)) then (bif (decide ((IntKind.wrap .i64 ((r9.getD (Int.toNat r5) 0) + ((r3.getD (Int.toNat r5) (0, [])).1))) > r4)) then spec_l4Earliest_l5 n r3 (IntKind.wrap .i64 ((r9.getD (Int.toNat r5) 0) + ((r3.getD (Int.toNat r5) (0, [])).1))) r6 r7 (IntKind.wrap .i64 (r8 + 1)) r9 kexit0 else spec_l4Earliest_l5 n r3 r4 r6 r7 (IntKind.wrap .i64 (r8 + 1)) r9 kexit0) else none) else none) else none) else none))) else none) else none) else none) else none) else kexit0 y5_1 y5_5)) (fun r0 r1 => kk (.exit 0) (PkS.pack Tspec_l4Earliest_l5_0 (r0, r1, ()))) := by kernel_rfl
theorem lespec_l4Earliest_l5 : LoopEq tt sig (fun n => mkK [(96, Kspec_l4Order @spec_l4Order n)]) (fun n => mkL (mkK [(96, Kspec_l4Order @spec_l4Order n)]) [(8, Dspec_l4Earliest_l8, Pspec_l4Earliest_l8 @spec_l4Earliest_l8 n)]) Dspec_l4Earliest_l5 Sspec_l4Earliest_l5 (loopIn 5 (bodyOf Try.f101)) (Pspec_l4Earliest_l5 @spec_l4Earliest_l5) where
  zero R q kk := by unfold Pspec_l4Earliest_l5; cases (PkS.un Sspec_l4Earliest_l5 q) <;> rfl
  succ n R q kk := by
    unfold Pspec_l4Earliest_l5
    cases h : (PkS.un Sspec_l4Earliest_l5 q) with
    | none => rfl
    | some d =>
      obtain ⟨y5_0, y5_1, y5_2, y5_3, y5_4, y5_5, u⟩ := (d : (List (Int × List Int)) × Int × (List Int) × Int × Int × (List Int) × Unit)
      have hp := PkS.un_pack h
      subst hp
      exact (espec_l4Earliest_l5 @spec_l4Order @spec_l4Earliest_l8 @spec_l4Earliest_l5 n y5_0 y5_1 y5_2 y5_3 y5_4 y5_5 kk).symm
theorem nlspec_l4Earliest_l5 : ∀ n, NatLP (Pspec_l4Earliest_l5 @spec_l4Earliest_l5 n) := lespec_l4Earliest_l5.nat (fun n => mkK_nat (cspec_l4Earliest n)) fun n => mkL_nat (mkK_nat (cspec_l4Earliest n)) (l := [(8, Dspec_l4Earliest_l8, Pspec_l4Earliest_l8 @spec_l4Earliest_l8 n)]) ⟨nlspec_l4Earliest_l8 n, trivial⟩
theorem inspec_l4Earliest_l5 (n : Nat) (R : Type) : LoopsOk Try.prog (mkL (mkK [(96, Kspec_l4Order @spec_l4Order n)]) [(8, Dspec_l4Earliest_l8, Pspec_l4Earliest_l8 @spec_l4Earliest_l8 n)] R) (loopIn 5 (bodyOf Try.f101)) := .eq (l := [.lo (loopIn 8 (bodyOf Try.f101))]) (by kernel_rfl) ⟨(lkspec_l4Earliest_l8 n R _ (at_id (i := 8) (by kernel_rfl) rfl)), trivial⟩
theorem lkspec_l4Earliest_l5 (n : Nat) (R : Type) (L0 : LK R) (h0 : ∀ id, firstRegion (loopIn 5 (bodyOf Try.f101)) = some id → L0 id = Dspec_l4Earliest_l5.oracle (mkK [(96, Kspec_l4Order @spec_l4Order n)] R) (Pspec_l4Earliest_l5 @spec_l4Earliest_l5 n R)) : LoopOk Try.prog L0 (loopIn 5 (bodyOf Try.f101)) :=
  lespec_l4Earliest_l5.ok mixed ttok (fun n => mkK_nat (cspec_l4Earliest n)) (fun n => mkK_ok (cspec_l4Earliest n)) (fun n => inspec_l4Earliest_l5 n R) (mkK_nat (cspec_l4Earliest n)) h0
@[reducible] def Sspec_l4Earliest : PkS := ⟨[.one (.ro (.pr (.int .i64) (.sl (.int .i64))))], []⟩
@[reducible] def Tspec_l4Earliest : PkS := ⟨[.tup [(false, [.whole (300000, 0)]), (false, [.int .i64])], .one (.dead)], [((300000, 0), .arr (.int .i64))]⟩
def Hspec_l4Earliest : List Sh := [.tup [(false, [(.own (.int .i64))]), (false, [.any])], .skip]
def Kspec_l4Earliest (g : ∀ {R : Type}, Nat → (List (Int × List Int)) → (Int → (List Int) → Option R) → Option R) (n : Nat) : KPs := fun R p k => match (PkS.un Sspec_l4Earliest p : Option ((List (Int × List Int)) × Unit)) with
  | some (x0, _) => g n x0 (fun r0 r1 => k (PkS.pack Tspec_l4Earliest (r0, r1, ())))
  | none => none
theorem espec_l4Earliest (spec_l4Order : ∀ {R : Type}, Nat → (List (Int × List Int)) → ((List Int) → Bool → Option R) → Option R) (spec_l4Earliest_l8 : ∀ {R : Type}, Nat → (List (Int × List Int)) → Int → Int → (List Int) → Int → Int → (List Int) → Int → Int → (List Int) → ((List (Int × List Int)) → Int → Int → (List Int) → Int → Int → (List Int) → Option R) → Option R) (spec_l4Earliest_l5 : ∀ {R : Type}, Nat → (List (Int × List Int)) → Int → (List Int) → Int → Int → (List Int) → (Int → (List Int) → Option R) → Option R) {R : Type} (n : Nat) (x0 : List (Int × List Int)) (k : Pk → Option R) : evF tt sig (mkK [(96, Kspec_l4Order @spec_l4Order n)] R) (mkL (mkK [(96, Kspec_l4Order @spec_l4Order n)]) [(8, Dspec_l4Earliest_l8, Pspec_l4Earliest_l8 @spec_l4Earliest_l8 n), (5, Dspec_l4Earliest_l5, Pspec_l4Earliest_l5 @spec_l4Earliest_l5 n)] R) Try.f101 Hspec_l4Earliest (PkS.pack Sspec_l4Earliest (x0, ())) k = (fun (k : Int → (List Int) → Option R) => (spec_l4Order n x0 fun r1 r2 => (bif decide (0 ≤ (x0.length : Int)) then (bif decide ((x0.length : Int) ≤ (x0.length : Int)) then (bif decide ((x0.length : Int) ≤ 1099511627776) then (spec_l4Earliest_l5 n x0 0 r1 (r1.length : Int) 0 (List.replicate (Int.toNat (x0.length : Int)) (0 : Int)) (fun r10 r11 => k r10 r11)) else none) else none) else none))) (fun r0 r1 => k (PkS.pack Tspec_l4Earliest (r0, r1, ()))) := by kernel_rfl
theorem okspec_l4Earliest (n : Nat) : FnOk Try.prog 101 (Kspec_l4Earliest @spec_l4Earliest n) := by
  refine fn_ok (sig := sig) mixed ttok (mkK_nat (cspec_l4Earliest n)) (mkK_ok (cspec_l4Earliest n)) (mkL_nat (mkK_nat (cspec_l4Earliest n)) (l := [(8, Dspec_l4Earliest_l8, Pspec_l4Earliest_l8 @spec_l4Earliest_l8 n), (5, Dspec_l4Earliest_l5, Pspec_l4Earliest_l5 @spec_l4Earliest_l5 n)]) ⟨nlspec_l4Earliest_l8 n, ⟨nlspec_l4Earliest_l5 n, trivial⟩⟩) (fn := Try.f101) (c := bodyOf Try.f101) (by kernel_rfl) (by kernel_rfl) (by kernel_rfl) (.eq (l := [.lo (loopIn 5 (bodyOf Try.f101))]) (by kernel_rfl) ⟨(lkspec_l4Earliest_l5 n _ _ (at_id (i := 5) (by kernel_rfl) rfl)), trivial⟩) (shs := Hspec_l4Earliest) (S := Sspec_l4Earliest) (h1 := by kernel_rfl) fun R p k => ?_
  unfold Kspec_l4Earliest
  cases h : (PkS.un Sspec_l4Earliest p) with
  | none => rfl
  | some d =>
    obtain ⟨x0, u⟩ := (d : (List (Int × List Int)) × Unit)
    have hp := PkS.un_pack h
    subst hp
    exact (espec_l4Earliest @spec_l4Order @spec_l4Earliest_l8 @spec_l4Earliest_l5 n x0 k).symm

/-! ### loop.example/g00269/spec.EarliestOf -/
theorem cspec_EarliestOf (n : Nat) : AllOk Try.prog [(95, Kspec_GoodPlan @spec_GoodPlan n), (101, Kspec_l4Earliest @spec_l4Earliest n)] := ⟨okspec_GoodPlan n, ⟨okspec_l4Earliest n, trivial⟩⟩
@[reducible] def Sspec_EarliestOf : PkS := ⟨[.one (.ro (.pr (.int .i64) (.sl (.int .i64))))], []⟩
@[reducible] def Tspec_EarliestOf : PkS := ⟨[.tup [(false, [.whole (300000, 0)]), (false, [.int .i64]), (false, [.bool])], .one (.dead)], [((300000, 0), .arr (.int .i64))]⟩
def Hspec_EarliestOf : List Sh := [.tup [(false, [(.own (.int .i64))]), (false, [.any]), (false, [.any])], .skip]
def Kspec_EarliestOf (g : ∀ {R : Type}, Nat → (List (Int × List Int)) → (Int → Bool → (List Int) → Option R) → Option R) (n : Nat) : KPs := fun R p k => match (PkS.un Sspec_EarliestOf p : Option ((List (Int × List Int)) × Unit)) with
  | some (x0, _) => g n x0 (fun r0 r1 r2 => k (PkS.pack Tspec_EarliestOf (r0, r1, r2, ())))
  | none => none
theorem espec_EarliestOf (spec_GoodPlan : ∀ {R : Type}, Nat → (List (Int × List Int)) → (Bool → Option R) → Option R) (spec_l4Earliest : ∀ {R : Type}, Nat → (List (Int × List Int)) → (Int → (List Int) → Option R) → Option R) {R : Type} (n : Nat) (x0 : List (Int × List Int)) (k : Pk → Option R) : evF tt sig (mkK [(95, Kspec_GoodPlan @spec_GoodPlan n), (101, Kspec_l4Earliest @spec_l4Earliest n)] R) (mkL (mkK [(95, Kspec_GoodPlan @spec_GoodPlan n), (101, Kspec_l4Earliest @spec_l4Earliest n)]) [] R) Try.f44 Hspec_EarliestOf (PkS.pack Sspec_EarliestOf (x0, ())) k = (fun (k : Int → Bool → (List Int) → Option R) => (spec_GoodPlan n x0 fun r1 => (bif (!r1) then k 0 false ([] : List Int) else (spec_l4Earliest n x0 fun r2 r3 => k r2 true r3)))) (fun r0 r1 r2 => k (PkS.pack Tspec_EarliestOf (r0, r1, r2, ()))) := by kernel_rfl
theorem okspec_EarliestOf (n : Nat) : FnOk Try.prog 44 (Kspec_EarliestOf @spec_EarliestOf n) := by
  refine fn_ok (sig := sig) mixed ttok (mkK_nat (cspec_EarliestOf n)) (mkK_ok (cspec_EarliestOf n)) (mkL_nat (mkK_nat (cspec_EarliestOf n)) (l := []) trivial) (fn := Try.f44) (c := bodyOf Try.f44) (by kernel_rfl) (by kernel_rfl) (by kernel_rfl) (.eq (l := []) (by kernel_rfl) trivial) (shs := Hspec_EarliestOf) (S := Sspec_EarliestOf) (h1 := by kernel_rfl) fun R p k => ?_
  unfold Kspec_EarliestOf
  cases h : (PkS.un Sspec_EarliestOf p) with
  | none => rfl
  | some d =>
    obtain ⟨x0, u⟩ := (d : (List (Int × List Int)) × Unit)
    have hp := PkS.un_pack h
    subst hp
    exact (espec_EarliestOf @spec_GoodPlan @spec_l4Earliest n x0 k).symm

/-! ### slices.Backward[[]int,int] -/
theorem cslices_Backward_int (n : Nat) : AllOk Try.prog [] := trivial
@[reducible] def Sslices_Backward_int : PkS := ⟨[.one (.ro (.int .i64))], []⟩
@[reducible] def Tslices_Backward_int : PkS := ⟨[.one (.fn 148 [((300000, 0), 0)]), .one (.dead)], [((300000, 0), .box [.ro (.int .i64)])]⟩
def Hslices_Backward_int : List Sh := [.fn 148 [[(.ro (.int .i64))]], .skip]
def Kslices_Backward_int (g : ∀ {R : Type}, Nat → (List Int) → ((List Int) → Option R) → Option R) (n : Nat) : KPs := fun R p k => match (PkS.un Sslices_Backward_int p : Option ((List Int) × Unit)) with
  | some (x0, _) => g n x0 (fun r0 => k (PkS.pack Tslices_Backward_int (r0, ())))
  | none => none
theorem eslices_Backward_int  {R : Type} (n : Nat) (x0 : List Int) (k : Pk → Option R) : evF tt sig (mkK [] R) (mkL (mkK []) [] R) Try.f97 Hslices_Backward_int (PkS.pack Sslices_Backward_int (x0, ())) k = (fun (k : (List Int) → Option R) => k x0) (fun r0 => k (PkS.pack Tslices_Backward_int (r0, ()))) := by kernel_rfl
theorem okslices_Backward_int (n : Nat) : FnOk Try.prog 97 (Kslices_Backward_int @slices_Backward_int n) := by
  refine fn_ok (sig := sig) mixed ttok (mkK_nat (cslices_Backward_int n)) (mkK_ok (cslices_Backward_int n)) (mkL_nat (mkK_nat (cslices_Backward_int n)) (l := []) trivial) (fn := Try.f97) (c := bodyOf Try.f97) (by kernel_rfl) (by kernel_rfl) (by kernel_rfl) (.eq (l := []) (by kernel_rfl) trivial) (shs := Hslices_Backward_int) (S := Sslices_Backward_int) (h1 := by kernel_rfl) fun R p k => ?_
  unfold Kslices_Backward_int
  cases h : (PkS.un Sslices_Backward_int p) with
  | none => rfl
  | some d =>
    obtain ⟨x0, u⟩ := (d : (List Int) × Unit)
    have hp := PkS.un_pack h
    subst hp
    exact (eslices_Backward_int  n x0 k).symm

/-! ### loop.example/g00269/impl.tails -/
theorem cimpl_tails (n : Nat) : AllOk Try.prog [(94, Kimpl_order @impl_order n), (97, Kslices_Backward_int @slices_Backward_int n)] := ⟨okimpl_order n, ⟨okslices_Backward_int n, trivial⟩⟩
@[reducible] def Simpl_tails_l6 : PkS := ⟨[.one (.box (100000, 0) 0), .one (.box (100000, 2) 0), .one (.int .i64), .one (.ro (.int .i64)), .one (.int .i64), .one (.int .i64), .one (.fn 148 [((100000, 3), 0)]), .one (.box (100000, 0) 0), .one (.box (100000, 2) 0), .one (.dead)], [((100000, 0), .box [.ro (.pr (.int .i64) (.sl (.int .i64)))]), ((100000, 1), .arr (.int .i64)), ((100000, 2), .box [.whole (100000, 1)]), ((100000, 3), .box [.ro (.int .i64)])]⟩
@[reducible] def Timpl_tails_l6_0 : PkS := ⟨[.one (.box (100000, 0) 0), .one (.box (100000, 2) 0), .one (.fn 148 [((100000, 3), 0)]), .one (.box (100000, 0) 0), .one (.box (100000, 2) 0), .one (.dead)], [((100000, 0), .box [.ro (.pr (.int .i64) (.sl (.int .i64)))]), ((100000, 1), .arr (.int .i64)), ((100000, 2), .box [.whole (100000, 1)]), ((100000, 3), .box [.ro (.int .i64)])]⟩
def Dimpl_tails_l6 : LoopD := ⟨51, [1, 3, 5, 31, 32, 33], [.box [(.ro (.pr (.int .i64) (.sl (.int .i64))))], .box [(.own (.int .i64))], .one .any, .one (.ro (.int .i64)), .one .any, .one .any, .fn 148 [[(.ro (.int .i64))]], .box [(.ro (.pr (.int .i64) (.sl (.int .i64))))], .box [(.own (.int .i64))], .skip], fun x => match x with
  | .exit 2 => some ([1, 3], [.box [(.ro (.pr (.int .i64) (.sl (.int .i64))))], .box [(.own (.int .i64))], .fn 148 [[(.ro (.int .i64))]], .box [(.ro (.pr (.int .i64) (.sl (.int .i64))))], .box [(.own (.int .i64))], .skip])
  | _ => none⟩
def Pimpl_tails_l6 (g : ∀ {R : Type}, Nat → Int → (List Int) → Int → Int → (List (Int × List Int)) → (List Int) → (List Int) → ((List (Int × List Int)) → (List Int) → (List Int) → Option R) → Option R) (n : Nat) : LPs := fun R q kk => match (PkS.un Simpl_tails_l6 q : Option (Int × (List Int) × Int × Int × (List (Int × List Int)) × (List Int) × (List Int) × Unit)) with
  | some (y6_0, y6_1, y6_2, y6_3, y6_4, y6_5, y6_6, _) => g n y6_0 y6_1 y6_2 y6_3 y6_4 y6_5 y6_6 (fun r0 r1 r2 => kk (.exit 2) (PkS.pack Timpl_tails_l6_0 (r0, r1, r2, ())))
  | none => none
theorem eimpl_tails_l6 (impl_order : ∀ {R : Type}, Nat → (List (Int × List Int)) → ((List Int) → Option R) → Option R) (slices_Backward_int : ∀ {R : Type}, Nat → (List Int) → ((List Int) → Option R) → Option R) (impl_tails_l6 : ∀ {R : Type}, Nat → Int → (List Int) → Int → Int → (List (Int × List Int)) → (List Int) → (List Int) → ((List (Int × List Int)) → (List Int) → (List Int) → Option R) → Option R) {R : Type} (n : Nat) (y6_0 : Int) (y6_1 : List Int) (y6_2 : Int) (y6_3 : Int) (y6_4 : List (Int × List Int)) (y6_5 : List Int) (y6_6 : List Int) (kk : Ex → Pk → Option R) : Dimpl_tails_l6.step tt sig (mkK [(94, Kimpl_order @impl_order n), (97, Kslices_Backward_int @slices_Backward_int n)] R) (mkL (mkK [(94, Kimpl_order @impl_order n), (97, Kslices_Backward_int @slices_Backward_int n)]) [] R) (loopIn 6 (bodyOf Try.f102)) (fun q' => Pimpl_tails_l6 @impl_tails_l6 n R q' kk) (PkS.pack Simpl_tails_l6 (y6_0, y6_1, y6_2, y6_3, y6_4, y6_5, y6_6, ())) kk = (fun (kexit2 : (List (Int × List Int)) → (List Int) → (List Int) → Option R) => (bif (decide (y6_3 < y6_2)) then (bif decide (0 ≤ y6_3) then (bif decide (y6_3 < (y6_1.length : Int)) then (bif decide (0 ≤ (y6_1.getD (Int.toNat y6_3) 0)) then (bif decide ((y6_1.getD (Int.toNat y6_3) 0) < (y6_5.length : Int)) then (bif decide (0 ≤ y6_0) then (bif decide (y6_0 < (y6_5.length : Int)) then (bif decide (0 ≤ (y6_1.getD (Int.toNat y6_3) 0)) then (bif decide ((y6_1.getD (Int.toNat y6_3) 0) < (y6_5.length : Int)) then impl_tails_l6 n y6_0 y6_1 y6_2 (IntKind.wrap .i64 (y6_3 + 1)) y6_4 (y6_5.set (Int.toNat (y6_1.getD (Int.toNat y6_3) 0)) (if (y6_5.getD (Int.toNat y6_0) 0) > (y6_5.getD (Int.toNat (y6_1.getD (Int.toNat y6_3) 0)) 0) then (y6_5.getD (Int.toNat y6_0) 0) else (y6_5.getD (Int.toNat (y6_1.getD (Int.toNat y6_3) 0)) 0))) y6_6 kexit2 else none) else none) else none) else none) else none) else none) else none) else none) else kexit2 y6_4 y6_5 y6_6)) (fun r0 r1 r2 => kk (.exit 2) (PkS.pack Timpl_tails_l6_0 (r0, r1, r2, ()))) := by kernel_rfl
theorem leimpl_tails_l6 : LoopEq tt sig (fun n => mkK [(94, Kimpl_order @impl_order n), (97, Kslices_Backward_int @slices_Backward_int n)]) (fun n => mkL (mkK [(94, Kimpl_order @impl_order n), (97, Kslices_Backward_int @slices_Backward_int n)]) []) Dimpl_tails_l6 Simpl_tails_l6 (loopIn 6 (bodyOf Try.f102)) (Pimpl_tails_l6 @impl_tails_l6) where
  zero R q kk := by unfold Pimpl_tails_l6; cases (PkS.un Simpl_tails_l6 q) <;> rfl
  succ n R q kk := by
    unfold Pimpl_tails_l6
    cases h : (PkS.un Simpl_tails_l6 q) with
    | none => rfl
    | some d =>
      obtain ⟨y6_0, y6_1, y6_2, y6_3, y6_4, y6_5, y6_6, u⟩ := (d : Int × (List Int) × Int × Int × (List (Int × List Int)) × (List Int) × (List Int) × Unit)
      have hp := PkS.un_pack h
      subst hp
      exact (eimpl_tails_l6 @impl_order @slices_Backward_int @impl_tails_l6 n y6_0 y6_1 y6_2 y6_3 y6_4 y6_5 y6_6 kk).symm
theorem nlimpl_tails_l6 : ∀ n, NatLP (Pimpl_tails_l6 @impl_tails_l6 n) := leimpl_tails_l6.nat (fun n => mkK_nat (cimpl_tails n)) fun n => mkL_nat (mkK_nat (cimpl_tails n)) (l := []) trivial
theorem inimpl_tails_l6 (n : Nat) (R : Type) : LoopsOk Try.prog (mkL (mkK [(94, Kimpl_order @impl_order n), (97, Kslices_Backward_int @slices_Backward_int n)]) [] R) (loopIn 6 (bodyOf Try.f102)) := .eq (l := []) (by kernel_rfl) trivial
theorem lkimpl_tails_l6 (n : Nat) (R : Type) (L0 : LK R) (h0 : ∀ id, firstRegion (loopIn 6 (bodyOf Try.f102)) = some id → L0 id = Dimpl_tails_l6.oracle (mkK [(94, Kimpl_order @impl_order n), (97, Kslices_Backward_int @slices_Backward_int n)] R) (Pimpl_tails_l6 @impl_tails_l6 n R)) : LoopOk Try.prog L0 (loopIn 6 (bodyOf Try.f102)) :=
  leimpl_tails_l6.ok mixed ttok (fun n => mkK_nat (cimpl_tails n)) (fun n => mkK_ok (cimpl_tails n)) (fun n => inimpl_tails_l6 n R) (mkK_nat (cimpl_tails n)) h0
@[reducible] def Simpl_tails_l4 : PkS := ⟨[.one (.fn 148 [((100000, 0), 0)]), .one (.box (100000, 1) 0), .one (.box (100000, 3) 0), .one (.dead)], [((100000, 0), .box [.ro (.int .i64)]), ((100000, 1), .box [.ro (.pr (.int .i64) (.sl (.int .i64)))]), ((100000, 2), .arr (.int .i64)), ((100000, 3), .box [.whole (100000, 2)])]⟩
@[reducible] def Timpl_tails_l4_0 : PkS := ⟨[.one (.dead), .one (.dead), .one (.box (100000, 1) 0), .one (.dead)], [((100000, 0), .arr (.int .i64)), ((100000, 1), .box [.whole (100000, 0)])]⟩
def Dimpl_tails_l4 : RangeD := ⟨51, 13, 148, (.int .i64), false, 14, 15, [1, 3], [.box [(.ro (.pr (.int .i64) (.sl (.int .i64))))], .box [(.own (.int .i64))], .skip], fun x => match x with
  | .normal => some [.skip, .skip, .box [(.own (.int .i64))], .skip]
  | _ => none⟩
def Pimpl_tails_l4 (g : ∀ {R : Type}, Nat → (List Int) → (List (Int × List Int)) → (List Int) → Int → ((List Int) → Option R) → Option R) (n : Nat) : RPs := fun R q j kk => match (PkS.un Simpl_tails_l4 q : Option ((List Int) × (List (Int × List Int)) × (List Int) × Unit)) with
  | some (y4_0, y4_1, y4_2, _) => g n y4_0 y4_1 y4_2 j (fun r0 => kk (.normal) (PkS.pack Timpl_tails_l4_0 (r0, ())))
  | none => none
theorem eimpl_tails_l4 (impl_order : ∀ {R : Type}, Nat → (List (Int × List Int)) → ((List Int) → Option R) → Option R) (slices_Backward_int : ∀ {R : Type}, Nat → (List Int) → ((List Int) → Option R) → Option R) (impl_tails_l6 : ∀ {R : Type}, Nat → Int → (List Int) → Int → Int → (List (Int × List Int)) → (List Int) → (List Int) → ((List (Int × List Int)) → (List Int) → (List Int) → Option R) → Option R) (impl_tails_l4 : ∀ {R : Type}, Nat → (List Int) → (List (Int × List Int)) → (List Int) → Int → ((List Int) → Option R) → Option R) {R : Type} (n : Nat) (y4_0 : List Int) (y4_1 : List (Int × List Int)) (y4_2 : List Int) (i4_ : Int) (kk : Ex → Pk → Option R) : Dimpl_tails_l4.step tt sig (mkK [(94, Kimpl_order @impl_order n), (97, Kslices_Backward_int @slices_Backward_int n)] R) (mkL (mkK [(94, Kimpl_order @impl_order n), (97, Kslices_Backward_int @slices_Backward_int n)]) [(6, Dimpl_tails_l6, Pimpl_tails_l6 @impl_tails_l6 n)] R) (asgIn 4 (bodyOf Try.f102)) (loopIn 4 (bodyOf Try.f102)) (fun q' j => Pimpl_tails_l4 @impl_tails_l4 n R q' j kk) (PkS.pack Simpl_tails_l4 (y4_0, y4_1, y4_2, ())) i4_ kk = (fun (knormal : (List Int) → Option R) => (bif decide (i4_ ≥ 0) then (bif decide (i4_ < (y4_0.length : Int)) then (bif decide (0 ≤ (y4_0.getD (Int.toNat i4_) 0)) then (bif decide ((y4_0.getD (Int.toNat i4_) 0) < (y4_2.length : Int)) then (bif decide (0 ≤ (y4_0.getD (Int.toNat i4_) 0)) then (bif decide ((y4_0.getD (Int.toNat i4_) 0) < (y4_1.length : Int)) then (bif decide (0 ≤ (y4_0.getD (Int.toNat i4_) 0)) then (bif decide ((y4_0.getD (Int.toNat i4_) 0) < (y4_2.length : Int)) then (bif decide (0 ≤ (y4_0.getD (Int.toNat i4_) 0)) then (bif decide ((y4_0.getD (Int.toNat i4_) 0) < (y4_1.length : Int)) then (impl_tails_l6 n (y4_0.getD (Int.toNat i4_) 0) ((y4_1.getD (Int.toNat (y4_0.getD (Int.toNat i4_) 0)) (0, [])).2) (((y4_1.getD (Int.toNat (y4_0.getD (Int.toNat i4_) 0)) (0, [])).2).length : Int) 0 y4_1 (y4_2.set (Int.toNat (y4_0.getD (Int.toNat i4_) 0)) (IntKind.wrap .i64 ((y4_2.getD (Int.toNat (y4_0.getD (Int.toNat i4_) 0)) 0) + ((y4_1.getD (Int.toNat (y4_0.getD (Int.toNat i4_) 0)) (0, [])).1)))) y4_0 (fun r3 r4 r5 => impl_tails_l4 n r5 r3 r4 (IntKind.wrap .i64 (i4_ - 1)) knormal)) else none) else none) else none) else none) else none) else none) else none) else none) else none) else knormal y4_2)) (fun r0 => kk (.normal) (PkS.pack Timpl_tails_l4_0 (r0, ()))) := by kernel_rfl
theorem leimpl_tails_l4 : RangeEq tt sig (fun n => mkK [(94, Kimpl_order @impl_order n), (97, Kslices_Backward_int @slices_Backward_int n)]) (fun n => mkL (mkK [(94, Kimpl_order @impl_order n), (97, Kslices_Backward_int @slices_Backward_int n)]) [(6, Dimpl_tails_l6, Pimpl_tails_l6 @impl_tails_l6 n)]) Dimpl_tails_l4 Simpl_tails_l4 (asgIn 4 (bodyOf Try.f102)) (loopIn 4 (bodyOf Try.f102)) (Pimpl_tails_l4 @impl_tails_l4) where
  zero R q j kk := by unfold Pimpl_tails_l4; cases (PkS.un Simpl_tails_l4 q) <;> rfl
  succ n R q j kk := by
    unfold Pimpl_tails_l4
    cases h : (PkS.un Simpl_tails_l4 q) with
    | none => rfl
    | some d =>
      obtain ⟨y4_0, y4_1, y4_2, u⟩ := (d : (List Int) × (List (Int × List Int)) × (List Int) × Unit)
      have hp := PkS.un_pack h
      subst hp
      exact (eimpl_tails_l4 @impl_order @slices_Backward_int @impl_tails_l6 @impl_tails_l4 n y4_0 y4_1 y4_2 j kk).symm
theorem nlimpl_tails_l4 : ∀ n, NatRP (Pimpl_tails_l4 @impl_tails_l4 n) := leimpl_tails_l4.nat (fun n => mkK_nat (cimpl_tails n)) fun n => mkL_nat (mkK_nat (cimpl_tails n)) (l := [(6, Dimpl_tails_l6, Pimpl_tails_l6 @impl_tails_l6 n)]) ⟨nlimpl_tails_l6 n, trivial⟩
theorem inimpl_tails_l4 (n : Nat) (R : Type) : LoopsOk Try.prog (mkL (mkK [(94, Kimpl_order @impl_order n), (97, Kslices_Backward_int @slices_Backward_int n)]) [(6, Dimpl_tails_l6, Pimpl_tails_l6 @impl_tails_l6 n)] R) (loopIn 4 (bodyOf Try.f102)) := .eq (l := [.lo (loopIn 6 (bodyOf Try.f102))]) (by kernel_rfl) ⟨(lkimpl_tails_l6 n R _ (at_id (i := 6) (by kernel_rfl) rfl)), trivial⟩
theorem rkimpl_tails_l4 (n : Nat) (R : Type) (L0 : LK R) (h0 : ∀ id, firstRegion (loopIn 4 (bodyOf Try.f102)) = some id → L0 id = Dimpl_tails_l4.oracle (mkK [(94, Kimpl_order @impl_order n), (97, Kslices_Backward_int @slices_Backward_int n)] R) (Pimpl_tails_l4 @impl_tails_l4 n R)) : RangeOk Try.prog L0 (.tmp 13) #[14, 15] (asgIn 4 (bodyOf Try.f102)) (loopIn 4 (bodyOf Try.f102)) :=
  leimpl_tails_l4.ok mixed ttok (fun n => mkK_nat (cimpl_tails n)) (fun n => mkK_ok (cimpl_tails n)) (fun n => .eq (l := []) (by kernel_rfl) trivial) (fun n => inimpl_tails_l4 n R) (by kernel_rfl) (by kernel_rfl) (by kernel_rfl) (by kernel_rfl) (ts := 22) (te := 3) (ti := 3) (tb := 4) (ty := 155) (by kernel_rfl) ⟨Try.f148, by kernel_rfl, by kernel_rfl, by kernel_rfl, by kernel_rfl, by kernel_rfl⟩ (mkK_nat (cimpl_tails n)) h0
@[reducible] def Simpl_tails : PkS := ⟨[.one (.ro (.pr (.int .i64) (.sl (.int .i64))))], []⟩
@[reducible] def Timpl_tails : PkS := ⟨[.one (.whole (300000, 0)), .one (.dead)], [((300000, 0), .arr (.int .i64))]⟩
def Himpl_tails : List Sh := [.one (.own (.int .i64)), .skip]
def Kimpl_tails (g : ∀ {R : Type}, Nat → (List (Int × List Int)) → ((List Int) → Option R) → Option R) (n : Nat) : KPs := fun R p k => match (PkS.un Simpl_tails p : Option ((List (Int × List Int)) × Unit)) with
  | some (x0, _) => g n x0 (fun r0 => k (PkS.pack Timpl_tails (r0, ())))
  | none => none
theorem eimpl_tails (impl_order : ∀ {R : Type}, Nat → (List (Int × List Int)) → ((List Int) → Option R) → Option R) (slices_Backward_int : ∀ {R : Type}, Nat → (List Int) → ((List Int) → Option R) → Option R) (impl_tails_l6 : ∀ {R : Type}, Nat → Int → (List Int) → Int → Int → (List (Int × List Int)) → (List Int) → (List Int) → ((List (Int × List Int)) → (List Int) → (List Int) → Option R) → Option R) (impl_tails_l4 : ∀ {R : Type}, Nat → (List Int) → (List (Int × List Int)) → (List Int) → Int → ((List Int) → Option R) → Option R) {R : Type} (n : Nat) (x0 : List (Int × List Int)) (k : Pk → Option R) : evF tt sig (mkK [(94, Kimpl_order @impl_order n), (97, Kslices_Backward_int @slices_Backward_int n)] R) (addR (mkK [(94, Kimpl_order @impl_order n), (97, Kslices_Backward_int @slices_Backward_int n)]) (mkL (mkK [(94, Kimpl_order @impl_order n), (97, Kslices_Backward_int @slices_Backward_int n)]) [(6, Dimpl_tails_l6, Pimpl_tails_l6 @impl_tails_l6 n)]) 4 Dimpl_tails_l4 (Pimpl_tails_l4 @impl_tails_l4 n) R) Try.f102 Himpl_tails (PkS.pack Simpl_tails (x0, ())) k = (fun (k : (List Int) → Option R) => (bif decide (0 ≤ (x0.length : Int)) then (bif decide ((x0.length : Int) ≤ (x0.length : Int)) then (bif decide ((x0.length : Int) ≤ 1099511627776) then (impl_order n x0 fun r1 => (slices_Backward_int n r1 fun r2 => (impl_tails_l4 n r2 x0 (List.replicate (Int.toNat (x0.length : Int)) (0 : Int)) (IntKind.wrap .i64 ((r2.length : Int) - 1)) (fun r6 => k r6)))) else none) else none) else none)) (fun r0 => k (PkS.pack Timpl_tails (r0, ()))) := by kernel_rfl
theorem okimpl_tails (n : Nat) : FnOk Try.prog 102 (Kimpl_tails @impl_tails n) := by
  refine fn_ok (sig := sig) mixed ttok (mkK_nat (cimpl_tails n)) (mkK_ok (cimpl_tails n)) (addR_nat (i := 4) (D := Dimpl_tails_l4) (mkK_nat (cimpl_tails n)) (mkL_nat (mkK_nat (cimpl_tails n)) (l := [(6, Dimpl_tails_l6, Pimpl_tails_l6 @impl_tails_l6 n)]) ⟨nlimpl_tails_l6 n, trivial⟩) (nlimpl_tails_l4 n)) (fn := Try.f102) (c := bodyOf Try.f102) (by kernel_rfl) (by kernel_rfl) (by kernel_rfl) (.eq (l := [.ra (.tmp 13) #[14, 15] (asgIn 4 (bodyOf Try.f102)) (loopIn 4 (bodyOf Try.f102))]) (by kernel_rfl) ⟨(rkimpl_tails_l4 n _ _ (at_id (i := 4) (by kernel_rfl) rfl)), trivial⟩) (shs := Himpl_tails) (S := Simpl_tails) (h1 := by kernel_rfl) fun R p k => ?_
  unfold Kimpl_tails
  cases h : (PkS.un Simpl_tails p) with
  | none => rfl
  | some d =>
    obtain ⟨x0, u⟩ := (d : (List (Int × List Int)) × Unit)
    have hp := PkS.un_pack h
    subst hp
    exact (eimpl_tails @impl_order @slices_Backward_int @impl_tails_l6 @impl_tails_l4 n x0 k).symm

/-! ### loop.example/g00269/impl.LatestOf -/
theorem cimpl_LatestOf (n : Nat) : AllOk Try.prog [(49, Kimpl_GoodPlan @impl_GoodPlan n), (100, Kimpl_earliest @impl_earliest n), (102, Kimpl_tails @impl_tails n)] := ⟨okimpl_GoodPlan n, ⟨okimpl_earliest n, ⟨okimpl_tails n, trivial⟩⟩⟩
@[reducible] def Simpl_LatestOf_l6 : PkS := ⟨[.one (.int .i64), .one (.whole (100000, 0)), .one (.whole (100000, 1)), .one (.int .i64), .one (.int .i64), .one (.dead)], [((100000, 0), .arr (.int .i64)), ((100000, 1), .arr (.int .i64))]⟩
@[reducible] def Timpl_LatestOf_l6_0 : PkS := ⟨[.one (.whole (100000, 0)), .one (.dead)], [((100000, 0), .arr (.int .i64))]⟩
def Dimpl_LatestOf_l6 : LoopD := ⟨33, [5, 6, 19, 20, 21], [.one .any, .one (.own (.int .i64)), .one (.own (.int .i64)), .one .any, .one .any, .skip], fun x => match x with
  | .exit 0 => some ([6], [.one (.own (.int .i64)), .skip])
  | _ => none⟩
def Pimpl_LatestOf_l6 (g : ∀ {R : Type}, Nat → Int → Int → Int → (List Int) → (List Int) → ((List Int) → Option R) → Option R) (n : Nat) : LPs := fun R q kk => match (PkS.un Simpl_LatestOf_l6 q : Option (Int × Int × Int × (List Int) × (List Int) × Unit)) with
  | some (y6_0, y6_1, y6_2, y6_3, y6_4, _) => g n y6_0 y6_1 y6_2 y6_3 y6_4 (fun r0 => kk (.exit 0) (PkS.pack Timpl_LatestOf_l6_0 (r0, ())))
  | none => none
theorem eimpl_LatestOf_l6 (impl_GoodPlan : ∀ {R : Type}, Nat → (List (Int × List Int)) → (Bool → Option R) → Option R) (impl_earliest : ∀ {R : Type}, Nat → (List (Int × List Int)) → (Int → (List Int) → Option R) → Option R) (impl_tails : ∀ {R : Type}, Nat → (List (Int × List Int)) → ((List Int) → Option R) → Option R) (impl_LatestOf_l6 : ∀ {R : Type}, Nat → Int → Int → Int → (List Int) → (List Int) → ((List Int) → Option R) → Option R) {R : Type} (n : Nat) (y6_0 : Int) (y6_1 : Int) (y6_2 : Int) (y6_3 : List Int) (y6_4 : List Int) (kk : Ex → Pk → Option R) : Dimpl_LatestOf_l6.step tt sig (mkK [(49, Kimpl_GoodPlan @impl_GoodPlan n), (100, Kimpl_earliest @impl_earliest n), (102, Kimpl_tails @impl_tails n)] R) (mkL (mkK [(49, Kimpl_GoodPlan @impl_GoodPlan n), (100, Kimpl_earliest @impl_earliest n), (102, Kimpl_tails @impl_tails n)]) [] R) (loopIn 6 (bodyOf Try.f45)) (fun q' => Pimpl_LatestOf_l6 @impl_LatestOf_l6 n R q' kk) (PkS.pack Simpl_LatestOf_l6 (y6_0, y6_1, y6_2, y6_3, y6_4, ())) kk = (fun (kexit0 : (List Int) → Option R) => (bif (decide (y6_2 < y6_1)) then (bif decide (0 ≤ y6_2) then (bif decide (y6_2 < (y6_4.length : Int)) then (bif decide (y6_3.length + ([(IntKind.wrap .i64 (y6_0 - (y6_4.getD (Int.toNat y6_2) 0)))]).length ≤ LIM) then impl_LatestOf_l6 n y6_0 y6_1 (IntKind.wrap .i64 (y6_2 + 1)) (y6_3 ++ [(IntKind.wrap .i64 (y6_0 - (y6_4.getD (Int.toNat y6_2) 0)))]) y6_4 kexit0 else none) else none) else none) else kexit0 y6_3)) (fun r0 => kk (.exit 0) (PkS.pack Timpl_LatestOf_l6_0 (r0, ()))) := by kernel_rfl
theorem leimpl_LatestOf_l6 : LoopEq tt sig (fun n => mkK [(49, Kimpl_GoodPlan @impl_GoodPlan n), (100, Kimpl_earliest @impl_earliest n), (102, Kimpl_tails @impl_tails n)]) (fun n => mkL (mkK [(49, Kimpl_GoodPlan @impl_GoodPlan n), (100, Kimpl_earliest @impl_earliest n), (102, Kimpl_tails @impl_tails n)]) []) Dimpl_LatestOf_l6 Simpl_LatestOf_l6 (loopIn 6 (bodyOf Try.f45)) (Pimpl_LatestOf_l6 @impl_LatestOf_l6) where
  zero R q kk := by unfold Pimpl_LatestOf_l6; cases (PkS.un Simpl_LatestOf_l6 q) <;> rfl
  succ n R q kk := by
    unfold Pimpl_LatestOf_l6
    cases h : (PkS.un Simpl_LatestOf_l6 q) with
    | none => rfl
    | some d =>
      obtain ⟨y6_0, y6_1, y6_2, y6_3, y6_4, u⟩ := (d : Int × Int × Int × (List Int) × (List Int) × Unit)
      have hp := PkS.un_pack h
      subst hp
      exact (eimpl_LatestOf_l6 @impl_GoodPlan @impl_earliest @impl_tails @impl_LatestOf_l6 n y6_0 y6_1 y6_2 y6_3 y6_4 kk).symm
theorem nlimpl_LatestOf_l6 : ∀ n, NatLP (Pimpl_LatestOf_l6 @impl_LatestOf_l6 n) := leimpl_LatestOf_l6.nat (fun n => mkK_nat (cimpl_LatestOf n)) fun n => mkL_nat (mkK_nat (cimpl_LatestOf n)) (l := []) trivial
theorem inimpl_LatestOf_l6 (n : Nat) (R : Type) : LoopsOk Try.prog (mkL (mkK [(49, Kimpl_GoodPlan @impl_GoodPlan n), (100, Kimpl_earliest @impl_earliest n), (102, Kimpl_tails @impl_tails n)]) [] R) (loopIn 6 (bodyOf Try.f45)) := .eq (l := []) (by kernel_rfl) trivial
theorem lkimpl_LatestOf_l6 (n : Nat) (R : Type) (L0 : LK R) (h0 : ∀ id, firstRegion (loopIn 6 (bodyOf Try.f45)) = some id → L0 id = Dimpl_LatestOf_l6.oracle (mkK [(49, Kimpl_GoodPlan @impl_GoodPlan n), (100, Kimpl_earliest @impl_earliest n), (102, Kimpl_tails @impl_tails n)] R) (Pimpl_LatestOf_l6 @impl_LatestOf_l6 n R)) : LoopOk Try.prog L0 (loopIn 6 (bodyOf Try.f45)) :=
  leimpl_LatestOf_l6.ok mixed ttok (fun n => mkK_nat (cimpl_LatestOf n)) (fun n => mkK_ok (cimpl_LatestOf n)) (fun n => inimpl_LatestOf_l6 n R) (mkK_nat (cimpl_LatestOf n)) h0
@[reducible] def Simpl_LatestOf : PkS := ⟨[.one (.ro (.pr (.int .i64) (.sl (.int .i64))))], []⟩
@[reducible] def Timpl_LatestOf : PkS := ⟨[.tup [(false, [.whole (300000, 0)]), (false, [.bool])], .one (.dead)], [((300000, 0), .arr (.int .i64))]⟩
def Himpl_LatestOf : List Sh := [.tup [(false, [(.own (.int .i64))]), (false, [.any])], .skip]
def Kimpl_LatestOf (g : ∀ {R : Type}, Nat → (List (Int × List Int)) → (Bool → (List Int) → Option R) → Option R) (n : Nat) : KPs := fun R p k => match (PkS.un Simpl_LatestOf p : Option ((List (Int × List Int)) × Unit)) with
  | some (x0, _) => g n x0 (fun r0 r1 => k (PkS.pack Timpl_LatestOf (r0, r1, ())))
  | none => none
theorem eimpl_LatestOf (impl_GoodPlan : ∀ {R : Type}, Nat → (List (Int × List Int)) → (Bool → Option R) → Option R) (impl_earliest : ∀ {R : Type}, Nat → (List (Int × List Int)) → (Int → (List Int) → Option R) → Option R) (impl_tails : ∀ {R : Type}, Nat → (List (Int × List Int)) → ((List Int) → Option R) → Option R) (impl_LatestOf_l6 : ∀ {R : Type}, Nat → Int → Int → Int → (List Int) → (List Int) → ((List Int) → Option R) → Option R) {R : Type} (n : Nat) (x0 : List (Int × List Int)) (k : Pk → Option R) : evF tt sig (mkK [(49, Kimpl_GoodPlan @impl_GoodPlan n), (100, Kimpl_earliest @impl_earliest n), (102, Kimpl_tails @impl_tails n)] R) (mkL (mkK [(49, Kimpl_GoodPlan @impl_GoodPlan n), (100, Kimpl_earliest @impl_earliest n), (102, Kimpl_tails @impl_tails n)]) [(6, Dimpl_LatestOf_l6, Pimpl_LatestOf_l6 @impl_LatestOf_l6 n)] R) Try.f45 Himpl_LatestOf (PkS.pack Simpl_LatestOf (x0, ())) k = (fun (k : Bool → (List Int) → Option R) => (impl_GoodPlan n x0 fun r1 => (bif (!r1) then k false ([] : List Int) else (impl_earliest n x0 fun r2 r3 => (impl_tails n x0 fun r4 => (impl_LatestOf_l6 n r2 (r4.length : Int) 0 ([] : List Int) r4 (fun r5 => k true r5))))))) (fun r0 r1 => k (PkS.pack Timpl_LatestOf (r0, r1, ()))) := by kernel_rfl
theorem okimpl_LatestOf (n : Nat) : FnOk Try.prog 45 (Kimpl_LatestOf @impl_LatestOf n) := by
  refine fn_ok (sig := sig) mixed ttok (mkK_nat (cimpl_LatestOf n)) (mkK_ok (cimpl_LatestOf n)) (mkL_nat (mkK_nat (cimpl_LatestOf n)) (l := [(6, Dimpl_LatestOf_l6, Pimpl_LatestOf_l6 @impl_LatestOf_l6 n)]) ⟨nlimpl_LatestOf_l6 n, trivial⟩) (fn := Try.f45) (c := bodyOf Try.f45) (by kernel_rfl) (by kernel_rfl) (by kernel_rfl) (.eq (l := [.lo (loopIn 6 (bodyOf Try.f45))]) (by kernel_rfl) ⟨(lkimpl_LatestOf_l6 n _ _ (at_id (i := 6) (by kernel_rfl) rfl)), trivial⟩) (shs := Himpl_LatestOf) (S := Simpl_LatestOf) (h1 := by kernel_rfl) fun R p k => ?_
  unfold Kimpl_LatestOf
  cases h : (PkS.un Simpl_LatestOf p) with
  | none => rfl
  | some d =>
    obtain ⟨x0, u⟩ := (d : (List (Int × List Int)) × Unit)
    have hp := PkS.un_pack h
    subst hp
    exact (eimpl_LatestOf @impl_GoodPlan @impl_earliest @impl_tails @impl_LatestOf_l6 n x0 k).symm

/-! ### loop.example/g00269/impl.SlackOf -/
theorem cimpl_SlackOf (n : Nat) : AllOk Try.prog [(45, Kimpl_LatestOf @impl_LatestOf n), (100, Kimpl_earliest @impl_earliest n)] := ⟨okimpl_LatestOf n, ⟨okimpl_earliest n, trivial⟩⟩
@[reducible] def Simpl_SlackOf_l6 : PkS := ⟨[.one (.whole (100000, 0)), .one (.whole (100000, 1)), .one (.int .i64), .one (.int .i64), .one (.dead)], [((100000, 0), .arr (.int .i64)), ((100000, 1), .arr (.int .i64))]⟩
@[reducible] def Timpl_SlackOf_l6_0 : PkS := ⟨[.one (.whole (100000, 0)), .one (.dead)], [((100000, 0), .arr (.int .i64))]⟩
def Dimpl_SlackOf_l6 : LoopD := ⟨38, [4, 6, 22, 23], [.one (.own (.int .i64)), .one (.own (.int .i64)), .one .any, .one .any, .skip], fun x => match x with
  | .exit 0 => some ([4], [.one (.own (.int .i64)), .skip])
  | _ => none⟩
def Pimpl_SlackOf_l6 (g : ∀ {R : Type}, Nat → Int → Int → (List Int) → (List Int) → ((List Int) → Option R) → Option R) (n : Nat) : LPs := fun R q kk => match (PkS.un Simpl_SlackOf_l6 q : Option (Int × Int × (List Int) × (List Int) × Unit)) with
  | some (y6_0, y6_1, y6_2, y6_3, _) => g n y6_0 y6_1 y6_2 y6_3 (fun r0 => kk (.exit 0) (PkS.pack Timpl_SlackOf_l6_0 (r0, ())))
  | none => none
theorem eimpl_SlackOf_l6 (impl_LatestOf : ∀ {R : Type}, Nat → (List (Int × List Int)) → (Bool → (List Int) → Option R) → Option R) (impl_earliest : ∀ {R : Type}, Nat → (List (Int × List Int)) → (Int → (List Int) → Option R) → Option R) (impl_SlackOf_l6 : ∀ {R : Type}, Nat → Int → Int → (List Int) → (List Int) → ((List Int) → Option R) → Option R) {R : Type} (n : Nat) (y6_0 : Int) (y6_1 : Int) (y6_2 : List Int) (y6_3 : List Int) (kk : Ex → Pk → Option R) : Dimpl_SlackOf_l6.step tt sig (mkK [(45, Kimpl_LatestOf @impl_LatestOf n), (100, Kimpl_earliest @impl_earliest n)] R) (mkL (mkK [(45, Kimpl_LatestOf @impl_LatestOf n), (100, Kimpl_earliest @impl_earliest n)]) [] R) (loopIn 6 (bodyOf Try.f46)) (fun q' => Pimpl_SlackOf_l6 @impl_SlackOf_l6 n R q' kk) (PkS.pack Simpl_SlackOf_l6 (y6_0, y6_1, y6_2, y6_3, ())) kk = (fun (kexit0 : (List Int) → Option R) => (bif (decide (y6_1 < y6_0)) then (bif decide (0 ≤ y6_1) then (bif decide (y6_1 < (y6_2.length : Int)) then (bif decide (0 ≤ y6_1) then (bif decide (y6_1 < (y6_3.length : Int)) then (bif decide (0 ≤ y6_1) then (bif decide (y6_1 < (y6_2.length : Int)) then impl_SlackOf_l6 n y6_0 (IntKind.wrap .i64 (y6_1 + 1)) (y6_2.set (Int.toNat y6_1) (IntKind.wrap .i64 ((y6_2.getD (Int.toNat y6_1) 0) - (y6_3.getD (Int.toNat y6_1) 0)))) y6_3 kexit0 else none) else none) else none) else none) else none) else none) else kexit0 y6_2)) (fun r0 => kk (.exit 0) (PkS.pack Timpl_SlackOf_l6_0 (r0, ()))) := by kernel_rfl
theorem leimpl_SlackOf_l6 : LoopEq tt sig (fun n => mkK [(45, Kimpl_LatestOf @impl_LatestOf n), (100, Kimpl_earliest @impl_earliest n)]) (fun n => mkL (mkK [(45, Kimpl_LatestOf @impl_LatestOf n), (100, Kimpl_earliest @impl_earliest n)]) []) Dimpl_SlackOf_l6 Simpl_SlackOf_l6 (loopIn 6 (bodyOf Try.f46)) (Pimpl_SlackOf_l6 @impl_SlackOf_l6) where
  zero R q kk := by unfold Pimpl_SlackOf_l6; cases (PkS.un Simpl_SlackOf_l6 q) <;> rfl
  succ n R q kk := by
    unfold Pimpl_SlackOf_l6
    cases h : (PkS.un Simpl_SlackOf_l6 q) with
    | none => rfl
    | some d =>
      obtain ⟨y6_0, y6_1, y6_2, y6_3, u⟩ := (d : Int × Int × (List Int) × (List Int) × Unit)
      have hp := PkS.un_pack h
      subst hp
      exact (eimpl_SlackOf_l6 @impl_LatestOf @impl_earliest @impl_SlackOf_l6 n y6_0 y6_1 y6_2 y6_3 kk).symm
theorem nlimpl_SlackOf_l6 : ∀ n, NatLP (Pimpl_SlackOf_l6 @impl_SlackOf_l6 n) := leimpl_SlackOf_l6.nat (fun n => mkK_nat (cimpl_SlackOf n)) fun n => mkL_nat (mkK_nat (cimpl_SlackOf n)) (l := []) trivial
theorem inimpl_SlackOf_l6 (n : Nat) (R : Type) : LoopsOk Try.prog (mkL (mkK [(45, Kimpl_LatestOf @impl_LatestOf n), (100, Kimpl_earliest @impl_earliest n)]) [] R) (loopIn 6 (bodyOf Try.f46)) := .eq (l := []) (by kernel_rfl) trivial
theorem lkimpl_SlackOf_l6 (n : Nat) (R : Type) (L0 : LK R) (h0 : ∀ id, firstRegion (loopIn 6 (bodyOf Try.f46)) = some id → L0 id = Dimpl_SlackOf_l6.oracle (mkK [(45, Kimpl_LatestOf @impl_LatestOf n), (100, Kimpl_earliest @impl_earliest n)] R) (Pimpl_SlackOf_l6 @impl_SlackOf_l6 n R)) : LoopOk Try.prog L0 (loopIn 6 (bodyOf Try.f46)) :=
  leimpl_SlackOf_l6.ok mixed ttok (fun n => mkK_nat (cimpl_SlackOf n)) (fun n => mkK_ok (cimpl_SlackOf n)) (fun n => inimpl_SlackOf_l6 n R) (mkK_nat (cimpl_SlackOf n)) h0
@[reducible] def Simpl_SlackOf : PkS := ⟨[.one (.ro (.pr (.int .i64) (.sl (.int .i64))))], []⟩
@[reducible] def Timpl_SlackOf : PkS := ⟨[.tup [(false, [.whole (300000, 0)]), (false, [.bool])], .one (.dead)], [((300000, 0), .arr (.int .i64))]⟩
def Himpl_SlackOf : List Sh := [.tup [(false, [(.own (.int .i64))]), (false, [.any])], .skip]
def Kimpl_SlackOf (g : ∀ {R : Type}, Nat → (List (Int × List Int)) → (Bool → (List Int) → Option R) → Option R) (n : Nat) : KPs := fun R p k => match (PkS.un Simpl_SlackOf p : Option ((List (Int × List Int)) × Unit)) with
  | some (x0, _) => g n x0 (fun r0 r1 => k (PkS.pack Timpl_SlackOf (r0, r1, ())))
  | none => none
theorem eimpl_SlackOf (impl_LatestOf : ∀ {R : Type}, Nat → (List (Int × List Int)) → (Bool → (List Int) → Option R) → Option R) (impl_earliest : ∀ {R : Type}, Nat → (List (Int × List Int)) → (Int → (List Int) → Option R) → Option R) (impl_SlackOf_l6 : ∀ {R : Type}, Nat → Int → Int → (List Int) → (List Int) → ((List Int) → Option R) → Option R) {R : Type} (n : Nat) (x0 : List (Int × List Int)) (k : Pk → Option R) : evF tt sig (mkK [(45, Kimpl_LatestOf @impl_LatestOf n), (100, Kimpl_earliest @impl_earliest n)] R) (mkL (mkK [(45, Kimpl_LatestOf @impl_LatestOf n), (100, Kimpl_earliest @impl_earliest n)]) [(6, Dimpl_SlackOf_l6, Pimpl_SlackOf_l6 @impl_SlackOf_l6 n)] R) Try.f46 Himpl_SlackOf (PkS.pack Simpl_SlackOf (x0, ())) k = (fun (k : Bool → (List Int) → Option R) => (impl_LatestOf n x0 fun r1 r2 => (bif (!r1) then k false ([] : List Int) else (impl_earliest n x0 fun r3 r4 => (impl_SlackOf_l6 n (r2.length : Int) 0 r2 r4 (fun r5 => k true r5)))))) (fun r0 r1 => k (PkS.pack Timpl_SlackOf (r0, r1, ()))) := by kernel_rfl
theorem okimpl_SlackOf (n : Nat) : FnOk Try.prog 46 (Kimpl_SlackOf @impl_SlackOf n) := by
  refine fn_ok (sig := sig) mixed ttok (mkK_nat (cimpl_SlackOf n)) (mkK_ok (cimpl_SlackOf n)) (mkL_nat (mkK_nat (cimpl_SlackOf n)) (l := [(6, Dimpl_SlackOf_l6, Pimpl_SlackOf_l6 @impl_SlackOf_l6 n)]) ⟨nlimpl_SlackOf_l6 n, trivial⟩) (fn := Try.f46) (c := bodyOf Try.f46) (by kernel_rfl) (by kernel_rfl) (by kernel_rfl) (.eq (l := [.lo (loopIn 6 (bodyOf Try.f46))]) (by kernel_rfl) ⟨(lkimpl_SlackOf_l6 n _ _ (at_id (i := 6) (by kernel_rfl) rfl)), trivial⟩) (shs := Himpl_SlackOf) (S := Simpl_SlackOf) (h1 := by kernel_rfl) fun R p k => ?_
  unfold Kimpl_SlackOf
  cases h : (PkS.un Simpl_SlackOf p) with
  | none => rfl
  | some d =>
    obtain ⟨x0, u⟩ := (d : (List (Int × List Int)) × Unit)
    have hp := PkS.un_pack h
    subst hp
    exact (eimpl_SlackOf @impl_LatestOf @impl_earliest @impl_SlackOf_l6 n x0 k).symm

/-! ### loop.example/g00269/impl.CriticalOf -/
theorem cimpl_CriticalOf (n : Nat) : AllOk Try.prog [(49, Kimpl_GoodPlan @impl_GoodPlan n), (100, Kimpl_earliest @impl_earliest n), (102, Kimpl_tails @impl_tails n), (103, Kslices_Contains_int @slices_Contains_int n)] := ⟨okimpl_GoodPlan n, ⟨okimpl_earliest n, ⟨okimpl_tails n, ⟨okslices_Contains_int n, trivial⟩⟩⟩⟩
@[reducible] def Simpl_CriticalOf_l8 : PkS := ⟨[.one (.ro (.pr (.int .i64) (.sl (.int .i64)))), .one (.int .i64), .one (.whole (100000, 0)), .one (.whole (100000, 1)), .one (.int .i64), .one (.ro (.pr (.int .i64) (.sl (.int .i64)))), .one (.int .i64), .one (.int .i64), .one (.dead)], [((100000, 0), .arr (.int .i64)), ((100000, 1), .arr (.int .i64))]⟩
@[reducible] def Timpl_CriticalOf_l8_0 : PkS := ⟨[.one (.ro (.pr (.int .i64) (.sl (.int .i64)))), .one (.int .i64), .one (.whole (100000, 0)), .one (.whole (100000, 1)), .one (.int .i64), .one (.dead)], [((100000, 0), .arr (.int .i64)), ((100000, 1), .arr (.int .i64))]⟩
def Dimpl_CriticalOf_l8 : LoopD := ⟨80, [0, 5, 6, 7, 8, 25, 26, 27], [.one (.ro (.pr (.int .i64) (.sl (.int .i64)))), .one .any, .one (.own (.int .i64)), .one (.own (.int .i64)), .one .any, .one (.ro (.pr (.int .i64) (.sl (.int .i64)))), .one .any, .one .any, .skip], fun x => match x with
  | .exit 2 => some ([0, 5, 6, 7, 8], [.one (.ro (.pr (.int .i64) (.sl (.int .i64)))), .one .any, .one (.own (.int .i64)), .one (.own (.int .i64)), .one .any, .skip])
  | _ => none⟩
def Pimpl_CriticalOf_l8 (g : ∀ {R : Type}, Nat → (List (Int × List Int)) → Int → Int → (List (Int × List Int)) → Int → Int → (List Int) → (List Int) → ((List (Int × List Int)) → Int → Int → (List Int) → (List Int) → Option R) → Option R) (n : Nat) : LPs := fun R q kk => match (PkS.un Simpl_CriticalOf_l8 q : Option ((List (Int × List Int)) × Int × Int × (List (Int × List Int)) × Int × Int × (List Int) × (List Int) × Unit)) with
  | some (y8_0, y8_1, y8_2, y8_3, y8_4, y8_5, y8_6, y8_7, _) => g n y8_0 y8_1 y8_2 y8_3 y8_4 y8_5 y8_6 y8_7 (fun r0 r1 r2 r3 r4 => kk (.exit 2) (PkS.pack Timpl_CriticalOf_l8_0 (r0, r1, r2, r3, r4, ())))
  | none => none
theorem eimpl_CriticalOf_l8 (impl_GoodPlan : ∀ {R : Type}, Nat → (List (Int × List Int)) → (Bool → Option R) → Option R) (impl_earliest : ∀ {R : Type}, Nat → (List (Int × List Int)) → (Int → (List Int) → Option R) → Option R) (impl_tails : ∀ {R : Type}, Nat → (List (Int × List Int)) → ((List Int) → Option R) → Option R) (slices_Contains_int : ∀ {R : Type}, Nat → (List Int) → Int → (Bool → Option R) → Option R) (impl_CriticalOf_l8 : ∀ {R : Type}, Nat → (List (Int × List Int)) → Int → Int → (List (Int × List Int)) → Int → Int → (List Int) → (List Int) → ((List (Int × List Int)) → Int → Int → (List Int) → (List Int) → Option R) → Option R) {R : Type} (n : Nat) (y8_0 : List (Int × List Int)) (y8_1 : Int) (y8_2 : Int) (y8_3 : List (Int × List Int)) (y8_4 : Int) (y8_5 : Int) (y8_6 : List Int) (y8_7 : List Int) (kk : Ex → Pk → Option R) : Dimpl_CriticalOf_l8.step tt sig (mkK [(49, Kimpl_GoodPlan @impl_GoodPlan n), (100, Kimpl_earliest @impl_earliest n), (102, Kimpl_tails @impl_tails n), (103, Kslices_Contains_int @slices_Contains_int n)] R) (mkL (mkK [(49, Kimpl_GoodPlan @impl_GoodPlan n), (100, Kimpl_earliest @impl_earliest n), (102, Kimpl_tails @impl_tails n), (103, Kslices_Contains_int @slices_Contains_int n)]) [] R) (loopIn 8 (bodyOf Try.f47)) (fun q' => Pimpl_CriticalOf_l8 @impl_CriticalOf_l8 n R q' kk) (PkS.pack Simpl_CriticalOf_l8 (y8_0, y8_1, y8_2, y8_3, y8_4, y8_5, y8_6, y8_7, ())) kk = (fun (kexit2 : (List (Int × List Int)) → Int → Int → (List Int) → (List Int) → Option R) => (bif (decide (y8_5 < y8_4)) then (bif decide (0 ≤ y8_5) then (bif decide (y8_5 < (y8_3.length : Int)) then (bif ((y8_7.length : Int) == 0) then (bif decide (0 ≤ y8_5) then (bif decide (y8_5 < (y8_6.length : Int)) then (bif ((y8_6.getD (Int.toNat y8_5) 0) == y8_1) then (bif ((((y8_3.getD (Int.toNat y8_5) (0, [])).2).length : Int) == 0) then kexit2 y8_0 y8_1 y8_5 y8_6 y8_7 else (bif (decide ((y8_7.length : Int) > 0)) then (bif decide (0 ≤ (IntKind.wrap .i64 ((y8_7.length : Int) - 1))) then (bif decide ((IntKind.wrap .i64 ((y8_7.length : Int) - 1)) < (y8_7.length : Int)) then (slices_Contains_int n ((y8_3.getD (Int.toNat y8_5) (0, [])).2) (y8_7.getD (Int.toNat (IntKind.wrap .i64 ((y8_7.length : Int) - 1))) 0) fun r5 => (bif r5 then kexit2 y8_0 y8_1 y8_5 y8_6 y8_7 else impl_CriticalOf_l8 n y8_0 y8_1 y8_2 y8_3 y8_4 (IntKind.wrap .i64 (y8_5 + 1)) y8_6 y8_7 kexit2)) else none) else none) else impl_CriticalOf_l8 n y8_0 y8_1 y8_2 y8_3 y8_4 (IntKind.wrap .i64 (y8_5 + 1)) y8_6 y8_7 kexit2)) else impl_CriticalOf_l8 n y8_0 y8_1 y8_2 y8_3 y8_4 (IntKind.wrap .i64 (y8_5 + 1)) y8_6 y8_7 kexit2) else none) else none) else (bif decide (0 ≤ y8_5) then (bif decide (y8_5 < (y8_6.length : Int)) then (bif ((y8_6.getD (Int.toNat y8_5) 0) == y8_1) then (bif (decide ((y8_7.length : Int) > 0)) then (bif decide (0 ≤ (IntKind.wrap .i64 ((y8_7.length : Int) - 1))) then (bif decide ((IntKind.wrap .i64 ((y8_7.length : Int) - 1)) < (y8_7.length : Int)) then (slices_Contains_int n ((y8_3.getD (Int.toNat y8_5) (0, [])).2) (y8_7.getD (Int.toNat (IntKind.wrap .i64 ((y8_7.length : Int) - 1))) 0) fun r6 => (bif r6 then kexit2 y8_0 y8_1 y8_5 y8_6 y8_7 else impl_CriticalOf_l8 n y8_0 y8_1 y8_2 y8_3 y8_4 (IntKind.wrap .i64 (y8_5 + 1)) y8_6 y8_7 kexit2)) else none) else none) else impl_CriticalOf_l8 n y8_0 y8_1 y8_2 y8_3 y8_4 (IntKind.wrap .i64 (y8_5 + 1)) y8_6 y8_7 kexit2) else impl_CriticalOf_l8 n y8_0 y8_1 y8_2 y8_3 y8_4 (IntKind.wrap .i64 (y8_5 + 1)) y8_6 y8_7 kexit2) else none) else none)) else none) else none) else kexit2 y8_0 y8_1 y8_2 y8_6 y8_7)) (fun r0 r1 r2 r3 r4 => kk (.exit 2) (PkS.pack Timpl_CriticalOf_l8_0 (r0, r1, r2, r3, r4, ()))) := by kernel_rfl
theorem leimpl_CriticalOf_l8 : LoopEq tt sig (fun n => mkK [(49, Kimpl_GoodPlan @impl_GoodPlan n), (100, Kimpl_earliest @impl_earliest n), (102, Kimpl_tails @impl_tails n), (103, Kslices_Contains_int @slices_Contains_int n)]) (fun n => mkL (mkK [(49, Kimpl_GoodPlan @impl_GoodPlan n), (100, Kimpl_earliest @impl_earliest n), (102, Kimpl_tails @impl_tails n), (103, Kslices_Contains_int @slices_Contains_int n)]) []) Dimpl_CriticalOf_l8 Simpl_CriticalOf_l8 (loopIn 8 (bodyOf Try.f47)) (Pimpl_CriticalOf_l8 @impl_CriticalOf_l8) where
  zero R q kk := by unfold Pimpl_CriticalOf_l8; cases (PkS.un Simpl_CriticalOf_l8 q) <;> rfl
  succ n R q kk := by
    unfold Pimpl_CriticalOf_l8
    cases h : (PkS.un Simpl_CriticalOf_l8 q) with
    | none => rfl
    | some d =>
      obtain ⟨y8_0, y8_1, y8_2, y8_3, y8_4, y8_5, y8_6, y8_7, u⟩ := (d : (List (Int × List Int)) × Int × Int × (List (Int × List Int)) × Int × Int × (List Int) × (List Int) × Unit)
      have hp := PkS.un_pack h
      subst hp
      exact (eimpl_CriticalOf_l8 @impl_GoodPlan @impl_earliest @impl_tails @slices_Contains_int @impl_CriticalOf_l8 n y8_0 y8_1 y8_2 y8_3 y8_4 y8_5 y8_6 y8_7 kk).symm
theorem nlimpl_CriticalOf_l8 : ∀ n, NatLP (Pimpl_CriticalOf_l8 @impl_CriticalOf_l8 n) := leimpl_CriticalOf_l8.nat (fun n => mkK_nat (cimpl_CriticalOf n)) fun n => mkL_nat (mkK_nat (cimpl_CriticalOf n)) (l := []) trivial
theorem inimpl_CriticalOf_l8 (n : Nat) (R : Type) : LoopsOk Try.prog (mkL (mkK [(49, Kimpl_GoodPlan @impl_GoodPlan n), (100, Kimpl_earliest @impl_earliest n), (102, Kimpl_tails @impl_tails n), (103, Kslices_Contains_int @slices_Contains_int n)]) [] R) (loopIn 8 (bodyOf Try.f47)) := .eq (l := []) (by kernel_rfl) trivial
theorem lkimpl_CriticalOf_l8 (n : Nat) (R : Type) (L0 : LK R) (h0 : ∀ id, firstRegion (loopIn 8 (bodyOf Try.f47)) = some id → L0 id = Dimpl_CriticalOf_l8.oracle (mkK [(49, Kimpl_GoodPlan @impl_GoodPlan n), (100, Kimpl_earliest @impl_earliest n), (102, Kimpl_tails @impl_tails n), (103, Kslices_Contains_int @slices_Contains_int n)] R) (Pimpl_CriticalOf_l8 @impl_CriticalOf_l8 n R)) : LoopOk Try.prog L0 (loopIn 8 (bodyOf Try.f47)) :=
  leimpl_CriticalOf_l8.ok mixed ttok (fun n => mkK_nat (cimpl_CriticalOf n)) (fun n => mkK_ok (cimpl_CriticalOf n)) (fun n => inimpl_CriticalOf_l8 n R) (mkK_nat (cimpl_CriticalOf n)) h0
@[reducible] def Simpl_CriticalOf_l5 : PkS := ⟨[.one (.ro (.pr (.int .i64) (.sl (.int .i64)))), .one (.int .i64), .one (.whole (100000, 0)), .one (.whole (100000, 1)), .one (.dead)], [((100000, 0), .arr (.int .i64)), ((100000, 1), .arr (.int .i64))]⟩
@[reducible] def Timpl_CriticalOf_l5_0 : PkS := ⟨[.one (.whole (100000, 0)), .one (.dead)], [((100000, 0), .arr (.int .i64))]⟩
def Dimpl_CriticalOf_l5 : LoopD := ⟨80, [0, 5, 6, 7], [.one (.ro (.pr (.int .i64) (.sl (.int .i64)))), .one .any, .one (.own (.int .i64)), .one (.own (.int .i64)), .skip], fun x => match x with
  | .exit 0 => some ([7], [.one (.own (.int .i64)), .skip])
  | _ => none⟩
def Pimpl_CriticalOf_l5 (g : ∀ {R : Type}, Nat → (List (Int × List Int)) → Int → (List Int) → (List Int) → ((List Int) → Option R) → Option R) (n : Nat) : LPs := fun R q kk => match (PkS.un Simpl_CriticalOf_l5 q : Option ((List (Int × List Int)) × Int × (List Int) × (List Int) × Unit)) with
  | some (y5_0, y5_1, y5_2, y5_3, _) => g n y5_0 y5_1 y5_2 y5_3 (fun r0 => kk (.exit 0) (PkS.pack Timpl_CriticalOf_l5_0 (r0, ())))
  | none => none
theorem eimpl_CriticalOf_l5 (impl_GoodPlan : ∀ {R : Type}, Nat → (List (Int × List Int)) → (Bool → Option R) → Option R) (impl_earliest : ∀ {R : Type}, Nat → (List (Int × List Int)) → (Int → (List Int) → Option R) → Option R) (impl_tails : ∀ {R : Type}, Nat → (List (Int × List Int)) → ((List Int) → Option R) → Option R) (slices_Contains_int : ∀ {R : Type}, Nat → (List Int) → Int → (Bool → Option R) → Option R) (impl_CriticalOf_l8 : ∀ {R : Type}, Nat → (List (Int × List Int)) → Int → Int → (List (Int × List Int)) → Int → Int → (List Int) → (List Int) → ((List (Int × List Int)) → Int → Int → (List Int) → (List Int) → Option R) → Option R) (impl_CriticalOf_l5 : ∀ {R : Type}, Nat → (List (Int × List Int)) → Int → (List Int) → (List Int) → ((List Int) → Option R) → Option R) {R : Type} (n : Nat) (y5_0 : List (Int × List Int)) (y5_1 : Int) (y5_2 : List Int) (y5_3 : List Int) (kk : Ex → Pk → Option R) : Dimpl_CriticalOf_l5.step tt sig (mkK [(49, Kimpl_GoodPlan @impl_GoodPlan n), (100, Kimpl_earliest @impl_earliest n), (102, Kimpl_tails @impl_tails n), (103, Kslices_Contains_int @slices_Contains_int n)] R) (mkL (mkK [(49, Kimpl_GoodPlan @impl_GoodPlan n), (100, Kimpl_earliest @impl_earliest n), (102, Kimpl_tails @impl_tails n), (103, Kslices_Contains_int @slices_Contains_int n)]) [(8, Dimpl_CriticalOf_l8, Pimpl_CriticalOf_l8 @impl_CriticalOf_l8 n)] R) (loopIn 5 (bodyOf Try.f47)) (fun q' => Pimpl_CriticalOf_l5 @impl_CriticalOf_l5 n R q' kk) (PkS.pack Simpl_CriticalOf_l5 (y5_0, y5_1, y5_2, y5_3, ())) kk = (fun (kexit0 : (List Int) → Option R) => (bif (decide (y5_1 > 0)) then (impl_CriticalOf_l8 n y5_0 y5_1 0 y5_0 (y5_0.length : Int) 0 y5_2 y5_3 (fun r7 r8 r9 r10 r11 => (bif decide (r11.length + [r9].length ≤ LIM) then (bif decide (0 ≤ r9) then (bif decide (r9 < (r7.length : Int)) then impl_CriticalOf_l5 n r7 (IntKind.wrap .i64 (r8 - ((r7.getD (Int.toNat r9) (0, [])).1))) r10 (r11 ++ [r9]) kexit0 else none) else none) else none))) else kexit0 y5_3)) (fun r0 => kk (.exit 0) (PkS.pack Timpl_CriticalOf_l5_0 (r0, ()))) := by kernel_rfl
theorem leimpl_CriticalOf_l5 : LoopEq tt sig (fun n => mkK [(49, Kimpl_GoodPlan @impl_GoodPlan n), (100, Kimpl_earliest @impl_earliest n), (102, Kimpl_tails @impl_tails n), (103, Kslices_Contains_int @slices_Contains_int n)]) (fun n => mkL (mkK [(49, Kimpl_GoodPlan @impl_GoodPlan n), (100, Kimpl_earliest @impl_earliest n), (102, Kimpl_tails @impl_tails n), (103, Kslices_Contains_int @slices_Contains_int n)]) [(8, Dimpl_CriticalOf_l8, Pimpl_CriticalOf_l8 @impl_CriticalOf_l8 n)]) Dimpl_CriticalOf_l5 Simpl_CriticalOf_l5 (loopIn 5 (bodyOf Try.f47)) (Pimpl_CriticalOf_l5 @impl_CriticalOf_l5) where
  zero R q kk := by unfold Pimpl_CriticalOf_l5; cases (PkS.un Simpl_CriticalOf_l5 q) <;> rfl
  succ n R q kk := by
    unfold Pimpl_CriticalOf_l5
    cases h : (PkS.un Simpl_CriticalOf_l5 q) with
    | none => rfl
    | some d =>
      obtain ⟨y5_0, y5_1, y5_2, y5_3, u⟩ := (d : (List (Int × List Int)) × Int × (List Int) × (List Int) × Unit)
      have hp := PkS.un_pack h
      subst hp
      exact (eimpl_CriticalOf_l5 @impl_GoodPlan @impl_earliest @impl_tails @slices_Contains_int @impl_CriticalOf_l8 @impl_CriticalOf_l5 n y5_0 y5_1 y5_2 y5_3 kk).symm
theorem nlimpl_CriticalOf_l5 : ∀ n, NatLP (Pimpl_CriticalOf_l5 @impl_CriticalOf_l5 n) := leimpl_CriticalOf_l5.nat (fun n => mkK_nat (cimpl_CriticalOf n)) fun n => mkL_nat (mkK_nat (cimpl_CriticalOf n)) (l := [(8, Dimpl_CriticalOf_l8, Pimpl_CriticalOf_l8 @impl_CriticalOf_l8 n)]) ⟨nlimpl_CriticalOf_l8 n, trivial⟩
theorem inimpl_CriticalOf_l5 (n : Nat) (R : Type) : LoopsOk Try.prog (mkL (mkK [(49, Kimpl_GoodPlan @impl_GoodPlan n), (100, Kimpl_earliest @impl_earliest n), (102, Kimpl_tails @impl_tails n), (103, Kslices_Contains_int @slices_Contains_int n)]) [(8, Dimpl_CriticalOf_l8, Pimpl_CriticalOf_l8 @impl_CriticalOf_l8 n)] R) (loopIn 5 (bodyOf Try.f47)) := .eq (l := [.lo (loopIn 8 (bodyOf Try.f47))]) (by kernel_rfl) ⟨(lkimpl_CriticalOf_l8 n R _ (at_id (i := 8) (by kernel_rfl) rfl)), trivial⟩
theorem lkimpl_CriticalOf_l5 (n : Nat) (R : Type) (L0 : LK R) (h0 : ∀ id, firstRegion (loopIn 5 (bodyOf Try.f47)) = some id → L0 id = Dimpl_CriticalOf_l5.oracle (mkK [(49, Kimpl_GoodPlan @impl_GoodPlan n), (100, Kimpl_earliest @impl_earliest n), (102, Kimpl_tails @impl_tails n), (103, Kslices_Contains_int @slices_Contains_int n)] R) (Pimpl_CriticalOf_l5 @impl_CriticalOf_l5 n R)) : LoopOk Try.prog L0 (loopIn 5 (bodyOf Try.f47)) :=
  leimpl_CriticalOf_l5.ok mixed ttok (fun n => mkK_nat (cimpl_CriticalOf n)) (fun n => mkK_ok (cimpl_CriticalOf n)) (fun n => inimpl_CriticalOf_l5 n R) (mkK_nat (cimpl_CriticalOf n)) h0
@[reducible] def Simpl_CriticalOf : PkS := ⟨[.one (.ro (.pr (.int .i64) (.sl (.int .i64))))], []⟩
@[reducible] def Timpl_CriticalOf : PkS := ⟨[.tup [(false, [.whole (300000, 0)]), (false, [.bool])], .one (.dead)], [((300000, 0), .arr (.int .i64))]⟩
def Himpl_CriticalOf : List Sh := [.tup [(false, [(.own (.int .i64))]), (false, [.any])], .skip]
def Kimpl_CriticalOf (g : ∀ {R : Type}, Nat → (List (Int × List Int)) → (Bool → (List Int) → Option R) → Option R) (n : Nat) : KPs := fun R p k => match (PkS.un Simpl_CriticalOf p : Option ((List (Int × List Int)) × Unit)) with
  | some (x0, _) => g n x0 (fun r0 r1 => k (PkS.pack Timpl_CriticalOf (r0, r1, ())))
  | none => none
theorem eimpl_CriticalOf (impl_GoodPlan : ∀ {R : Type}, Nat → (List (Int × List Int)) → (Bool → Option R) → Option R) (impl_earliest : ∀ {R : Type}, Nat → (List (Int × List Int)) → (Int → (List Int) → Option R) → Option R) (impl_tails : ∀ {R : Type}, Nat → (List (Int × List Int)) → ((List Int) → Option R) → Option R) (slices_Contains_int : ∀ {R : Type}, Nat → (List Int) → Int → (Bool → Option R) → Option R) (impl_CriticalOf_l8 : ∀ {R : Type}, Nat → (List (Int × List Int)) → Int → Int → (List (Int × List Int)) → Int → Int → (List Int) → (List Int) → ((List (Int × List Int)) → Int → Int → (List Int) → (List Int) → Option R) → Option R) (impl_CriticalOf_l5 : ∀ {R : Type}, Nat → (List (Int × List Int)) → Int → (List Int) → (List Int) → ((List Int) → Option R) → Option R) {R : Type} (n : Nat) (x0 : List (Int × List Int)) (k : Pk → Option R) : evF tt sig (mkK [(49, Kimpl_GoodPlan @impl_GoodPlan n), (100, Kimpl_earliest @impl_earliest n), (102, Kimpl_tails @impl_tails n), (103, Kslices_Contains_int @slices_Contains_int n)] R) (mkL (mkK [(49, Kimpl_GoodPlan @impl_GoodPlan n), (100, Kimpl_earliest @impl_earliest n), (102, Kimpl_tails @impl_tails n), (103, Kslices_Contains_int @slices_Contains_int n)]) [(8, Dimpl_CriticalOf_l8, Pimpl_CriticalOf_l8 @impl_CriticalOf_l8 n), (5, Dimpl_CriticalOf_l5, Pimpl_CriticalOf_l5 @impl_CriticalOf_l5 n)] R) Try.f47 Himpl_CriticalOf (PkS.pack Simpl_CriticalOf (x0, ())) k = (fun (k : Bool → (List Int) → Option R) => (impl_GoodPlan n x0 fun r1 => (bif (!r1) then k false ([] : List Int) else (impl_earliest n x0 fun r2 r3 => (impl_tails n x0 fun r4 => (impl_CriticalOf_l5 n x0 r2 r4 ([] : List Int) (fun r12 => k true r12))))))) (fun r0 r1 => k (PkS.pack Timpl_CriticalOf (r0, r1, ()))) := by kernel_rfl
theorem okimpl_CriticalOf (n : Nat) : FnOk Try.prog 47 (Kimpl_CriticalOf @impl_CriticalOf n) := by
  refine fn_ok (sig := sig) mixed ttok (mkK_nat (cimpl_CriticalOf n)) (mkK_ok (cimpl_CriticalOf n)) (mkL_nat (mkK_nat (cimpl_CriticalOf n)) (l := [(8, Dimpl_CriticalOf_l8, Pimpl_CriticalOf_l8 @impl_CriticalOf_l8 n), (5, Dimpl_CriticalOf_l5, Pimpl_CriticalOf_l5 @impl_CriticalOf_l5 n)]) ⟨nlimpl_CriticalOf_l8 n, ⟨nlimpl_CriticalOf_l5 n, trivial⟩⟩) (fn := Try.f47) (c := bodyOf Try.f47) (by kernel_rfl) (by kernel_rfl) (by kernel_rfl) (.eq (l := [.lo (loopIn 5 (bodyOf Try.f47))]) (by kernel_rfl) ⟨(lkimpl_CriticalOf_l5 n _ _ (at_id (i := 5) (by kernel_rfl) rfl)), trivial⟩) (shs := Himpl_CriticalOf) (S := Simpl_CriticalOf) (h1 := by kernel_rfl) fun R p k => ?_
  unfold Kimpl_CriticalOf
  cases h : (PkS.un Simpl_CriticalOf p) with
  | none => rfl
  | some d =>
    obtain ⟨x0, u⟩ := (d : (List (Int × List Int)) × Unit)
    have hp := PkS.un_pack h
    subst hp
    exact (eimpl_CriticalOf @impl_GoodPlan @impl_earliest @impl_tails @slices_Contains_int @impl_CriticalOf_l8 @impl_CriticalOf_l5 n x0 k).symm

/-! ### loop.example/g00269/spec.l4Latest -/
theorem cspec_l4Latest (n : Nat) : AllOk Try.prog [(96, Kspec_l4Order @spec_l4Order n), (101, Kspec_l4Earliest @spec_l4Earliest n)] := ⟨okspec_l4Order n, ⟨okspec_l4Earliest n, trivial⟩⟩
@[reducible] def Sspec_l4Latest_l5 : PkS := ⟨[.one (.ro (.pr (.int .i64) (.sl (.int .i64)))), .one (.ro (.int .i64)), .one (.int .i64), .one (.whole (100000, 0)), .one (.int .i64), .one (.int .i64), .one (.dead)], [((100000, 0), .arr (.int .i64))]⟩
@[reducible] def Tspec_l4Latest_l5_0 : PkS := ⟨[.one (.ro (.pr (.int .i64) (.sl (.int .i64)))), .one (.ro (.int .i64)), .one (.whole (100000, 0)), .one (.dead)], [((100000, 0), .arr (.int .i64))]⟩
def Dspec_l4Latest_l5 : LoopD := ⟨86, [0, 3, 6, 7, 28, 29], [.one (.ro (.pr (.int .i64) (.sl (.int .i64)))), .one (.ro (.int .i64)), .one .any, .one (.own (.int .i64)), .one .any, .one .any, .skip], fun x => match x with
  | .exit 0 => some ([0, 3, 7], [.one (.ro (.pr (.int .i64) (.sl (.int .i64)))), .one (.ro (.int .i64)), .one (.own (.int .i64)), .skip])
  | _ => none⟩
def Pspec_l4Latest_l5 (g : ∀ {R : Type}, Nat → (List (Int × List Int)) → (List Int) → Int → Int → Int → (List Int) → ((List (Int × List Int)) → (List Int) → (List Int) → Option R) → Option R) (n : Nat) : LPs := fun R q kk => match (PkS.un Sspec_l4Latest_l5 q : Option ((List (Int × List Int)) × (List Int) × Int × Int × Int × (List Int) × Unit)) with
  | some (y5_0, y5_1, y5_2, y5_3, y5_4, y5_5, _) => g n y5_0 y5_1 y5_2 y5_3 y5_4 y5_5 (fun r0 r1 r2 => kk (.exit 0) (PkS.pack Tspec_l4Latest_l5_0 (r0, r1, r2, ())))
  | none => none
theorem espec_l4Latest_l5 (spec_l4Order : ∀ {R : Type}, Nat → (List (Int × List Int)) → ((List Int) → Bool → Option R) → Option R) (spec_l4Earliest : ∀ {R : Type}, Nat → (List (Int × List Int)) → (Int → (List Int) → Option R) → Option R) (spec_l4Latest_l5 : ∀ {R : Type}, Nat → (List (Int × List Int)) → (List Int) → Int → Int → Int → (List Int) → ((List (Int × List Int)) → (List Int) → (List Int) → Option R) → Option R) {R : Type} (n : Nat) (y5_0 : List (Int × List Int)) (y5_1 : List Int) (y5_2 : Int) (y5_3 : Int) (y5_4 : Int) (y5_5 : List Int) (kk : Ex → Pk → Option R) : Dspec_l4Latest_l5.step tt sig (mkK [(96, Kspec_l4Order @spec_l4Order n), (101, Kspec_l4Earliest @spec_l4Earliest n)] R) (mkL (mkK [(96, Kspec_l4Order @spec_l4Order n), (101, Kspec_l4Earliest @spec_l4Earliest n)]) [] R) (loopIn 5 (bodyOf Try.f104)) (fun q' => Pspec_l4Latest_l5 @spec_l4Latest_l5 n R q' kk) (PkS.pack Sspec_l4Latest_l5 (y5_0, y5_1, y5_2, y5_3, y5_4, y5_5, ())) kk = (fun (kexit0 : (List (Int × List Int)) → (List Int) → (List Int) → Option R) => (bif (decide (y5_4 < y5_3)) then (bif decide (0 ≤ y5_4) then (bif decide (y5_4 < (y5_0.length : Int)) then (bif decide (0 ≤ y5_4) then (bif decide (y5_4 < (y5_5.length : Int)) then spec_l4Latest_l5 n y5_0 y5_1 y5_2 y5_3 (IntKind.wrap .i64 (y5_4 + 1)) (y5_5.set (Int.toNat y5_4) (IntKind.wrap .i64 (y5_2 - ((y5_0.getD (Int.toNat y5_4) (0, [])).1)))) kexit0 else none) else none) else none) else none) else kexit0 y5_0 y5_1 y5_5)) (fun r0 r1 r2 => kk (.exit 0) (PkS.pack Tspec_l4Latest_l5_0 (r0, r1, r2, ()))) := by kernel_rfl
theorem lespec_l4Latest_l5 : LoopEq tt sig (fun n => mkK [(96, Kspec_l4Order @spec_l4Order n), (101, Kspec_l4Earliest @spec_l4Earliest n)]) (fun n => mkL (mkK [(96, Kspec_l4Order @spec_l4Order n), (101, Kspec_l4Earliest @spec_l4Earliest n)]) []) Dspec_l4Latest_l5 Sspec_l4Latest_l5 (loopIn 5 (bodyOf Try.f104)) (Pspec_l4Latest_l5 @spec_l4Latest_l5) where
  zero R q kk := by unfold Pspec_l4Latest_l5; cases (PkS.un Sspec_l4Latest_l5 q) <;> rfl
  succ n R q kk := by
    unfold Pspec_l4Latest_l5
    cases h : (PkS.un Sspec_l4Latest_l5 q) with
    | none => rfl
    | some d =>
      obtain ⟨y5_0, y5_1, y5_2, y5_3, y5_4, y5_5, u⟩ := (d : (List (Int × List Int)) × (List Int) × Int × Int × Int × (List Int) × Unit)
      have hp := PkS.un_pack h
      subst hp
      exact (espec_l4Latest_l5 @spec_l4Order @spec_l4Earliest @spec_l4Latest_l5 n y5_0 y5_1 y5_2 y5_3 y5_4 y5_5 kk).symm
theorem nlspec_l4Latest_l5 : ∀ n, NatLP (Pspec_l4Latest_l5 @spec_l4Latest_l5 n) := lespec_l4Latest_l5.nat (fun n => mkK_nat (cspec_l4Latest n)) fun n => mkL_nat (mkK_nat (cspec_l4Latest n)) (l := []) trivial
theorem inspec_l4Latest_l5 (n : Nat) (R : Type) : LoopsOk Try.prog (mkL (mkK [(96, Kspec_l4Order @spec_l4Order n), (101, Kspec_l4Earliest @spec_l4Earliest n)]) [] R) (loopIn 5 (bodyOf Try.f104)) := .eq (l := []) (by kernel_rfl) trivial
theorem lkspec_l4Latest_l5 (n : Nat) (R : Type) (L0 : LK R) (h0 : ∀ id, firstRegion (loopIn 5 (bodyOf Try.f104)) = some id → L0 id = Dspec_l4Latest_l5.oracle (mkK [(96, Kspec_l4Order @spec_l4Order n), (101, Kspec_l4Earliest @spec_l4Earliest n)] R) (Pspec_l4Latest_l5 @spec_l4Latest_l5 n R)) : LoopOk Try.prog L0 (loopIn 5 (bodyOf Try.f104)) :=
  lespec_l4Latest_l5.ok mixed ttok (fun n => mkK_nat (cspec_l4Latest n)) (fun n => mkK_ok (cspec_l4Latest n)) (fun n => inspec_l4Latest_l5 n R) (mkK_nat (cspec_l4Latest n)) h0
@[reducible] def Sspec_l4Latest_l14 : PkS := ⟨[.one (.ro (.pr (.int .i64) (.sl (.int .i64)))), .one (.ro (.int .i64)), .one (.whole (100000, 0)), .one (.int .i64), .one (.int .i64), .one (.ro (.int .i64)), .one (.int .i64), .one (.int .i64), .one (.dead)], [((100000, 0), .arr (.int .i64))]⟩
@[reducible] def Tspec_l4Latest_l14_0 : PkS := ⟨[.one (.ro (.pr (.int .i64) (.sl (.int .i64)))), .one (.ro (.int .i64)), .one (.whole (100000, 0)), .one (.int .i64), .one (.dead)], [((100000, 0), .arr (.int .i64))]⟩
def Dspec_l4Latest_l14 : LoopD := ⟨86, [0, 3, 7, 9, 10, 58, 59, 60], [.one (.ro (.pr (.int .i64) (.sl (.int .i64)))), .one (.ro (.int .i64)), .one (.own (.int .i64)), .one .any, .one .any, .one (.ro (.int .i64)), .one .any, .one .any, .skip], fun x => match x with
  | .exit 4 => some ([0, 3, 7, 9], [.one (.ro (.pr (.int .i64) (.sl (.int .i64)))), .one (.ro (.int .i64)), .one (.own (.int .i64)), .one .any, .skip])
  | _ => none⟩
def Pspec_l4Latest_l14 (g : ∀ {R : Type}, Nat → (List (Int × List Int)) → (List Int) → Int → Int → (List Int) → Int → Int → (List Int) → ((List (Int × List Int)) → (List Int) → Int → (List Int) → Option R) → Option R) (n : Nat) : LPs := fun R q kk => match (PkS.un Sspec_l4Latest_l14 q : Option ((List (Int × List Int)) × (List Int) × Int × Int × (List Int) × Int × Int × (List Int) × Unit)) with
  | some (y14_0, y14_1, y14_2, y14_3, y14_4, y14_5, y14_6, y14_7, _) => g n y14_0 y14_1 y14_2 y14_3 y14_4 y14_5 y14_6 y14_7 (fun r0 r1 r2 r3 => kk (.exit 4) (PkS.pack Tspec_l4Latest_l14_0 (r0, r1, r2, r3, ())))
  | none => none
theorem espec_l4Latest_l14 (spec_l4Order : ∀ {R : Type}, Nat → (List (Int × List Int)) → ((List Int) → Bool → Option R) → Option R) (spec_l4Earliest : ∀ {R : Type}, Nat → (List (Int × List Int)) → (Int → (List Int) → Option R) → Option R) (spec_l4Latest_l5 : ∀ {R : Type}, Nat → (List (Int × List Int)) → (List Int) → Int → Int → Int → (List Int) → ((List (Int × List Int)) → (List Int) → (List Int) → Option R) → Option R) (spec_l4Latest_l14 : ∀ {R : Type}, Nat → (List (Int × List Int)) → (List Int) → Int → Int → (List Int) → Int → Int → (List Int) → ((List (Int × List Int)) → (List Int) → Int → (List Int) → Option R) → Option R) {R : Type} (n : Nat) (y14_0 : List (Int × List Int)) (y14_1 : List Int) (y14_2 : Int) (y14_3 : Int) (y14_4 : List Int) (y14_5 : Int) (y14_6 : Int) (y14_7 : List Int) (kk : Ex → Pk → Option R) : Dspec_l4Latest_l14.step tt sig (mkK [(96, Kspec_l4Order @spec_l4Order n), (101, Kspec_l4Earliest @spec_l4Earliest n)] R) (mkL (mkK [(96, Kspec_l4Order @spec_l4Order n), (101, Kspec_l4Earliest @spec_l4Earliest n)]) [(5, Dspec_l4Latest_l5, Pspec_l4Latest_l5 @spec_l4Latest_l5 n)] R) (loopIn 14 (bodyOf Try.f104)) (fun q' => Pspec_l4Latest_l14 @spec_l4Latest_l14 n R q' kk) (PkS.pack Sspec_l4Latest_l14 (y14_0, y14_1, y14_2, y14_3, y14_4, y14_5, y14_6, y14_7, ())) kk = (fun (kexit4 : (List (Int × List Int)) → (List Int) → Int → (List Int) → Option R) => (bif (decide (y14_6 < y14_5)) then (bif decide (0 ≤ y14_6) then (bif decide (y14_6 < (y14_4.length : Int)) then (bif decide (0 ≤ y14_3) then (bif decide (y14_3 < (y14_7.length : Int)) then (bif decide (0 ≤ (y14_4.getD (Int.toNat y14_6) 0)) then (bif decide ((y14_4.getD (Int.toNat y14_6) 0) < (y14_0.length : Int)) then (bif decide (0 ≤ (y14_4.getD (Int.toNat y14_6) 0)) then (bif decide ((y14_4.getD (Int.toNat y14_6) 0) < (y14_7.length : Int)) then (bif (decide ((IntKind.wrap .i64 ((y14_7.getD (Int.toNat y14_3) 0) - ((y14_0.getD (Int.toNat (y14_4.getD (Int.toNat y14_6) 0)) (0, [])).1))) < (y14_7.getD (Int.toNat (y14_4.getD (Int.toNat y14_6) 0)) 0))) then (bif decide (0 ≤ (y14_4.getD (Int.toNat y14_6) 0)) then (bif decide ((y14_4.getD (Int.toNat y14_6) 0) < (y14_7.length : Int)) then spec_l4Latest_l14 n y14_0 y14_1 y14_2 y14_3 y14_4 y14_5 (IntKind.wrap .i64 (y14_6 + 1)) (y14_7.set (Int.toNat (y14_4.getD (Int.toNat y14_6) 0)) (IntKind.wrap .i64 ((y14_7.getD (Int.toNat y14_3) 0) - ((y14_0.getD (Int.toNat (y14_4.getD (Int.toNat y14_6) 0)) (0, [])).1)))) kexit4 else none) else none) else spec_l4Latest_l14 n y14_0 y14_1 y14_2 y14_3 y14_4 y14_5 (IntKind.wrap .i64 (y14_6 + 1)) y14_7 kexit4) else none) else none) else none) else none) else none) else none) else none) else none) else kexit4 y14_0 y14_1 y14_2 y14_7)) (fun r0 r1 r2 r3 => kk (.exit 4) (PkS.pack Tspec_l4Latest_l14_0 (r0, r1, r2, r3, ()))) := by kernel_rfl
theorem lespec_l4Latest_l14 : LoopEq tt sig (fun n => mkK [(96, Kspec_l4Order @spec_l4Order n), (101, Kspec_l4Earliest @spec_l4Earliest n)]) (fun n => mkL (mkK [(96, Kspec_l4Order @spec_l4Order n), (101, Kspec_l4Earliest @spec_l4Earliest n)]) [(5, Dspec_l4Latest_l5, Pspec_l4Latest_l5 @spec_l4Latest_l5 n)]) Dspec_l4Latest_l14 Sspec_l4Latest_l14 (loopIn 14 (bodyOf Try.f104)) (Pspec_l4Latest_l14 @spec_l4Latest_l14) where
  zero R q kk := by unfold Pspec_l4Latest_l14; cases (PkS.un Sspec_l4Latest_l14 q) <;> rfl
  succ n R q kk := by
    unfold Pspec_l4Latest_l14
    cases h : (PkS.un Sspec_l4Latest_l14 q) with
    | none => rfl
    | some d =>
      obtain ⟨y14_0, y14_1, y14_2, y14_3, y14_4, y14_5, y14_6, y14_7, u⟩ := (d : (List (Int × List Int)) × (List Int) × Int × Int × (List Int) × Int × Int × (List Int) × Unit)
      have hp := PkS.un_pack h
      subst hp
      exact (espec_l4Latest_l14 @spec_l4Order @spec_l4Earliest @spec_l4Latest_l5 @spec_l4Latest_l14 n y14_0 y14_1 y14_2 y14_3 y14_4 y14_5 y14_6 y14_7 kk).symm
theorem nlspec_l4Latest_l14 : ∀ n, NatLP (Pspec_l4Latest_l14 @spec_l4Latest_l14 n) := lespec_l4Latest_l14.nat (fun n => mkK_nat (cspec_l4Latest n)) fun n => mkL_nat (mkK_nat (cspec_l4Latest n)) (l := [(5, Dspec_l4Latest_l5, Pspec_l4Latest_l5 @spec_l4Latest_l5 n)]) ⟨nlspec_l4Latest_l5 n, trivial⟩
theorem inspec_l4Latest_l14 (n : Nat) (R : Type) : LoopsOk Try.prog (mkL (mkK [(96, Kspec_l4Order @spec_l4Order n), (101, Kspec_l4Earliest @spec_l4Earliest n)]) [(5, Dspec_l4Latest_l5, Pspec_l4Latest_l5 @spec_l4Latest_l5 n)] R) (loopIn 14 (bodyOf Try.f104)) := .eq (l := []) (by kernel_rfl) trivial
theorem lkspec_l4Latest_l14 (n : Nat) (R : Type) (L0 : LK R) (h0 : ∀ id, firstRegion (loopIn 14 (bodyOf Try.f104)) = some id → L0 id = Dspec_l4Latest_l14.oracle (mkK [(96, Kspec_l4Order @spec_l4Order n), (101, Kspec_l4Earliest @spec_l4Earliest n)] R) (Pspec_l4Latest_l14 @spec_l4Latest_l14 n R)) : LoopOk Try.prog L0 (loopIn 14 (bodyOf Try.f104)) :=
  lespec_l4Latest_l14.ok mixed ttok (fun n => mkK_nat (cspec_l4Latest n)) (fun n => mkK_ok (cspec_l4Latest n)) (fun n => inspec_l4Latest_l14 n R) (mkK_nat (cspec_l4Latest n)) h0
@[reducible] def Sspec_l4Latest_l10 : PkS := ⟨[.one (.ro (.pr (.int .i64) (.sl (.int .i64)))), .one (.ro (.int .i64)), .one (.whole (100000, 0)), .one (.int .i64), .one (.dead)], [((100000, 0), .arr (.int .i64))]⟩
@[reducible] def Tspec_l4Latest_l10_0 : PkS := ⟨[.one (.whole (100000, 0)), .one (.dead)], [((100000, 0), .arr (.int .i64))]⟩
def Dspec_l4Latest_l10 : LoopD := ⟨86, [0, 3, 7, 9], [.one (.ro (.pr (.int .i64) (.sl (.int .i64)))), .one (.ro (.int .i64)), .one (.own (.int .i64)), .one .any, .skip], fun x => match x with
  | .exit 2 => some ([7], [.one (.own (.int .i64)), .skip])
  | _ => none⟩
def Pspec_l4Latest_l10 (g : ∀ {R : Type}, Nat → (List (Int × List Int)) → (List Int) → Int → (List Int) → ((List Int) → Option R) → Option R) (n : Nat) : LPs := fun R q kk => match (PkS.un Sspec_l4Latest_l10 q : Option ((List (Int × List Int)) × (List Int) × Int × (List Int) × Unit)) with
  | some (y10_0, y10_1, y10_2, y10_3, _) => g n y10_0 y10_1 y10_2 y10_3 (fun r0 => kk (.exit 2) (PkS.pack Tspec_l4Latest_l10_0 (r0, ())))
  | none => none
theorem espec_l4Latest_l10 (spec_l4Order : ∀ {R : Type}, Nat → (List (Int × List Int)) → ((List Int) → Bool → Option R) → Option R) (spec_l4Earliest : ∀ {R : Type}, Nat → (List (Int × List Int)) → (Int → (List Int) → Option R) → Option R) (spec_l4Latest_l5 : ∀ {R : Type}, Nat → (List (Int × List Int)) → (List Int) → Int → Int → Int → (List Int) → ((List (Int × List Int)) → (List Int) → (List Int) → Option R) → Option R) (spec_l4Latest_l14 : ∀ {R : Type}, Nat → (List (Int × List Int)) → (List Int) → Int → Int → (List Int) → Int → Int → (List Int) → ((List (Int × List Int)) → (List Int) → Int → (List Int) → Option R) → Option R) (spec_l4Latest_l10 : ∀ {R : Type}, Nat → (List (Int × List Int)) → (List Int) → Int → (List Int) → ((List Int) → Option R) → Option R) {R : Type} (n : Nat) (y10_0 : List (Int × List Int)) (y10_1 : List Int) (y10_2 : Int) (y10_3 : List Int) (kk : Ex → Pk → Option R) : Dspec_l4Latest_l10.step tt sig (mkK [(96, Kspec_l4Order @spec_l4Order n), (101, Kspec_l4Earliest @spec_l4Earliest n)] R) (mkL (mkK [(96, Kspec_l4Order @spec_l4Order n), (101, Kspec_l4Earliest @spec_l4Earliest n)]) [(5, Dspec_l4Latest_l5, Pspec_l4Latest_l5 @spec_l4Latest_l5 n), (14, Dspec_l4Latest_l14, Pspec_l4Latest_l14 @spec_l4Latest_l14 n)] R) (loopIn 10 (bodyOf Try.f104)) (fun q' => Pspec_l4Latest_l10 @spec_l4Latest_l10 n R q' kk) (PkS.pack Sspec_l4Latest_l10 (y10_0, y10_1, y10_2, y10_3, ())) kk = (fun (kexit2 : (List Int) → Option R) => (bif (decide (y10_2 ≥ 0)) then (bif decide (0 ≤ y10_2) then (bif decide (y10_2 < (y10_1.length : Int)) then (bif decide (0 ≤ (y10_1.getD (Int.toNat y10_2) 0)) then (bif decide ((y10_1.getD (Int.toNat y10_2) 0) < (y10_0.length : Int)) then (spec_l4Latest_l14 n y10_0 y10_1 y10_2 (y10_1.getD (Int.toNat y10_2) 0) ((y10_0.getD (Int.toNat (y10_1.getD (Int.toNat y10_2) 0)) (0, [])).2) (((y10_0.getD (Int.toNat (y10_1.getD (Int.toNat y10_2) 0)) (0, [])).2).length : Int) 0 y10_3 (fun r8 r9 r10 r11 => spec_l4Latest_l10 n r8 r9 (IntKind.wrap .i64 (r10 - 1)) r11 kexit2)) else none) else none) else none) else none) else kexit2 y10_3)) (fun r0 => kk (.exit 2) (PkS.pack Tspec_l4Latest_l10_0 (r0, ()))) := by kernel_rfl
theorem lespec_l4Latest_l10 : LoopEq tt sig (fun n => mkK [(96, Kspec_l4Order @spec_l4Order n), (101, Kspec_l4Earliest @spec_l4Earliest n)]) (fun n => mkL (mkK [(96, Kspec_l4Order @spec_l4Order n), (101, Kspec_l4Earliest @spec_l4Earliest n)]) [(5, Dspec_l4Latest_l5, Pspec_l4Latest_l5 @spec_l4Latest_l5 n), (14, Dspec_l4Latest_l14, Pspec_l4Latest_l14 @spec_l4Latest_l14 n)]) Dspec_l4Latest_l10 Sspec_l4Latest_l10 (loopIn 10 (bodyOf Try.f104)) (Pspec_l4Latest_l10 @spec_l4Latest_l10) where
  zero R q kk := by unfold Pspec_l4Latest_l10; cases (PkS.un Sspec_l4Latest_l10 q) <;> rfl
  succ n R q kk := by
    unfold Pspec_l4Latest_l10
    cases h : (PkS.un Sspec_l4Latest_l10 q) with
    | none => rfl
    | some d =>
      obtain ⟨y10_0, y10_1, y10_2, y10_3, u⟩ := (d : (List (Int × List Int)) × (List Int) × Int × (List Int) × Unit)
      have hp := PkS.un_pack h
      subst hp
      exact (espec_l4Latest_l10 @spec_l4Order @spec_l4Earliest @spec_l4Latest_l5 @spec_l4Latest_l14 @spec_l4Latest_l10 n y10_0 y10_1 y10_2 y10_3 kk).symm
theorem nlspec_l4Latest_l10 : ∀ n, NatLP (Pspec_l4Latest_l10 @spec_l4Latest_l10 n) := lespec_l4Latest_l10.nat (fun n => mkK_nat (cspec_l4Latest n)) fun n => mkL_nat (mkK_nat (cspec_l4Latest n)) (l := [(5, Dspec_l4Latest_l5, Pspec_l4Latest_l5 @spec_l4Latest_l5 n), (14, Dspec_l4Latest_l14, Pspec_l4Latest_l14 @spec_l4Latest_l14 n)]) ⟨nlspec_l4Latest_l5 n, ⟨nlspec_l4Latest_l14 n, trivial⟩⟩
theorem inspec_l4Latest_l10 (n : Nat) (R : Type) : LoopsOk Try.prog (mkL (mkK [(96, Kspec_l4Order @spec_l4Order n), (101, Kspec_l4Earliest @spec_l4Earliest n)]) [(5, Dspec_l4Latest_l5, Pspec_l4Latest_l5 @spec_l4Latest_l5 n), (14, Dspec_l4Latest_l14, Pspec_l4Latest_l14 @spec_l4Latest_l14 n)] R) (loopIn 10 (bodyOf Try.f104)) := .eq (l := [.lo (loopIn 14 (bodyOf Try.f104))]) (by kernel_rfl) ⟨(lkspec_l4Latest_l14 n R _ (at_id (i := 14) (by kernel_rfl) rfl)), trivial⟩
theorem lkspec_l4Latest_l10 (n : Nat) (R : Type) (L0 : LK R) (h0 : ∀ id, firstRegion (loopIn 10 (bodyOf Try.f104)) = some id → L0 id = Dspec_l4Latest_l10.oracle (mkK [(96, Kspec_l4Order @spec_l4Order n), (101, Kspec_l4Earliest @spec_l4Earliest n)] R) (Pspec_l4Latest_l10 @spec_l4Latest_l10 n R)) : LoopOk Try.prog L0 (loopIn 10 (bodyOf Try.f104)) :=
  lespec_l4Latest_l10.ok mixed ttok (fun n => mkK_nat (cspec_l4Latest n)) (fun n => mkK_ok (cspec_l4Latest n)) (fun n => inspec_l4Latest_l10 n R) (mkK_nat (cspec_l4Latest n)) h0
@[reducible] def Sspec_l4Latest : PkS := ⟨[.one (.ro (.pr (.int .i64) (.sl (.int .i64))))], []⟩
@[reducible] def Tspec_l4Latest : PkS := ⟨[.one (.whole (300000, 0)), .one (.dead)], [((300000, 0), .arr (.int .i64))]⟩
def Hspec_l4Latest : List Sh := [.one (.own (.int .i64)), .skip]
def Kspec_l4Latest (g : ∀ {R : Type}, Nat → (List (Int × List Int)) → ((List Int) → Option R) → Option R) (n : Nat) : KPs := fun R p k => match (PkS.un Sspec_l4Latest p : Option ((List (Int × List Int)) × Unit)) with
  | some (x0, _) => g n x0 (fun r0 => k (PkS.pack Tspec_l4Latest (r0, ())))
  | none => none
theorem espec_l4Latest (spec_l4Order : ∀ {R : Type}, Nat → (List (Int × List Int)) → ((List Int) → Bool → Option R) → Option R) (spec_l4Earliest : ∀ {R : Type}, Nat → (List (Int × List Int)) → (Int → (List Int) → Option R) → Option R) (spec_l4Latest_l5 : ∀ {R : Type}, Nat → (List (Int × List Int)) → (List Int) → Int → Int → Int → (List Int) → ((List (Int × List Int)) → (List Int) → (List Int) → Option R) → Option R) (spec_l4Latest_l14 : ∀ {R : Type}, Nat → (List (Int × List Int)) → (List Int) → Int → Int → (List Int) → Int → Int → (List Int) → ((List (Int × List Int)) → (List Int) → Int → (List Int) → Option R) → Option R) (spec_l4Latest_l10 : ∀ {R : Type}, Nat → (List (Int × List Int)) → (List Int) → Int → (List Int) → ((List Int) → Option R) → Option R) {R : Type} (n : Nat) (x0 : List (Int × List Int)) (k : Pk → Option R) : evF tt sig (mkK [(96, Kspec_l4Order @spec_l4Order n), (101, Kspec_l4Earliest @spec_l4Earliest n)] R) (mkL (mkK [(96, Kspec_l4Order @spec_l4Order n), (101, Kspec_l4Earliest @spec_l4Earliest n)]) [(5, Dspec_l4Latest_l5, Pspec_l4Latest_l5 @spec_l4Latest_l5 n), (14, Dspec_l4Latest_l14, Pspec_l4Latest_l14 @spec_l4Latest_l14 n), (10, Dspec_l4Latest_l10, Pspec_l4Latest_l10 @spec_l4Latest_l10 n)] R) Try.f104 Hspec_l4Latest (PkS.pack Sspec_l4Latest (x0, ())) k = (fun (k : (List Int) → Option R) => (spec_l4Order n x0 fun r1 r2 => (spec_l4Earliest n x0 fun r3 r4 => (bif decide (0 ≤ (x0.length : Int)) then (bif decide ((x0.length : Int) ≤ (x0.length : Int)) then (bif decide ((x0.length : Int) ≤ 1099511627776) then (spec_l4Latest_l5 n x0 r1 r3 ((List.replicate (Int.toNat (x0.length : Int)) (0 : Int)).length : Int) 0 (List.replicate (Int.toNat (x0.length : Int)) (0 : Int)) (fun r5 r6 r7 => (spec_l4Latest_l10 n r5 r6 (IntKind.wrap .i64 ((r6.length : Int) - 1)) r7 (fun r12 => k r12)))) else none) else none) else none)))) (fun r0 => k (PkS.pack Tspec_l4Latest (r0, ()))) := by kernel_rfl
theorem okspec_l4Latest (n : Nat) : FnOk Try.prog 104 (Kspec_l4Latest @spec_l4Latest n) := by
  refine fn_ok (sig := sig) mixed ttok (mkK_nat (cspec_l4Latest n)) (mkK_ok (cspec_l4Latest n)) (mkL_nat (mkK_nat (cspec_l4Latest n)) (l := [(5, Dspec_l4Latest_l5, Pspec_l4Latest_l5 @spec_l4Latest_l5 n), (14, Dspec_l4Latest_l14, Pspec_l4Latest_l14 @spec_l4Latest_l14 n), (10, Dspec_l4Latest_l10, Pspec_l4Latest_l10 @spec_l4Latest_l10 n)]) ⟨nlspec_l4Latest_l5 n, ⟨nlspec_l4Latest_l14 n, ⟨nlspec_l4Latest_l10 n, trivial⟩⟩⟩) (fn := Try.f104) (c := bodyOf Try.f104) (by kernel_rfl) (by kernel_rfl) (by kernel_rfl) (.eq (l := [.lo (loopIn 5 (bodyOf Try.f104)), .lo (loopIn 10 (bodyOf Try.f104))]) (by kernel_rfl) ⟨(lkspec_l4Latest_l5 n _ _ (at_id (i := 5) (by kernel_rfl) rfl)), ⟨(lkspec_l4Latest_l10 n _ _ (at_id (i := 10) (by kernel_rfl) rfl)), trivial⟩⟩) (shs := Hspec_l4Latest) (S := Sspec_l4Latest) (h1 := by kernel_rfl) fun R p k => ?_
  unfold Kspec_l4Latest
  cases h : (PkS.un Sspec_l4Latest p) with
  | none => rfl
  | some d =>
    obtain ⟨x0, u⟩ := (d : (List (Int × List Int)) × Unit)
    have hp := PkS.un_pack h
    subst hp
    exact (espec_l4Latest @spec_l4Order @spec_l4Earliest @spec_l4Latest_l5 @spec_l4Latest_l14 @spec_l4Latest_l10 n x0 k).symm

/-! ### loop.example/g00269/spec.CriticalOf -/
theorem cspec_CriticalOf (n : Nat) : AllOk Try.prog [(95, Kspec_GoodPlan @spec_GoodPlan n), (101, Kspec_l4Earliest @spec_l4Earliest n), (104, Kspec_l4Latest @spec_l4Latest n), (105, Kspec_l1Has @spec_l1Has n)] := ⟨okspec_GoodPlan n, ⟨okspec_l4Earliest n, ⟨okspec_l4Latest n, ⟨okspec_l1Has n, trivial⟩⟩⟩⟩
@[reducible] def Sspec_CriticalOf_l11 : PkS := ⟨[.one (.ro (.pr (.int .i64) (.sl (.int .i64)))), .one (.whole (100000, 0)), .one (.int .i64), .one (.whole (100000, 1)), .one (.whole (100000, 2)), .one (.int .i64), .one (.int .i64), .one (.int .i64), .one (.ro (.pr (.int .i64) (.sl (.int .i64)))), .one (.int .i64), .one (.int .i64), .one (.dead)], [((100000, 0), .arr (.int .i64)), ((100000, 1), .arr (.int .i64)), ((100000, 2), .arr (.int .i64))]⟩
@[reducible] def Tspec_CriticalOf_l11_0 : PkS := ⟨[.one (.ro (.pr (.int .i64) (.sl (.int .i64)))), .one (.whole (100000, 0)), .one (.int .i64), .one (.whole (100000, 1)), .one (.whole (100000, 2)), .one (.int .i64), .one (.int .i64), .one (.dead)], [((100000, 0), .arr (.int .i64)), ((100000, 1), .arr (.int .i64)), ((100000, 2), .arr (.int .i64))]⟩
def Dspec_CriticalOf_l11 : LoopD := ⟨82, [0, 4, 5, 6, 7, 8, 9, 10, 26, 27, 28], [.one (.ro (.pr (.int .i64) (.sl (.int .i64)))), .one (.own (.int .i64)), .one .any, .one (.own (.int .i64)), .one (.own (.int .i64)), .one .any, .one .any, .one .any, .one (.ro (.pr (.int .i64) (.sl (.int .i64)))), .one .any, .one .any, .skip], fun x => match x with
  | .exit 2 => some ([0, 4, 5, 6, 7, 8, 10], [.one (.ro (.pr (.int .i64) (.sl (.int .i64)))), .one (.own (.int .i64)), .one .any, .one (.own (.int .i64)), .one (.own (.int .i64)), .one .any, .one .any, .skip])
  | _ => none⟩
def Pspec_CriticalOf_l11 (g : ∀ {R : Type}, Nat → (List (Int × List Int)) → Int → Int → Int → Int → (List (Int × List Int)) → Int → Int → (List Int) → (List Int) → (List Int) → ((List (Int × List Int)) → Int → Int → Int → (List Int) → (List Int) → (List Int) → Option R) → Option R) (n : Nat) : LPs := fun R q kk => match (PkS.un Sspec_CriticalOf_l11 q : Option ((List (Int × List Int)) × Int × Int × Int × Int × (List (Int × List Int)) × Int × Int × (List Int) × (List Int) × (List Int) × Unit)) with
  | some (y11_0, y11_1, y11_2, y11_3, y11_4, y11_5, y11_6, y11_7, y11_8, y11_9, y11_10, _) => g n y11_0 y11_1 y11_2 y11_3 y11_4 y11_5 y11_6 y11_7 y11_8 y11_9 y11_10 (fun r0 r1 r2 r3 r4 r5 r6 => kk (.exit 2) (PkS.pack Tspec_CriticalOf_l11_0 (r0, r1, r2, r3, r4, r5, r6, ())))
  | none => none
theorem espec_CriticalOf_l11 (spec_GoodPlan : ∀ {R : Type}, Nat → (List (Int × List Int)) → (Bool → Option R) → Option R) (spec_l4Earliest : ∀ {R : Type}, Nat → (List (Int × List Int)) → (Int → (List Int) → Option R) → Option R) (spec_l4Latest : ∀ {R : Type}, Nat → (List (Int × List Int)) → ((List Int) → Option R) → Option R) (spec_l1Has : ∀ {R : Type}, Nat → (List Int) → Int → (Bool → Option R) → Option R) (spec_CriticalOf_l11 : ∀ {R : Type}, Nat → (List (Int × List Int)) → Int → Int → Int → Int → (List (Int × List Int)) → Int → Int → (List Int) → (List Int) → (List Int) → ((List (Int × List Int)) → Int → Int → Int → (List Int) → (List Int) → (List Int) → Option R) → Option R) {R : Type} (n : Nat) (y11_0 : List (Int × List Int)) (y11_1 : Int) (y11_2 : Int) (y11_3 : Int) (y11_4 : Int) (y11_5 : List (Int × List Int)) (y11_6 : Int) (y11_7 : Int) (y11_8 : List Int) (y11_9 : List Int) (y11_10 : List Int) (kk : Ex → Pk → Option R) : Dspec_CriticalOf_l11.step tt sig (mkK [(95, Kspec_GoodPlan @spec_GoodPlan n), (101, Kspec_l4Earliest @spec_l4Earliest n), (104, Kspec_l4Latest @spec_l4Latest n), (105, Kspec_l1Has @spec_l1Has n)] R) (mkL (mkK [(95, Kspec_GoodPlan @spec_GoodPlan n), (101, Kspec_l4Earliest @spec_l4Earliest n), (104, Kspec_l4Latest @spec_l4Latest n), (105, Kspec_l1Has @spec_l1Has n)]) [] R) (loopIn 11 (bodyOf Try.f48)) (fun q' => Pspec_CriticalOf_l11 @spec_CriticalOf_l11 n R q' kk) (PkS.pack Sspec_CriticalOf_l11 (y11_0, y11_1, y11_2, y11_3, y11_4, y11_5, y11_6, y11_7, y11_8, y11_9, y11_10, ())) kk = (fun (kexit2 : (List (Int × List Int)) → Int → Int → Int → (List Int) → (List Int) → (List Int) → Option R) => (bif (decide (y11_7 < y11_6)) then (bif decide (0 ≤ y11_7) then (bif decide (y11_7 < (y11_5.length : Int)) then (bif decide (0 ≤ y11_7) then (bif decide (y11_7 < (y11_8.length : Int)) then (bif ((y11_8.getD (Int.toNat y11_7) 0) == y11_2) then (bif decide (0 ≤ y11_7) then (bif decide (y11_7 < (y11_9.length : Int)) then (bif ((y11_9.getD (Int.toNat y11_7) 0) == y11_2) then (bif (decide (y11_3 < 0)) then (bif ((((y11_5.getD (Int.toNat y11_7) (0, [])).2).length : Int) == 0) then kexit2 y11_0 y11_1 y11_2 y11_7 y11_8 y11_9 y11_10 else (bif (decide (y11_3 ≥ 0)) then (spec_l1Has n ((y11_5.getD (Int.toNat y11_7) (0, [])).2) y11_3 fun r5 => (bif r5 then kexit2 y11_0 y11_1 y11_2 y11_7 y11_8 y11_9 y11_10 else spec_CriticalOf_l11 n y11_0 y11_1 y11_2 y11_3 y11_4 y11_5 y11_6 (IntKind.wrap .i64 (y11_7 + 1)) y11_8 y11_9 y11_10 kexit2)) else spec_CriticalOf_l11 n y11_0 y11_1 y11_2 y11_3 y11_4 y11_5 y11_6 (IntKind.wrap .i64 (y11_7 + 1)) y11_8 y11_9 y11_10 kexit2)) else (bif (decide (y11_3 ≥ 0)) then (spec_l1Has n ((y11_5.getD (Int.toNat y11_7) (0, [])).2) y11_3 fun r6 => (bif r6 then kexit2 y11_0 y11_1 y11_2 y11_7 y11_8 y11_9 y11_10 else spec_CriticalOf_l11 n y11_0 y11_1 y11_2 y11_3 y11_4 y11_5 y11_6 (IntKind.wrap .i64 (y11_7 + 1)) y11_8 y11_9 y11_10 kexit2)) else spec_CriticalOf_l11 n y11_0 y11_1 y11_2 y11_3 y11_4 y11_5 y11_6 (IntKind.wrap .i64 (y11_7 + 1)) y11_8 y11_9 y11_10 kexit2)) else spec_CriticalOf_l11 n y11_0 y11_1 y11_2 y11_3 y11_4 y11_5 y11_6 (IntKind.wrap .i64 (y11_7 + 1)) y11_8 y11_9 y11_10 kexit2) else none) else none) else spec_CriticalOf_l11 n y11_0 y11_1 y11_2 y11_3 y11_4 y11_5 y11_6 (IntKind.wrap .i64 (y11_7 + 1)) y11_8 y11_9 y11_10 kexit2) else none) else none) else none) else none) else kexit2 y11_0 y11_1 y11_2 y11_4 y11_8 y11_9 y11_10)) (fun r0 r1 r2 r3 r4 r5 r6 => kk (.exit 2) (PkS.pack Tspec_CriticalOf_l11_0 (r0, r1, r2, r3, r4, r5, r6, ()))) := by kernel_rfl
theorem lespec_CriticalOf_l11 : LoopEq tt sig (fun n => mkK [(95, Kspec_GoodPlan @spec_GoodPlan n), (101, Kspec_l4Earliest @spec_l4Earliest n), (104, Kspec_l4Latest @spec_l4Latest n), (105, Kspec_l1Has @spec_l1Has n)]) (fun n => mkL (mkK [(95, Kspec_GoodPlan @spec_GoodPlan n), (101, Kspec_l4Earliest @spec_l4Earliest n), (104, Kspec_l4Latest @spec_l4Latest n), (105, Kspec_l1Has @spec_l1Has n)]) []) Dspec_CriticalOf_l11 Sspec_CriticalOf_l11 (loopIn 11 (bodyOf Try.f48)) (Pspec_CriticalOf_l11 @spec_CriticalOf_l11) where
  zero R q kk := by unfold Pspec_CriticalOf_l11; cases (PkS.un Sspec_CriticalOf_l11 q) <;> rfl
  succ n R q kk := by
    unfold Pspec_CriticalOf_l11
    cases h : (PkS.un Sspec_CriticalOf_l11 q) with
    | none => rfl
    | some d =>
      obtain ⟨y11_0, y11_1, y11_2, y11_3, y11_4, y11_5, y11_6, y11_7, y11_8, y11_9, y11_10, u⟩ := (d : (List (Int × List Int)) × Int × Int × Int × Int × (List (Int × List Int)) × Int × Int × (List Int) × (List Int) × (List Int) × Unit)
      have hp := PkS.un_pack h
      subst hp
      exact (espec_CriticalOf_l11 @spec_GoodPlan @spec_l4Earliest @spec_l4Latest @spec_l1Has @spec_CriticalOf_l11 n y11_0 y11_1 y11_2 y11_3 y11_4 y11_5 y11_6 y11_7 y11_8 y11_9 y11_10 kk).symm
theorem nlspec_CriticalOf_l11 : ∀ n, NatLP (Pspec_CriticalOf_l11 @spec_CriticalOf_l11 n) := lespec_CriticalOf_l11.nat (fun n => mkK_nat (cspec_CriticalOf n)) fun n => mkL_nat (mkK_nat (cspec_CriticalOf n)) (l := []) trivial
theorem inspec_CriticalOf_l11 (n : Nat) (R : Type) : LoopsOk Try.prog (mkL (mkK [(95, Kspec_GoodPlan @spec_GoodPlan n), (101, Kspec_l4Earliest @spec_l4Earliest n), (104, Kspec_l4Latest @spec_l4Latest n), (105, Kspec_l1Has @spec_l1Has n)]) [] R) (loopIn 11 (bodyOf Try.f48)) := .eq (l := []) (by kernel_rfl) trivial
theorem lkspec_CriticalOf_l11 (n : Nat) (R : Type) (L0 : LK R) (h0 : ∀ id, firstRegion (loopIn 11 (bodyOf Try.f48)) = some id → L0 id = Dspec_CriticalOf_l11.oracle (mkK [(95, Kspec_GoodPlan @spec_GoodPlan n), (101, Kspec_l4Earliest @spec_l4Earliest n), (104, Kspec_l4Latest @spec_l4Latest n), (105, Kspec_l1Has @spec_l1Has n)] R) (Pspec_CriticalOf_l11 @spec_CriticalOf_l11 n R)) : LoopOk Try.prog L0 (loopIn 11 (bodyOf Try.f48)) :=
  lespec_CriticalOf_l11.ok mixed ttok (fun n => mkK_nat (cspec_CriticalOf n)) (fun n => mkK_ok (cspec_CriticalOf n)) (fun n => inspec_CriticalOf_l11 n R) (mkK_nat (cspec_CriticalOf n)) h0
@[reducible] def Sspec_CriticalOf_l8 : PkS := ⟨[.one (.ro (.pr (.int .i64) (.sl (.int .i64)))), .one (.whole (100000, 0)), .one (.int .i64), .one (.whole (100000, 1)), .one (.whole (100000, 2)), .one (.int .i64), .one (.int .i64), .one (.dead)], [((100000, 0), .arr (.int .i64)), ((100000, 1), .arr (.int .i64)), ((100000, 2), .arr (.int .i64))]⟩
@[reducible] def Tspec_CriticalOf_l8_0 : PkS := ⟨[.one (.whole (100000, 0)), .one (.dead)], [((100000, 0), .arr (.int .i64))]⟩
def Dspec_CriticalOf_l8 : LoopD := ⟨82, [0, 4, 5, 6, 7, 8, 9], [.one (.ro (.pr (.int .i64) (.sl (.int .i64)))), .one (.own (.int .i64)), .one .any, .one (.own (.int .i64)), .one (.own (.int .i64)), .one .any, .one .any, .skip], fun x => match x with
  | .exit 0 => some ([7], [.one (.own (.int .i64)), .skip])
  | _ => none⟩
def Pspec_CriticalOf_l8 (g : ∀ {R : Type}, Nat → (List (Int × List Int)) → Int → Int → Int → (List Int) → (List Int) → (List Int) → ((List Int) → Option R) → Option R) (n : Nat) : LPs := fun R q kk => match (PkS.un Sspec_CriticalOf_l8 q : Option ((List (Int × List Int)) × Int × Int × Int × (List Int) × (List Int) × (List Int) × Unit)) with
  | some (y8_0, y8_1, y8_2, y8_3, y8_4, y8_5, y8_6, _) => g n y8_0 y8_1 y8_2 y8_3 y8_4 y8_5 y8_6 (fun r0 => kk (.exit 0) (PkS.pack Tspec_CriticalOf_l8_0 (r0, ())))
  | none => none
theorem espec_CriticalOf_l8 (spec_GoodPlan : ∀ {R : Type}, Nat → (List (Int × List Int)) → (Bool → Option R) → Option R) (spec_l4Earliest : ∀ {R : Type}, Nat → (List (Int × List Int)) → (Int → (List Int) → Option R) → Option R) (spec_l4Latest : ∀ {R : Type}, Nat → (List (Int × List Int)) → ((List Int) → Option R) → Option R) (spec_l1Has : ∀ {R : Type}, Nat → (List Int) → Int → (Bool → Option R) → Option R) (spec_CriticalOf_l11 : ∀ {R : Type}, Nat → (List (Int × List Int)) → Int → Int → Int → Int → (List (Int × List Int)) → Int → Int → (List Int) → (List Int) → (List Int) → ((List (Int × List Int)) → Int → Int → Int → (List Int) → (List Int) → (List Int) → Option R) → Option R) (spec_CriticalOf_l8 : ∀ {R : Type}, Nat → (List (Int × List Int)) → Int → Int → Int → (List Int) → (List Int) → (List Int) → ((List Int) → Option R) → Option R) {R : Type} (n : Nat) (y8_0 : List (Int × List Int)) (y8_1 : Int) (y8_2 : Int) (y8_3 : Int) (y8_4 : List Int) (y8_5 : List Int) (y8_6 : List Int) (kk : Ex → Pk → Option R) : Dspec_CriticalOf_l8.step tt sig (mkK [(95, Kspec_GoodPlan @spec_GoodPlan n), (101, Kspec_l4Earliest @spec_l4Earliest n), (104, Kspec_l4Latest @spec_l4Latest n), (105, Kspec_l1Has @spec_l1Has n)] R) (mkL (mkK [(95, Kspec_GoodPlan @spec_GoodPlan n), (101, Kspec_l4Earliest @spec_l4Earliest n), (104, Kspec_l4Latest @spec_l4Latest n), (105, Kspec_l1Has @spec_l1Has n)]) [(11, Dspec_CriticalOf_l11, Pspec_CriticalOf_l11 @spec_CriticalOf_l11 n)] R) (loopIn 8 (bodyOf Try.f48)) (fun q' => Pspec_CriticalOf_l8 @spec_CriticalOf_l8 n R q' kk) (PkS.pack Sspec_CriticalOf_l8 (y8_0, y8_1, y8_2, y8_3, y8_4, y8_5, y8_6, ())) kk = (fun (kexit0 : (List Int) → Option R) => (bif (decide (y8_2 < y8_1)) then (spec_CriticalOf_l11 n y8_0 y8_1 y8_2 y8_3 (-1) y8_0 (y8_0.length : Int) 0 y8_4 y8_5 y8_6 (fun r7 r8 r9 r10 r11 r12 r13 => (bif decide (r13.length + [r10].length ≤ LIM) then (bif decide (0 ≤ r10) then (bif decide (r10 < (r7.length : Int)) then spec_CriticalOf_l8 n r7 r8 (IntKind.wrap .i64 (r9 + ((r7.getD (Int.toNat r10) (0, [])).1))) r10 r11 r12 (r13 ++ [r10]) kexit0 else none) else none) else none))) else kexit0 y8_6)) (fun r0 => kk (.exit 0) (PkS.pack Tspec_CriticalOf_l8_0 (r0, ()))) := by kernel_rfl
theorem lespec_CriticalOf_l8 : LoopEq tt sig (fun n => mkK [(95, Kspec_GoodPlan @spec_GoodPlan n), (101, Kspec_l4Earliest @spec_l4Earliest n), (104, Kspec_l4Latest @spec_l4Latest n), (105, Kspec_l1Has @spec_l1Has n)]) (fun n => mkL (mkK [(95, Kspec_GoodPlan @spec_GoodPlan n), (101, Kspec_l4Earliest @spec_l4Earliest n), (104, Kspec_l4Latest @spec_l4Latest n), (105, Kspec_l1Has @spec_l1Has n)]) [(11, Dspec_CriticalOf_l11, Pspec_CriticalOf_l11 @spec_CriticalOf_l11 n)]) Dspec_CriticalOf_l8 Sspec_CriticalOf_l8 (loopIn 8 (bodyOf Try.f48)) (Pspec_CriticalOf_l8 @spec_CriticalOf_l8) where
  zero R q kk := by unfold Pspec_CriticalOf_l8; cases (PkS.un Sspec_CriticalOf_l8 q) <;> rfl
  succ n R q kk := by
    unfold Pspec_CriticalOf_l8
    cases h : (PkS.un Sspec_CriticalOf_l8 q) with
    | none => rfl
    | some d =>
      obtain ⟨y8_0, y8_1, y8_2, y8_3, y8_4, y8_5, y8_6, u⟩ := (d : (List (Int × List Int)) × Int × Int × Int × (List Int) × (List Int) × (List Int) × Unit)
      have hp := PkS.un_pack h
      subst hp
      exact (espec_CriticalOf_l8 @spec_GoodPlan @spec_l4Earliest @spec_l4Latest @spec_l1Has @spec_CriticalOf_l11 @spec_CriticalOf_l8 n y8_0 y8_1 y8_2 y8_3 y8_4 y8_5 y8_6 kk).symm
theorem nlspec_CriticalOf_l8 : ∀ n, NatLP (Pspec_CriticalOf_l8 @spec_CriticalOf_l8 n) := lespec_CriticalOf_l8.nat (fun n => mkK_nat (cspec_CriticalOf n)) fun n => mkL_nat (mkK_nat (cspec_CriticalOf n)) (l := [(11, Dspec_CriticalOf_l11, Pspec_CriticalOf_l11 @spec_CriticalOf_l11 n)]) ⟨nlspec_CriticalOf_l11 n, trivial⟩
theorem inspec_CriticalOf_l8 (n : Nat) (R : Type) : LoopsOk Try.prog (mkL (mkK [(95, Kspec_GoodPlan @spec_GoodPlan n), (101, Kspec_l4Earliest @spec_l4Earliest n), (104, Kspec_l4Latest @spec_l4Latest n), (105, Kspec_l1Has @spec_l1Has n)]) [(11, Dspec_CriticalOf_l11, Pspec_CriticalOf_l11 @spec_CriticalOf_l11 n)] R) (loopIn 8 (bodyOf Try.f48)) := .eq (l := [.lo (loopIn 11 (bodyOf Try.f48))]) (by kernel_rfl) ⟨(lkspec_CriticalOf_l11 n R _ (at_id (i := 11) (by kernel_rfl) rfl)), trivial⟩
theorem lkspec_CriticalOf_l8 (n : Nat) (R : Type) (L0 : LK R) (h0 : ∀ id, firstRegion (loopIn 8 (bodyOf Try.f48)) = some id → L0 id = Dspec_CriticalOf_l8.oracle (mkK [(95, Kspec_GoodPlan @spec_GoodPlan n), (101, Kspec_l4Earliest @spec_l4Earliest n), (104, Kspec_l4Latest @spec_l4Latest n), (105, Kspec_l1Has @spec_l1Has n)] R) (Pspec_CriticalOf_l8 @spec_CriticalOf_l8 n R)) : LoopOk Try.prog L0 (loopIn 8 (bodyOf Try.f48)) :=
  lespec_CriticalOf_l8.ok mixed ttok (fun n => mkK_nat (cspec_CriticalOf n)) (fun n => mkK_ok (cspec_CriticalOf n)) (fun n => inspec_CriticalOf_l8 n R) (mkK_nat (cspec_CriticalOf n)) h0
@[reducible] def Sspec_CriticalOf : PkS := ⟨[.one (.ro (.pr (.int .i64) (.sl (.int .i64))))], []⟩
@[reducible] def Tspec_CriticalOf : PkS := ⟨[.tup [(false, [.whole (300000, 0)]), (false, [.bool])], .one (.dead)], [((300000, 0), .arr (.int .i64))]⟩
def Hspec_CriticalOf : List Sh := [.tup [(false, [(.own (.int .i64))]), (false, [.any])], .skip]
def Kspec_CriticalOf (g : ∀ {R : Type}, Nat → (List (Int × List Int)) → (Bool → (List Int) → Option R) → Option R) (n : Nat) : KPs := fun R p k => match (PkS.un Sspec_CriticalOf p : Option ((List (Int × List Int)) × Unit)) with
  | some (x0, _) => g n x0 (fun r0 r1 => k (PkS.pack Tspec_CriticalOf (r0, r1, ())))
  | none => none
theorem espec_CriticalOf (spec_GoodPlan : ∀ {R : Type}, Nat → (List (Int × List Int)) → (Bool → Option R) → Option R) (spec_l4Earliest : ∀ {R : Type}, Nat → (List (Int × List Int)) → (Int → (List Int) → Option R) → Option R) (spec_l4Latest : ∀ {R : Type}, Nat → (List (Int × List Int)) → ((List Int) → Option R) → Option R) (spec_l1Has : ∀ {R : Type}, Nat → (List Int) → Int → (Bool → Option R) → Option R) (spec_CriticalOf_l11 : ∀ {R : Type}, Nat → (List (Int × List Int)) → Int → Int → Int → Int → (List (Int × List Int)) → Int → Int → (List Int) → (List Int) → (List Int) → ((List (Int × List Int)) → Int → Int → Int → (List Int) → (List Int) → (List Int) → Option R) → Option R) (spec_CriticalOf_l8 : ∀ {R : Type}, Nat → (List (Int × List Int)) → Int → Int → Int → (List Int) → (List Int) → (List Int) → ((List Int) → Option R) → Option R) {R : Type} (n : Nat) (x0 : List (Int × List Int)) (k : Pk → Option R) : evF tt sig (mkK [(95, Kspec_GoodPlan @spec_GoodPlan n), (101, Kspec_l4Earliest @spec_l4Earliest n), (104, Kspec_l4Latest @spec_l4Latest n), (105, Kspec_l1Has @spec_l1Has n)] R) (mkL (mkK [(95, Kspec_GoodPlan @spec_GoodPlan n), (101, Kspec_l4Earliest @spec_l4Earliest n), (104, Kspec_l4Latest @spec_l4Latest n), (105, Kspec_l1Has @spec_l1Has n)]) [(11, Dspec_CriticalOf_l11, Pspec_CriticalOf_l11 @spec_CriticalOf_l11 n), (8, Dspec_CriticalOf_l8, Pspec_CriticalOf_l8 @spec_CriticalOf_l8 n)] R) Try.f48 Hspec_CriticalOf (PkS.pack Sspec_CriticalOf (x0, ())) k = (fun (k : Bool → (List Int) → Option R) => (spec_GoodPlan n x0 fun r1 => (bif (!r1) then k false ([] : List Int) else (spec_l4Earliest n x0 fun r2 r3 => (spec_l4Latest n x0 fun r4 => (spec_CriticalOf_l8 n x0 r2 0 (-1) r3 r4 ([] : List Int) (fun r14 => k true r14))))))) (fun r0 r1 => k (PkS.pack Tspec_CriticalOf (r0, r1, ()))) := by kernel_rfl
theorem okspec_CriticalOf (n : Nat) : FnOk Try.prog 48 (Kspec_CriticalOf @spec_CriticalOf n) := by
  refine fn_ok (sig := sig) mixed ttok (mkK_nat (cspec_CriticalOf n)) (mkK_ok (cspec_CriticalOf n)) (mkL_nat (mkK_nat (cspec_CriticalOf n)) (l := [(11, Dspec_CriticalOf_l11, Pspec_CriticalOf_l11 @spec_CriticalOf_l11 n), (8, Dspec_CriticalOf_l8, Pspec_CriticalOf_l8 @spec_CriticalOf_l8 n)]) ⟨nlspec_CriticalOf_l11 n, ⟨nlspec_CriticalOf_l8 n, trivial⟩⟩) (fn := Try.f48) (c := bodyOf Try.f48) (by kernel_rfl) (by kernel_rfl) (by kernel_rfl) (.eq (l := [.lo (loopIn 8 (bodyOf Try.f48))]) (by kernel_rfl) ⟨(lkspec_CriticalOf_l8 n _ _ (at_id (i := 8) (by kernel_rfl) rfl)), trivial⟩) (shs := Hspec_CriticalOf) (S := Sspec_CriticalOf) (h1 := by kernel_rfl) fun R p k => ?_
  unfold Kspec_CriticalOf
  cases h : (PkS.un Sspec_CriticalOf p) with
  | none => rfl
  | some d =>
    obtain ⟨x0, u⟩ := (d : (List (Int × List Int)) × Unit)
    have hp := PkS.un_pack h
    subst hp
    exact (espec_CriticalOf @spec_GoodPlan @spec_l4Earliest @spec_l4Latest @spec_l1Has @spec_CriticalOf_l11 @spec_CriticalOf_l8 n x0 k).symm

/-! ### loop.example/g00269/laws.sameInts -/
theorem claws_sameInts (n : Nat) : AllOk Try.prog [] := trivial
@[reducible] def Slaws_sameInts_l4 : PkS := ⟨[.one (.ro (.int .i64)), .one (.ro (.int .i64)), .one (.int .i64), .one (.int .i64), .one (.dead), .one (.dead)], []⟩
@[reducible] def Tlaws_sameInts_l4_0 : PkS := ⟨[.one (.bool), .one (.dead), .one (.dead)], []⟩
@[reducible] def Tlaws_sameInts_l4_1 : PkS := ⟨[.one (.dead), .one (.dead)], []⟩
def Dlaws_sameInts_l4 : LoopD := ⟨26, [0, 1, 12, 13], [.one (.ro (.int .i64)), .one (.ro (.int .i64)), .one .any, .one .any, .skip, .skip], fun x => match x with
  | .ret => some ([4], [.one .any, .skip, .skip])
  | .exit 0 => some ([], [.skip, .skip])
  | _ => none⟩
def Plaws_sameInts_l4 (g : ∀ {R : Type}, Nat → (List Int) → (List Int) → Int → Int → (Bool → Option R) → (Option R) → Option R) (n : Nat) : LPs := fun R q kk => match (PkS.un Slaws_sameInts_l4 q : Option ((List Int) × (List Int) × Int × Int × Unit)) with
  | some (y4_0, y4_1, y4_2, y4_3, _) => g n y4_0 y4_1 y4_2 y4_3 (fun r0 => kk .ret (PkS.pack Tlaws_sameInts_l4_0 (r0, ()))) (kk (.exit 0) (PkS.pack Tlaws_sameInts_l4_1 ()))
  | none => none
theorem elaws_sameInts_l4 (laws_sameInts_l4 : ∀ {R : Type}, Nat → (List Int) → (List Int) → Int → Int → (Bool → Option R) → (Option R) → Option R) {R : Type} (n : Nat) (y4_0 : List Int) (y4_1 : List Int) (y4_2 : Int) (y4_3 : Int) (kk : Ex → Pk → Option R) : Dlaws_sameInts_l4.step tt sig (mkK [] R) (mkL (mkK []) [] R) (loopIn 4 (bodyOf Try.f38)) (fun q' => Plaws_sameInts_l4 @laws_sameInts_l4 n R q' kk) (PkS.pack Slaws_sameInts_l4 (y4_0, y4_1, y4_2, y4_3, ())) kk = (fun (kret : Bool → Option R) (kexit0 : Option R) => (bif (decide (y4_3 < y4_2)) then (bif decide (0 ≤ y4_3) then (bif decide (y4_3 < (y4_0.length : Int)) then (bif decide (0 ≤ y4_3) then (bif decide (y4_3 < (y4_1.length : Int)) then (bif ((y4_0.getD (Int.toNat y4_3) 0) != (y4_1.getD (Int.toNat y4_3) 0)) then kret false else laws_sameInts_l4 n y4_0 y4_1 y4_2 (IntKind.wrap .i64 (y4_3 + 1)) kret kexit0) else none) else none) else none) else none) else kexit0)) (fun r0 => kk .ret (PkS.pack Tlaws_sameInts_l4_0 (r0, ()))) (kk (.exit 0) (PkS.pack Tlaws_sameInts_l4_1 ())) := by kernel_rfl
theorem lelaws_sameInts_l4 : LoopEq tt sig (fun n => mkK []) (fun n => mkL (mkK []) []) Dlaws_sameInts_l4 Slaws_sameInts_l4 (loopIn 4 (bodyOf Try.f38)) (Plaws_sameInts_l4 @laws_sameInts_l4) where
  zero R q kk := by unfold Plaws_sameInts_l4; cases (PkS.un Slaws_sameInts_l4 q) <;> rfl
  succ n R q kk := by
    unfold Plaws_sameInts_l4
    cases h : (PkS.un Slaws_sameInts_l4 q) with
    | none => rfl
    | some d =>
      obtain ⟨y4_0, y4_1, y4_2, y4_3, u⟩ := (d : (List Int) × (List Int) × Int × Int × Unit)
      have hp := PkS.un_pack h
      subst hp
      exact (elaws_sameInts_l4 @laws_sameInts_l4 n y4_0 y4_1 y4_2 y4_3 kk).symm
theorem nllaws_sameInts_l4 : ∀ n, NatLP (Plaws_sameInts_l4 @laws_sameInts_l4 n) := lelaws_sameInts_l4.nat (fun n => mkK_nat (claws_sameInts n)) fun n => mkL_nat (mkK_nat (claws_sameInts n)) (l := []) trivial
theorem inlaws_sameInts_l4 (n : Nat) (R : Type) : LoopsOk Try.prog (mkL (mkK []) [] R) (loopIn 4 (bodyOf Try.f38)) := .eq (l := []) (by kernel_rfl) trivial
theorem lklaws_sameInts_l4 (n : Nat) (R : Type) (L0 : LK R) (h0 : ∀ id, firstRegion (loopIn 4 (bodyOf Try.f38)) = some id → L0 id = Dlaws_sameInts_l4.oracle (mkK [] R) (Plaws_sameInts_l4 @laws_sameInts_l4 n R)) : LoopOk Try.prog L0 (loopIn 4 (bodyOf Try.f38)) :=
  lelaws_sameInts_l4.ok mixed ttok (fun n => mkK_nat (claws_sameInts n)) (fun n => mkK_ok (claws_sameInts n)) (fun n => inlaws_sameInts_l4 n R) (mkK_nat (claws_sameInts n)) h0
@[reducible] def Slaws_sameInts : PkS := ⟨[.one (.ro (.int .i64)), .one (.ro (.int .i64))], []⟩
@[reducible] def Tlaws_sameInts : PkS := ⟨[.one (.bool), .one (.dead), .one (.dead)], []⟩
def Hlaws_sameInts : List Sh := [.one .any, .skip, .skip]
def Klaws_sameInts (g : ∀ {R : Type}, Nat → (List Int) → (List Int) → (Bool → Option R) → Option R) (n : Nat) : KPs := fun R p k => match (PkS.un Slaws_sameInts p : Option ((List Int) × (List Int) × Unit)) with
  | some (x0, x1, _) => g n x0 x1 (fun r0 => k (PkS.pack Tlaws_sameInts (r0, ())))
  | none => none
theorem elaws_sameInts (laws_sameInts_l4 : ∀ {R : Type}, Nat → (List Int) → (List Int) → Int → Int → (Bool → Option R) → (Option R) → Option R) {R : Type} (n : Nat) (x0 : List Int) (x1 : List Int) (k : Pk → Option R) : evF tt sig (mkK [] R) (mkL (mkK []) [(4, Dlaws_sameInts_l4, Plaws_sameInts_l4 @laws_sameInts_l4 n)] R) Try.f38 Hlaws_sameInts (PkS.pack Slaws_sameInts (x0, x1, ())) k = (fun (k : Bool → Option R) => (bif ((x0.length : Int) != (x1.length : Int)) then k false else (laws_sameInts_l4 n x0 x1 (x0.length : Int) 0 (fun r1 => k r1) (k true)))) (fun r0 => k (PkS.pack Tlaws_sameInts (r0, ()))) := by kernel_rfl
theorem oklaws_sameInts (n : Nat) : FnOk Try.prog 38 (Klaws_sameInts @laws_sameInts n) := by
  refine fn_ok (sig := sig) mixed ttok (mkK_nat (claws_sameInts n)) (mkK_ok (claws_sameInts n)) (mkL_nat (mkK_nat (claws_sameInts n)) (l := [(4, Dlaws_sameInts_l4, Plaws_sameInts_l4 @laws_sameInts_l4 n)]) ⟨nllaws_sameInts_l4 n, trivial⟩) (fn := Try.f38) (c := bodyOf Try.f38) (by kernel_rfl) (by kernel_rfl) (by kernel_rfl) (.eq (l := [.lo (loopIn 4 (bodyOf Try.f38))]) (by kernel_rfl) ⟨(lklaws_sameInts_l4 n _ _ (at_id (i := 4) (by kernel_rfl) rfl)), trivial⟩) (shs := Hlaws_sameInts) (S := Slaws_sameInts) (h1 := by kernel_rfl) fun R p k => ?_
  unfold Klaws_sameInts
  cases h : (PkS.un Slaws_sameInts p) with
  | none => rfl
  | some d =>
    obtain ⟨x0, x1, u⟩ := (d : (List Int) × (List Int) × Unit)
    have hp := PkS.un_pack h
    subst hp
    exact (elaws_sameInts @laws_sameInts_l4 n x0 x1 k).symm
end Go.Am.G
