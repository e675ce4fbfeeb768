/- The code of the functions that the law reaches does what the plain functions say. -/
import Derived.Test.YtjijikgjefingaaF8
import Derived.Test.YtjijikgjefingaaAmC
import Derived.KernelRfl
import Derived.Test.YtjijikgjefingaaProg
set_option linter.unusedVariables false
set_option maxRecDepth 100000
namespace Go.Am.G
open Go Go.Am
open Go.Proofs
def tt : TT := [(3, ⟨1, false, (.int .i64), 0, [], [.int .i64 0], 8, true, false, []⟩), (4, ⟨1, false, .bool, 0, [], [.bool false], 1, true, false, []⟩), (5, ⟨1, false, (.int .u8), 0, [], [.int .u8 0], 1, true, false, []⟩), (22, ⟨1, false, (.sl (.int .i64)), 3, [], [.nil], 24, true, true, []⟩), (50, ⟨1, false, (.sl (.int .u8)), 5, [], [.nil], 24, true, true, []⟩), (51, ⟨1, false, (.sl (.pr (.int .i64) (.sl (.int .i64)))), 63, [], [.nil], 24, true, true, []⟩), (63, ⟨2, true, (.pr (.int .i64) (.sl (.int .i64))), 0, [(0, 1, false), (1, 1, false)], [.int .i64 0, .nil], 32, true, false, []⟩), (107, ⟨1, false, (.sl .bool), 4, [], [.nil], 24, true, true, []⟩), (112, ⟨1, false, (.int .u64), 0, [], [.int .u64 0], 8, true, false, []⟩), (114, ⟨3, true, (.pr (.sl (.int .u8)) (.pr (.int .i64) (.int .u64))), 0, [(0, 1, false), (1, 1, false), (2, 1, false)], [.nil, .int .i64 0, .int .u64 0], 40, true, false, []⟩)]
def sig : Sig := sigOf [(8, [.one (.ro (.int .u8)), .one (.ro (.int .u8))]), (35, [.one (.ro (.int .u8))]), (36, [.one (.ro (.pr (.int .i64) (.sl (.int .i64))))]), (37, [.one (.ro (.pr (.int .i64) (.sl (.int .i64))))]), (38, [.one (.ro (.int .i64)), .one (.ro (.int .i64))]), (39, [.one (.ro (.pr (.int .i64) (.sl (.int .i64)))), .one .any]), (40, [.one (.ro (.int .u8))]), (41, [.one (.ro (.pr (.int .i64) (.sl (.int .i64)))), .one .any]), (49, [.one (.ro (.pr (.int .i64) (.sl (.int .i64))))]), (72, [.one .any, .one .any, .one .any]), (80, [.one .any, .one .any, .one .any]), (93, [.one (.ro (.int .u8))]), (94, [.one (.ro (.pr (.int .i64) (.sl (.int .i64))))]), (95, [.one (.ro (.pr (.int .i64) (.sl (.int .i64))))]), (96, [.one (.ro (.pr (.int .i64) (.sl (.int .i64))))]), (97, [.one (.ro (.int .i64))]), (98, [.box [(.ro (.int .u8)), .any, .any]]), (99, [.box [(.ro (.int .u8)), .any, .any], .one .any]), (103, [.one (.ro (.int .i64)), .one .any]), (105, [.one (.ro (.int .i64)), .one .any]), (106, [.one (.ro (.int .i64)), .one .any]), (107, [.box [(.ro (.int .u8)), .any, .any], .one (.ro (.int .i64))]), (112, [.box [(.ro (.int .u8)), .any, .any], .one .any]), (119, [.one (.ro (.int .i64)), .one .any]), (120, [.one (.ro (.int .i64)), .fn 147 [[(.own .bool)]]]), (147, [.one .any, .box [(.own .bool)]]), (149, [.box [(.ro (.int .u8)), .any, .any]]), (150, [.one (.ro (.int .i64)), .one .any]), (157, [.one (.ro (.int .i64)), .fn 147 [[(.own .bool)]]])]
theorem ttok : TTok Try.prog tt := .of_chk (by kernel_rfl)
theorem mixed : Try.prog.follows .mixedOrders = true := by kernel_rfl

/-! ### (*loop.example/g00269/spec.l1Cur).next -/
theorem cspec_l1Cur_next (n : Nat) : AllOk Try.prog [] := trivial
@[reducible] def Sspec_l1Cur_next : PkS := ⟨[.one (.box (200000, 0) 0)], [((200000, 0), .box [.ro (.int .u8), .int .i64, .int .u64])]⟩
@[reducible] def Tspec_l1Cur_next : PkS := ⟨[.one (.int .i64), .one (.box (300000, 0) 0)], [((300000, 0), .box [.ro (.int .u8), .int .i64, .int .u64])]⟩
def Hspec_l1Cur_next : List Sh := [.one .any, .box [(.ro (.int .u8)), .any, .any]]
def Kspec_l1Cur_next (g : ∀ {R : Type}, Nat → (List Int) → Int → Int → (Int → (List Int) → Int → Int → Option R) → Option R) (n : Nat) : KPs := fun R p k => match (PkS.un Sspec_l1Cur_next p : Option ((List Int) × Int × Int × Unit)) with
  | some (x0, x1, x2, _) => g n x0 x1 x2 (fun r0 r1 r2 r3 => k (PkS.pack Tspec_l1Cur_next (r0, r1, r2, r3, ())))
  | none => none
theorem espec_l1Cur_next  {R : Type} (n : Nat) (x0 : List Int) (x1 : Int) (x2 : Int) (k : Pk → Option R) : evF tt sig (mkK [] R) (mkL (mkK []) [] R) Try.f149 Hspec_l1Cur_next (PkS.pack Sspec_l1Cur_next (x0, x1, x2, ())) k = (fun (k : Int → (List Int) → Int → Int → Option R) => (bif (decide (x1 < (x0.length : Int))) then (bif decide (0 ≤ x1) then (bif decide (x1 < (x0.length : Int)) then (bif (decide ((IntKind.wrap .i64 (x1 + 1)) ≤ (x0.length : Int))) then k (IntKind.wrap .i64 ((x0.getD (Int.toNat x1) 0))) x0 (IntKind.wrap .i64 (x1 + 1)) (IntKind.wrap .u64 ((IntKind.wrap .u64 ((IntKind.wrap .u64 (x2 * 6364136223846793005)) + (IntKind.wrap .u64 ((IntKind.wrap .i64 ((x0.getD (Int.toNat x1) 0))))))) + 1442695040888963407)) else k (IntKind.wrap .i64 ((IntKind.wrap .u64 (Int.ofNat (BitVec.toNat (BitVec.ofInt (IntKind.bits .u64) (Int.fdiv (IntKind.wrap .u64 ((IntKind.wrap .u64 ((IntKind.wrap .u64 (x2 * 6364136223846793005)) + (IntKind.wrap .u64 ((IntKind.wrap .i64 ((x0.getD (Int.toNat x1) 0))))))) + 1442695040888963407)) (2 ^ (min (Int.toNat 40) (IntKind.bits .u64)))) &&& BitVec.ofInt (IntKind.bits .u64) 255)))))) x0 (IntKind.wrap .i64 (x1 + 1)) (IntKind.wrap .u64 ((IntKind.wrap .u64 ((IntKind.wrap .u64 (x2 * 6364136223846793005)) + (IntKind.wrap .u64 ((IntKind.wrap .i64 ((x0.getD (Int.toNat x1) 0))))))) + 1442695040888963407))) else none) else none) else (bif (decide ((IntKind.wrap .i64 (x1 + 1)) ≤ (x0.length : Int))) then k 0 x0 (IntKind.wrap .i64 (x1 + 1)) (IntKind.wrap .u64 ((IntKind.wrap .u64 ((IntKind.wrap .u64 (x2 * 6364136223846793005)) + 0)) + 1442695040888963407)) else k (IntKind.wrap .i64 ((IntKind.wrap .u64 (Int.ofNat (BitVec.toNat (BitVec.ofInt (IntKind.bits .u64) (Int.fdiv (IntKind.wrap .u64 ((IntKind.wrap .u64 ((IntKind.wrap .u64 (x2 * 6364136223846793005)) + 0)) + 1442695040888963407)) (2 ^ (min (Int.toNat 40) (IntKind.bits .u64)))) &&& BitVec.ofInt (IntKind.bits .u64) 255)))))) x0 (IntKind.wrap .i64 (x1 + 1)) (IntKind.wrap .u64 ((IntKind.wrap .u64 ((IntKind.wrap .u64 (x2 * 6364136223846793005)) + 0)) + 1442695040888963407))))) (fun r0 r1 r2 r3 => k (PkS.pack Tspec_l1Cur_next (r0, r1, r2, r3, ()))) := by kernel_rfl
theorem okspec_l1Cur_next (n : Nat) : FnOk Try.prog 149 (Kspec_l1Cur_next @spec_l1Cur_next n) := by
  refine fn_ok (sig := sig) mixed ttok (mkK_nat (cspec_l1Cur_next n)) (mkK_ok (cspec_l1Cur_next n)) (mkL_nat (mkK_nat (cspec_l1Cur_next n)) (l := []) trivial) (fn := Try.f149) (c := bodyOf Try.f149) (by kernel_rfl) (by kernel_rfl) (by kernel_rfl) (.eq (l := []) (by kernel_rfl) trivial) (shs := Hspec_l1Cur_next) (S := Sspec_l1Cur_next) (h1 := by kernel_rfl) fun R p k => ?_
  unfold Kspec_l1Cur_next
  cases h : (PkS.un Sspec_l1Cur_next p) with
  | none => rfl
  | some d =>
    obtain ⟨x0, x1, x2, u⟩ := (d : (List Int) × Int × Int × Unit)
    have hp := PkS.un_pack h
    subst hp
    exact (espec_l1Cur_next  n x0 x1 x2 k).symm

/-! ### (*loop.example/g00269/spec.l1Cur).pick -/
theorem cspec_l1Cur_pick (n : Nat) : AllOk Try.prog [(149, Kspec_l1Cur_next @spec_l1Cur_next n)] := ⟨okspec_l1Cur_next n, trivial⟩
@[reducible] def Sspec_l1Cur_pick : PkS := ⟨[.one (.box (200000, 0) 0), .one (.int .i64)], [((200000, 0), .box [.ro (.int .u8), .int .i64, .int .u64])]⟩
@[reducible] def Tspec_l1Cur_pick : PkS := ⟨[.one (.int .i64), .one (.box (300000, 0) 0), .one (.dead)], [((300000, 0), .box [.ro (.int .u8), .int .i64, .int .u64])]⟩
def Hspec_l1Cur_pick : List Sh := [.one .any, .box [(.ro (.int .u8)), .any, .any], .skip]
def Kspec_l1Cur_pick (g : ∀ {R : Type}, Nat → Int → (List Int) → Int → Int → (Int → (List Int) → Int → Int → Option R) → Option R) (n : Nat) : KPs := fun R p k => match (PkS.un Sspec_l1Cur_pick p : Option (Int × (List Int) × Int × Int × Unit)) with
  | some (x0, x1, x2, x3, _) => g n x0 x1 x2 x3 (fun r0 r1 r2 r3 => k (PkS.pack Tspec_l1Cur_pick (r0, r1, r2, r3, ())))
  | none => none
theorem espec_l1Cur_pick (spec_l1Cur_next : ∀ {R : Type}, Nat → (List Int) → Int → Int → (Int → (List Int) → Int → Int → Option R) → Option R) {R : Type} (n : Nat) (x0 : Int) (x1 : List Int) (x2 : Int) (x3 : Int) (k : Pk → Option R) : evF tt sig (mkK [(149, Kspec_l1Cur_next @spec_l1Cur_next n)] R) (mkL (mkK [(149, Kspec_l1Cur_next @spec_l1Cur_next n)]) [] R) Try.f99 Hspec_l1Cur_pick (PkS.pack Sspec_l1Cur_pick (x0, x1, x2, x3, ())) k = (fun (k : Int → (List Int) → Int → Int → Option R) => (bif (decide (x0 ≤ 1)) then k 0 x1 x2 x3 else (spec_l1Cur_next n x1 x2 x3 fun r1 r2 r3 r4 => (bif (decide (x0 > 200)) then (spec_l1Cur_next n r2 r3 r4 fun r5 r6 r7 r8 => (bif decide (x0 ≠ 0) then k (Int.tmod (IntKind.wrap .i64 ((IntKind.wrap .i64 (r1 * 256)) + r5)) x0) r6 r7 r8 else none)) else (bif decide (x0 ≠ 0) then k (Int.tmod r1 x0) r2 r3 r4 else none))))) (fun r0 r1 r2 r3 => k (PkS.pack Tspec_l1Cur_pick (r0, r1, r2, r3, ()))) := by kernel_rfl
theorem okspec_l1Cur_pick (n : Nat) : FnOk Try.prog 99 (Kspec_l1Cur_pick @spec_l1Cur_pick n) := by
  refine fn_ok (sig := sig) mixed ttok (mkK_nat (cspec_l1Cur_pick n)) (mkK_ok (cspec_l1Cur_pick n)) (mkL_nat (mkK_nat (cspec_l1Cur_pick n)) (l := []) trivial) (fn := Try.f99) (c := bodyOf Try.f99) (by kernel_rfl) (by kernel_rfl) (by kernel_rfl) (.eq (l := []) (by kernel_rfl) trivial) (shs := Hspec_l1Cur_pick) (S := Sspec_l1Cur_pick) (h1 := by kernel_rfl) fun R p k => ?_
  unfold Kspec_l1Cur_pick
  cases h : (PkS.un Sspec_l1Cur_pick p) with
  | none => rfl
  | some d =>
    obtain ⟨x0, x1, x2, x3, u⟩ := (d : Int × (List Int) × Int × Int × Unit)
    have hp := PkS.un_pack h
    subst hp
    exact (espec_l1Cur_pick @spec_l1Cur_next n x0 x1 x2 x3 k).symm

/-! ### (*loop.example/g00269/spec.l1Cur).one -/
theorem cspec_l1Cur_one (n : Nat) : AllOk Try.prog [(99, Kspec_l1Cur_pick @spec_l1Cur_pick n)] := ⟨okspec_l1Cur_pick n, trivial⟩
@[reducible] def Sspec_l1Cur_one : PkS := ⟨[.one (.box (200000, 0) 0), .one (.int .i64)], [((200000, 0), .box [.ro (.int .u8), .int .i64, .int .u64])]⟩
@[reducible] def Tspec_l1Cur_one : PkS := ⟨[.one (.bool), .one (.box (300000, 0) 0), .one (.dead)], [((300000, 0), .box [.ro (.int .u8), .int .i64, .int .u64])]⟩
def Hspec_l1Cur_one : List Sh := [.one .any, .box [(.ro (.int .u8)), .any, .any], .skip]
def Kspec_l1Cur_one (g : ∀ {R : Type}, Nat → Int → (List Int) → Int → Int → (Bool → (List Int) → Int → Int → Option R) → Option R) (n : Nat) : KPs := fun R p k => match (PkS.un Sspec_l1Cur_one p : Option (Int × (List Int) × Int × Int × Unit)) with
  | some (x0, x1, x2, x3, _) => g n x0 x1 x2 x3 (fun r0 r1 r2 r3 => k (PkS.pack Tspec_l1Cur_one (r0, r1, r2, r3, ())))
  | none => none
theorem espec_l1Cur_one (spec_l1Cur_pick : ∀ {R : Type}, Nat → Int → (List Int) → Int → Int → (Int → (List Int) → Int → Int → Option R) → Option R) {R : Type} (n : Nat) (x0 : Int) (x1 : List Int) (x2 : Int) (x3 : Int) (k : Pk → Option R) : evF tt sig (mkK [(99, Kspec_l1Cur_pick @spec_l1Cur_pick n)] R) (mkL (mkK [(99, Kspec_l1Cur_pick @spec_l1Cur_pick n)]) [] R) Try.f112 Hspec_l1Cur_one (PkS.pack Sspec_l1Cur_one (x0, x1, x2, x3, ())) k = (fun (k : Bool → (List Int) → Int → Int → Option R) => (spec_l1Cur_pick n x0 x1 x2 x3 fun r1 r2 r3 r4 => k (r1 == 0) r2 r3 r4)) (fun r0 r1 r2 r3 => k (PkS.pack Tspec_l1Cur_one (r0, r1, r2, r3, ()))) := by kernel_rfl
theorem okspec_l1Cur_one (n : Nat) : FnOk Try.prog 112 (Kspec_l1Cur_one @spec_l1Cur_one n) := by
  refine fn_ok (sig := sig) mixed ttok (mkK_nat (cspec_l1Cur_one n)) (mkK_ok (cspec_l1Cur_one n)) (mkL_nat (mkK_nat (cspec_l1Cur_one n)) (l := []) trivial) (fn := Try.f112) (c := bodyOf Try.f112) (by kernel_rfl) (by kernel_rfl) (by kernel_rfl) (.eq (l := []) (by kernel_rfl) trivial) (shs := Hspec_l1Cur_one) (S := Sspec_l1Cur_one) (h1 := by kernel_rfl) fun R p k => ?_
  unfold Kspec_l1Cur_one
  cases h : (PkS.un Sspec_l1Cur_one p) with
  | none => rfl
  | some d =>
    obtain ⟨x0, x1, x2, x3, u⟩ := (d : Int × (List Int) × Int × Int × Unit)
    have hp := PkS.un_pack h
    subst hp
    exact (espec_l1Cur_one @spec_l1Cur_pick n x0 x1 x2 x3 k).symm

/-! ### (*loop.example/g00269/spec.l1Cur).among -/
theorem cspec_l1Cur_among (n : Nat) : AllOk Try.prog [(99, Kspec_l1Cur_pick @spec_l1Cur_pick n)] := ⟨okspec_l1Cur_pick n, trivial⟩
@[reducible] def Sspec_l1Cur_among : PkS := ⟨[.one (.box (200000, 0) 0), .one (.ro (.int .i64))], [((200000, 0), .box [.ro (.int .u8), .int .i64, .int .u64])]⟩
@[reducible] def Tspec_l1Cur_among : PkS := ⟨[.one (.int .i64), .one (.box (300000, 0) 0), .one (.dead)], [((300000, 0), .box [.ro (.int .u8), .int .i64, .int .u64])]⟩
def Hspec_l1Cur_among : List Sh := [.one .any, .box [(.ro (.int .u8)), .any, .any], .skip]
def Kspec_l1Cur_among (g : ∀ {R : Type}, Nat → (List Int) → (List Int) → Int → Int → (Int → (List Int) → Int → Int → Option R) → Option R) (n : Nat) : KPs := fun R p k => match (PkS.un Sspec_l1Cur_among p : Option ((List Int) × (List Int) × Int × Int × Unit)) with
  | some (x0, x1, x2, x3, _) => g n x0 x1 x2 x3 (fun r0 r1 r2 r3 => k (PkS.pack Tspec_l1Cur_among (r0, r1, r2, r3, ())))
  | none => none
theorem espec_l1Cur_among (spec_l1Cur_pick : ∀ {R : Type}, Nat → Int → (List Int) → Int → Int → (Int → (List Int) → Int → Int → Option R) → Option R) {R : Type} (n : Nat) (x0 : List Int) (x1 : List Int) (x2 : Int) (x3 : Int) (k : Pk → Option R) : evF tt sig (mkK [(99, Kspec_l1Cur_pick @spec_l1Cur_pick n)] R) (mkL (mkK [(99, Kspec_l1Cur_pick @spec_l1Cur_pick n)]) [] R) Try.f107 Hspec_l1Cur_among (PkS.pack Sspec_l1Cur_among (x0, x1, x2, x3, ())) k = (fun (k : Int → (List Int) → Int → Int → Option R) => (spec_l1Cur_pick n (x0.length : Int) x1 x2 x3 fun r1 r2 r3 r4 => (bif decide (0 ≤ r1) then (bif decide (r1 < (x0.length : Int)) then k (x0.getD (Int.toNat r1) 0) r2 r3 r4 else none) else none))) (fun r0 r1 r2 r3 => k (PkS.pack Tspec_l1Cur_among (r0, r1, r2, r3, ()))) := by kernel_rfl
theorem okspec_l1Cur_among (n : Nat) : FnOk Try.prog 107 (Kspec_l1Cur_among @spec_l1Cur_among n) := by
  refine fn_ok (sig := sig) mixed ttok (mkK_nat (cspec_l1Cur_among n)) (mkK_ok (cspec_l1Cur_among n)) (mkL_nat (mkK_nat (cspec_l1Cur_among n)) (l := []) trivial) (fn := Try.f107) (c := bodyOf Try.f107) (by kernel_rfl) (by kernel_rfl) (by kernel_rfl) (.eq (l := []) (by kernel_rfl) trivial) (shs := Hspec_l1Cur_among) (S := Sspec_l1Cur_among) (h1 := by kernel_rfl) fun R p k => ?_
  unfold Kspec_l1Cur_among
  cases h : (PkS.un Sspec_l1Cur_among p) with
  | none => rfl
  | some d =>
    obtain ⟨x0, x1, x2, x3, u⟩ := (d : (List Int) × (List Int) × Int × Int × Unit)
    have hp := PkS.un_pack h
    subst hp
    exact (espec_l1Cur_among @spec_l1Cur_pick n x0 x1 x2 x3 k).symm

/-! ### (*loop.example/g00269/spec.l1Cur).plan -/
theorem cspec_l1Cur_plan (n : Nat) : AllOk Try.prog [(99, Kspec_l1Cur_pick @spec_l1Cur_pick n), (112, Kspec_l1Cur_one @spec_l1Cur_one n), (107, Kspec_l1Cur_among @spec_l1Cur_among n)] := ⟨okspec_l1Cur_pick n, ⟨okspec_l1Cur_one n, ⟨okspec_l1Cur_among n, trivial⟩⟩⟩
@[reducible] def Sspec_l1Cur_plan_l10 : PkS := ⟨[.one (.box (100000, 0) 0), .one (.whole (100000, 1)), .one (.int .i64), .one (.int .i64), .one (.box (100000, 3) 0), .one (.int .i64), .one (.box (100000, 0) 0)], [((100000, 0), .box [.ro (.int .u8), .int .i64, .int .u64]), ((100000, 1), .arr (.pr (.int .i64) (.sl (.int .i64)))), ((100000, 2), .arr (.int .i64)), ((100000, 3), .box [.int .i64, .whole (100000, 2)])]⟩
@[reducible] def Tspec_l1Cur_plan_l10_0 : PkS := ⟨[.one (.box (100000, 0) 0), .one (.whole (100000, 1)), .one (.int .i64), .one (.int .i64), .one (.box (100000, 3) 0), .one (.box (100000, 0) 0)], [((100000, 0), .box [.ro (.int .u8), .int .i64, .int .u64]), ((100000, 1), .arr (.pr (.int .i64) (.sl (.int .i64)))), ((100000, 2), .arr (.int .i64)), ((100000, 3), .box [.int .i64, .whole (100000, 2)])]⟩
def Dspec_l1Cur_plan_l10 : LoopD := ⟨75, [0, 3, 4, 5, 6, 7], [.box [(.ro (.int .u8)), .any, .any], .one (.own (.pr (.int .i64) (.sl (.int .i64)))), .one .any, .one .any, .box [.any, (.own (.int .i64))], .one .any, .box [(.ro (.int .u8)), .any, .any]], fun x => match x with
  | .exit 2 => some ([0, 3, 4, 5, 6], [.box [(.ro (.int .u8)), .any, .any], .one (.own (.pr (.int .i64) (.sl (.int .i64)))), .one .any, .one .any, .box [.any, (.own (.int .i64))], .box [(.ro (.int .u8)), .any, .any]])
  | _ => none⟩
def Pspec_l1Cur_plan_l10 (g : ∀ {R : Type}, Nat → Int → Int → Int → (List Int) → Int → Int → (List (Int × List Int)) → (List Int) → Int → (Int → Int → (List Int) → Int → Int → (List (Int × List Int)) → (List Int) → Int → Option R) → Option R) (n : Nat) : LPs := fun R q kk => match (PkS.un Sspec_l1Cur_plan_l10 q : Option (Int × Int × Int × (List Int) × Int × Int × (List (Int × List Int)) × (List Int) × Int × Unit)) with
  | some (y10_0, y10_1, y10_2, y10_3, y10_4, y10_5, y10_6, y10_7, y10_8, _) => g n y10_0 y10_1 y10_2 y10_3 y10_4 y10_5 y10_6 y10_7 y10_8 (fun r0 r1 r2 r3 r4 r5 r6 r7 => kk (.exit 2) (PkS.pack Tspec_l1Cur_plan_l10_0 (r0, r1, r2, r3, r4, r5, r6, r7, ())))
  | none => none
theorem espec_l1Cur_plan_l10 (spec_l1Cur_pick : ∀ {R : Type}, Nat → Int → (List Int) → Int → Int → (Int → (List Int) → Int → Int → Option R) → Option R) (spec_l1Cur_one : ∀ {R : Type}, Nat → Int → (List Int) → Int → Int → (Bool → (List Int) → Int → Int → Option R) → Option R) (spec_l1Cur_among : ∀ {R : Type}, Nat → (List Int) → (List Int) → Int → Int → (Int → (List Int) → Int → Int → Option R) → Option R) (spec_l1Cur_plan_l10 : ∀ {R : Type}, Nat → Int → Int → Int → (List Int) → Int → Int → (List (Int × List Int)) → (List Int) → Int → (Int → Int → (List Int) → Int → Int → (List (Int × List Int)) → (List Int) → Int → Option R) → Option R) {R : Type} (n : Nat) (y10_0 : Int) (y10_1 : Int) (y10_2 : Int) (y10_3 : List Int) (y10_4 : Int) (y10_5 : Int) (y10_6 : List (Int × List Int)) (y10_7 : List Int) (y10_8 : Int) (kk : Ex → Pk → Option R) : Dspec_l1Cur_plan_l10.step tt sig (mkK [(99, Kspec_l1Cur_pick @spec_l1Cur_pick n), (112, Kspec_l1Cur_one @spec_l1Cur_one n), (107, Kspec_l1Cur_among @spec_l1Cur_among n)] R) (mkL (mkK [(99, Kspec_l1Cur_pick @spec_l1Cur_pick n), (112, Kspec_l1Cur_one @spec_l1Cur_one n), (107, Kspec_l1Cur_among @spec_l1Cur_among n)]) [] R) (loopIn 10 (bodyOf Try.f98)) (fun q' => Pspec_l1Cur_plan_l10 @spec_l1Cur_plan_l10 n R q' kk) (PkS.pack Sspec_l1Cur_plan_l10 (y10_0, y10_1, y10_2, y10_3, y10_4, y10_5, y10_6, y10_7, y10_8, ())) kk = (fun (kexit2 : Int → Int → (List Int) → Int → Int → (List (Int × List Int)) → (List Int) → Int → Option R) => (bif (decide (y10_2 < y10_1)) then (spec_l1Cur_one n 3 y10_3 y10_4 y10_5 fun r17 r18 r19 r20 => (bif r17 then (bif (decide ((y10_7.length : Int) < 4)) then (bif decide (y10_7.length + [y10_2].length ≤ LIM) then spec_l1Cur_plan_l10 n y10_0 y10_1 (IntKind.wrap .i64 (y10_2 + 1)) r18 r19 r20 y10_6 (y10_7 ++ [y10_2]) y10_8 kexit2 else none) else spec_l1Cur_plan_l10 n y10_0 y10_1 (IntKind.wrap .i64 (y10_2 + 1)) r18 r19 r20 y10_6 y10_7 y10_8 kexit2) else spec_l1Cur_plan_l10 n y10_0 y10_1 (IntKind.wrap .i64 (y10_2 + 1)) r18 r19 r20 y10_6 y10_7 y10_8 kexit2)) else kexit2 y10_0 y10_1 y10_3 y10_4 y10_5 y10_6 y10_7 y10_8)) (fun r0 r1 r2 r3 r4 r5 r6 r7 => kk (.exit 2) (PkS.pack Tspec_l1Cur_plan_l10_0 (r0, r1, r2, r3, r4, r5, r6, r7, ()))) := by kernel_rfl
theorem lespec_l1Cur_plan_l10 : LoopEq tt sig (fun n => mkK [(99, Kspec_l1Cur_pick @spec_l1Cur_pick n), (112, Kspec_l1Cur_one @spec_l1Cur_one n), (107, Kspec_l1Cur_among @spec_l1Cur_among n)]) (fun n => mkL (mkK [(99, Kspec_l1Cur_pick @spec_l1Cur_pick n), (112, Kspec_l1Cur_one @spec_l1Cur_one n), (107, Kspec_l1Cur_among @spec_l1Cur_among n)]) []) Dspec_l1Cur_plan_l10 Sspec_l1Cur_plan_l10 (loopIn 10 (bodyOf Try.f98)) (Pspec_l1Cur_plan_l10 @spec_l1Cur_plan_l10) where
  zero R q kk := by unfold Pspec_l1Cur_plan_l10; cases (PkS.un Sspec_l1Cur_plan_l10 q) <;> rfl
  succ n R q kk := by
    unfold Pspec_l1Cur_plan_l10
    cases h : (PkS.un Sspec_l1Cur_plan_l10 q) with
    | none => rfl
    | some d =>
      obtain ⟨y10_0, y10_1, y10_2, y10_3, y10_4, y10_5, y10_6, y10_7, y10_8, u⟩ := (d : Int × Int × Int × (List Int) × Int × Int × (List (Int × List Int)) × (List Int) × Int × Unit)
      have hp := PkS.un_pack h
      subst hp
      exact (espec_l1Cur_plan_l10 @spec_l1Cur_pick @spec_l1Cur_one @spec_l1Cur_among @spec_l1Cur_plan_l10 n y10_0 y10_1 y10_2 y10_3 y10_4 y10_5 y10_6 y10_7 y10_8 kk).symm
theorem nlspec_l1Cur_plan_l10 : ∀ n, NatLP (Pspec_l1Cur_plan_l10 @spec_l1Cur_plan_l10 n) := lespec_l1Cur_plan_l10.nat (fun n => mkK_nat (cspec_l1Cur_plan n)) fun n => mkL_nat (mkK_nat (cspec_l1Cur_plan n)) (l := []) trivial
theorem inspec_l1Cur_plan_l10 (n : Nat) (R : Type) : LoopsOk Try.prog (mkL (mkK [(99, Kspec_l1Cur_pick @spec_l1Cur_pick n), (112, Kspec_l1Cur_one @spec_l1Cur_one n), (107, Kspec_l1Cur_among @spec_l1Cur_among n)]) [] R) (loopIn 10 (bodyOf Try.f98)) := .eq (l := []) (by kernel_rfl) trivial
theorem lkspec_l1Cur_plan_l10 (n : Nat) (R : Type) (L0 : LK R) (h0 : ∀ id, firstRegion (loopIn 10 (bodyOf Try.f98)) = some id → L0 id = Dspec_l1Cur_plan_l10.oracle (mkK [(99, Kspec_l1Cur_pick @spec_l1Cur_pick n), (112, Kspec_l1Cur_one @spec_l1Cur_one n), (107, Kspec_l1Cur_among @spec_l1Cur_among n)] R) (Pspec_l1Cur_plan_l10 @spec_l1Cur_plan_l10 n R)) : LoopOk Try.prog L0 (loopIn 10 (bodyOf Try.f98)) :=
  lespec_l1Cur_plan_l10.ok mixed ttok (fun n => mkK_nat (cspec_l1Cur_plan n)) (fun n => mkK_ok (cspec_l1Cur_plan n)) (fun n => inspec_l1Cur_plan_l10 n R) (mkK_nat (cspec_l1Cur_plan n)) h0
@[reducible] def Sspec_l1Cur_plan_l6 : PkS := ⟨[.one (.box (100000, 0) 0), .one (.whole (100000, 1)), .one (.int .i64), .one (.int .i64), .one (.box (100000, 0) 0)], [((100000, 0), .box [.ro (.int .u8), .int .i64, .int .u64]), ((100000, 1), .arr (.pr (.int .i64) (.sl (.int .i64))))]⟩
@[reducible] def Tspec_l1Cur_plan_l6_0 : PkS := ⟨[.one (.box (100000, 0) 0), .one (.whole (100000, 1)), .one (.box (100000, 0) 0)], [((100000, 0), .box [.ro (.int .u8), .int .i64, .int .u64]), ((100000, 1), .arr (.pr (.int .i64) (.sl (.int .i64))))]⟩
def Dspec_l1Cur_plan_l6 : LoopD := ⟨75, [0, 3, 4, 5], [.box [(.ro (.int .u8)), .any, .any], .one (.own (.pr (.int .i64) (.sl (.int .i64)))), .one .any, .one .any, .box [(.ro (.int .u8)), .any, .any]], fun x => match x with
  | .exit 0 => some ([0, 3], [.box [(.ro (.int .u8)), .any, .any], .one (.own (.pr (.int .i64) (.sl (.int .i64)))), .box [(.ro (.int .u8)), .any, .any]])
  | _ => none⟩
def Pspec_l1Cur_plan_l6 (g : ∀ {R : Type}, Nat → Int → Int → (List Int) → Int → Int → (List (Int × List Int)) → ((List Int) → Int → Int → (List (Int × List Int)) → Option R) → Option R) (n : Nat) : LPs := fun R q kk => match (PkS.un Sspec_l1Cur_plan_l6 q : Option (Int × Int × (List Int) × Int × Int × (List (Int × List Int)) × Unit)) with
  | some (y6_0, y6_1, y6_2, y6_3, y6_4, y6_5, _) => g n y6_0 y6_1 y6_2 y6_3 y6_4 y6_5 (fun r0 r1 r2 r3 => kk (.exit 0) (PkS.pack Tspec_l1Cur_plan_l6_0 (r0, r1, r2, r3, ())))
  | none => none
theorem espec_l1Cur_plan_l6 (spec_l1Cur_pick : ∀ {R : Type}, Nat → Int → (List Int) → Int → Int → (Int → (List Int) → Int → Int → Option R) → Option R) (spec_l1Cur_one : ∀ {R : Type}, Nat → Int → (List Int) → Int → Int → (Bool → (List Int) → Int → Int → Option R) → Option R) (spec_l1Cur_among : ∀ {R : Type}, Nat → (List Int) → (List Int) → Int → Int → (Int → (List Int) → Int → Int → Option R) → Option R) (spec_l1Cur_plan_l10 : ∀ {R : Type}, Nat → Int → Int → Int → (List Int) → Int → Int → (List (Int × List Int)) → (List Int) → Int → (Int → Int → (List Int) → Int → Int → (List (Int × List Int)) → (List Int) → Int → Option R) → Option R) (spec_l1Cur_plan_l6 : ∀ {R : Type}, Nat → Int → Int → (List Int) → Int → Int → (List (Int × List Int)) → ((List Int) → Int → Int → (List (Int × List Int)) → Option R) → Option R) {R : Type} (n : Nat) (y6_0 : Int) (y6_1 : Int) (y6_2 : List Int) (y6_3 : Int) (y6_4 : Int) (y6_5 : List (Int × List Int)) (kk : Ex → Pk → Option R) : Dspec_l1Cur_plan_l6.step tt sig (mkK [(99, Kspec_l1Cur_pick @spec_l1Cur_pick n), (112, Kspec_l1Cur_one @spec_l1Cur_one n), (107, Kspec_l1Cur_among @spec_l1Cur_among n)] R) (mkL (mkK [(99, Kspec_l1Cur_pick @spec_l1Cur_pick n), (112, Kspec_l1Cur_one @spec_l1Cur_one n), (107, Kspec_l1Cur_among @spec_l1Cur_among n)]) [(10, Dspec_l1Cur_plan_l10, Pspec_l1Cur_plan_l10 @spec_l1Cur_plan_l10 n)] R) (loopIn 6 (bodyOf Try.f98)) (fun q' => Pspec_l1Cur_plan_l6 @spec_l1Cur_plan_l6 n R q' kk) (PkS.pack Sspec_l1Cur_plan_l6 (y6_0, y6_1, y6_2, y6_3, y6_4, y6_5, ())) kk = (fun (kexit0 : (List Int) → Int → Int → (List (Int × List Int)) → Option R) => (bif (decide (y6_1 < y6_0)) then (spec_l1Cur_pick n 9 y6_2 y6_3 y6_4 fun r13 r14 r15 r16 => (spec_l1Cur_plan_l10 n y6_0 y6_1 0 r14 r15 r16 y6_5 ([] : List Int) (IntKind.wrap .i64 (1 + r13)) (fun r21 r22 r23 r24 r25 r26 r27 r28 => (bif decide (r26.length + ([(r28, r27)]).length ≤ LIM) then spec_l1Cur_plan_l6 n r21 (IntKind.wrap .i64 (r22 + 1)) r23 r24 r25 (r26 ++ [(r28, r27)]) kexit0 else none)))) else kexit0 y6_2 y6_3 y6_4 y6_5)) (fun r0 r1 r2 r3 => kk (.exit 0) (PkS.pack Tspec_l1Cur_plan_l6_0 (r0, r1, r2, r3, ()))) := by kernel_rfl
theorem lespec_l1Cur_plan_l6 : LoopEq tt sig (fun n => mkK [(99, Kspec_l1Cur_pick @spec_l1Cur_pick n), (112, Kspec_l1Cur_one @spec_l1Cur_one n), (107, Kspec_l1Cur_among @spec_l1Cur_among n)]) (fun n => mkL (mkK [(99, Kspec_l1Cur_pick @spec_l1Cur_pick n), (112, Kspec_l1Cur_one @spec_l1Cur_one n), (107, Kspec_l1Cur_among @spec_l1Cur_among n)]) [(10, Dspec_l1Cur_plan_l10, Pspec_l1Cur_plan_l10 @spec_l1Cur_plan_l10 n)]) Dspec_l1Cur_plan_l6 Sspec_l1Cur_plan_l6 (loopIn 6 (bodyOf Try.f98)) (Pspec_l1Cur_plan_l6 @spec_l1Cur_plan_l6) where
  zero R q kk := by unfold Pspec_l1Cur_plan_l6; cases (PkS.un Sspec_l1Cur_plan_l6 q) <;> rfl
  succ n R q kk := by
    unfold Pspec_l1Cur_plan_l6
    cases h : (PkS.un Sspec_l1Cur_plan_l6 q) with
    | none => rfl
    | some d =>
      obtain ⟨y6_0, y6_1, y6_2, y6_3, y6_4, y6_5, u⟩ := (d : Int × Int × (List Int) × Int × Int × (List (Int × List Int)) × Unit)
      have hp := PkS.un_pack h
      subst hp
      exact (espec_l1Cur_plan_l6 @spec_l1Cur_pick @spec_l1Cur_one @spec_l1Cur_among @spec_l1Cur_plan_l10 @spec_l1Cur_plan_l6 n y6_0 y6_1 y6_2 y6_3 y6_4 y6_5 kk).symm
theorem nlspec_l1Cur_plan_l6 : ∀ n, NatLP (Pspec_l1Cur_plan_l6 @spec_l1Cur_plan_l6 n) := lespec_l1Cur_plan_l6.nat (fun n => mkK_nat (cspec_l1Cur_plan n)) fun n => mkL_nat (mkK_nat (cspec_l1Cur_plan n)) (l := [(10, Dspec_l1Cur_plan_l10, Pspec_l1Cur_plan_l10 @spec_l1Cur_plan_l10 n)]) ⟨nlspec_l1Cur_plan_l10 n, trivial⟩
theorem inspec_l1Cur_plan_l6 (n : Nat) (R : Type) : LoopsOk Try.prog (mkL (mkK [(99, Kspec_l1Cur_pick @spec_l1Cur_pick n), (112, Kspec_l1Cur_one @spec_l1Cur_one n), (107, Kspec_l1Cur_among @spec_l1Cur_among n)]) [(10, Dspec_l1Cur_plan_l10, Pspec_l1Cur_plan_l10 @spec_l1Cur_plan_l10 n)] R) (loopIn 6 (bodyOf Try.f98)) := .eq (l := [.lo (loopIn 10 (bodyOf Try.f98))]) (by kernel_rfl) ⟨(lkspec_l1Cur_plan_l10 n R _ (at_id (i := 10) (by kernel_rfl) rfl)), trivial⟩
theorem lkspec_l1Cur_plan_l6 (n : Nat) (R : Type) (L0 : LK R) (h0 : ∀ id, firstRegion (loopIn 6 (bodyOf Try.f98)) = some id → L0 id = Dspec_l1Cur_plan_l6.oracle (mkK [(99, Kspec_l1Cur_pick @spec_l1Cur_pick n), (112, Kspec_l1Cur_one @spec_l1Cur_one n), (107, Kspec_l1Cur_among @spec_l1Cur_among n)] R) (Pspec_l1Cur_plan_l6 @spec_l1Cur_plan_l6 n R)) : LoopOk Try.prog L0 (loopIn 6 (bodyOf Try.f98)) :=
  lespec_l1Cur_plan_l6.ok mixed ttok (fun n => mkK_nat (cspec_l1Cur_plan n)) (fun n => mkK_ok (cspec_l1Cur_plan n)) (fun n => inspec_l1Cur_plan_l6 n R) (mkK_nat (cspec_l1Cur_plan n)) h0
@[reducible] def Sspec_l1Cur_plan : PkS := ⟨[.one (.box (200000, 0) 0)], [((200000, 0), .box [.ro (.int .u8), .int .i64, .int .u64])]⟩
@[reducible] def Tspec_l1Cur_plan : PkS := ⟨[.one (.whole (300000, 0)), .one (.box (300000, 1) 0)], [((300000, 0), .arr (.pr (.int .i64) (.sl (.int .i64)))), ((300000, 1), .box [.ro (.int .u8), .int .i64, .int .u64])]⟩
def Hspec_l1Cur_plan : List Sh := [.one (.own (.pr (.int .i64) (.sl (.int .i64)))), .box [(.ro (.int .u8)), .any, .any]]
def Kspec_l1Cur_plan (g : ∀ {R : Type}, Nat → (List Int) → Int → Int → ((List (Int × List Int)) → (List Int) → Int → Int → Option R) → Option R) (n : Nat) : KPs := fun R p k => match (PkS.un Sspec_l1Cur_plan p : Option ((List Int) × Int × Int × Unit)) with
  | some (x0, x1, x2, _) => g n x0 x1 x2 (fun r0 r1 r2 r3 => k (PkS.pack Tspec_l1Cur_plan (r0, r1, r2, r3, ())))
  | none => none
theorem espec_l1Cur_plan (spec_l1Cur_pick : ∀ {R : Type}, Nat → Int → (List Int) → Int → Int → (Int → (List Int) → Int → Int → Option R) → Option R) (spec_l1Cur_one : ∀ {R : Type}, Nat → Int → (List Int) → Int → Int → (Bool → (List Int) → Int → Int → Option R) → Option R) (spec_l1Cur_among : ∀ {R : Type}, Nat → (List Int) → (List Int) → Int → Int → (Int → (List Int) → Int → Int → Option R) → Option R) (spec_l1Cur_plan_l10 : ∀ {R : Type}, Nat → Int → Int → Int → (List Int) → Int → Int → (List (Int × List Int)) → (List Int) → Int → (Int → Int → (List Int) → Int → Int → (List (Int × List Int)) → (List Int) → Int → Option R) → Option R) (spec_l1Cur_plan_l6 : ∀ {R : Type}, Nat → Int → Int → (List Int) → Int → Int → (List (Int × List Int)) → ((List Int) → Int → Int → (List (Int × List Int)) → Option R) → Option R) {R : Type} (n : Nat) (x0 : List Int) (x1 : Int) (x2 : Int) (k : Pk → Option R) : evF tt sig (mkK [(99, Kspec_l1Cur_pick @spec_l1Cur_pick n), (112, Kspec_l1Cur_one @spec_l1Cur_one n), (107, Kspec_l1Cur_among @spec_l1Cur_among n)] R) (mkL (mkK [(99, Kspec_l1Cur_pick @spec_l1Cur_pick n), (112, Kspec_l1Cur_one @spec_l1Cur_one n), (107, Kspec_l1Cur_among @spec_l1Cur_among n)]) [(10, Dspec_l1Cur_plan_l10, Pspec_l1Cur_plan_l10 @spec_l1Cur_plan_l10 n), (6, Dspec_l1Cur_plan_l6, Pspec_l1Cur_plan_l6 @spec_l1Cur_plan_l6 n)] R) Try.f98 Hspec_l1Cur_plan (PkS.pack Sspec_l1Cur_plan (x0, x1, x2, ())) k = (fun (k : (List (Int × List Int)) → (List Int) → Int → Int → Option R) => (spec_l1Cur_pick n 9 x0 x1 x2 fun r1 r2 r3 r4 => (spec_l1Cur_one n 20 r2 r3 r4 fun r5 r6 r7 r8 => (bif r5 then (spec_l1Cur_pick n 2 r6 r7 r8 fun r9 r10 r11 r12 => (spec_l1Cur_plan_l6 n (IntKind.wrap .i64 (30 + r9)) 0 r10 r11 r12 ([] : List (Int × List Int)) (fun r29 r30 r31 r32 => (bif (decide ((r32.length : Int) > 1)) then (spec_l1Cur_one n 12 r29 r30 r31 fun r33 r34 r35 r36 => (bif r33 then (bif decide (0 < (r32.length : Int)) then (bif (decide (((r32.set 0 ((r32.getD 0 (0, [])).1, [(IntKind.wrap .i64 ((r32.length : Int) - 1))])).length : Int) > 0)) then (spec_l1Cur_one n 40 r34 r35 r36 fun r37 r38 r39 r40 => (bif r37 then (spec_l1Cur_among n ([0, 100, 101]) r38 r39 r40 fun r41 r42 r43 r44 => (bif decide (0 < ((r32.set 0 ((r32.getD 0 (0, [])).1, [(IntKind.wrap .i64 ((r32.length : Int) - 1))])).length : Int)) then k ((r32.set 0 ((r32.getD 0 (0, [])).1, [(IntKind.wrap .i64 ((r32.length : Int) - 1))])).set 0 (r41, ((r32.set 0 ((r32.getD 0 (0, [])).1, [(IntKind.wrap .i64 ((r32.length : Int) - 1))])).getD 0 (0, [])).2)) r42 r43 r44 else none)) else k (r32.set 0 ((r32.getD 0 (0, [])).1, [(IntKind.wrap .i64 ((r32.length : Int) - 1))])) r38 r39 r40)) else k (r32.set 0 ((r32.getD 0 (0, [])).1, [(IntKind.wrap .i64 ((r32.length : Int) - 1))])) r34 r35 r36) else none) else (bif (decide ((r32.length : Int) > 0)) then (spec_l1Cur_one n 40 r34 r35 r36 fun r45 r46 r47 r48 => (bif r45 then (spec_l1Cur_among n ([0, 100, 101]) r46 r47 r48 fun r49 r50 r51 r52 => (bif decide (0 < (r32.length : Int)) then k (r32.set 0 (r49, (r32.getD 0 (0, [])).2)) r50 r51 r52 else none)) else k r32 r46 r47 r48)) else k r32 r34 r35 r36))) else (bif (decide ((r32.length : Int) > 0)) then (spec_l1Cur_one n 40 r29 r30 r31 fun r53 r54 r55 r56 => (bif r53 then (spec_l1Cur_among n ([0, 100, 101]) r54 r55 r56 fun r57 r58 r59 r60 => (bif decide (0 < (r32.length : Int)) then k (r32.set 0 (r57, (r32.getD 0 (0, [])).2)) r58 r59 r60 else none)) else k r32 r54 r55 r56)) else k r32 r29 r30 r31))))) else (spec_l1Cur_plan_l6 n r1 0 r6 r7 r8 ([] : List (Int × List Int)) (fun r61 r62 r63 r64 => (bif (decide ((r64.length : Int) > 1)) then (spec_l1Cur_one n 12 r61 r62 r63 fun r65 r66 r67 r68 => (bif r65 then (bif decide (0 < (r64.length : Int)) then (bif (decide (((r64.set 0 ((r64.getD 0 (0, [])).1, [(IntKind.wrap .i64 ((r64.length : Int) - 1))])).length : Int) > 0)) then (spec_l1Cur_one n 40 r66 r67 r68 fun r69 r70 r71 r72 => (bif r69 then (spec_l1Cur_among n ([0, 100, 101]) r70 r71 r72 fun r73 r74 r75 r76 => (bif decide (0 < ((r64.set 0 ((r64.getD 0 (0, [])).1, [(IntKind.wrap .i64 ((r64.length : Int) - 1))])).length : Int)) then k ((r64.set 0 ((r64.getD 0 (0, [])).1, [(IntKind.wrap .i64 ((r64.length : Int) - 1))])).set 0 (r73, ((r64.set 0 ((r64.getD 0 (0, [])).1, [(IntKind.wrap .i64 ((r64.length : Int) - 1))])).getD 0 (0, [])).2)) r74 r75 r76 else none)) else k (r64.set 0 ((r64.getD 0 (0, [])).1, [(IntKind.wrap .i64 ((r64.length : Int) - 1))])) r70 r71 r72)) else k (r64.set 0 ((r64.getD 0 (0, [])).1, [(IntKind.wrap .i64 ((r64.length : Int) - 1))])) r66 r67 r68) else none) else (bif (decide ((r64.length : Int) > 0)) then (spec_l1Cur_one n 40 r66 r67 r68 fun r77 r78 r79 r80 => (bif r77 then (spec_l1Cur_among n ([0, 100, 101]) r78 r79 r80 fun r81 r82 r83 r84 => (bif decide (0 < (r64.length : Int)) then k (r64.set 0 (r81, (r64.getD 0 (0, [])).2)) r82 r83 r84 else none)) else k r64 r78 r79 r80)) else k r64 r66 r67 r68))) else (bif (decide ((r64.length : Int) > 0)) then (spec_l1Cur_one n 40 r61 r62 r63 fun r85 r86 r87 r88 => (bif r85 then (spec_l1Cur_among n ([0, 100, 101]) r86 r87 r88 fun r89 r90 r91 r92 => (bif decide (0 < (r64.length : Int)) then k (r64.set 0 (r89, (r64.getD 0 (0, [])).2)) r90 r91 r92 else none)) else k r64 r86 r87 r88)) else k r64 r61 r62 r63)))))))) (fun r0 r1 r2 r3 => k (PkS.pack Tspec_l1Cur_plan (r0, r1, r2, r3, ()))) := by kernel_rfl
theorem okspec_l1Cur_plan (n : Nat) : FnOk Try.prog 98 (Kspec_l1Cur_plan @spec_l1Cur_plan n) := by
  refine fn_ok (sig := sig) mixed ttok (mkK_nat (cspec_l1Cur_plan n)) (mkK_ok (cspec_l1Cur_plan n)) (mkL_nat (mkK_nat (cspec_l1Cur_plan n)) (l := [(10, Dspec_l1Cur_plan_l10, Pspec_l1Cur_plan_l10 @spec_l1Cur_plan_l10 n), (6, Dspec_l1Cur_plan_l6, Pspec_l1Cur_plan_l6 @spec_l1Cur_plan_l6 n)]) ⟨nlspec_l1Cur_plan_l10 n, ⟨nlspec_l1Cur_plan_l6 n, trivial⟩⟩) (fn := Try.f98) (c := bodyOf Try.f98) (by kernel_rfl) (by kernel_rfl) (by kernel_rfl) (.eq (l := [.lo (loopIn 6 (bodyOf Try.f98))]) (by kernel_rfl) ⟨(lkspec_l1Cur_plan_l6 n _ _ (at_id (i := 6) (by kernel_rfl) rfl)), trivial⟩) (shs := Hspec_l1Cur_plan) (S := Sspec_l1Cur_plan) (h1 := by kernel_rfl) fun R p k => ?_
  unfold Kspec_l1Cur_plan
  cases h : (PkS.un Sspec_l1Cur_plan p) with
  | none => rfl
  | some d =>
    obtain ⟨x0, x1, x2, u⟩ := (d : (List Int) × Int × Int × Unit)
    have hp := PkS.un_pack h
    subst hp
    exact (espec_l1Cur_plan @spec_l1Cur_pick @spec_l1Cur_one @spec_l1Cur_among @spec_l1Cur_plan_l10 @spec_l1Cur_plan_l6 n x0 x1 x2 k).symm

/-! ### loop.example/g00269/spec.DrawGoodPlan -/
theorem cspec_DrawGoodPlan (n : Nat) : AllOk Try.prog [(98, Kspec_l1Cur_plan @spec_l1Cur_plan n)] := ⟨okspec_l1Cur_plan n, trivial⟩
@[reducible] def Sspec_DrawGoodPlan : PkS := ⟨[.one (.ro (.int .u8))], []⟩
@[reducible] def Tspec_DrawGoodPlan : PkS := ⟨[.one (.whole (300000, 0)), .one (.dead)], [((300000, 0), .arr (.pr (.int .i64) (.sl (.int .i64))))]⟩
def Hspec_DrawGoodPlan : List Sh := [.one (.own (.pr (.int .i64) (.sl (.int .i64)))), .skip]
def Kspec_DrawGoodPlan (g : ∀ {R : Type}, Nat → (List Int) → ((List (Int × List Int)) → Option R) → Option R) (n : Nat) : KPs := fun R p k => match (PkS.un Sspec_DrawGoodPlan p : Option ((List Int) × Unit)) with
  | some (x0, _) => g n x0 (fun r0 => k (PkS.pack Tspec_DrawGoodPlan (r0, ())))
  | none => none
theorem espec_DrawGoodPlan (spec_l1Cur_plan : ∀ {R : Type}, Nat → (List Int) → Int → Int → ((List (Int × List Int)) → (List Int) → Int → Int → Option R) → Option R) {R : Type} (n : Nat) (x0 : List Int) (k : Pk → Option R) : evF tt sig (mkK [(98, Kspec_l1Cur_plan @spec_l1Cur_plan n)] R) (mkL (mkK [(98, Kspec_l1Cur_plan @spec_l1Cur_plan n)]) [] R) Try.f93 Hspec_DrawGoodPlan (PkS.pack Sspec_DrawGoodPlan (x0, ())) k = (fun (k : (List (Int × List Int)) → Option R) => (spec_l1Cur_plan n x0 0 0 fun r1 r2 r3 r4 => k r1)) (fun r0 => k (PkS.pack Tspec_DrawGoodPlan (r0, ()))) := by kernel_rfl
theorem okspec_DrawGoodPlan (n : Nat) : FnOk Try.prog 93 (Kspec_DrawGoodPlan @spec_DrawGoodPlan n) := by
  refine fn_ok (sig := sig) mixed ttok (mkK_nat (cspec_DrawGoodPlan n)) (mkK_ok (cspec_DrawGoodPlan n)) (mkL_nat (mkK_nat (cspec_DrawGoodPlan n)) (l := []) trivial) (fn := Try.f93) (c := bodyOf Try.f93) (by kernel_rfl) (by kernel_rfl) (by kernel_rfl) (.eq (l := []) (by kernel_rfl) trivial) (shs := Hspec_DrawGoodPlan) (S := Sspec_DrawGoodPlan) (h1 := by kernel_rfl) fun R p k => ?_
  unfold Kspec_DrawGoodPlan
  cases h : (PkS.un Sspec_DrawGoodPlan p) with
  | none => rfl
  | some d =>
    obtain ⟨x0, u⟩ := (d : (List Int) × Unit)
    have hp := PkS.un_pack h
    subst hp
    exact (espec_DrawGoodPlan @spec_l1Cur_plan n x0 k).symm

/-! ### loop.example/g00269/spec.DrawOrderOf -/
theorem cspec_DrawOrderOf (n : Nat) : AllOk Try.prog [(93, Kspec_DrawGoodPlan @spec_DrawGoodPlan n)] := ⟨okspec_DrawGoodPlan n, trivial⟩
@[reducible] def Sspec_DrawOrderOf : PkS := ⟨[.one (.ro (.int .u8))], []⟩
@[reducible] def Tspec_DrawOrderOf : PkS := ⟨[.one (.whole (300000, 0)), .one (.dead)], [((300000, 0), .arr (.pr (.int .i64) (.sl (.int .i64))))]⟩
def Hspec_DrawOrderOf : List Sh := [.one (.own (.pr (.int .i64) (.sl (.int .i64)))), .skip]
def Kspec_DrawOrderOf (g : ∀ {R : Type}, Nat → (List Int) → ((List (Int × List Int)) → Option R) → Option R) (n : Nat) : KPs := fun R p k => match (PkS.un Sspec_DrawOrderOf p : Option ((List Int) × Unit)) with
  | some (x0, _) => g n x0 (fun r0 => k (PkS.pack Tspec_DrawOrderOf (r0, ())))
  | none => none
theorem espec_DrawOrderOf (spec_DrawGoodPlan : ∀ {R : Type}, Nat → (List Int) → ((List (Int × List Int)) → Option R) → Option R) {R : Type} (n : Nat) (x0 : List Int) (k : Pk → Option R) : evF tt sig (mkK [(93, Kspec_DrawGoodPlan @spec_DrawGoodPlan n)] R) (mkL (mkK [(93, Kspec_DrawGoodPlan @spec_DrawGoodPlan n)]) [] R) Try.f35 Hspec_DrawOrderOf (PkS.pack Sspec_DrawOrderOf (x0, ())) k = (fun (k : (List (Int × List Int)) → Option R) => (spec_DrawGoodPlan n x0 fun r1 => k r1)) (fun r0 => k (PkS.pack Tspec_DrawOrderOf (r0, ()))) := by kernel_rfl
theorem okspec_DrawOrderOf (n : Nat) : FnOk Try.prog 35 (Kspec_DrawOrderOf @spec_DrawOrderOf n) := by
  refine fn_ok (sig := sig) mixed ttok (mkK_nat (cspec_DrawOrderOf n)) (mkK_ok (cspec_DrawOrderOf n)) (mkL_nat (mkK_nat (cspec_DrawOrderOf n)) (l := []) trivial) (fn := Try.f35) (c := bodyOf Try.f35) (by kernel_rfl) (by kernel_rfl) (by kernel_rfl) (.eq (l := []) (by kernel_rfl) trivial) (shs := Hspec_DrawOrderOf) (S := Sspec_DrawOrderOf) (h1 := by kernel_rfl) fun R p k => ?_
  unfold Kspec_DrawOrderOf
  cases h : (PkS.un Sspec_DrawOrderOf p) with
  | none => rfl
  | some d =>
    obtain ⟨x0, u⟩ := (d : (List Int) × Unit)
    have hp := PkS.un_pack h
    subst hp
    exact (espec_DrawOrderOf @spec_DrawGoodPlan n x0 k).symm

/-! ### loop.example/g00269/impl.in -/
theorem cimpl_in (n : Nat) : AllOk Try.prog [] := trivial
@[reducible] def Simpl_in : PkS := ⟨[.one (.int .i64), .one (.int .i64), .one (.int .i64)], []⟩
@[reducible] def Timpl_in : PkS := ⟨[.one (.bool), .one (.dead), .one (.dead), .one (.dead)], []⟩
def Himpl_in : List Sh := [.one .any, .skip, .skip, .skip]
def Kimpl_in (g : ∀ {R : Type}, Nat → Int → Int → Int → (Bool → Option R) → Option R) (n : Nat) : KPs := fun R p k => match (PkS.un Simpl_in p : Option (Int × Int × Int × Unit)) with
  | some (x0, x1, x2, _) => g n x0 x1 x2 (fun r0 => k (PkS.pack Timpl_in (r0, ())))
  | none => none
theorem eimpl_in  {R : Type} (n : Nat) (x0 : Int) (x1 : Int) (x2 : Int) (k : Pk → Option R) : evF tt sig (mkK [] R) (mkL (mkK []) [] R) Try.f80 Himpl_in (PkS.pack Simpl_in (x0, x1, x2, ())) k = (fun (k : Bool → Option R) => (bif (decide (x0 ≥ x1)) then k (decide (x0 ≤ x2)) else k false)) (fun r0 => k (PkS.pack Timpl_in (r0, ()))) := by kernel_rfl
theorem okimpl_in (n : Nat) : FnOk Try.prog 80 (Kimpl_in @impl_in n) := by
  refine fn_ok (sig := sig) mixed ttok (mkK_nat (cimpl_in n)) (mkK_ok (cimpl_in n)) (mkL_nat (mkK_nat (cimpl_in n)) (l := []) trivial) (fn := Try.f80) (c := bodyOf Try.f80) (by kernel_rfl) (by kernel_rfl) (by kernel_rfl) (.eq (l := []) (by kernel_rfl) trivial) (shs := Himpl_in) (S := Simpl_in) (h1 := by kernel_rfl) fun R p k => ?_
  unfold Kimpl_in
  cases h : (PkS.un Simpl_in p) with
  | none => rfl
  | some d =>
    obtain ⟨x0, x1, x2, u⟩ := (d : Int × Int × Int × Unit)
    have hp := PkS.un_pack h
    subst hp
    exact (eimpl_in  n x0 x1 x2 k).symm

/-! ### loop.example/g00269/impl.rising -/
theorem cimpl_rising (n : Nat) : AllOk Try.prog [(80, Kimpl_in @impl_in n)] := ⟨okimpl_in n, trivial⟩
@[reducible] def Simpl_rising_l2 : PkS := ⟨[.one (.ro (.int .i64)), .one (.int .i64), .one (.ro (.int .i64)), .one (.int .i64), .one (.int .i64), .one (.dead), .one (.dead)], []⟩
@[reducible] def Timpl_rising_l2_0 : PkS := ⟨[.one (.bool), .one (.dead), .one (.dead)], []⟩
@[reducible] def Timpl_rising_l2_1 : PkS := ⟨[.one (.dead), .one (.dead)], []⟩
def Dimpl_rising_l2 : LoopD := ⟨33, [0, 1, 7, 8, 9], [.one (.ro (.int .i64)), .one .any, .one (.ro (.int .i64)), .one .any, .one .any, .skip, .skip], fun x => match x with
  | .ret => some ([4], [.one .any, .skip, .skip])
  | .exit 0 => some ([], [.skip, .skip])
  | _ => none⟩
def Pimpl_rising_l2 (g : ∀ {R : Type}, Nat → (List Int) → Int → (List Int) → Int → Int → (Bool → Option R) → (Option R) → Option R) (n : Nat) : LPs := fun R q kk => match (PkS.un Simpl_rising_l2 q : Option ((List Int) × Int × (List Int) × Int × Int × Unit)) with
  | some (y2_0, y2_1, y2_2, y2_3, y2_4, _) => g n y2_0 y2_1 y2_2 y2_3 y2_4 (fun r0 => kk .ret (PkS.pack Timpl_rising_l2_0 (r0, ()))) (kk (.exit 0) (PkS.pack Timpl_rising_l2_1 ()))
  | none => none
theorem eimpl_rising_l2 (impl_in : ∀ {R : Type}, Nat → Int → Int → Int → (Bool → Option R) → Option R) (impl_rising_l2 : ∀ {R : Type}, Nat → (List Int) → Int → (List Int) → Int → Int → (Bool → Option R) → (Option R) → Option R) {R : Type} (n : Nat) (y2_0 : List Int) (y2_1 : Int) (y2_2 : List Int) (y2_3 : Int) (y2_4 : Int) (kk : Ex → Pk → Option R) : Dimpl_rising_l2.step tt sig (mkK [(80, Kimpl_in @impl_in n)] R) (mkL (mkK [(80, Kimpl_in @impl_in n)]) [] R) (loopIn 2 (bodyOf Try.f106)) (fun q' => Pimpl_rising_l2 @impl_rising_l2 n R q' kk) (PkS.pack Simpl_rising_l2 (y2_0, y2_1, y2_2, y2_3, y2_4, ())) kk = (fun (kret : Bool → Option R) (kexit0 : Option R) => (bif (decide (y2_4 < y2_3)) then (bif decide (0 ≤ y2_4) then (bif decide (y2_4 < (y2_2.length : Int)) then (impl_in n (y2_2.getD (Int.toNat y2_4) 0) 0 (IntKind.wrap .i64 (y2_1 - 1)) fun r1 => (bif (!r1) then kret false else (bif (decide (y2_4 > 0)) then (bif decide (0 ≤ (IntKind.wrap .i64 (y2_4 - 1))) then (bif decide ((IntKind.wrap .i64 (y2_4 - 1)) < (y2_0.length : Int)) then (bif (decide ((y2_0.getD (Int.toNat (IntKind.wrap .i64 (y2_4 - 1))) 0) ≥ (y2_2.getD (Int.toNat y2_4) 0))) then kret false else impl_rising_l2 n y2_0 y2_1 y2_2 y2_3 (IntKind.wrap .i64 (y2_4 + 1)) kret kexit0) else none) else none) else impl_rising_l2 n y2_0 y2_1 y2_2 y2_3 (IntKind.wrap .i64 (y2_4 + 1)) kret kexit0))) else none) else none) else kexit0)) (fun r0 => kk .ret (PkS.pack Timpl_rising_l2_0 (r0, ()))) (kk (.exit 0) (PkS.pack Timpl_rising_l2_1 ())) := by kernel_rfl
theorem leimpl_rising_l2 : LoopEq tt sig (fun n => mkK [(80, Kimpl_in @impl_in n)]) (fun n => mkL (mkK [(80, Kimpl_in @impl_in n)]) []) Dimpl_rising_l2 Simpl_rising_l2 (loopIn 2 (bodyOf Try.f106)) (Pimpl_rising_l2 @impl_rising_l2) where
  zero R q kk := by unfold Pimpl_rising_l2; cases (PkS.un Simpl_rising_l2 q) <;> rfl
  succ n R q kk := by
    unfold Pimpl_rising_l2
    cases h : (PkS.un Simpl_rising_l2 q) with
    | none => rfl
    | some d =>
      obtain ⟨y2_0, y2_1, y2_2, y2_3, y2_4, u⟩ := (d : (List Int) × Int × (List Int) × Int × Int × Unit)
      have hp := PkS.un_pack h
      subst hp
      exact (eimpl_rising_l2 @impl_in @impl_rising_l2 n y2_0 y2_1 y2_2 y2_3 y2_4 kk).symm
theorem nlimpl_rising_l2 : ∀ n, NatLP (Pimpl_rising_l2 @impl_rising_l2 n) := leimpl_rising_l2.nat (fun n => mkK_nat (cimpl_rising n)) fun n => mkL_nat (mkK_nat (cimpl_rising n)) (l := []) trivial
theorem inimpl_rising_l2 (n : Nat) (R : Type) : LoopsOk Try.prog (mkL (mkK [(80, Kimpl_in @impl_in n)]) [] R) (loopIn 2 (bodyOf Try.f106)) := .eq (l := []) (by kernel_rfl) trivial
theorem lkimpl_rising_l2 (n : Nat) (R : Type) (L0 : LK R) (h0 : ∀ id, firstRegion (loopIn 2 (bodyOf Try.f106)) = some id → L0 id = Dimpl_rising_l2.oracle (mkK [(80, Kimpl_in @impl_in n)] R) (Pimpl_rising_l2 @impl_rising_l2 n R)) : LoopOk Try.prog L0 (loopIn 2 (bodyOf Try.f106)) :=
  leimpl_rising_l2.ok mixed ttok (fun n => mkK_nat (cimpl_rising n)) (fun n => mkK_ok (cimpl_rising n)) (fun n => inimpl_rising_l2 n R) (mkK_nat (cimpl_rising n)) h0
@[reducible] def Simpl_rising : PkS := ⟨[.one (.ro (.int .i64)), .one (.int .i64)], []⟩
@[reducible] def Timpl_rising : PkS := ⟨[.one (.bool), .one (.dead), .one (.dead)], []⟩
def Himpl_rising : List Sh := [.one .any, .skip, .skip]
def Kimpl_rising (g : ∀ {R : Type}, Nat → (List Int) → Int → (Bool → Option R) → Option R) (n : Nat) : KPs := fun R p k => match (PkS.un Simpl_rising p : Option ((List Int) × Int × Unit)) with
  | some (x0, x1, _) => g n x0 x1 (fun r0 => k (PkS.pack Timpl_rising (r0, ())))
  | none => none
theorem eimpl_rising (impl_in : ∀ {R : Type}, Nat → Int → Int → Int → (Bool → Option R) → Option R) (impl_rising_l2 : ∀ {R : Type}, Nat → (List Int) → Int → (List Int) → Int → Int → (Bool → Option R) → (Option R) → Option R) {R : Type} (n : Nat) (x0 : List Int) (x1 : Int) (k : Pk → Option R) : evF tt sig (mkK [(80, Kimpl_in @impl_in n)] R) (mkL (mkK [(80, Kimpl_in @impl_in n)]) [(2, Dimpl_rising_l2, Pimpl_rising_l2 @impl_rising_l2 n)] R) Try.f106 Himpl_rising (PkS.pack Simpl_rising (x0, x1, ())) k = (fun (k : Bool → Option R) => (impl_rising_l2 n x0 x1 x0 (x0.length : Int) 0 (fun r2 => k r2) (k true))) (fun r0 => k (PkS.pack Timpl_rising (r0, ()))) := by kernel_rfl
theorem okimpl_rising (n : Nat) : FnOk Try.prog 106 (Kimpl_rising @impl_rising n) := by
  refine fn_ok (sig := sig) mixed ttok (mkK_nat (cimpl_rising n)) (mkK_ok (cimpl_rising n)) (mkL_nat (mkK_nat (cimpl_rising n)) (l := [(2, Dimpl_rising_l2, Pimpl_rising_l2 @impl_rising_l2 n)]) ⟨nlimpl_rising_l2 n, trivial⟩) (fn := Try.f106) (c := bodyOf Try.f106) (by kernel_rfl) (by kernel_rfl) (by kernel_rfl) (.eq (l := [.lo (loopIn 2 (bodyOf Try.f106))]) (by kernel_rfl) ⟨(lkimpl_rising_l2 n _ _ (at_id (i := 2) (by kernel_rfl) rfl)), trivial⟩) (shs := Himpl_rising) (S := Simpl_rising) (h1 := by kernel_rfl) fun R p k => ?_
  unfold Kimpl_rising
  cases h : (PkS.un Simpl_rising p) with
  | none => rfl
  | some d =>
    obtain ⟨x0, x1, u⟩ := (d : (List Int) × Int × Unit)
    have hp := PkS.un_pack h
    subst hp
    exact (eimpl_rising @impl_in @impl_rising_l2 n x0 x1 k).symm

/-! ### slices.Index[[]int,int] -/
theorem cslices_Index_int (n : Nat) : AllOk Try.prog [] := trivial
@[reducible] def Sslices_Index_int_l2 : PkS := ⟨[.one (.ro (.int .i64)), .one (.int .i64), .one (.int .i64), .one (.int .i64), .one (.dead), .one (.dead)], []⟩
@[reducible] def Tslices_Index_int_l2_0 : PkS := ⟨[.one (.int .i64), .one (.dead), .one (.dead)], []⟩
@[reducible] def Tslices_Index_int_l2_1 : PkS := ⟨[.one (.dead), .one (.dead)], []⟩
def Dslices_Index_int_l2 : LoopD := ⟨19, [0, 1, 7, 8], [.one (.ro (.int .i64)), .one .any, .one .any, .one .any, .skip, .skip], fun x => match x with
  | .ret => some ([4], [.one .any, .skip, .skip])
  | .exit 0 => some ([], [.skip, .skip])
  | _ => none⟩
def Pslices_Index_int_l2 (g : ∀ {R : Type}, Nat → (List Int) → Int → Int → Int → (Int → Option R) → (Option R) → Option R) (n : Nat) : LPs := fun R q kk => match (PkS.un Sslices_Index_int_l2 q : Option ((List Int) × Int × Int × Int × Unit)) with
  | some (y2_0, y2_1, y2_2, y2_3, _) => g n y2_0 y2_1 y2_2 y2_3 (fun r0 => kk .ret (PkS.pack Tslices_Index_int_l2_0 (r0, ()))) (kk (.exit 0) (PkS.pack Tslices_Index_int_l2_1 ()))
  | none => none
theorem eslices_Index_int_l2 (slices_Index_int_l2 : ∀ {R : Type}, Nat → (List Int) → Int → Int → Int → (Int → Option R) → (Option R) → Option R) {R : Type} (n : Nat) (y2_0 : List Int) (y2_1 : Int) (y2_2 : Int) (y2_3 : Int) (kk : Ex → Pk → Option R) : Dslices_Index_int_l2.step tt sig (mkK [] R) (mkL (mkK []) [] R) (loopIn 2 (bodyOf Try.f150)) (fun q' => Pslices_Index_int_l2 @slices_Index_int_l2 n R q' kk) (PkS.pack Sslices_Index_int_l2 (y2_0, y2_1, y2_2, y2_3, ())) kk = (fun (kret : Int → Option R) (kexit0 : Option R) => (bif (decide (y2_3 < y2_2)) then (bif decide (0 ≤ y2_3) then (bif decide (y2_3 < (y2_0.length : Int)) then (bif (y2_1 == (y2_0.getD (Int.toNat y2_3) 0)) then kret y2_3 else slices_Index_int_l2 n y2_0 y2_1 y2_2 (IntKind.wrap .i64 (y2_3 + 1)) kret kexit0) else none) else none) else kexit0)) (fun r0 => kk .ret (PkS.pack Tslices_Index_int_l2_0 (r0, ()))) (kk (.exit 0) (PkS.pack Tslices_Index_int_l2_1 ())) := by kernel_rfl
theorem leslices_Index_int_l2 : LoopEq tt sig (fun n => mkK []) (fun n => mkL (mkK []) []) Dslices_Index_int_l2 Sslices_Index_int_l2 (loopIn 2 (bodyOf Try.f150)) (Pslices_Index_int_l2 @slices_Index_int_l2) where
  zero R q kk := by unfold Pslices_Index_int_l2; cases (PkS.un Sslices_Index_int_l2 q) <;> rfl
  succ n R q kk := by
    unfold Pslices_Index_int_l2
    cases h : (PkS.un Sslices_Index_int_l2 q) with
    | none => rfl
    | some d =>
      obtain ⟨y2_0, y2_1, y2_2, y2_3, u⟩ := (d : (List Int) × Int × Int × Int × Unit)
      have hp := PkS.un_pack h
      subst hp
      exact (eslices_Index_int_l2 @slices_Index_int_l2 n y2_0 y2_1 y2_2 y2_3 kk).symm
theorem nlslices_Index_int_l2 : ∀ n, NatLP (Pslices_Index_int_l2 @slices_Index_int_l2 n) := leslices_Index_int_l2.nat (fun n => mkK_nat (cslices_Index_int n)) fun n => mkL_nat (mkK_nat (cslices_Index_int n)) (l := []) trivial
theorem inslices_Index_int_l2 (n : Nat) (R : Type) : LoopsOk Try.prog (mkL (mkK []) [] R) (loopIn 2 (bodyOf Try.f150)) := .eq (l := []) (by kernel_rfl) trivial
theorem lkslices_Index_int_l2 (n : Nat) (R : Type) (L0 : LK R) (h0 : ∀ id, firstRegion (loopIn 2 (bodyOf Try.f150)) = some id → L0 id = Dslices_Index_int_l2.oracle (mkK [] R) (Pslices_Index_int_l2 @slices_Index_int_l2 n R)) : LoopOk Try.prog L0 (loopIn 2 (bodyOf Try.f150)) :=
  leslices_Index_int_l2.ok mixed ttok (fun n => mkK_nat (cslices_Index_int n)) (fun n => mkK_ok (cslices_Index_int n)) (fun n => inslices_Index_int_l2 n R) (mkK_nat (cslices_Index_int n)) h0
@[reducible] def Sslices_Index_int : PkS := ⟨[.one (.ro (.int .i64)), .one (.int .i64)], []⟩
@[reducible] def Tslices_Index_int : PkS := ⟨[.one (.int .i64), .one (.dead), .one (.dead)], []⟩
def Hslices_Index_int : List Sh := [.one .any, .skip, .skip]
def Kslices_Index_int (g : ∀ {R : Type}, Nat → (List Int) → Int → (Int → Option R) → Option R) (n : Nat) : KPs := fun R p k => match (PkS.un Sslices_Index_int p : Option ((List Int) × Int × Unit)) with
  | some (x0, x1, _) => g n x0 x1 (fun r0 => k (PkS.pack Tslices_Index_int (r0, ())))
  | none => none
theorem eslices_Index_int (slices_Index_int_l2 : ∀ {R : Type}, Nat → (List Int) → Int → Int → Int → (Int → Option R) → (Option R) → Option R) {R : Type} (n : Nat) (x0 : List Int) (x1 : Int) (k : Pk → Option R) : evF tt sig (mkK [] R) (mkL (mkK []) [(2, Dslices_Index_int_l2, Pslices_Index_int_l2 @slices_Index_int_l2 n)] R) Try.f150 Hslices_Index_int (PkS.pack Sslices_Index_int (x0, x1, ())) k = (fun (k : Int → Option R) => (slices_Index_int_l2 n x0 x1 (x0.length : Int) 0 (fun r1 => k r1) (k (-1)))) (fun r0 => k (PkS.pack Tslices_Index_int (r0, ()))) := by kernel_rfl
theorem okslices_Index_int (n : Nat) : FnOk Try.prog 150 (Kslices_Index_int @slices_Index_int n) := by
  refine fn_ok (sig := sig) mixed ttok (mkK_nat (cslices_Index_int n)) (mkK_ok (cslices_Index_int n)) (mkL_nat (mkK_nat (cslices_Index_int n)) (l := [(2, Dslices_Index_int_l2, Pslices_Index_int_l2 @slices_Index_int_l2 n)]) ⟨nlslices_Index_int_l2 n, trivial⟩) (fn := Try.f150) (c := bodyOf Try.f150) (by kernel_rfl) (by kernel_rfl) (by kernel_rfl) (.eq (l := [.lo (loopIn 2 (bodyOf Try.f150))]) (by kernel_rfl) ⟨(lkslices_Index_int_l2 n _ _ (at_id (i := 2) (by kernel_rfl) rfl)), trivial⟩) (shs := Hslices_Index_int) (S := Sslices_Index_int) (h1 := by kernel_rfl) fun R p k => ?_
  unfold Kslices_Index_int
  cases h : (PkS.un Sslices_Index_int p) with
  | none => rfl
  | some d =>
    obtain ⟨x0, x1, u⟩ := (d : (List Int) × Int × Unit)
    have hp := PkS.un_pack h
    subst hp
    exact (eslices_Index_int @slices_Index_int_l2 n x0 x1 k).symm

/-! ### slices.Contains[[]int,int] -/
theorem cslices_Contains_int (n : Nat) : AllOk Try.prog [(150, Kslices_Index_int @slices_Index_int n)] := ⟨okslices_Index_int n, trivial⟩
@[reducible] def Sslices_Contains_int : PkS := ⟨[.one (.ro (.int .i64)), .one (.int .i64)], []⟩
@[reducible] def Tslices_Contains_int : PkS := ⟨[.one (.bool), .one (.dead), .one (.dead)], []⟩
def Hslices_Contains_int : List Sh := [.one .any, .skip, .skip]
def Kslices_Contains_int (g : ∀ {R : Type}, Nat → (List Int) → Int → (Bool → Option R) → Option R) (n : Nat) : KPs := fun R p k => match (PkS.un Sslices_Contains_int p : Option ((List Int) × Int × Unit)) with
  | some (x0, x1, _) => g n x0 x1 (fun r0 => k (PkS.pack Tslices_Contains_int (r0, ())))
  | none => none
theorem eslices_Contains_int (slices_Index_int : ∀ {R : Type}, Nat → (List Int) → Int → (Int → Option R) → Option R) {R : Type} (n : Nat) (x0 : List Int) (x1 : Int) (k : Pk → Option R) : evF tt sig (mkK [(150, Kslices_Index_int @slices_Index_int n)] R) (mkL (mkK [(150, Kslices_Index_int @slices_Index_int n)]) [] R) Try.f103 Hslices_Contains_int (PkS.pack Sslices_Contains_int (x0, x1, ())) k = (fun (k : Bool → Option R) => (slices_Index_int n x0 x1 fun r1 => k (decide (r1 ≥ 0)))) (fun r0 => k (PkS.pack Tslices_Contains_int (r0, ()))) := by kernel_rfl
theorem okslices_Contains_int (n : Nat) : FnOk Try.prog 103 (Kslices_Contains_int @slices_Contains_int n) := by
  refine fn_ok (sig := sig) mixed ttok (mkK_nat (cslices_Contains_int n)) (mkK_ok (cslices_Contains_int n)) (mkL_nat (mkK_nat (cslices_Contains_int n)) (l := []) trivial) (fn := Try.f103) (c := bodyOf Try.f103) (by kernel_rfl) (by kernel_rfl) (by kernel_rfl) (.eq (l := []) (by kernel_rfl) trivial) (shs := Hslices_Contains_int) (S := Sslices_Contains_int) (h1 := by kernel_rfl) fun R p k => ?_
  unfold Kslices_Contains_int
  cases h : (PkS.un Sslices_Contains_int p) with
  | none => rfl
  | some d =>
    obtain ⟨x0, x1, u⟩ := (d : (List Int) × Int × Unit)
    have hp := PkS.un_pack h
    subst hp
    exact (eslices_Contains_int @slices_Index_int n x0 x1 k).symm

/-! ### loop.example/g00269/impl.order$1 -/
theorem cimpl_order_c1 (n : Nat) : AllOk Try.prog [] := trivial
@[reducible] def Simpl_order_c1 : PkS := ⟨[.one (.int .i64), .one (.box (200000, 1) 0)], [((200000, 0), .arr .bool), ((200000, 1), .box [.whole (200000, 0)])]⟩
@[reducible] def Timpl_order_c1 : PkS := ⟨[.one (.bool), .one (.dead), .one (.box (300000, 1) 0)], [((300000, 0), .arr .bool), ((300000, 1), .box [.whole (300000, 0)])]⟩
def Himpl_order_c1 : List Sh := [.one .any, .skip, .box [(.own .bool)]]
def Kimpl_order_c1 (g : ∀ {R : Type}, Nat → Int → (List Bool) → (Bool → (List Bool) → Option R) → Option R) (n : Nat) : KPs := fun R p k => match (PkS.un Simpl_order_c1 p : Option (Int × (List Bool) × Unit)) with
  | some (x0, x1, _) => g n x0 x1 (fun r0 r1 => k (PkS.pack Timpl_order_c1 (r0, r1, ())))
  | none => none
theorem eimpl_order_c1  {R : Type} (n : Nat) (x0 : Int) (x1 : List Bool) (k : Pk → Option R) : evF tt sig (mkK [] R) (mkL (mkK []) [] R) Try.f147 Himpl_order_c1 (PkS.pack Simpl_order_c1 (x0, x1, ())) k = (fun (k : Bool → (List Bool) → Option R) => (bif decide (0 ≤ x0) then (bif decide (x0 < (x1.length : Int)) then k (!(x1.getD (Int.toNat x0) false)) x1 else none) else none)) (fun r0 r1 => k (PkS.pack Timpl_order_c1 (r0, r1, ()))) := by kernel_rfl
theorem okimpl_order_c1 (n : Nat) : FnOk Try.prog 147 (Kimpl_order_c1 @impl_order_c1 n) := by
  refine fn_ok (sig := sig) mixed ttok (mkK_nat (cimpl_order_c1 n)) (mkK_ok (cimpl_order_c1 n)) (mkL_nat (mkK_nat (cimpl_order_c1 n)) (l := []) trivial) (fn := Try.f147) (c := bodyOf Try.f147) (by kernel_rfl) (by kernel_rfl) (by kernel_rfl) (.eq (l := []) (by kernel_rfl) trivial) (shs := Himpl_order_c1) (S := Simpl_order_c1) (h1 := by kernel_rfl) fun R p k => ?_
  unfold Kimpl_order_c1
  cases h : (PkS.un Simpl_order_c1 p) with
  | none => rfl
  | some d =>
    obtain ⟨x0, x1, u⟩ := (d : Int × (List Bool) × Unit)
    have hp := PkS.un_pack h
    subst hp
    exact (eimpl_order_c1  n x0 x1 k).symm

/-! ### slices.IndexFunc[[]int,int] -/
theorem cslices_IndexFunc_int_impl_order_c1 (n : Nat) : AllOk Try.prog [(147, Kimpl_order_c1 @impl_order_c1 n)] := ⟨okimpl_order_c1 n, trivial⟩
@[reducible] def Sslices_IndexFunc_int_impl_order_c1_l2 : PkS := ⟨[.one (.ro (.int .i64)), .one (.fn 147 [((100000, 1), 0)]), .one (.int .i64), .one (.int .i64), .one (.dead), .one (.fn 147 [((100000, 1), 0)])], [((100000, 0), .arr .bool), ((100000, 1), .box [.whole (100000, 0)])]⟩
@[reducible] def Tslices_IndexFunc_int_impl_order_c1_l2_0 : PkS := ⟨[.one (.int .i64), .one (.dead), .one (.fn 147 [((100000, 1), 0)])], [((100000, 0), .arr .bool), ((100000, 1), .box [.whole (100000, 0)])]⟩
@[reducible] def Tslices_IndexFunc_int_impl_order_c1_l2_1 : PkS := ⟨[.one (.dead), .one (.fn 147 [((100000, 1), 0)])], [((100000, 0), .arr .bool), ((100000, 1), .box [.whole (100000, 0)])]⟩
def Dslices_IndexFunc_int_impl_order_c1_l2 : LoopD := ⟨19, [0, 1, 7, 8], [.one (.ro (.int .i64)), .fn 147 [[(.own .bool)]], .one .any, .one .any, .skip, .fn 147 [[(.own .bool)]]], fun x => match x with
  | .ret => some ([4], [.one .any, .skip, .fn 147 [[(.own .bool)]]])
  | .exit 0 => some ([], [.skip, .fn 147 [[(.own .bool)]]])
  | _ => none⟩
def Pslices_IndexFunc_int_impl_order_c1_l2 (g : ∀ {R : Type}, Nat → (List Int) → Int → Int → (List Bool) → (Int → (List Bool) → Option R) → ((List Bool) → Option R) → Option R) (n : Nat) : LPs := fun R q kk => match (PkS.un Sslices_IndexFunc_int_impl_order_c1_l2 q : Option ((List Int) × Int × Int × (List Bool) × Unit)) with
  | some (y2_0, y2_1, y2_2, y2_3, _) => g n y2_0 y2_1 y2_2 y2_3 (fun r0 r1 => kk .ret (PkS.pack Tslices_IndexFunc_int_impl_order_c1_l2_0 (r0, r1, ()))) (fun r0 => kk (.exit 0) (PkS.pack Tslices_IndexFunc_int_impl_order_c1_l2_1 (r0, ())))
  | none => none
theorem eslices_IndexFunc_int_impl_order_c1_l2 (impl_order_c1 : ∀ {R : Type}, Nat → Int → (List Bool) → (Bool → (List Bool) → Option R) → Option R) (slices_IndexFunc_int_impl_order_c1_l2 : ∀ {R : Type}, Nat → (List Int) → Int → Int → (List Bool) → (Int → (List Bool) → Option R) → ((List Bool) → Option R) → Option R) {R : Type} (n : Nat) (y2_0 : List Int) (y2_1 : Int) (y2_2 : Int) (y2_3 : List Bool) (kk : Ex → Pk → Option R) : Dslices_IndexFunc_int_impl_order_c1_l2.step tt sig (mkK [(147, Kimpl_order_c1 @impl_order_c1 n)] R) (mkL (mkK [(147, Kimpl_order_c1 @impl_order_c1 n)]) [] R) (loopIn 2 (bodyOf Try.f157)) (fun q' => Pslices_IndexFunc_int_impl_order_c1_l2 @slices_IndexFunc_int_impl_order_c1_l2 n R q' kk) (PkS.pack Sslices_IndexFunc_int_impl_order_c1_l2 (y2_0, y2_1, y2_2, y2_3, ())) kk = (fun (kret : Int → (List Bool) → Option R) (kexit0 : (List Bool) → Option R) => (bif (decide (y2_2 < y2_1)) then (bif decide (0 ≤ y2_2) then (bif decide (y2_2 < (y2_0.length : Int)) then (impl_order_c1 n (y2_0.getD (Int.toNat y2_2) 0) y2_3 fun r1 r2 => (bif r1 then kret y2_2 r2 else slices_IndexFunc_int_impl_order_c1_l2 n y2_0 y2_1 (IntKind.wrap .i64 (y2_2 + 1)) r2 kret kexit0)) else none) else none) else kexit0 y2_3)) (fun r0 r1 => kk .ret (PkS.pack Tslices_IndexFunc_int_impl_order_c1_l2_0 (r0, r1, ()))) (fun r0 => kk (.exit 0) (PkS.pack Tslices_IndexFunc_int_impl_order_c1_l2_1 (r0, ()))) := by kernel_rfl
theorem leslices_IndexFunc_int_impl_order_c1_l2 : LoopEq tt sig (fun n => mkK [(147, Kimpl_order_c1 @impl_order_c1 n)]) (fun n => mkL (mkK [(147, Kimpl_order_c1 @impl_order_c1 n)]) []) Dslices_IndexFunc_int_impl_order_c1_l2 Sslices_IndexFunc_int_impl_order_c1_l2 (loopIn 2 (bodyOf Try.f157)) (Pslices_IndexFunc_int_impl_order_c1_l2 @slices_IndexFunc_int_impl_order_c1_l2) where
  zero R q kk := by unfold Pslices_IndexFunc_int_impl_order_c1_l2; cases (PkS.un Sslices_IndexFunc_int_impl_order_c1_l2 q) <;> rfl
  succ n R q kk := by
    unfold Pslices_IndexFunc_int_impl_order_c1_l2
    cases h : (PkS.un Sslices_IndexFunc_int_impl_order_c1_l2 q) with
    | none => rfl
    | some d =>
      obtain ⟨y2_0, y2_1, y2_2, y2_3, u⟩ := (d : (List Int) × Int × Int × (List Bool) × Unit)
      have hp := PkS.un_pack h
      subst hp
      exact (eslices_IndexFunc_int_impl_order_c1_l2 @impl_order_c1 @slices_IndexFunc_int_impl_order_c1_l2 n y2_0 y2_1 y2_2 y2_3 kk).symm
theorem nlslices_IndexFunc_int_impl_order_c1_l2 : ∀ n, NatLP (Pslices_IndexFunc_int_impl_order_c1_l2 @slices_IndexFunc_int_impl_order_c1_l2 n) := leslices_IndexFunc_int_impl_order_c1_l2.nat (fun n => mkK_nat (cslices_IndexFunc_int_impl_order_c1 n)) fun n => mkL_nat (mkK_nat (cslices_IndexFunc_int_impl_order_c1 n)) (l := []) trivial
theorem inslices_IndexFunc_int_impl_order_c1_l2 (n : Nat) (R : Type) : LoopsOk Try.prog (mkL (mkK [(147, Kimpl_order_c1 @impl_order_c1 n)]) [] R) (loopIn 2 (bodyOf Try.f157)) := .eq (l := []) (by kernel_rfl) trivial
theorem lkslices_IndexFunc_int_impl_order_c1_l2 (n : Nat) (R : Type) (L0 : LK R) (h0 : ∀ id, firstRegion (loopIn 2 (bodyOf Try.f157)) = some id → L0 id = Dslices_IndexFunc_int_impl_order_c1_l2.oracle (mkK [(147, Kimpl_order_c1 @impl_order_c1 n)] R) (Pslices_IndexFunc_int_impl_order_c1_l2 @slices_IndexFunc_int_impl_order_c1_l2 n R)) : LoopOk Try.prog L0 (loopIn 2 (bodyOf Try.f157)) :=
  leslices_IndexFunc_int_impl_order_c1_l2.ok mixed ttok (fun n => mkK_nat (cslices_IndexFunc_int_impl_order_c1 n)) (fun n => mkK_ok (cslices_IndexFunc_int_impl_order_c1 n)) (fun n => inslices_IndexFunc_int_impl_order_c1_l2 n R) (mkK_nat (cslices_IndexFunc_int_impl_order_c1 n)) h0
@[reducible] def Sslices_IndexFunc_int_impl_order_c1 : PkS := ⟨[.one (.ro (.int .i64)), .one (.fn 147 [((200000, 1), 0)])], [((200000, 0), .arr .bool), ((200000, 1), .box [.whole (200000, 0)])]⟩
@[reducible] def Tslices_IndexFunc_int_impl_order_c1 : PkS := ⟨[.one (.int .i64), .one (.dead), .one (.fn 147 [((300000, 1), 0)])], [((300000, 0), .arr .bool), ((300000, 1), .box [.whole (300000, 0)])]⟩
def Hslices_IndexFunc_int_impl_order_c1 : List Sh := [.one .any, .skip, .fn 147 [[(.own .bool)]]]
def Kslices_IndexFunc_int_impl_order_c1 (g : ∀ {R : Type}, Nat → (List Int) → (List Bool) → (Int → (List Bool) → Option R) → Option R) (n : Nat) : KPs := fun R p k => match (PkS.un Sslices_IndexFunc_int_impl_order_c1 p : Option ((List Int) × (List Bool) × Unit)) with
  | some (x0, x1, _) => g n x0 x1 (fun r0 r1 => k (PkS.pack Tslices_IndexFunc_int_impl_order_c1 (r0, r1, ())))
  | none => none
theorem eslices_IndexFunc_int_impl_order_c1 (impl_order_c1 : ∀ {R : Type}, Nat → Int → (List Bool) → (Bool → (List Bool) → Option R) → Option R) (slices_IndexFunc_int_impl_order_c1_l2 : ∀ {R : Type}, Nat → (List Int) → Int → Int → (List Bool) → (Int → (List Bool) → Option R) → ((List Bool) → Option R) → Option R) {R : Type} (n : Nat) (x0 : List Int) (x1 : List Bool) (k : Pk → Option R) : evF tt sig (mkK [(147, Kimpl_order_c1 @impl_order_c1 n)] R) (mkL (mkK [(147, Kimpl_order_c1 @impl_order_c1 n)]) [(2, Dslices_IndexFunc_int_impl_order_c1_l2, Pslices_IndexFunc_int_impl_order_c1_l2 @slices_IndexFunc_int_impl_order_c1_l2 n)] R) Try.f157 Hslices_IndexFunc_int_impl_order_c1 (PkS.pack Sslices_IndexFunc_int_impl_order_c1 (x0, x1, ())) k = (fun (k : Int → (List Bool) → Option R) => (slices_IndexFunc_int_impl_order_c1_l2 n x0 (x0.length : Int) 0 x1 (fun r3 r4 => k r3 r4) (fun r5 => k (-1) r5))) (fun r0 r1 => k (PkS.pack Tslices_IndexFunc_int_impl_order_c1 (r0, r1, ()))) := by kernel_rfl
theorem okslices_IndexFunc_int_impl_order_c1 (n : Nat) : FnOk Try.prog 157 (Kslices_IndexFunc_int_impl_order_c1 @slices_IndexFunc_int_impl_order_c1 n) := by
  refine fn_ok (sig := sig) mixed ttok (mkK_nat (cslices_IndexFunc_int_impl_order_c1 n)) (mkK_ok (cslices_IndexFunc_int_impl_order_c1 n)) (mkL_nat (mkK_nat (cslices_IndexFunc_int_impl_order_c1 n)) (l := [(2, Dslices_IndexFunc_int_impl_order_c1_l2, Pslices_IndexFunc_int_impl_order_c1_l2 @slices_IndexFunc_int_impl_order_c1_l2 n)]) ⟨nlslices_IndexFunc_int_impl_order_c1_l2 n, trivial⟩) (fn := Try.f157) (c := bodyOf Try.f157) (by kernel_rfl) (by kernel_rfl) (by kernel_rfl) (.eq (l := [.lo (loopIn 2 (bodyOf Try.f157))]) (by kernel_rfl) ⟨(lkslices_IndexFunc_int_impl_order_c1_l2 n _ _ (at_id (i := 2) (by kernel_rfl) rfl)), trivial⟩) (shs := Hslices_IndexFunc_int_impl_order_c1) (S := Sslices_IndexFunc_int_impl_order_c1) (h1 := by kernel_rfl) fun R p k => ?_
  unfold Kslices_IndexFunc_int_impl_order_c1
  cases h : (PkS.un Sslices_IndexFunc_int_impl_order_c1 p) with
  | none => rfl
  | some d =>
    obtain ⟨x0, x1, u⟩ := (d : (List Int) × (List Bool) × Unit)
    have hp := PkS.un_pack h
    subst hp
    exact (eslices_IndexFunc_int_impl_order_c1 @impl_order_c1 @slices_IndexFunc_int_impl_order_c1_l2 n x0 x1 k).symm

/-! ### slices.ContainsFunc[[]int,int] -/
theorem cslices_ContainsFunc_int_impl_order_c1 (n : Nat) : AllOk Try.prog [(157, Kslices_IndexFunc_int_impl_order_c1 @slices_IndexFunc_int_impl_order_c1 n)] := ⟨okslices_IndexFunc_int_impl_order_c1 n, trivial⟩
@[reducible] def Sslices_ContainsFunc_int_impl_order_c1 : PkS := ⟨[.one (.ro (.int .i64)), .one (.fn 147 [((200000, 1), 0)])], [((200000, 0), .arr .bool), ((200000, 1), .box [.whole (200000, 0)])]⟩
@[reducible] def Tslices_ContainsFunc_int_impl_order_c1 : PkS := ⟨[.one (.bool), .one (.dead), .one (.fn 147 [((300000, 1), 0)])], [((300000, 0), .arr .bool), ((300000, 1), .box [.whole (300000, 0)])]⟩
def Hslices_ContainsFunc_int_impl_order_c1 : List Sh := [.one .any, .skip, .fn 147 [[(.own .bool)]]]
def Kslices_ContainsFunc_int_impl_order_c1 (g : ∀ {R : Type}, Nat → (List Int) → (List Bool) → (Bool → (List Bool) → Option R) → Option R) (n : Nat) : KPs := fun R p k => match (PkS.un Sslices_ContainsFunc_int_impl_order_c1 p : Option ((List Int) × (List Bool) × Unit)) with
  | some (x0, x1, _) => g n x0 x1 (fun r0 r1 => k (PkS.pack Tslices_ContainsFunc_int_impl_order_c1 (r0, r1, ())))
  | none => none
theorem eslices_ContainsFunc_int_impl_order_c1 (slices_IndexFunc_int_impl_order_c1 : ∀ {R : Type}, Nat → (List Int) → (List Bool) → (Int → (List Bool) → Option R) → Option R) {R : Type} (n : Nat) (x0 : List Int) (x1 : List Bool) (k : Pk → Option R) : evF tt sig (mkK [(157, Kslices_IndexFunc_int_impl_order_c1 @slices_IndexFunc_int_impl_order_c1 n)] R) (mkL (mkK [(157, Kslices_IndexFunc_int_impl_order_c1 @slices_IndexFunc_int_impl_order_c1 n)]) [] R) Try.f120 Hslices_ContainsFunc_int_impl_order_c1 (PkS.pack Sslices_ContainsFunc_int_impl_order_c1 (x0, x1, ())) k = (fun (k : Bool → (List Bool) → Option R) => (slices_IndexFunc_int_impl_order_c1 n x0 x1 fun r1 r2 => k (decide (r1 ≥ 0)) r2)) (fun r0 r1 => k (PkS.pack Tslices_ContainsFunc_int_impl_order_c1 (r0, r1, ()))) := by kernel_rfl
theorem okslices_ContainsFunc_int_impl_order_c1 (n : Nat) : FnOk Try.prog 120 (Kslices_ContainsFunc_int_impl_order_c1 @slices_ContainsFunc_int_impl_order_c1 n) := by
  refine fn_ok (sig := sig) mixed ttok (mkK_nat (cslices_ContainsFunc_int_impl_order_c1 n)) (mkK_ok (cslices_ContainsFunc_int_impl_order_c1 n)) (mkL_nat (mkK_nat (cslices_ContainsFunc_int_impl_order_c1 n)) (l := []) trivial) (fn := Try.f120) (c := bodyOf Try.f120) (by kernel_rfl) (by kernel_rfl) (by kernel_rfl) (.eq (l := []) (by kernel_rfl) trivial) (shs := Hslices_ContainsFunc_int_impl_order_c1) (S := Sslices_ContainsFunc_int_impl_order_c1) (h1 := by kernel_rfl) fun R p k => ?_
  unfold Kslices_ContainsFunc_int_impl_order_c1
  cases h : (PkS.un Sslices_ContainsFunc_int_impl_order_c1 p) with
  | none => rfl
  | some d =>
    obtain ⟨x0, x1, u⟩ := (d : (List Int) × (List Bool) × Unit)
    have hp := PkS.un_pack h
    subst hp
    exact (eslices_ContainsFunc_int_impl_order_c1 @slices_IndexFunc_int_impl_order_c1 n x0 x1 k).symm

/-! ### loop.example/g00269/impl.order -/
theorem cimpl_order (n : Nat) : AllOk Try.prog [(120, Kslices_ContainsFunc_int_impl_order_c1 @slices_ContainsFunc_int_impl_order_c1 n)] := ⟨okslices_ContainsFunc_int_impl_order_c1 n, trivial⟩
@[reducible] def Simpl_order_l4 : PkS := ⟨[.one (.ro (.pr (.int .i64) (.sl (.int .i64)))), .one (.whole (100000, 0)), .one (.box (100000, 2) 0), .one (.int .i64), .one (.ro (.pr (.int .i64) (.sl (.int .i64)))), .one (.int .i64), .one (.int .i64), .one (.dead)], [((100000, 0), .arr (.int .i64)), ((100000, 1), .arr .bool), ((100000, 2), .box [.whole (100000, 1)])]⟩
@[reducible] def Timpl_order_l4_0 : PkS := ⟨[.one (.ro (.pr (.int .i64) (.sl (.int .i64)))), .one (.whole (100000, 0)), .one (.box (100000, 2) 0), .one (.int .i64), .one (.dead)], [((100000, 0), .arr (.int .i64)), ((100000, 1), .arr .bool), ((100000, 2), .box [.whole (100000, 1)])]⟩
def Dimpl_order_l4 : LoopD := ⟨43, [0, 3, 4, 5, 12, 13, 14], [.one (.ro (.pr (.int .i64) (.sl (.int .i64)))), .one (.own (.int .i64)), .box [(.own .bool)], .one .any, .one (.ro (.pr (.int .i64) (.sl (.int .i64)))), .one .any, .one .any, .skip], fun x => match x with
  | .exit 2 => some ([0, 3, 4, 5], [.one (.ro (.pr (.int .i64) (.sl (.int .i64)))), .one (.own (.int .i64)), .box [(.own .bool)], .one .any, .skip])
  | _ => none⟩
def Pimpl_order_l4 (g : ∀ {R : Type}, Nat → (List (Int × List Int)) → Int → (List (Int × List Int)) → Int → Int → (List Int) → (List Bool) → ((List (Int × List Int)) → Int → (List Int) → (List Bool) → Option R) → Option R) (n : Nat) : LPs := fun R q kk => match (PkS.un Simpl_order_l4 q : Option ((List (Int × List Int)) × Int × (List (Int × List Int)) × Int × Int × (List Int) × (List Bool) × Unit)) with
  | some (y4_0, y4_1, y4_2, y4_3, y4_4, y4_5, y4_6, _) => g n y4_0 y4_1 y4_2 y4_3 y4_4 y4_5 y4_6 (fun r0 r1 r2 r3 => kk (.exit 2) (PkS.pack Timpl_order_l4_0 (r0, r1, r2, r3, ())))
  | none => none
theorem eimpl_order_l4 (slices_ContainsFunc_int_impl_order_c1 : ∀ {R : Type}, Nat → (List Int) → (List Bool) → (Bool → (List Bool) → Option R) → Option R) (impl_order_l4 : ∀ {R : Type}, Nat → (List (Int × List Int)) → Int → (List (Int × List Int)) → Int → Int → (List Int) → (List Bool) → ((List (Int × List Int)) → Int → (List Int) → (List Bool) → Option R) → Option R) {R : Type} (n : Nat) (y4_0 : List (Int × List Int)) (y4_1 : Int) (y4_2 : List (Int × List Int)) (y4_3 : Int) (y4_4 : Int) (y4_5 : List Int) (y4_6 : List Bool) (kk : Ex → Pk → Option R) : Dimpl_order_l4.step tt sig (mkK [(120, Kslices_ContainsFunc_int_impl_order_c1 @slices_ContainsFunc_int_impl_order_c1 n)] R) (mkL (mkK [(120, Kslices_ContainsFunc_int_impl_order_c1 @slices_ContainsFunc_int_impl_order_c1 n)]) [] R) (loopIn 4 (bodyOf Try.f94)) (fun q' => Pimpl_order_l4 @impl_order_l4 n R q' kk) (PkS.pack Simpl_order_l4 (y4_0, y4_1, y4_2, y4_3, y4_4, y4_5, y4_6, ())) kk = (fun (kexit2 : (List (Int × List Int)) → Int → (List Int) → (List Bool) → Option R) => (bif (decide (y4_4 < y4_3)) then (bif decide (0 ≤ y4_4) then (bif decide (y4_4 < (y4_2.length : Int)) then (bif decide (0 ≤ y4_4) then (bif decide (y4_4 < (y4_6.length : Int)) then (bif (!(y4_6.getD (Int.toNat y4_4) false)) then (slices_ContainsFunc_int_impl_order_c1 n ((y4_2.getD (Int.toNat y4_4) (0, [])).2) y4_6 fun r1 r2 => (bif (!r1) then kexit2 y4_0 y4_4 y4_5 r2 else impl_order_l4 n y4_0 y4_1 y4_2 y4_3 (IntKind.wrap .i64 (y4_4 + 1)) y4_5 r2 kexit2)) else impl_order_l4 n y4_0 y4_1 y4_2 y4_3 (IntKind.wrap .i64 (y4_4 + 1)) y4_5 y4_6 kexit2) else none) else none) else none) else none) else kexit2 y4_0 y4_1 y4_5 y4_6)) (fun r0 r1 r2 r3 => kk (.exit 2) (PkS.pack Timpl_order_l4_0 (r0, r1, r2, r3, ()))) := by kernel_rfl
theorem leimpl_order_l4 : LoopEq tt sig (fun n => mkK [(120, Kslices_ContainsFunc_int_impl_order_c1 @slices_ContainsFunc_int_impl_order_c1 n)]) (fun n => mkL (mkK [(120, Kslices_ContainsFunc_int_impl_order_c1 @slices_ContainsFunc_int_impl_order_c1 n)]) []) Dimpl_order_l4 Simpl_order_l4 (loopIn 4 (bodyOf Try.f94)) (Pimpl_order_l4 @impl_order_l4) where
  zero R q kk := by unfold Pimpl_order_l4; cases (PkS.un Simpl_order_l4 q) <;> rfl
  succ n R q kk := by
    unfold Pimpl_order_l4
    cases h : (PkS.un Simpl_order_l4 q) with
    | none => rfl
    | some d =>
      obtain ⟨y4_0, y4_1, y4_2, y4_3, y4_4, y4_5, y4_6, u⟩ := (d : (List (Int × List Int)) × Int × (List (Int × List Int)) × Int × Int × (List Int) × (List Bool) × Unit)
      have hp := PkS.un_pack h
      subst hp
      exact (eimpl_order_l4 @slices_ContainsFunc_int_impl_order_c1 @impl_order_l4 n y4_0 y4_1 y4_2 y4_3 y4_4 y4_5 y4_6 kk).symm
theorem nlimpl_order_l4 : ∀ n, NatLP (Pimpl_order_l4 @impl_order_l4 n) := leimpl_order_l4.nat (fun n => mkK_nat (cimpl_order n)) fun n => mkL_nat (mkK_nat (cimpl_order n)) (l := []) trivial
theorem inimpl_order_l4 (n : Nat) (R : Type) : LoopsOk Try.prog (mkL (mkK [(120, Kslices_ContainsFunc_int_impl_order_c1 @slices_ContainsFunc_int_impl_order_c1 n)]) [] R) (loopIn 4 (bodyOf Try.f94)) := .eq (l := []) (by kernel_rfl) trivial
theorem lkimpl_order_l4 (n : Nat) (R : Type) (L0 : LK R) (h0 : ∀ id, firstRegion (loopIn 4 (bodyOf Try.f94)) = some id → L0 id = Dimpl_order_l4.oracle (mkK [(120, Kslices_ContainsFunc_int_impl_order_c1 @slices_ContainsFunc_int_impl_order_c1 n)] R) (Pimpl_order_l4 @impl_order_l4 n R)) : LoopOk Try.prog L0 (loopIn 4 (bodyOf Try.f94)) :=
  leimpl_order_l4.ok mixed ttok (fun n => mkK_nat (cimpl_order n)) (fun n => mkK_ok (cimpl_order n)) (fun n => inimpl_order_l4 n R) (mkK_nat (cimpl_order n)) h0
@[reducible] def Simpl_order_l2 : PkS := ⟨[.one (.ro (.pr (.int .i64) (.sl (.int .i64)))), .one (.whole (100000, 0)), .one (.box (100000, 2) 0), .one (.dead)], [((100000, 0), .arr (.int .i64)), ((100000, 1), .arr .bool), ((100000, 2), .box [.whole (100000, 1)])]⟩
@[reducible] def Timpl_order_l2_0 : PkS := ⟨[.one (.whole (100000, 0)), .one (.dead)], [((100000, 0), .arr (.int .i64))]⟩
def Dimpl_order_l2 : LoopD := ⟨43, [0, 3, 4], [.one (.ro (.pr (.int .i64) (.sl (.int .i64)))), .one (.own (.int .i64)), .box [(.own .bool)], .skip], fun x => match x with
  | .ret => some ([2], [.one (.own (.int .i64)), .skip])
  | _ => none⟩
def Pimpl_order_l2 (g : ∀ {R : Type}, Nat → (List (Int × List Int)) → (List Int) → (List Bool) → ((List Int) → Option R) → Option R) (n : Nat) : LPs := fun R q kk => match (PkS.un Simpl_order_l2 q : Option ((List (Int × List Int)) × (List Int) × (List Bool) × Unit)) with
  | some (y2_0, y2_1, y2_2, _) => g n y2_0 y2_1 y2_2 (fun r0 => kk .ret (PkS.pack Timpl_order_l2_0 (r0, ())))
  | none => none
theorem eimpl_order_l2 (slices_ContainsFunc_int_impl_order_c1 : ∀ {R : Type}, Nat → (List Int) → (List Bool) → (Bool → (List Bool) → Option R) → Option R) (impl_order_l4 : ∀ {R : Type}, Nat → (List (Int × List Int)) → Int → (List (Int × List Int)) → Int → Int → (List Int) → (List Bool) → ((List (Int × List Int)) → Int → (List Int) → (List Bool) → Option R) → Option R) (impl_order_l2 : ∀ {R : Type}, Nat → (List (Int × List Int)) → (List Int) → (List Bool) → ((List Int) → Option R) → Option R) {R : Type} (n : Nat) (y2_0 : List (Int × List Int)) (y2_1 : List Int) (y2_2 : List Bool) (kk : Ex → Pk → Option R) : Dimpl_order_l2.step tt sig (mkK [(120, Kslices_ContainsFunc_int_impl_order_c1 @slices_ContainsFunc_int_impl_order_c1 n)] R) (mkL (mkK [(120, Kslices_ContainsFunc_int_impl_order_c1 @slices_ContainsFunc_int_impl_order_c1 n)]) [(4, Dimpl_order_l4, Pimpl_order_l4 @impl_order_l4 n)] R) (loopIn 2 (bodyOf Try.f94)) (fun q' => Pimpl_order_l2 @impl_order_l2 n R q' kk) (PkS.pack Simpl_order_l2 (y2_0, y2_1, y2_2, ())) kk = (fun (kret : (List Int) → Option R) => (impl_order_l4 n y2_0 (-1) y2_0 (y2_0.length : Int) 0 y2_1 y2_2 (fun r3 r4 r5 r6 => (bif (decide (r4 < 0)) then kret r5 else (bif decide (0 ≤ r4) then (bif decide (r4 < (r6.length : Int)) then (bif decide (r5.length + [r4].length ≤ LIM) then impl_order_l2 n r3 (r5 ++ [r4]) (r6.set (Int.toNat r4) true) kret else none) else none) else none))))) (fun r0 => kk .ret (PkS.pack Timpl_order_l2_0 (r0, ()))) := by kernel_rfl
theorem leimpl_order_l2 : LoopEq tt sig (fun n => mkK [(120, Kslices_ContainsFunc_int_impl_order_c1 @slices_ContainsFunc_int_impl_order_c1 n)]) (fun n => mkL (mkK [(120, Kslices_ContainsFunc_int_impl_order_c1 @slices_ContainsFunc_int_impl_order_c1 n)]) [(4, Dimpl_order_l4, Pimpl_order_l4 @impl_order_l4 n)]) Dimpl_order_l2 Simpl_order_l2 (loopIn 2 (bodyOf Try.f94)) (Pimpl_order_l2 @impl_order_l2) where
  zero R q kk := by unfold Pimpl_order_l2; cases (PkS.un Simpl_order_l2 q) <;> rfl
  succ n R q kk := by
    unfold Pimpl_order_l2
    cases h : (PkS.un Simpl_order_l2 q) with
    | none => rfl
    | some d =>
      obtain ⟨y2_0, y2_1, y2_2, u⟩ := (d : (List (Int × List Int)) × (List Int) × (List Bool) × Unit)
      have hp := PkS.un_pack h
      subst hp
      exact (eimpl_order_l2 @slices_ContainsFunc_int_impl_order_c1 @impl_order_l4 @impl_order_l2 n y2_0 y2_1 y2_2 kk).symm
theorem nlimpl_order_l2 : ∀ n, NatLP (Pimpl_order_l2 @impl_order_l2 n) := leimpl_order_l2.nat (fun n => mkK_nat (cimpl_order n)) fun n => mkL_nat (mkK_nat (cimpl_order n)) (l := [(4, Dimpl_order_l4, Pimpl_order_l4 @impl_order_l4 n)]) ⟨nlimpl_order_l4 n, trivial⟩
theorem inimpl_order_l2 (n : Nat) (R : Type) : LoopsOk Try.prog (mkL (mkK [(120, Kslices_ContainsFunc_int_impl_order_c1 @slices_ContainsFunc_int_impl_order_c1 n)]) [(4, Dimpl_order_l4, Pimpl_order_l4 @impl_order_l4 n)] R) (loopIn 2 (bodyOf Try.f94)) := .eq (l := [.lo (loopIn 4 (bodyOf Try.f94))]) (by kernel_rfl) ⟨(lkimpl_order_l4 n R _ (at_id (i := 4) (by kernel_rfl) rfl)), trivial⟩
theorem lkimpl_order_l2 (n : Nat) (R : Type) (L0 : LK R) (h0 : ∀ id, firstRegion (loopIn 2 (bodyOf Try.f94)) = some id → L0 id = Dimpl_order_l2.oracle (mkK [(120, Kslices_ContainsFunc_int_impl_order_c1 @slices_ContainsFunc_int_impl_order_c1 n)] R) (Pimpl_order_l2 @impl_order_l2 n R)) : LoopOk Try.prog L0 (loopIn 2 (bodyOf Try.f94)) :=
  leimpl_order_l2.ok mixed ttok (fun n => mkK_nat (cimpl_order n)) (fun n => mkK_ok (cimpl_order n)) (fun n => inimpl_order_l2 n R) (mkK_nat (cimpl_order n)) h0
@[reducible] def Simpl_order : PkS := ⟨[.one (.ro (.pr (.int .i64) (.sl (.int .i64))))], []⟩
@[reducible] def Timpl_order : PkS := ⟨[.one (.whole (300000, 0)), .one (.dead)], [((300000, 0), .arr (.int .i64))]⟩
def Himpl_order : List Sh := [.one (.own (.int .i64)), .skip]
def Kimpl_order (g : ∀ {R : Type}, Nat → (List (Int × List Int)) → ((List Int) → Option R) → Option R) (n : Nat) : KPs := fun R p k => match (PkS.un Simpl_order p : Option ((List (Int × List Int)) × Unit)) with
  | some (x0, _) => g n x0 (fun r0 => k (PkS.pack Timpl_order (r0, ())))
  | none => none
theorem eimpl_order (slices_ContainsFunc_int_impl_order_c1 : ∀ {R : Type}, Nat → (List Int) → (List Bool) → (Bool → (List Bool) → Option R) → Option R) (impl_order_l4 : ∀ {R : Type}, Nat → (List (Int × List Int)) → Int → (List (Int × List Int)) → Int → Int → (List Int) → (List Bool) → ((List (Int × List Int)) → Int → (List Int) → (List Bool) → Option R) → Option R) (impl_order_l2 : ∀ {R : Type}, Nat → (List (Int × List Int)) → (List Int) → (List Bool) → ((List Int) → Option R) → Option R) {R : Type} (n : Nat) (x0 : List (Int × List Int)) (k : Pk → Option R) : evF tt sig (mkK [(120, Kslices_ContainsFunc_int_impl_order_c1 @slices_ContainsFunc_int_impl_order_c1 n)] R) (mkL (mkK [(120, Kslices_ContainsFunc_int_impl_order_c1 @slices_ContainsFunc_int_impl_order_c1 n)]) [(4, Dimpl_order_l4, Pimpl_order_l4 @impl_order_l4 n), (2, Dimpl_order_l2, Pimpl_order_l2 @impl_order_l2 n)] R) Try.f94 Himpl_order (PkS.pack Simpl_order (x0, ())) k = (fun (k : (List Int) → Option R) => (bif decide (0 ≤ (x0.length : Int)) then (bif decide ((x0.length : Int) ≤ (x0.length : Int)) then (bif decide ((x0.length : Int) ≤ 1099511627776) then (impl_order_l2 n x0 ([] : List Int) (List.replicate (Int.toNat (x0.length : Int)) false) (fun r7 => k r7)) else none) else none) else none)) (fun r0 => k (PkS.pack Timpl_order (r0, ()))) := by kernel_rfl
theorem okimpl_order (n : Nat) : FnOk Try.prog 94 (Kimpl_order @impl_order n) := by
  refine fn_ok (sig := sig) mixed ttok (mkK_nat (cimpl_order n)) (mkK_ok (cimpl_order n)) (mkL_nat (mkK_nat (cimpl_order n)) (l := [(4, Dimpl_order_l4, Pimpl_order_l4 @impl_order_l4 n), (2, Dimpl_order_l2, Pimpl_order_l2 @impl_order_l2 n)]) ⟨nlimpl_order_l4 n, ⟨nlimpl_order_l2 n, trivial⟩⟩) (fn := Try.f94) (c := bodyOf Try.f94) (by kernel_rfl) (by kernel_rfl) (by kernel_rfl) (.eq (l := [.lo (loopIn 2 (bodyOf Try.f94))]) (by kernel_rfl) ⟨(lkimpl_order_l2 n _ _ (at_id (i := 2) (by kernel_rfl) rfl)), trivial⟩) (shs := Himpl_order) (S := Simpl_order) (h1 := by kernel_rfl) fun R p k => ?_
  unfold Kimpl_order
  cases h : (PkS.un Simpl_order p) with
  | none => rfl
  | some d =>
    obtain ⟨x0, u⟩ := (d : (List (Int × List Int)) × Unit)
    have hp := PkS.un_pack h
    subst hp
    exact (eimpl_order @slices_ContainsFunc_int_impl_order_c1 @impl_order_l4 @impl_order_l2 n x0 k).symm

/-! ### loop.example/g00269/impl.GoodPlan -/
theorem cimpl_GoodPlan (n : Nat) : AllOk Try.prog [(80, Kimpl_in @impl_in n), (106, Kimpl_rising @impl_rising n), (103, Kslices_Contains_int @slices_Contains_int n), (94, Kimpl_order @impl_order n)] := ⟨okimpl_in n, ⟨okimpl_rising n, ⟨okslices_Contains_int n, ⟨okimpl_order n, trivial⟩⟩⟩⟩
@[reducible] def Simpl_GoodPlan_l4 : PkS := ⟨[.one (.ro (.pr (.int .i64) (.sl (.int .i64)))), .one (.ro (.pr (.int .i64) (.sl (.int .i64)))), .one (.int .i64), .one (.int .i64), .one (.dead)], []⟩
@[reducible] def Timpl_GoodPlan_l4_0 : PkS := ⟨[.one (.bool), .one (.dead)], []⟩
@[reducible] def Timpl_GoodPlan_l4_1 : PkS := ⟨[.one (.ro (.pr (.int .i64) (.sl (.int .i64)))), .one (.dead)], []⟩
def Dimpl_GoodPlan_l4 : LoopD := ⟨40, [0, 8, 9, 10], [.one (.ro (.pr (.int .i64) (.sl (.int .i64)))), .one (.ro (.pr (.int .i64) (.sl (.int .i64)))), .one .any, .one .any, .skip], fun x => match x with
  | .ret => some ([2], [.one .any, .skip])
  | .exit 0 => some ([0], [.one (.ro (.pr (.int .i64) (.sl (.int .i64)))), .skip])
  | _ => none⟩
def Pimpl_GoodPlan_l4 (g : ∀ {R : Type}, Nat → (List (Int × List Int)) → (List (Int × List Int)) → Int → Int → (Bool → Option R) → ((List (Int × List Int)) → Option R) → Option R) (n : Nat) : LPs := fun R q kk => match (PkS.un Simpl_GoodPlan_l4 q : Option ((List (Int × List Int)) × (List (Int × List Int)) × Int × Int × Unit)) with
  | some (y4_0, y4_1, y4_2, y4_3, _) => g n y4_0 y4_1 y4_2 y4_3 (fun r0 => kk .ret (PkS.pack Timpl_GoodPlan_l4_0 (r0, ()))) (fun r0 => kk (.exit 0) (PkS.pack Timpl_GoodPlan_l4_1 (r0, ())))
  | none => none
theorem eimpl_GoodPlan_l4 (impl_in : ∀ {R : Type}, Nat → Int → Int → Int → (Bool → Option R) → Option R) (impl_rising : ∀ {R : Type}, Nat → (List Int) → Int → (Bool → Option R) → Option R) (slices_Contains_int : ∀ {R : Type}, Nat → (List Int) → Int → (Bool → Option R) → Option R) (impl_order : ∀ {R : Type}, Nat → (List (Int × List Int)) → ((List Int) → Option R) → Option R) (impl_GoodPlan_l4 : ∀ {R : Type}, Nat → (List (Int × List Int)) → (List (Int × List Int)) → Int → Int → (Bool → Option R) → ((List (Int × List Int)) → Option R) → Option R) {R : Type} (n : Nat) (y4_0 : List (Int × List Int)) (y4_1 : List (Int × List Int)) (y4_2 : Int) (y4_3 : Int) (kk : Ex → Pk → Option R) : Dimpl_GoodPlan_l4.step tt sig (mkK [(80, Kimpl_in @impl_in n), (106, Kimpl_rising @impl_rising n), (103, Kslices_Contains_int @slices_Contains_int n), (94, Kimpl_order @impl_order n)] R) (mkL (mkK [(80, Kimpl_in @impl_in n), (106, Kimpl_rising @impl_rising n), (103, Kslices_Contains_int @slices_Contains_int n), (94, Kimpl_order @impl_order n)]) [] R) (loopIn 4 (bodyOf Try.f49)) (fun q' => Pimpl_GoodPlan_l4 @impl_GoodPlan_l4 n R q' kk) (PkS.pack Simpl_GoodPlan_l4 (y4_0, y4_1, y4_2, y4_3, ())) kk = (fun (kret : Bool → Option R) (kexit0 : (List (Int × List Int)) → Option R) => (bif (decide (y4_3 < y4_2)) then (bif decide (0 ≤ y4_3) then (bif decide (y4_3 < (y4_1.length : Int)) then (impl_in n ((y4_1.getD (Int.toNat y4_3) (0, [])).1) 1 100 fun r1 => (bif (!r1) then kret false else (impl_rising n ((y4_1.getD (Int.toNat y4_3) (0, [])).2) (y4_0.length : Int) fun r2 => (bif (!r2) then kret false else (slices_Contains_int n ((y4_1.getD (Int.toNat y4_3) (0, [])).2) y4_3 fun r3 => (bif r3 then kret false else impl_GoodPlan_l4 n y4_0 y4_1 y4_2 (IntKind.wrap .i64 (y4_3 + 1)) kret kexit0)))))) else none) else none) else kexit0 y4_0)) (fun r0 => kk .ret (PkS.pack Timpl_GoodPlan_l4_0 (r0, ()))) (fun r0 => kk (.exit 0) (PkS.pack Timpl_GoodPlan_l4_1 (r0, ()))) := by kernel_rfl
theorem leimpl_GoodPlan_l4 : LoopEq tt sig (fun n => mkK [(80, Kimpl_in @impl_in n), (106, Kimpl_rising @impl_rising n), (103, Kslices_Contains_int @slices_Contains_int n), (94, Kimpl_order @impl_order n)]) (fun n => mkL (mkK [(80, Kimpl_in @impl_in n), (106, Kimpl_rising @impl_rising n), (103, Kslices_Contains_int @slices_Contains_int n), (94, Kimpl_order @impl_order n)]) []) Dimpl_GoodPlan_l4 Simpl_GoodPlan_l4 (loopIn 4 (bodyOf Try.f49)) (Pimpl_GoodPlan_l4 @impl_GoodPlan_l4) where
  zero R q kk := by unfold Pimpl_GoodPlan_l4; cases (PkS.un Simpl_GoodPlan_l4 q) <;> rfl
  succ n R q kk := by
    unfold Pimpl_GoodPlan_l4
    cases h : (PkS.un Simpl_GoodPlan_l4 q) with
    | none => rfl
    | some d =>
      obtain ⟨y4_0, y4_1, y4_2, y4_3, u⟩ := (d : (List (Int × List Int)) × (List (Int × List Int)) × Int × Int × Unit)
      have hp := PkS.un_pack h
      subst hp
      exact (eimpl_GoodPlan_l4 @impl_in @impl_rising @slices_Contains_int @impl_order @impl_GoodPlan_l4 n y4_0 y4_1 y4_2 y4_3 kk).symm
theorem nlimpl_GoodPlan_l4 : ∀ n, NatLP (Pimpl_GoodPlan_l4 @impl_GoodPlan_l4 n) := leimpl_GoodPlan_l4.nat (fun n => mkK_nat (cimpl_GoodPlan n)) fun n => mkL_nat (mkK_nat (cimpl_GoodPlan n)) (l := []) trivial
theorem inimpl_GoodPlan_l4 (n : Nat) (R : Type) : LoopsOk Try.prog (mkL (mkK [(80, Kimpl_in @impl_in n), (106, Kimpl_rising @impl_rising n), (103, Kslices_Contains_int @slices_Contains_int n), (94, Kimpl_order @impl_order n)]) [] R) (loopIn 4 (bodyOf Try.f49)) := .eq (l := []) (by kernel_rfl) trivial
theorem lkimpl_GoodPlan_l4 (n : Nat) (R : Type) (L0 : LK R) (h0 : ∀ id, firstRegion (loopIn 4 (bodyOf Try.f49)) = some id → L0 id = Dimpl_GoodPlan_l4.oracle (mkK [(80, Kimpl_in @impl_in n), (106, Kimpl_rising @impl_rising n), (103, Kslices_Contains_int @slices_Contains_int n), (94, Kimpl_order @impl_order n)] R) (Pimpl_GoodPlan_l4 @impl_GoodPlan_l4 n R)) : LoopOk Try.prog L0 (loopIn 4 (bodyOf Try.f49)) :=
  leimpl_GoodPlan_l4.ok mixed ttok (fun n => mkK_nat (cimpl_GoodPlan n)) (fun n => mkK_ok (cimpl_GoodPlan n)) (fun n => inimpl_GoodPlan_l4 n R) (mkK_nat (cimpl_GoodPlan n)) h0
@[reducible] def Simpl_GoodPlan : PkS := ⟨[.one (.ro (.pr (.int .i64) (.sl (.int .i64))))], []⟩
@[reducible] def Timpl_GoodPlan : PkS := ⟨[.one (.bool), .one (.dead)], []⟩
def Himpl_GoodPlan : List Sh := [.one .any, .skip]
def Kimpl_GoodPlan (g : ∀ {R : Type}, Nat → (List (Int × List Int)) → (Bool → Option R) → Option R) (n : Nat) : KPs := fun R p k => match (PkS.un Simpl_GoodPlan p : Option ((List (Int × List Int)) × Unit)) with
  | some (x0, _) => g n x0 (fun r0 => k (PkS.pack Timpl_GoodPlan (r0, ())))
  | none => none
theorem eimpl_GoodPlan (impl_in : ∀ {R : Type}, Nat → Int → Int → Int → (Bool → Option R) → Option R) (impl_rising : ∀ {R : Type}, Nat → (List Int) → Int → (Bool → Option R) → Option R) (slices_Contains_int : ∀ {R : Type}, Nat → (List Int) → Int → (Bool → Option R) → Option R) (impl_order : ∀ {R : Type}, Nat → (List (Int × List Int)) → ((List Int) → Option R) → Option R) (impl_GoodPlan_l4 : ∀ {R : Type}, Nat → (List (Int × List Int)) → (List (Int × List Int)) → Int → Int → (Bool → Option R) → ((List (Int × List Int)) → Option R) → Option R) {R : Type} (n : Nat) (x0 : List (Int × List Int)) (k : Pk → Option R) : evF tt sig (mkK [(80, Kimpl_in @impl_in n), (106, Kimpl_rising @impl_rising n), (103, Kslices_Contains_int @slices_Contains_int n), (94, Kimpl_order @impl_order n)] R) (mkL (mkK [(80, Kimpl_in @impl_in n), (106, Kimpl_rising @impl_rising n), (103, Kslices_Contains_int @slices_Contains_int n), (94, Kimpl_order @impl_order n)]) [(4, Dimpl_GoodPlan_l4, Pimpl_GoodPlan_l4 @impl_GoodPlan_l4 n)] R) Try.f49 Himpl_GoodPlan (PkS.pack Simpl_GoodPlan (x0, ())) k = (fun (k : Bool → Option R) => (bif (decide ((x0.length : Int) > 30)) then k false else (impl_GoodPlan_l4 n x0 x0 (x0.length : Int) 0 (fun r4 => k r4) (fun r5 => (impl_order n r5 fun r6 => k ((r6.length : Int) == (r5.length : Int))))))) (fun r0 => k (PkS.pack Timpl_GoodPlan (r0, ()))) := by kernel_rfl
theorem okimpl_GoodPlan (n : Nat) : FnOk Try.prog 49 (Kimpl_GoodPlan @impl_GoodPlan n) := by
  refine fn_ok (sig := sig) mixed ttok (mkK_nat (cimpl_GoodPlan n)) (mkK_ok (cimpl_GoodPlan n)) (mkL_nat (mkK_nat (cimpl_GoodPlan n)) (l := [(4, Dimpl_GoodPlan_l4, Pimpl_GoodPlan_l4 @impl_GoodPlan_l4 n)]) ⟨nlimpl_GoodPlan_l4 n, trivial⟩) (fn := Try.f49) (c := bodyOf Try.f49) (by kernel_rfl) (by kernel_rfl) (by kernel_rfl) (.eq (l := [.lo (loopIn 4 (bodyOf Try.f49))]) (by kernel_rfl) ⟨(lkimpl_GoodPlan_l4 n _ _ (at_id (i := 4) (by kernel_rfl) rfl)), trivial⟩) (shs := Himpl_GoodPlan) (S := Simpl_GoodPlan) (h1 := by kernel_rfl) fun R p k => ?_
  unfold Kimpl_GoodPlan
  cases h : (PkS.un Simpl_GoodPlan p) with
  | none => rfl
  | some d =>
    obtain ⟨x0, u⟩ := (d : (List (Int × List Int)) × Unit)
    have hp := PkS.un_pack h
    subst hp
    exact (eimpl_GoodPlan @impl_in @impl_rising @slices_Contains_int @impl_order @impl_GoodPlan_l4 n x0 k).symm

/-! ### loop.example/g00269/impl.OrderOf -/
theorem cimpl_OrderOf (n : Nat) : AllOk Try.prog [(49, Kimpl_GoodPlan @impl_GoodPlan n), (94, Kimpl_order @impl_order n)] := ⟨okimpl_GoodPlan n, ⟨okimpl_order n, trivial⟩⟩
@[reducible] def Simpl_OrderOf : PkS := ⟨[.one (.ro (.pr (.int .i64) (.sl (.int .i64))))], []⟩
@[reducible] def Timpl_OrderOf : PkS := ⟨[.tup [(false, [.whole (300000, 0)]), (false, [.bool])], .one (.dead)], [((300000, 0), .arr (.int .i64))]⟩
def Himpl_OrderOf : List Sh := [.tup [(false, [(.own (.int .i64))]), (false, [.any])], .skip]
def Kimpl_OrderOf (g : ∀ {R : Type}, Nat → (List (Int × List Int)) → (Bool → (List Int) → Option R) → Option R) (n : Nat) : KPs := fun R p k => match (PkS.un Simpl_OrderOf p : Option ((List (Int × List Int)) × Unit)) with
  | some (x0, _) => g n x0 (fun r0 r1 => k (PkS.pack Timpl_OrderOf (r0, r1, ())))
  | none => none
theorem eimpl_OrderOf (impl_GoodPlan : ∀ {R : Type}, Nat → (List (Int × List Int)) → (Bool → Option R) → Option R) (impl_order : ∀ {R : Type}, Nat → (List (Int × List Int)) → ((List Int) → Option R) → Option R) {R : Type} (n : Nat) (x0 : List (Int × List Int)) (k : Pk → Option R) : evF tt sig (mkK [(49, Kimpl_GoodPlan @impl_GoodPlan n), (94, Kimpl_order @impl_order n)] R) (mkL (mkK [(49, Kimpl_GoodPlan @impl_GoodPlan n), (94, Kimpl_order @impl_order n)]) [] R) Try.f36 Himpl_OrderOf (PkS.pack Simpl_OrderOf (x0, ())) k = (fun (k : Bool → (List Int) → Option R) => (impl_GoodPlan n x0 fun r1 => (bif (!r1) then k false ([] : List Int) else (impl_order n x0 fun r2 => k true r2)))) (fun r0 r1 => k (PkS.pack Timpl_OrderOf (r0, r1, ()))) := by kernel_rfl
theorem okimpl_OrderOf (n : Nat) : FnOk Try.prog 36 (Kimpl_OrderOf @impl_OrderOf n) := by
  refine fn_ok (sig := sig) mixed ttok (mkK_nat (cimpl_OrderOf n)) (mkK_ok (cimpl_OrderOf n)) (mkL_nat (mkK_nat (cimpl_OrderOf n)) (l := []) trivial) (fn := Try.f36) (c := bodyOf Try.f36) (by kernel_rfl) (by kernel_rfl) (by kernel_rfl) (.eq (l := []) (by kernel_rfl) trivial) (shs := Himpl_OrderOf) (S := Simpl_OrderOf) (h1 := by kernel_rfl) fun R p k => ?_
  unfold Kimpl_OrderOf
  cases h : (PkS.un Simpl_OrderOf p) with
  | none => rfl
  | some d =>
    obtain ⟨x0, u⟩ := (d : (List (Int × List Int)) × Unit)
    have hp := PkS.un_pack h
    subst hp
    exact (eimpl_OrderOf @impl_GoodPlan @impl_order n x0 k).symm

/-! ### loop.example/g00269/spec.l1In -/
theorem cspec_l1In (n : Nat) : AllOk Try.prog [] := trivial
@[reducible] def Sspec_l1In : PkS := ⟨[.one (.int .i64), .one (.int .i64), .one (.int .i64)], []⟩
@[reducible] def Tspec_l1In : PkS := ⟨[.one (.bool), .one (.dead), .one (.dead), .one (.dead)], []⟩
def Hspec_l1In : List Sh := [.one .any, .skip, .skip, .skip]
def Kspec_l1In (g : ∀ {R : Type}, Nat → Int → Int → Int → (Bool → Option R) → Option R) (n : Nat) : KPs := fun R p k => match (PkS.un Sspec_l1In p : Option (Int × Int × Int × Unit)) with
  | some (x0, x1, x2, _) => g n x0 x1 x2 (fun r0 => k (PkS.pack Tspec_l1In (r0, ())))
  | none => none
theorem espec_l1In  {R : Type} (n : Nat) (x0 : Int) (x1 : Int) (x2 : Int) (k : Pk → Option R) : evF tt sig (mkK [] R) (mkL (mkK []) [] R) Try.f72 Hspec_l1In (PkS.pack Sspec_l1In (x0, x1, x2, ())) k = (fun (k : Bool → Option R) => (bif (decide (x0 ≥ x1)) then k (decide (x0 ≤ x2)) else k false)) (fun r0 => k (PkS.pack Tspec_l1In (r0, ()))) := by kernel_rfl
theorem okspec_l1In (n : Nat) : FnOk Try.prog 72 (Kspec_l1In @spec_l1In n) := by
  refine fn_ok (sig := sig) mixed ttok (mkK_nat (cspec_l1In n)) (mkK_ok (cspec_l1In n)) (mkL_nat (mkK_nat (cspec_l1In n)) (l := []) trivial) (fn := Try.f72) (c := bodyOf Try.f72) (by kernel_rfl) (by kernel_rfl) (by kernel_rfl) (.eq (l := []) (by kernel_rfl) trivial) (shs := Hspec_l1In) (S := Sspec_l1In) (h1 := by kernel_rfl) fun R p k => ?_
  unfold Kspec_l1In
  cases h : (PkS.un Sspec_l1In p) with
  | none => rfl
  | some d =>
    obtain ⟨x0, x1, x2, u⟩ := (d : Int × Int × Int × Unit)
    have hp := PkS.un_pack h
    subst hp
    exact (espec_l1In  n x0 x1 x2 k).symm

/-! ### loop.example/g00269/spec.l3List -/
theorem cspec_l3List (n : Nat) : AllOk Try.prog [(72, Kspec_l1In @spec_l1In n)] := ⟨okspec_l1In n, trivial⟩
@[reducible] def Sspec_l3List_l2 : PkS := ⟨[.one (.ro (.int .i64)), .one (.int .i64), .one (.ro (.int .i64)), .one (.int .i64), .one (.int .i64), .one (.dead), .one (.dead)], []⟩
@[reducible] def Tspec_l3List_l2_0 : PkS := ⟨[.one (.bool), .one (.dead), .one (.dead)], []⟩
@[reducible] def Tspec_l3List_l2_1 : PkS := ⟨[.one (.dead), .one (.dead)], []⟩
def Dspec_l3List_l2 : LoopD := ⟨33, [0, 1, 7, 8, 9], [.one (.ro (.int .i64)), .one .any, .one (.ro (.int .i64)), .one .any, .one .any, .skip, .skip], fun x => match x with
  | .ret => some ([4], [.one .any, .skip, .skip])
  | .exit 0 => some ([], [.skip, .skip])
  | _ => none⟩
def Pspec_l3List_l2 (g : ∀ {R : Type}, Nat → (List Int) → Int → (List Int) → Int → Int → (Bool → Option R) → (Option R) → Option R) (n : Nat) : LPs := fun R q kk => match (PkS.un Sspec_l3List_l2 q : Option ((List Int) × Int × (List Int) × Int × Int × Unit)) with
  | some (y2_0, y2_1, y2_2, y2_3, y2_4, _) => g n y2_0 y2_1 y2_2 y2_3 y2_4 (fun r0 => kk .ret (PkS.pack Tspec_l3List_l2_0 (r0, ()))) (kk (.exit 0) (PkS.pack Tspec_l3List_l2_1 ()))
  | none => none
theorem espec_l3List_l2 (spec_l1In : ∀ {R : Type}, Nat → Int → Int → Int → (Bool → Option R) → Option R) (spec_l3List_l2 : ∀ {R : Type}, Nat → (List Int) → Int → (List Int) → Int → Int → (Bool → Option R) → (Option R) → Option R) {R : Type} (n : Nat) (y2_0 : List Int) (y2_1 : Int) (y2_2 : List Int) (y2_3 : Int) (y2_4 : Int) (kk : Ex → Pk → Option R) : Dspec_l3List_l2.step tt sig (mkK [(72, Kspec_l1In @spec_l1In n)] R) (mkL (mkK [(72, Kspec_l1In @spec_l1In n)]) [] R) (loopIn 2 (bodyOf Try.f119)) (fun q' => Pspec_l3List_l2 @spec_l3List_l2 n R q' kk) (PkS.pack Sspec_l3List_l2 (y2_0, y2_1, y2_2, y2_3, y2_4, ())) kk = (fun (kret : Bool → Option R) (kexit0 : Option R) => (bif (decide (y2_4 < y2_3)) then (bif decide (0 ≤ y2_4) then (bif decide (y2_4 < (y2_2.length : Int)) then (spec_l1In n (y2_2.getD (Int.toNat y2_4) 0) 0 (IntKind.wrap .i64 (y2_1 - 1)) fun r1 => (bif (!r1) then kret false else (bif (decide (y2_4 > 0)) then (bif decide (0 ≤ (IntKind.wrap .i64 (y2_4 - 1))) then (bif decide ((IntKind.wrap .i64 (y2_4 - 1)) < (y2_0.length : Int)) then (bif (decide ((y2_0.getD (Int.toNat (IntKind.wrap .i64 (y2_4 - 1))) 0) ≥ (y2_2.getD (Int.toNat y2_4) 0))) then kret false else spec_l3List_l2 n y2_0 y2_1 y2_2 y2_3 (IntKind.wrap .i64 (y2_4 + 1)) kret kexit0) else none) else none) else spec_l3List_l2 n y2_0 y2_1 y2_2 y2_3 (IntKind.wrap .i64 (y2_4 + 1)) kret kexit0))) else none) else none) else kexit0)) (fun r0 => kk .ret (PkS.pack Tspec_l3List_l2_0 (r0, ()))) (kk (.exit 0) (PkS.pack Tspec_l3List_l2_1 ())) := by kernel_rfl
theorem lespec_l3List_l2 : LoopEq tt sig (fun n => mkK [(72, Kspec_l1In @spec_l1In n)]) (fun n => mkL (mkK [(72, Kspec_l1In @spec_l1In n)]) []) Dspec_l3List_l2 Sspec_l3List_l2 (loopIn 2 (bodyOf Try.f119)) (Pspec_l3List_l2 @spec_l3List_l2) where
  zero R q kk := by unfold Pspec_l3List_l2; cases (PkS.un Sspec_l3List_l2 q) <;> rfl
  succ n R q kk := by
    unfold Pspec_l3List_l2
    cases h : (PkS.un Sspec_l3List_l2 q) with
    | none => rfl
    | some d =>
      obtain ⟨y2_0, y2_1, y2_2, y2_3, y2_4, u⟩ := (d : (List Int) × Int × (List Int) × Int × Int × Unit)
      have hp := PkS.un_pack h
      subst hp
      exact (espec_l3List_l2 @spec_l1In @spec_l3List_l2 n y2_0 y2_1 y2_2 y2_3 y2_4 kk).symm
theorem nlspec_l3List_l2 : ∀ n, NatLP (Pspec_l3List_l2 @spec_l3List_l2 n) := lespec_l3List_l2.nat (fun n => mkK_nat (cspec_l3List n)) fun n => mkL_nat (mkK_nat (cspec_l3List n)) (l := []) trivial
theorem inspec_l3List_l2 (n : Nat) (R : Type) : LoopsOk Try.prog (mkL (mkK [(72, Kspec_l1In @spec_l1In n)]) [] R) (loopIn 2 (bodyOf Try.f119)) := .eq (l := []) (by kernel_rfl) trivial
theorem lkspec_l3List_l2 (n : Nat) (R : Type) (L0 : LK R) (h0 : ∀ id, firstRegion (loopIn 2 (bodyOf Try.f119)) = some id → L0 id = Dspec_l3List_l2.oracle (mkK [(72, Kspec_l1In @spec_l1In n)] R) (Pspec_l3List_l2 @spec_l3List_l2 n R)) : LoopOk Try.prog L0 (loopIn 2 (bodyOf Try.f119)) :=
  lespec_l3List_l2.ok mixed ttok (fun n => mkK_nat (cspec_l3List n)) (fun n => mkK_ok (cspec_l3List n)) (fun n => inspec_l3List_l2 n R) (mkK_nat (cspec_l3List n)) h0
@[reducible] def Sspec_l3List : PkS := ⟨[.one (.ro (.int .i64)), .one (.int .i64)], []⟩
@[reducible] def Tspec_l3List : PkS := ⟨[.one (.bool), .one (.dead), .one (.dead)], []⟩
def Hspec_l3List : List Sh := [.one .any, .skip, .skip]
def Kspec_l3List (g : ∀ {R : Type}, Nat → (List Int) → Int → (Bool → Option R) → Option R) (n : Nat) : KPs := fun R p k => match (PkS.un Sspec_l3List p : Option ((List Int) × Int × Unit)) with
  | some (x0, x1, _) => g n x0 x1 (fun r0 => k (PkS.pack Tspec_l3List (r0, ())))
  | none => none
theorem espec_l3List (spec_l1In : ∀ {R : Type}, Nat → Int → Int → Int → (Bool → Option R) → Option R) (spec_l3List_l2 : ∀ {R : Type}, Nat → (List Int) → Int → (List Int) → Int → Int → (Bool → Option R) → (Option R) → Option R) {R : Type} (n : Nat) (x0 : List Int) (x1 : Int) (k : Pk → Option R) : evF tt sig (mkK [(72, Kspec_l1In @spec_l1In n)] R) (mkL (mkK [(72, Kspec_l1In @spec_l1In n)]) [(2, Dspec_l3List_l2, Pspec_l3List_l2 @spec_l3List_l2 n)] R) Try.f119 Hspec_l3List (PkS.pack Sspec_l3List (x0, x1, ())) k = (fun (k : Bool → Option R) => (spec_l3List_l2 n x0 x1 x0 (x0.length : Int) 0 (fun r2 => k r2) (k true))) (fun r0 => k (PkS.pack Tspec_l3List (r0, ()))) := by kernel_rfl
theorem okspec_l3List (n : Nat) : FnOk Try.prog 119 (Kspec_l3List @spec_l3List n) := by
  refine fn_ok (sig := sig) mixed ttok (mkK_nat (cspec_l3List n)) (mkK_ok (cspec_l3List n)) (mkL_nat (mkK_nat (cspec_l3List n)) (l := [(2, Dspec_l3List_l2, Pspec_l3List_l2 @spec_l3List_l2 n)]) ⟨nlspec_l3List_l2 n, trivial⟩) (fn := Try.f119) (c := bodyOf Try.f119) (by kernel_rfl) (by kernel_rfl) (by kernel_rfl) (.eq (l := [.lo (loopIn 2 (bodyOf Try.f119))]) (by kernel_rfl) ⟨(lkspec_l3List_l2 n _ _ (at_id (i := 2) (by kernel_rfl) rfl)), trivial⟩) (shs := Hspec_l3List) (S := Sspec_l3List) (h1 := by kernel_rfl) fun R p k => ?_
  unfold Kspec_l3List
  cases h : (PkS.un Sspec_l3List p) with
  | none => rfl
  | some d =>
    obtain ⟨x0, x1, u⟩ := (d : (List Int) × Int × Unit)
    have hp := PkS.un_pack h
    subst hp
    exact (espec_l3List @spec_l1In @spec_l3List_l2 n x0 x1 k).symm

/-! ### loop.example/g00269/spec.l1Has -/
theorem cspec_l1Has (n : Nat) : AllOk Try.prog [] := trivial
@[reducible] def Sspec_l1Has_l2 : PkS := ⟨[.one (.int .i64), .one (.ro (.int .i64)), .one (.int .i64), .one (.int .i64), .one (.dead), .one (.dead)], []⟩
@[reducible] def Tspec_l1Has_l2_0 : PkS := ⟨[.one (.bool), .one (.dead), .one (.dead)], []⟩
@[reducible] def Tspec_l1Has_l2_1 : PkS := ⟨[.one (.dead), .one (.dead)], []⟩
def Dspec_l1Has_l2 : LoopD := ⟨17, [1, 7, 8, 9], [.one .any, .one (.ro (.int .i64)), .one .any, .one .any, .skip, .skip], fun x => match x with
  | .ret => some ([4], [.one .any, .skip, .skip])
  | .exit 0 => some ([], [.skip, .skip])
  | _ => none⟩
def Pspec_l1Has_l2 (g : ∀ {R : Type}, Nat → Int → (List Int) → Int → Int → (Bool → Option R) → (Option R) → Option R) (n : Nat) : LPs := fun R q kk => match (PkS.un Sspec_l1Has_l2 q : Option (Int × (List Int) × Int × Int × Unit)) with
  | some (y2_0, y2_1, y2_2, y2_3, _) => g n y2_0 y2_1 y2_2 y2_3 (fun r0 => kk .ret (PkS.pack Tspec_l1Has_l2_0 (r0, ()))) (kk (.exit 0) (PkS.pack Tspec_l1Has_l2_1 ()))
  | none => none
theorem espec_l1Has_l2 (spec_l1Has_l2 : ∀ {R : Type}, Nat → Int → (List Int) → Int → Int → (Bool → Option R) → (Option R) → Option R) {R : Type} (n : Nat) (y2_0 : Int) (y2_1 : List Int) (y2_2 : Int) (y2_3 : Int) (kk : Ex → Pk → Option R) : Dspec_l1Has_l2.step tt sig (mkK [] R) (mkL (mkK []) [] R) (loopIn 2 (bodyOf Try.f105)) (fun q' => Pspec_l1Has_l2 @spec_l1Has_l2 n R q' kk) (PkS.pack Sspec_l1Has_l2 (y2_0, y2_1, y2_2, y2_3, ())) kk = (fun (kret : Bool → Option R) (kexit0 : Option R) => (bif (decide (y2_3 < y2_2)) then (bif decide (0 ≤ y2_3) then (bif decide (y2_3 < (y2_1.length : Int)) then (bif ((y2_1.getD (Int.toNat y2_3) 0) == y2_0) then kret true else spec_l1Has_l2 n y2_0 y2_1 y2_2 (IntKind.wrap .i64 (y2_3 + 1)) kret kexit0) else none) else none) else kexit0)) (fun r0 => kk .ret (PkS.pack Tspec_l1Has_l2_0 (r0, ()))) (kk (.exit 0) (PkS.pack Tspec_l1Has_l2_1 ())) := by kernel_rfl
theorem lespec_l1Has_l2 : LoopEq tt sig (fun n => mkK []) (fun n => mkL (mkK []) []) Dspec_l1Has_l2 Sspec_l1Has_l2 (loopIn 2 (bodyOf Try.f105)) (Pspec_l1Has_l2 @spec_l1Has_l2) where
  zero R q kk := by unfold Pspec_l1Has_l2; cases (PkS.un Sspec_l1Has_l2 q) <;> rfl
  succ n R q kk := by
    unfold Pspec_l1Has_l2
    cases h : (PkS.un Sspec_l1Has_l2 q) with
    | none => rfl
    | some d =>
      obtain ⟨y2_0, y2_1, y2_2, y2_3, u⟩ := (d : Int × (List Int) × Int × Int × Unit)
      have hp := PkS.un_pack h
      subst hp
      exact (espec_l1Has_l2 @spec_l1Has_l2 n y2_0 y2_1 y2_2 y2_3 kk).symm
theorem nlspec_l1Has_l2 : ∀ n, NatLP (Pspec_l1Has_l2 @spec_l1Has_l2 n) := lespec_l1Has_l2.nat (fun n => mkK_nat (cspec_l1Has n)) fun n => mkL_nat (mkK_nat (cspec_l1Has n)) (l := []) trivial
theorem inspec_l1Has_l2 (n : Nat) (R : Type) : LoopsOk Try.prog (mkL (mkK []) [] R) (loopIn 2 (bodyOf Try.f105)) := .eq (l := []) (by kernel_rfl) trivial
theorem lkspec_l1Has_l2 (n : Nat) (R : Type) (L0 : LK R) (h0 : ∀ id, firstRegion (loopIn 2 (bodyOf Try.f105)) = some id → L0 id = Dspec_l1Has_l2.oracle (mkK [] R) (Pspec_l1Has_l2 @spec_l1Has_l2 n R)) : LoopOk Try.prog L0 (loopIn 2 (bodyOf Try.f105)) :=
  lespec_l1Has_l2.ok mixed ttok (fun n => mkK_nat (cspec_l1Has n)) (fun n => mkK_ok (cspec_l1Has n)) (fun n => inspec_l1Has_l2 n R) (mkK_nat (cspec_l1Has n)) h0
@[reducible] def Sspec_l1Has : PkS := ⟨[.one (.ro (.int .i64)), .one (.int .i64)], []⟩
@[reducible] def Tspec_l1Has : PkS := ⟨[.one (.bool), .one (.dead), .one (.dead)], []⟩
def Hspec_l1Has : List Sh := [.one .any, .skip, .skip]
def Kspec_l1Has (g : ∀ {R : Type}, Nat → (List Int) → Int → (Bool → Option R) → Option R) (n : Nat) : KPs := fun R p k => match (PkS.un Sspec_l1Has p : Option ((List Int) × Int × Unit)) with
  | some (x0, x1, _) => g n x0 x1 (fun r0 => k (PkS.pack Tspec_l1Has (r0, ())))
  | none => none
theorem espec_l1Has (spec_l1Has_l2 : ∀ {R : Type}, Nat → Int → (List Int) → Int → Int → (Bool → Option R) → (Option R) → Option R) {R : Type} (n : Nat) (x0 : List Int) (x1 : Int) (k : Pk → Option R) : evF tt sig (mkK [] R) (mkL (mkK []) [(2, Dspec_l1Has_l2, Pspec_l1Has_l2 @spec_l1Has_l2 n)] R) Try.f105 Hspec_l1Has (PkS.pack Sspec_l1Has (x0, x1, ())) k = (fun (k : Bool → Option R) => (spec_l1Has_l2 n x1 x0 (x0.length : Int) 0 (fun r1 => k r1) (k false))) (fun r0 => k (PkS.pack Tspec_l1Has (r0, ()))) := by kernel_rfl
theorem okspec_l1Has (n : Nat) : FnOk Try.prog 105 (Kspec_l1Has @spec_l1Has n) := by
  refine fn_ok (sig := sig) mixed ttok (mkK_nat (cspec_l1Has n)) (mkK_ok (cspec_l1Has n)) (mkL_nat (mkK_nat (cspec_l1Has n)) (l := [(2, Dspec_l1Has_l2, Pspec_l1Has_l2 @spec_l1Has_l2 n)]) ⟨nlspec_l1Has_l2 n, trivial⟩) (fn := Try.f105) (c := bodyOf Try.f105) (by kernel_rfl) (by kernel_rfl) (by kernel_rfl) (.eq (l := [.lo (loopIn 2 (bodyOf Try.f105))]) (by kernel_rfl) ⟨(lkspec_l1Has_l2 n _ _ (at_id (i := 2) (by kernel_rfl) rfl)), trivial⟩) (shs := Hspec_l1Has) (S := Sspec_l1Has) (h1 := by kernel_rfl) fun R p k => ?_
  unfold Kspec_l1Has
  cases h : (PkS.un Sspec_l1Has p) with
  | none => rfl
  | some d =>
    obtain ⟨x0, x1, u⟩ := (d : (List Int) × Int × Unit)
    have hp := PkS.un_pack h
    subst hp
    exact (espec_l1Has @spec_l1Has_l2 n x0 x1 k).symm

/-! ### loop.example/g00269/spec.l4Order -/
theorem cspec_l4Order (n : Nat) : AllOk Try.prog [(105, Kspec_l1Has @spec_l1Has n)] := ⟨okspec_l1Has n, trivial⟩
@[reducible] def Sspec_l4Order_l9 : PkS := ⟨[.one (.ro (.pr (.int .i64) (.sl (.int .i64)))), .one (.whole (100000, 0)), .one (.int .i64), .one (.int .i64), .one (.bool), .one (.ro (.pr (.int .i64) (.sl (.int .i64)))), .one (.int .i64), .one (.int .i64), .one (.ro (.int .i64)), .one (.int .i64), .one (.int .i64), .one (.dead)], [((100000, 0), .arr (.int .i64))]⟩
@[reducible] def Tspec_l4Order_l9_0 : PkS := ⟨[.one (.ro (.pr (.int .i64) (.sl (.int .i64)))), .one (.whole (100000, 0)), .one (.int .i64), .one (.int .i64), .one (.bool), .one (.ro (.pr (.int .i64) (.sl (.int .i64)))), .one (.int .i64), .one (.int .i64), .one (.dead)], [((100000, 0), .arr (.int .i64))]⟩
def Dspec_l4Order_l9 : LoopD := ⟨51, [0, 4, 5, 6, 8, 16, 17, 18, 28, 29, 30], [.one (.ro (.pr (.int .i64) (.sl (.int .i64)))), .one (.own (.int .i64)), .one .any, .one .any, .one .any, .one (.ro (.pr (.int .i64) (.sl (.int .i64)))), .one .any, .one .any, .one (.ro (.int .i64)), .one .any, .one .any, .skip], fun x => match x with
  | .exit 4 => some ([0, 4, 5, 6, 8, 16, 17, 18], [.one (.ro (.pr (.int .i64) (.sl (.int .i64)))), .one (.own (.int .i64)), .one .any, .one .any, .one .any, .one (.ro (.pr (.int .i64) (.sl (.int .i64)))), .one .any, .one .any, .skip])
  | _ => none⟩
def Pspec_l4Order_l9 (g : ∀ {R : Type}, Nat → (List (Int × List Int)) → Int → Int → Bool → (List (Int × List Int)) → Int → Int → (List Int) → Int → Int → (List Int) → ((List (Int × List Int)) → Int → Int → Bool → (List (Int × List Int)) → Int → Int → (List Int) → Option R) → Option R) (n : Nat) : LPs := fun R q kk => match (PkS.un Sspec_l4Order_l9 q : Option ((List (Int × List Int)) × Int × Int × Bool × (List (Int × List Int)) × Int × Int × (List Int) × Int × Int × (List Int) × Unit)) with
  | some (y9_0, y9_1, y9_2, y9_3, y9_4, y9_5, y9_6, y9_7, y9_8, y9_9, y9_10, _) => g n y9_0 y9_1 y9_2 y9_3 y9_4 y9_5 y9_6 y9_7 y9_8 y9_9 y9_10 (fun r0 r1 r2 r3 r4 r5 r6 r7 => kk (.exit 4) (PkS.pack Tspec_l4Order_l9_0 (r0, r1, r2, r3, r4, r5, r6, r7, ())))
  | none => none
theorem espec_l4Order_l9 (spec_l1Has : ∀ {R : Type}, Nat → (List Int) → Int → (Bool → Option R) → Option R) (spec_l4Order_l9 : ∀ {R : Type}, Nat → (List (Int × List Int)) → Int → Int → Bool → (List (Int × List Int)) → Int → Int → (List Int) → Int → Int → (List Int) → ((List (Int × List Int)) → Int → Int → Bool → (List (Int × List Int)) → Int → Int → (List Int) → Option R) → Option R) {R : Type} (n : Nat) (y9_0 : List (Int × List Int)) (y9_1 : Int) (y9_2 : Int) (y9_3 : Bool) (y9_4 : List (Int × List Int)) (y9_5 : Int) (y9_6 : Int) (y9_7 : List Int) (y9_8 : Int) (y9_9 : Int) (y9_10 : List Int) (kk : Ex → Pk → Option R) : Dspec_l4Order_l9.step tt sig (mkK [(105, Kspec_l1Has @spec_l1Has n)] R) (mkL (mkK [(105, Kspec_l1Has @spec_l1Has n)]) [] R) (loopIn 9 (bodyOf Try.f96)) (fun q' => Pspec_l4Order_l9 @spec_l4Order_l9 n R q' kk) (PkS.pack Sspec_l4Order_l9 (y9_0, y9_1, y9_2, y9_3, y9_4, y9_5, y9_6, y9_7, y9_8, y9_9, y9_10, ())) kk = (fun (kexit4 : (List (Int × List Int)) → Int → Int → Bool → (List (Int × List Int)) → Int → Int → (List Int) → Option R) => (bif (decide (y9_9 < y9_8)) then (bif decide (0 ≤ y9_9) then (bif decide (y9_9 < (y9_7.length : Int)) then (bif y9_3 then (spec_l1Has n y9_10 (y9_7.getD (Int.toNat y9_9) 0) fun r2 => spec_l4Order_l9 n y9_0 y9_1 y9_2 r2 y9_4 y9_5 y9_6 y9_7 y9_8 (IntKind.wrap .i64 (y9_9 + 1)) y9_10 kexit4) else spec_l4Order_l9 n y9_0 y9_1 y9_2 false y9_4 y9_5 y9_6 y9_7 y9_8 (IntKind.wrap .i64 (y9_9 + 1)) y9_10 kexit4) else none) else none) else kexit4 y9_0 y9_1 y9_2 y9_3 y9_4 y9_5 y9_6 y9_10)) (fun r0 r1 r2 r3 r4 r5 r6 r7 => kk (.exit 4) (PkS.pack Tspec_l4Order_l9_0 (r0, r1, r2, r3, r4, r5, r6, r7, ()))) := by kernel_rfl
theorem lespec_l4Order_l9 : LoopEq tt sig (fun n => mkK [(105, Kspec_l1Has @spec_l1Has n)]) (fun n => mkL (mkK [(105, Kspec_l1Has @spec_l1Has n)]) []) Dspec_l4Order_l9 Sspec_l4Order_l9 (loopIn 9 (bodyOf Try.f96)) (Pspec_l4Order_l9 @spec_l4Order_l9) where
  zero R q kk := by unfold Pspec_l4Order_l9; cases (PkS.un Sspec_l4Order_l9 q) <;> rfl
  succ n R q kk := by
    unfold Pspec_l4Order_l9
    cases h : (PkS.un Sspec_l4Order_l9 q) with
    | none => rfl
    | some d =>
      obtain ⟨y9_0, y9_1, y9_2, y9_3, y9_4, y9_5, y9_6, y9_7, y9_8, y9_9, y9_10, u⟩ := (d : (List (Int × List Int)) × Int × Int × Bool × (List (Int × List Int)) × Int × Int × (List Int) × Int × Int × (List Int) × Unit)
      have hp := PkS.un_pack h
      subst hp
      exact (espec_l4Order_l9 @spec_l1Has @spec_l4Order_l9 n y9_0 y9_1 y9_2 y9_3 y9_4 y9_5 y9_6 y9_7 y9_8 y9_9 y9_10 kk).symm
theorem nlspec_l4Order_l9 : ∀ n, NatLP (Pspec_l4Order_l9 @spec_l4Order_l9 n) := lespec_l4Order_l9.nat (fun n => mkK_nat (cspec_l4Order n)) fun n => mkL_nat (mkK_nat (cspec_l4Order n)) (l := []) trivial
theorem inspec_l4Order_l9 (n : Nat) (R : Type) : LoopsOk Try.prog (mkL (mkK [(105, Kspec_l1Has @spec_l1Has n)]) [] R) (loopIn 9 (bodyOf Try.f96)) := .eq (l := []) (by kernel_rfl) trivial
theorem lkspec_l4Order_l9 (n : Nat) (R : Type) (L0 : LK R) (h0 : ∀ id, firstRegion (loopIn 9 (bodyOf Try.f96)) = some id → L0 id = Dspec_l4Order_l9.oracle (mkK [(105, Kspec_l1Has @spec_l1Has n)] R) (Pspec_l4Order_l9 @spec_l4Order_l9 n R)) : LoopOk Try.prog L0 (loopIn 9 (bodyOf Try.f96)) :=
  lespec_l4Order_l9.ok mixed ttok (fun n => mkK_nat (cspec_l4Order n)) (fun n => mkK_ok (cspec_l4Order n)) (fun n => inspec_l4Order_l9 n R) (mkK_nat (cspec_l4Order n)) h0
@[reducible] def Sspec_l4Order_l5 : PkS := ⟨[.one (.ro (.pr (.int .i64) (.sl (.int .i64)))), .one (.whole (100000, 0)), .one (.int .i64), .one (.ro (.pr (.int .i64) (.sl (.int .i64)))), .one (.int .i64), .one (.int .i64), .one (.dead)], [((100000, 0), .arr (.int .i64))]⟩
@[reducible] def Tspec_l4Order_l5_0 : PkS := ⟨[.one (.ro (.pr (.int .i64) (.sl (.int .i64)))), .one (.whole (100000, 0)), .one (.int .i64), .one (.dead)], [((100000, 0), .arr (.int .i64))]⟩
def Dspec_l4Order_l5 : LoopD := ⟨51, [0, 4, 5, 16, 17, 18], [.one (.ro (.pr (.int .i64) (.sl (.int .i64)))), .one (.own (.int .i64)), .one .any, .one (.ro (.pr (.int .i64) (.sl (.int .i64)))), .one .any, .one .any, .skip], fun x => match x with
  | .exit 2 => some ([0, 4, 5], [.one (.ro (.pr (.int .i64) (.sl (.int .i64)))), .one (.own (.int .i64)), .one .any, .skip])
  | _ => none⟩
def Pspec_l4Order_l5 (g : ∀ {R : Type}, Nat → (List (Int × List Int)) → Int → (List (Int × List Int)) → Int → Int → (List Int) → ((List (Int × List Int)) → Int → (List Int) → Option R) → Option R) (n : Nat) : LPs := fun R q kk => match (PkS.un Sspec_l4Order_l5 q : Option ((List (Int × List Int)) × Int × (List (Int × List Int)) × Int × Int × (List Int) × Unit)) with
  | some (y5_0, y5_1, y5_2, y5_3, y5_4, y5_5, _) => g n y5_0 y5_1 y5_2 y5_3 y5_4 y5_5 (fun r0 r1 r2 => kk (.exit 2) (PkS.pack Tspec_l4Order_l5_0 (r0, r1, r2, ())))
  | none => none
theorem espec_l4Order_l5 (spec_l1Has : ∀ {R : Type}, Nat → (List Int) → Int → (Bool → Option R) → Option R) (spec_l4Order_l9 : ∀ {R : Type}, Nat → (List (Int × List Int)) → Int → Int → Bool → (List (Int × List Int)) → Int → Int → (List Int) → Int → Int → (List Int) → ((List (Int × List Int)) → Int → Int → Bool → (List (Int × List Int)) → Int → Int → (List Int) → Option R) → Option R) (spec_l4Order_l5 : ∀ {R : Type}, Nat → (List (Int × List Int)) → Int → (List (Int × List Int)) → Int → Int → (List Int) → ((List (Int × List Int)) → Int → (List Int) → Option R) → Option R) {R : Type} (n : Nat) (y5_0 : List (Int × List Int)) (y5_1 : Int) (y5_2 : List (Int × List Int)) (y5_3 : Int) (y5_4 : Int) (y5_5 : List Int) (kk : Ex → Pk → Option R) : Dspec_l4Order_l5.step tt sig (mkK [(105, Kspec_l1Has @spec_l1Has n)] R) (mkL (mkK [(105, Kspec_l1Has @spec_l1Has n)]) [(9, Dspec_l4Order_l9, Pspec_l4Order_l9 @spec_l4Order_l9 n)] R) (loopIn 5 (bodyOf Try.f96)) (fun q' => Pspec_l4Order_l5 @spec_l4Order_l5 n R q' kk) (PkS.pack Sspec_l4Order_l5 (y5_0, y5_1, y5_2, y5_3, y5_4, y5_5, ())) kk = (fun (kexit2 : (List (Int × List Int)) → Int → (List Int) → Option R) => (bif (decide (y5_4 < y5_3)) then (bif decide (0 ≤ y5_4) then (bif decide (y5_4 < (y5_2.length : Int)) then (spec_l1Has n y5_5 y5_4 fun r1 => (spec_l4Order_l9 n y5_0 y5_1 y5_4 (!r1) y5_2 y5_3 y5_4 ((y5_2.getD (Int.toNat y5_4) (0, [])).2) (((y5_2.getD (Int.toNat y5_4) (0, [])).2).length : Int) 0 y5_5 (fun r3 r4 r5 r6 r7 r8 r9 r10 => (bif r6 then kexit2 r3 r5 r10 else spec_l4Order_l5 n r3 r4 r7 r8 (IntKind.wrap .i64 (r9 + 1)) r10 kexit2)))) else none) else none) else kexit2 y5_0 y5_1 y5_5)) (fun r0 r1 r2 => kk (.exit 2) (PkS.pack Tspec_l4Order_l5_0 (r0, r1, r2, ()))) := by kernel_rfl
theorem lespec_l4Order_l5 : LoopEq tt sig (fun n => mkK [(105, Kspec_l1Has @spec_l1Has n)]) (fun n => mkL (mkK [(105, Kspec_l1Has @spec_l1Has n)]) [(9, Dspec_l4Order_l9, Pspec_l4Order_l9 @spec_l4Order_l9 n)]) Dspec_l4Order_l5 Sspec_l4Order_l5 (loopIn 5 (bodyOf Try.f96)) (Pspec_l4Order_l5 @spec_l4Order_l5) where
  zero R q kk := by unfold Pspec_l4Order_l5; cases (PkS.un Sspec_l4Order_l5 q) <;> rfl
  succ n R q kk := by
    unfold Pspec_l4Order_l5
    cases h : (PkS.un Sspec_l4Order_l5 q) with
    | none => rfl
    | some d =>
      obtain ⟨y5_0, y5_1, y5_2, y5_3, y5_4, y5_5, u⟩ := (d : (List (Int × List Int)) × Int × (List (Int × List Int)) × Int × Int × (List Int) × Unit)
      have hp := PkS.un_pack h
      subst hp
      exact (espec_l4Order_l5 @spec_l1Has @spec_l4Order_l9 @spec_l4Order_l5 n y5_0 y5_1 y5_2 y5_3 y5_4 y5_5 kk).symm
theorem nlspec_l4Order_l5 : ∀ n, NatLP (Pspec_l4Order_l5 @spec_l4Order_l5 n) := lespec_l4Order_l5.nat (fun n => mkK_nat (cspec_l4Order n)) fun n => mkL_nat (mkK_nat (cspec_l4Order n)) (l := [(9, Dspec_l4Order_l9, Pspec_l4Order_l9 @spec_l4Order_l9 n)]) ⟨nlspec_l4Order_l9 n, trivial⟩
theorem inspec_l4Order_l5 (n : Nat) (R : Type) : LoopsOk Try.prog (mkL (mkK [(105, Kspec_l1Has @spec_l1Has n)]) [(9, Dspec_l4Order_l9, Pspec_l4Order_l9 @spec_l4Order_l9 n)] R) (loopIn 5 (bodyOf Try.f96)) := .eq (l := [.lo (loopIn 9 (bodyOf Try.f96))]) (by kernel_rfl) ⟨(lkspec_l4Order_l9 n R _ (at_id (i := 9) (by kernel_rfl) rfl)), trivial⟩
theorem lkspec_l4Order_l5 (n : Nat) (R : Type) (L0 : LK R) (h0 : ∀ id, firstRegion (loopIn 5 (bodyOf Try.f96)) = some id → L0 id = Dspec_l4Order_l5.oracle (mkK [(105, Kspec_l1Has @spec_l1Has n)] R) (Pspec_l4Order_l5 @spec_l4Order_l5 n R)) : LoopOk Try.prog L0 (loopIn 5 (bodyOf Try.f96)) :=
  lespec_l4Order_l5.ok mixed ttok (fun n => mkK_nat (cspec_l4Order n)) (fun n => mkK_ok (cspec_l4Order n)) (fun n => inspec_l4Order_l5 n R) (mkK_nat (cspec_l4Order n)) h0
@[reducible] def Sspec_l4Order_l2 : PkS := ⟨[.one (.ro (.pr (.int .i64) (.sl (.int .i64)))), .one (.whole (100000, 0)), .one (.dead)], [((100000, 0), .arr (.int .i64))]⟩
@[reducible] def Tspec_l4Order_l2_0 : PkS := ⟨[.one (.ro (.int .i64)), .one (.bool), .one (.dead)], []⟩
@[reducible] def Tspec_l4Order_l2_1 : PkS := ⟨[.one (.whole (100000, 0)), .one (.dead)], [((100000, 0), .arr (.int .i64))]⟩
def Dspec_l4Order_l2 : LoopD := ⟨51, [0, 4], [.one (.ro (.pr (.int .i64) (.sl (.int .i64)))), .one (.own (.int .i64)), .skip], fun x => match x with
  | .ret => some ([2, 3], [.one (.ro (.int .i64)), .one .any, .skip])
  | .exit 0 => some ([4], [.one (.own (.int .i64)), .skip])
  | _ => none⟩
def Pspec_l4Order_l2 (g : ∀ {R : Type}, Nat → (List (Int × List Int)) → (List Int) → ((List Int) → Bool → Option R) → ((List Int) → Option R) → Option R) (n : Nat) : LPs := fun R q kk => match (PkS.un Sspec_l4Order_l2 q : Option ((List (Int × List Int)) × (List Int) × Unit)) with
  | some (y2_0, y2_1, _) => g n y2_0 y2_1 (fun r0 r1 => kk .ret (PkS.pack Tspec_l4Order_l2_0 (r0, r1, ()))) (fun r0 => kk (.exit 0) (PkS.pack Tspec_l4Order_l2_1 (r0, ())))
  | none => none
theorem espec_l4Order_l2 (spec_l1Has : ∀ {R : Type}, Nat → (List Int) → Int → (Bool → Option R) → Option R) (spec_l4Order_l9 : ∀ {R : Type}, Nat → (List (Int × List Int)) → Int → Int → Bool → (List (Int × List Int)) → Int → Int → (List Int) → Int → Int → (List Int) → ((List (Int × List Int)) → Int → Int → Bool → (List (Int × List Int)) → Int → Int → (List Int) → Option R) → Option R) (spec_l4Order_l5 : ∀ {R : Type}, Nat → (List (Int × List Int)) → Int → (List (Int × List Int)) → Int → Int → (List Int) → ((List (Int × List Int)) → Int → (List Int) → Option R) → Option R) (spec_l4Order_l2 : ∀ {R : Type}, Nat → (List (Int × List Int)) → (List Int) → ((List Int) → Bool → Option R) → ((List Int) → Option R) → Option R) {R : Type} (n : Nat) (y2_0 : List (Int × List Int)) (y2_1 : List Int) (kk : Ex → Pk → Option R) : Dspec_l4Order_l2.step tt sig (mkK [(105, Kspec_l1Has @spec_l1Has n)] R) (mkL (mkK [(105, Kspec_l1Has @spec_l1Has n)]) [(9, Dspec_l4Order_l9, Pspec_l4Order_l9 @spec_l4Order_l9 n), (5, Dspec_l4Order_l5, Pspec_l4Order_l5 @spec_l4Order_l5 n)] R) (loopIn 2 (bodyOf Try.f96)) (fun q' => Pspec_l4Order_l2 @spec_l4Order_l2 n R q' kk) (PkS.pack Sspec_l4Order_l2 (y2_0, y2_1, ())) kk = (fun (kret : (List Int) → Bool → Option R) (kexit0 : (List Int) → Option R) => (bif (decide ((y2_1.length : Int) < (y2_0.length : Int))) then (spec_l4Order_l5 n y2_0 (-1) y2_0 (y2_0.length : Int) 0 y2_1 (fun r11 r12 r13 => (bif (decide (r12 < 0)) then kret ([] : List Int) false else (bif decide (r13.length + [r12].length ≤ LIM) then spec_l4Order_l2 n r11 (r13 ++ [r12]) kret kexit0 else none)))) else kexit0 y2_1)) (fun r0 r1 => kk .ret (PkS.pack Tspec_l4Order_l2_0 (r0, r1, ()))) (fun r0 => kk (.exit 0) (PkS.pack Tspec_l4Order_l2_1 (r0, ()))) := by kernel_rfl
theorem lespec_l4Order_l2 : LoopEq tt sig (fun n => mkK [(105, Kspec_l1Has @spec_l1Has n)]) (fun n => mkL (mkK [(105, Kspec_l1Has @spec_l1Has n)]) [(9, Dspec_l4Order_l9, Pspec_l4Order_l9 @spec_l4Order_l9 n), (5, Dspec_l4Order_l5, Pspec_l4Order_l5 @spec_l4Order_l5 n)]) Dspec_l4Order_l2 Sspec_l4Order_l2 (loopIn 2 (bodyOf Try.f96)) (Pspec_l4Order_l2 @spec_l4Order_l2) where
  zero R q kk := by unfold Pspec_l4Order_l2; cases (PkS.un Sspec_l4Order_l2 q) <;> rfl
  succ n R q kk := by
    unfold Pspec_l4Order_l2
    cases h : (PkS.un Sspec_l4Order_l2 q) with
    | none => rfl
    | some d =>
      obtain ⟨y2_0, y2_1, u⟩ := (d : (List (Int × List Int)) × (List Int) × Unit)
      have hp := PkS.un_pack h
      subst hp
      exact (espec_l4Order_l2 @spec_l1Has @spec_l4Order_l9 @spec_l4Order_l5 @spec_l4Order_l2 n y2_0 y2_1 kk).symm
theorem nlspec_l4Order_l2 : ∀ n, NatLP (Pspec_l4Order_l2 @spec_l4Order_l2 n) := lespec_l4Order_l2.nat (fun n => mkK_nat (cspec_l4Order n)) fun n => mkL_nat (mkK_nat (cspec_l4Order n)) (l := [(9, Dspec_l4Order_l9, Pspec_l4Order_l9 @spec_l4Order_l9 n), (5, Dspec_l4Order_l5, Pspec_l4Order_l5 @spec_l4Order_l5 n)]) ⟨nlspec_l4Order_l9 n, ⟨nlspec_l4Order_l5 n, trivial⟩⟩
theorem inspec_l4Order_l2 (n : Nat) (R : Type) : LoopsOk Try.prog (mkL (mkK [(105, Kspec_l1Has @spec_l1Has n)]) [(9, Dspec_l4Order_l9, Pspec_l4Order_l9 @spec_l4Order_l9 n), (5, Dspec_l4Order_l5, Pspec_l4Order_l5 @spec_l4Order_l5 n)] R) (loopIn 2 (bodyOf Try.f96)) := .eq (l := [.lo (loopIn 5 (bodyOf Try.f96))]) (by kernel_rfl) ⟨(lkspec_l4Order_l5 n R _ (at_id (i := 5) (by kernel_rfl) rfl)), trivial⟩
theorem lkspec_l4Order_l2 (n : Nat) (R : Type) (L0 : LK R) (h0 : ∀ id, firstRegion (loopIn 2 (bodyOf Try.f96)) = some id → L0 id = Dspec_l4Order_l2.oracle (mkK [(105, Kspec_l1Has @spec_l1Has n)] R) (Pspec_l4Order_l2 @spec_l4Order_l2 n R)) : LoopOk Try.prog L0 (loopIn 2 (bodyOf Try.f96)) :=
  lespec_l4Order_l2.ok mixed ttok (fun n => mkK_nat (cspec_l4Order n)) (fun n => mkK_ok (cspec_l4Order n)) (fun n => inspec_l4Order_l2 n R) (mkK_nat (cspec_l4Order n)) h0
@[reducible] def Sspec_l4Order : PkS := ⟨[.one (.ro (.pr (.int .i64) (.sl (.int .i64))))], []⟩
@[reducible] def Tspec_l4Order : PkS := ⟨[.tup [(false, [.ro (.int .i64)]), (false, [.bool])], .one (.dead)], []⟩
def Hspec_l4Order : List Sh := [.tup [(false, [(.ro (.int .i64))]), (false, [.any])], .skip]
def Kspec_l4Order (g : ∀ {R : Type}, Nat → (List (Int × List Int)) → ((List Int) → Bool → Option R) → Option R) (n : Nat) : KPs := fun R p k => match (PkS.un Sspec_l4Order p : Option ((List (Int × List Int)) × Unit)) with
  | some (x0, _) => g n x0 (fun r0 r1 => k (PkS.pack Tspec_l4Order (r0, r1, ())))
  | none => none
theorem espec_l4Order (spec_l1Has : ∀ {R : Type}, Nat → (List Int) → Int → (Bool → Option R) → Option R) (spec_l4Order_l9 : ∀ {R : Type}, Nat → (List (Int × List Int)) → Int → Int → Bool → (List (Int × List Int)) → Int → Int → (List Int) → Int → Int → (List Int) → ((List (Int × List Int)) → Int → Int → Bool → (List (Int × List Int)) → Int → Int → (List Int) → Option R) → Option R) (spec_l4Order_l5 : ∀ {R : Type}, Nat → (List (Int × List Int)) → Int → (List (Int × List Int)) → Int → Int → (List Int) → ((List (Int × List Int)) → Int → (List Int) → Option R) → Option R) (spec_l4Order_l2 : ∀ {R : Type}, Nat → (List (Int × List Int)) → (List Int) → ((List Int) → Bool → Option R) → ((List Int) → Option R) → Option R) {R : Type} (n : Nat) (x0 : List (Int × List Int)) (k : Pk → Option R) : evF tt sig (mkK [(105, Kspec_l1Has @spec_l1Has n)] R) (mkL (mkK [(105, Kspec_l1Has @spec_l1Has n)]) [(9, Dspec_l4Order_l9, Pspec_l4Order_l9 @spec_l4Order_l9 n), (5, Dspec_l4Order_l5, Pspec_l4Order_l5 @spec_l4Order_l5 n), (2, Dspec_l4Order_l2, Pspec_l4Order_l2 @spec_l4Order_l2 n)] R) Try.f96 Hspec_l4Order (PkS.pack Sspec_l4Order (x0, ())) k = (fun (k : (List Int) → Bool → Option R) => (spec_l4Order_l2 n x0 ([] : List Int) (fun r14 r15 => k r14 r15) (fun r16 => k r16 true))) (fun r0 r1 => k (PkS.pack Tspec_l4Order (r0, r1, ()))) := by kernel_rfl
theorem okspec_l4Order (n : Nat) : FnOk Try.prog 96 (Kspec_l4Order @spec_l4Order n) := by
  refine fn_ok (sig := sig) mixed ttok (mkK_nat (cspec_l4Order n)) (mkK_ok (cspec_l4Order n)) (mkL_nat (mkK_nat (cspec_l4Order n)) (l := [(9, Dspec_l4Order_l9, Pspec_l4Order_l9 @spec_l4Order_l9 n), (5, Dspec_l4Order_l5, Pspec_l4Order_l5 @spec_l4Order_l5 n), (2, Dspec_l4Order_l2, Pspec_l4Order_l2 @spec_l4Order_l2 n)]) ⟨nlspec_l4Order_l9 n, ⟨nlspec_l4Order_l5 n, ⟨nlspec_l4Order_l2 n, trivial⟩⟩⟩) (fn := Try.f96) (c := bodyOf Try.f96) (by kernel_rfl) (by kernel_rfl) (by kernel_rfl) (.eq (l := [.lo (loopIn 2 (bodyOf Try.f96))]) (by kernel_rfl) ⟨(lkspec_l4Order_l2 n _ _ (at_id (i := 2) (by kernel_rfl) rfl)), trivial⟩) (shs := Hspec_l4Order) (S := Sspec_l4Order) (h1 := by kernel_rfl) fun R p k => ?_
  unfold Kspec_l4Order
  cases h : (PkS.un Sspec_l4Order p) with
  | none => rfl
  | some d =>
    obtain ⟨x0, u⟩ := (d : (List (Int × List Int)) × Unit)
    have hp := PkS.un_pack h
    subst hp
    exact (espec_l4Order @spec_l1Has @spec_l4Order_l9 @spec_l4Order_l5 @spec_l4Order_l2 n x0 k).symm

/-! ### loop.example/g00269/spec.GoodPlan -/
theorem cspec_GoodPlan (n : Nat) : AllOk Try.prog [(72, Kspec_l1In @spec_l1In n), (119, Kspec_l3List @spec_l3List n), (105, Kspec_l1Has @spec_l1Has n), (96, Kspec_l4Order @spec_l4Order n)] := ⟨okspec_l1In n, ⟨okspec_l3List n, ⟨okspec_l1Has n, ⟨okspec_l4Order n, trivial⟩⟩⟩⟩
@[reducible] def Sspec_GoodPlan_l4 : PkS := ⟨[.one (.ro (.pr (.int .i64) (.sl (.int .i64)))), .one (.ro (.pr (.int .i64) (.sl (.int .i64)))), .one (.int .i64), .one (.int .i64), .one (.dead)], []⟩
@[reducible] def Tspec_GoodPlan_l4_0 : PkS := ⟨[.one (.bool), .one (.dead)], []⟩
@[reducible] def Tspec_GoodPlan_l4_1 : PkS := ⟨[.one (.ro (.pr (.int .i64) (.sl (.int .i64)))), .one (.dead)], []⟩
def Dspec_GoodPlan_l4 : LoopD := ⟨42, [0, 10, 11, 12], [.one (.ro (.pr (.int .i64) (.sl (.int .i64)))), .one (.ro (.pr (.int .i64) (.sl (.int .i64)))), .one .any, .one .any, .skip], fun x => match x with
  | .ret => some ([2], [.one .any, .skip])
  | .exit 0 => some ([0], [.one (.ro (.pr (.int .i64) (.sl (.int .i64)))), .skip])
  | _ => none⟩
def Pspec_GoodPlan_l4 (g : ∀ {R : Type}, Nat → (List (Int × List Int)) → (List (Int × List Int)) → Int → Int → (Bool → Option R) → ((List (Int × List Int)) → Option R) → Option R) (n : Nat) : LPs := fun R q kk => match (PkS.un Sspec_GoodPlan_l4 q : Option ((List (Int × List Int)) × (List (Int × List Int)) × Int × Int × Unit)) with
  | some (y4_0, y4_1, y4_2, y4_3, _) => g n y4_0 y4_1 y4_2 y4_3 (fun r0 => kk .ret (PkS.pack Tspec_GoodPlan_l4_0 (r0, ()))) (fun r0 => kk (.exit 0) (PkS.pack Tspec_GoodPlan_l4_1 (r0, ())))
  | none => none
theorem espec_GoodPlan_l4 (spec_l1In : ∀ {R : Type}, Nat → Int → Int → Int → (Bool → Option R) → Option R) (spec_l3List : ∀ {R : Type}, Nat → (List Int) → Int → (Bool → Option R) → Option R) (spec_l1Has : ∀ {R : Type}, Nat → (List Int) → Int → (Bool → Option R) → Option R) (spec_l4Order : ∀ {R : Type}, Nat → (List (Int × List Int)) → ((List Int) → Bool → Option R) → Option R) (spec_GoodPlan_l4 : ∀ {R : Type}, Nat → (List (Int × List Int)) → (List (Int × List Int)) → Int → Int → (Bool → Option R) → ((List (Int × List Int)) → Option R) → Option R) {R : Type} (n : Nat) (y4_0 : List (Int × List Int)) (y4_1 : List (Int × List Int)) (y4_2 : Int) (y4_3 : Int) (kk : Ex → Pk → Option R) : Dspec_GoodPlan_l4.step tt sig (mkK [(72, Kspec_l1In @spec_l1In n), (119, Kspec_l3List @spec_l3List n), (105, Kspec_l1Has @spec_l1Has n), (96, Kspec_l4Order @spec_l4Order n)] R) (mkL (mkK [(72, Kspec_l1In @spec_l1In n), (119, Kspec_l3List @spec_l3List n), (105, Kspec_l1Has @spec_l1Has n), (96, Kspec_l4Order @spec_l4Order n)]) [] R) (loopIn 4 (bodyOf Try.f95)) (fun q' => Pspec_GoodPlan_l4 @spec_GoodPlan_l4 n R q' kk) (PkS.pack Sspec_GoodPlan_l4 (y4_0, y4_1, y4_2, y4_3, ())) kk = (fun (kret : Bool → Option R) (kexit0 : (List (Int × List Int)) → Option R) => (bif (decide (y4_3 < y4_2)) then (bif decide (0 ≤ y4_3) then (bif decide (y4_3 < (y4_1.length : Int)) then (spec_l1In n ((y4_1.getD (Int.toNat y4_3) (0, [])).1) 1 100 fun r1 => (bif (!r1) then kret false else (spec_l3List n ((y4_1.getD (Int.toNat y4_3) (0, [])).2) (y4_0.length : Int) fun r2 => (bif (!r2) then kret false else (spec_l1Has n ((y4_1.getD (Int.toNat y4_3) (0, [])).2) y4_3 fun r3 => (bif r3 then kret false else spec_GoodPlan_l4 n y4_0 y4_1 y4_2 (IntKind.wrap .i64 (y4_3 + 1)) kret kexit0)))))) else none) else none) else kexit0 y4_0)) (fun r0 => kk .ret (PkS.pack Tspec_GoodPlan_l4_0 (r0, ()))) (fun r0 => kk (.exit 0) (PkS.pack Tspec_GoodPlan_l4_1 (r0, ()))) := by kernel_rfl
theorem lespec_GoodPlan_l4 : LoopEq tt sig (fun n => mkK [(72, Kspec_l1In @spec_l1In n), (119, Kspec_l3List @spec_l3List n), (105, Kspec_l1Has @spec_l1Has n), (96, Kspec_l4Order @spec_l4Order n)]) (fun n => mkL (mkK [(72, Kspec_l1In @spec_l1In n), (119, Kspec_l3List @spec_l3List n), (105, Kspec_l1Has @spec_l1Has n), (96, Kspec_l4Order @spec_l4Order n)]) []) Dspec_GoodPlan_l4 Sspec_GoodPlan_l4 (loopIn 4 (bodyOf Try.f95)) (Pspec_GoodPlan_l4 @spec_GoodPlan_l4) where
  zero R q kk := by unfold Pspec_GoodPlan_l4; cases (PkS.un Sspec_GoodPlan_l4 q) <;> rfl
  succ n R q kk := by
    unfold Pspec_GoodPlan_l4
    cases h : (PkS.un Sspec_GoodPlan_l4 q) with
    | none => rfl
    | some d =>
      obtain ⟨y4_0, y4_1, y4_2, y4_3, u⟩ := (d : (List (Int × List Int)) × (List (Int × List Int)) × Int × Int × Unit)
      have hp := PkS.un_pack h
      subst hp
      exact (espec_GoodPlan_l4 @spec_l1In @spec_l3List @spec_l1Has @spec_l4Order @spec_GoodPlan_l4 n y4_0 y4_1 y4_2 y4_3 kk).symm
theorem nlspec_GoodPlan_l4 : ∀ n, NatLP (Pspec_GoodPlan_l4 @spec_GoodPlan_l4 n) := lespec_GoodPlan_l4.nat (fun n => mkK_nat (cspec_GoodPlan n)) fun n => mkL_nat (mkK_nat (cspec_GoodPlan n)) (l := []) trivial
theorem inspec_GoodPlan_l4 (n : Nat) (R : Type) : LoopsOk Try.prog (mkL (mkK [(72, Kspec_l1In @spec_l1In n), (119, Kspec_l3List @spec_l3List n), (105, Kspec_l1Has @spec_l1Has n), (96, Kspec_l4Order @spec_l4Order n)]) [] R) (loopIn 4 (bodyOf Try.f95)) := .eq (l := []) (by kernel_rfl) trivial
theorem lkspec_GoodPlan_l4 (n : Nat) (R : Type) (L0 : LK R) (h0 : ∀ id, firstRegion (loopIn 4 (bodyOf Try.f95)) = some id → L0 id = Dspec_GoodPlan_l4.oracle (mkK [(72, Kspec_l1In @spec_l1In n), (119, Kspec_l3List @spec_l3List n), (105, Kspec_l1Has @spec_l1Has n), (96, Kspec_l4Order @spec_l4Order n)] R) (Pspec_GoodPlan_l4 @spec_GoodPlan_l4 n R)) : LoopOk Try.prog L0 (loopIn 4 (bodyOf Try.f95)) :=
  lespec_GoodPlan_l4.ok mixed ttok (fun n => mkK_nat (cspec_GoodPlan n)) (fun n => mkK_ok (cspec_GoodPlan n)) (fun n => inspec_GoodPlan_l4 n R) (mkK_nat (cspec_GoodPlan n)) h0
@[reducible] def Sspec_GoodPlan : PkS := ⟨[.one (.ro (.pr (.int .i64) (.sl (.int .i64))))], []⟩
@[reducible] def Tspec_GoodPlan : PkS := ⟨[.one (.bool), .one (.dead)], []⟩
def Hspec_GoodPlan : List Sh := [.one .any, .skip]
def Kspec_GoodPlan (g : ∀ {R : Type}, Nat → (List (Int × List Int)) → (Bool → Option R) → Option R) (n : Nat) : KPs := fun R p k => match (PkS.un Sspec_GoodPlan p : Option ((List (Int × List Int)) × Unit)) with
  | some (x0, _) => g n x0 (fun r0 => k (PkS.pack Tspec_GoodPlan (r0, ())))
  | none => none
theorem espec_GoodPlan (spec_l1In : ∀ {R : Type}, Nat → Int → Int → Int → (Bool → Option R) → Option R) (spec_l3List : ∀ {R : Type}, Nat → (List Int) → Int → (Bool → Option R) → Option R) (spec_l1Has : ∀ {R : Type}, Nat → (List Int) → Int → (Bool → Option R) → Option R) (spec_l4Order : ∀ {R : Type}, Nat → (List (Int × List Int)) → ((List Int) → Bool → Option R) → Option R) (spec_GoodPlan_l4 : ∀ {R : Type}, Nat → (List (Int × List Int)) → (List (Int × List Int)) → Int → Int → (Bool → Option R) → ((List (Int × List Int)) → Option R) → Option R) {R : Type} (n : Nat) (x0 : List (Int × List Int)) (k : Pk → Option R) : evF tt sig (mkK [(72, Kspec_l1In @spec_l1In n), (119, Kspec_l3List @spec_l3List n), (105, Kspec_l1Has @spec_l1Has n), (96, Kspec_l4Order @spec_l4Order n)] R) (mkL (mkK [(72, Kspec_l1In @spec_l1In n), (119, Kspec_l3List @spec_l3List n), (105, Kspec_l1Has @spec_l1Has n), (96, Kspec_l4Order @spec_l4Order n)]) [(4, Dspec_GoodPlan_l4, Pspec_GoodPlan_l4 @spec_GoodPlan_l4 n)] R) Try.f95 Hspec_GoodPlan (PkS.pack Sspec_GoodPlan (x0, ())) k = (fun (k : Bool → Option R) => (bif (decide ((x0.length : Int) > 30)) then k false else (spec_GoodPlan_l4 n x0 x0 (x0.length : Int) 0 (fun r4 => k r4) (fun r5 => (spec_l4Order n r5 fun r6 r7 => k r7))))) (fun r0 => k (PkS.pack Tspec_GoodPlan (r0, ()))) := by kernel_rfl
theorem okspec_GoodPlan (n : Nat) : FnOk Try.prog 95 (Kspec_GoodPlan @spec_GoodPlan n) := by
  refine fn_ok (sig := sig) mixed ttok (mkK_nat (cspec_GoodPlan n)) (mkK_ok (cspec_GoodPlan n)) (mkL_nat (mkK_nat (cspec_GoodPlan n)) (l := [(4, Dspec_GoodPlan_l4, Pspec_GoodPlan_l4 @spec_GoodPlan_l4 n)]) ⟨nlspec_GoodPlan_l4 n, trivial⟩) (fn := Try.f95) (c := bodyOf Try.f95) (by kernel_rfl) (by kernel_rfl) (by kernel_rfl) (.eq (l := [.lo (loopIn 4 (bodyOf Try.f95))]) (by kernel_rfl) ⟨(lkspec_GoodPlan_l4 n _ _ (at_id (i := 4) (by kernel_rfl) rfl)), trivial⟩) (shs := Hspec_GoodPlan) (S := Sspec_GoodPlan) (h1 := by kernel_rfl) fun R p k => ?_
  unfold Kspec_GoodPlan
  cases h : (PkS.un Sspec_GoodPlan p) with
  | none => rfl
  | some d =>
    obtain ⟨x0, u⟩ := (d : (List (Int × List Int)) × Unit)
    have hp := PkS.un_pack h
    subst hp
    exact (espec_GoodPlan @spec_l1In @spec_l3List @spec_l1Has @spec_l4Order @spec_GoodPlan_l4 n x0 k).symm

/-! ### loop.example/g00269/spec.OrderOf -/
theorem cspec_OrderOf (n : Nat) : AllOk Try.prog [(95, Kspec_GoodPlan @spec_GoodPlan n), (96, Kspec_l4Order @spec_l4Order n)] := ⟨okspec_GoodPlan n, ⟨okspec_l4Order n, trivial⟩⟩
@[reducible] def Sspec_OrderOf : PkS := ⟨[.one (.ro (.pr (.int .i64) (.sl (.int .i64))))], []⟩
@[reducible] def Tspec_OrderOf : PkS := ⟨[.tup [(false, [.ro (.int .i64)]), (false, [.bool])], .one (.dead)], []⟩
def Hspec_OrderOf : List Sh := [.tup [(false, [(.ro (.int .i64))]), (false, [.any])], .skip]
def Kspec_OrderOf (g : ∀ {R : Type}, Nat → (List (Int × List Int)) → ((List Int) → Bool → Option R) → Option R) (n : Nat) : KPs := fun R p k => match (PkS.un Sspec_OrderOf p : Option ((List (Int × List Int)) × Unit)) with
  | some (x0, _) => g n x0 (fun r0 r1 => k (PkS.pack Tspec_OrderOf (r0, r1, ())))
  | none => none
theorem espec_OrderOf (spec_GoodPlan : ∀ {R : Type}, Nat → (List (Int × List Int)) → (Bool → Option R) → Option R) (spec_l4Order : ∀ {R : Type}, Nat → (List (Int × List Int)) → ((List Int) → Bool → Option R) → Option R) {R : Type} (n : Nat) (x0 : List (Int × List Int)) (k : Pk → Option R) : evF tt sig (mkK [(95, Kspec_GoodPlan @spec_GoodPlan n), (96, Kspec_l4Order @spec_l4Order n)] R) (mkL (mkK [(95, Kspec_GoodPlan @spec_GoodPlan n), (96, Kspec_l4Order @spec_l4Order n)]) [] R) Try.f37 Hspec_OrderOf (PkS.pack Sspec_OrderOf (x0, ())) k = (fun (k : (List Int) → Bool → Option R) => (spec_GoodPlan n x0 fun r1 => (bif (!r1) then k ([] : List Int) false else (spec_l4Order n x0 fun r2 r3 => k r2 r3)))) (fun r0 r1 => k (PkS.pack Tspec_OrderOf (r0, r1, ()))) := by kernel_rfl
theorem okspec_OrderOf (n : Nat) : FnOk Try.prog 37 (Kspec_OrderOf @spec_OrderOf n) := by
  refine fn_ok (sig := sig) mixed ttok (mkK_nat (cspec_OrderOf n)) (mkK_ok (cspec_OrderOf n)) (mkL_nat (mkK_nat (cspec_OrderOf n)) (l := []) trivial) (fn := Try.f37) (c := bodyOf Try.f37) (by kernel_rfl) (by kernel_rfl) (by kernel_rfl) (.eq (l := []) (by kernel_rfl) trivial) (shs := Hspec_OrderOf) (S := Sspec_OrderOf) (h1 := by kernel_rfl) fun R p k => ?_
  unfold Kspec_OrderOf
  cases h : (PkS.un Sspec_OrderOf p) with
  | none => rfl
  | some d =>
    obtain ⟨x0, u⟩ := (d : (List (Int × List Int)) × Unit)
    have hp := PkS.un_pack h
    subst hp
    exact (espec_OrderOf @spec_GoodPlan @spec_l4Order n x0 k).symm

/-! ### loop.example/g00269/laws.sameInts -/
theorem claws_sameInts (n : Nat) : AllOk Try.prog [] := trivial
@[reducible] def Slaws_sameInts_l4 : PkS := ⟨[.one (.ro (.int .i64)), .one (.ro (.int .i64)), .one (.int .i64), .one (.int .i64), .one (.dead), .one (.dead)], []⟩
@[reducible] def Tlaws_sameInts_l4_0 : PkS := ⟨[.one (.bool), .one (.dead), .one (.dead)], []⟩
@[reducible] def Tlaws_sameInts_l4_1 : PkS := ⟨[.one (.dead), .one (.dead)], []⟩
def Dlaws_sameInts_l4 : LoopD := ⟨26, [0, 1, 12, 13], [.one (.ro (.int .i64)), .one (.ro (.int .i64)), .one .any, .one .any, .skip, .skip], fun x => match x with
  | .ret => some ([4], [.one .any, .skip, .skip])
  | .exit 0 => some ([], [.skip, .skip])
  | _ => none⟩
def Plaws_sameInts_l4 (g : ∀ {R : Type}, Nat → (List Int) → (List Int) → Int → Int → (Bool → Option R) → (Option R) → Option R) (n : Nat) : LPs := fun R q kk => match (PkS.un Slaws_sameInts_l4 q : Option ((List Int) × (List Int) × Int × Int × Unit)) with
  | some (y4_0, y4_1, y4_2, y4_3, _) => g n y4_0 y4_1 y4_2 y4_3 (fun r0 => kk .ret (PkS.pack Tlaws_sameInts_l4_0 (r0, ()))) (kk (.exit 0) (PkS.pack Tlaws_sameInts_l4_1 ()))
  | none => none
theorem elaws_sameInts_l4 (laws_sameInts_l4 : ∀ {R : Type}, Nat → (List Int) → (List Int) → Int → Int → (Bool → Option R) → (Option R) → Option R) {R : Type} (n : Nat) (y4_0 : List Int) (y4_1 : List Int) (y4_2 : Int) (y4_3 : Int) (kk : Ex → Pk → Option R) : Dlaws_sameInts_l4.step tt sig (mkK [] R) (mkL (mkK []) [] R) (loopIn 4 (bodyOf Try.f38)) (fun q' => Plaws_sameInts_l4 @laws_sameInts_l4 n R q' kk) (PkS.pack Slaws_sameInts_l4 (y4_0, y4_1, y4_2, y4_3, ())) kk = (fun (kret : Bool → Option R) (kexit0 : Option R) => (bif (decide (y4_3 < y4_2)) then (bif decide (0 ≤ y4_3) then (bif decide (y4_3 < (y4_0.length : Int)) then (bif decide (0 ≤ y4_3) then (bif decide (y4_3 < (y4_1.length : Int)) then (bif ((y4_0.getD (Int.toNat y4_3) 0) != (y4_1.getD (Int.toNat y4_3) 0)) then kret false else laws_sameInts_l4 n y4_0 y4_1 y4_2 (IntKind.wrap .i64 (y4_3 + 1)) kret kexit0) else none) else none) else none) else none) else kexit0)) (fun r0 => kk .ret (PkS.pack Tlaws_sameInts_l4_0 (r0, ()))) (kk (.exit 0) (PkS.pack Tlaws_sameInts_l4_1 ())) := by kernel_rfl
theorem lelaws_sameInts_l4 : LoopEq tt sig (fun n => mkK []) (fun n => mkL (mkK []) []) Dlaws_sameInts_l4 Slaws_sameInts_l4 (loopIn 4 (bodyOf Try.f38)) (Plaws_sameInts_l4 @laws_sameInts_l4) where
  zero R q kk := by unfold Plaws_sameInts_l4; cases (PkS.un Slaws_sameInts_l4 q) <;> rfl
  succ n R q kk := by
    unfold Plaws_sameInts_l4
    cases h : (PkS.un Slaws_sameInts_l4 q) with
    | none => rfl
    | some d =>
      obtain ⟨y4_0, y4_1, y4_2, y4_3, u⟩ := (d : (List Int) × (List Int) × Int × Int × Unit)
      have hp := PkS.un_pack h
      subst hp
      exact (elaws_sameInts_l4 @laws_sameInts_l4 n y4_0 y4_1 y4_2 y4_3 kk).symm
theorem nllaws_sameInts_l4 : ∀ n, NatLP (Plaws_sameInts_l4 @laws_sameInts_l4 n) := lelaws_sameInts_l4.nat (fun n => mkK_nat (claws_sameInts n)) fun n => mkL_nat (mkK_nat (claws_sameInts n)) (l := []) trivial
theorem inlaws_sameInts_l4 (n : Nat) (R : Type) : LoopsOk Try.prog (mkL (mkK []) [] R) (loopIn 4 (bodyOf Try.f38)) := .eq (l := []) (by kernel_rfl) trivial
theorem lklaws_sameInts_l4 (n : Nat) (R : Type) (L0 : LK R) (h0 : ∀ id, firstRegion (loopIn 4 (bodyOf Try.f38)) = some id → L0 id = Dlaws_sameInts_l4.oracle (mkK [] R) (Plaws_sameInts_l4 @laws_sameInts_l4 n R)) : LoopOk Try.prog L0 (loopIn 4 (bodyOf Try.f38)) :=
  lelaws_sameInts_l4.ok mixed ttok (fun n => mkK_nat (claws_sameInts n)) (fun n => mkK_ok (claws_sameInts n)) (fun n => inlaws_sameInts_l4 n R) (mkK_nat (claws_sameInts n)) h0
@[reducible] def Slaws_sameInts : PkS := ⟨[.one (.ro (.int .i64)), .one (.ro (.int .i64))], []⟩
@[reducible] def Tlaws_sameInts : PkS := ⟨[.one (.bool), .one (.dead), .one (.dead)], []⟩
def Hlaws_sameInts : List Sh := [.one .any, .skip, .skip]
def Klaws_sameInts (g : ∀ {R : Type}, Nat → (List Int) → (List Int) → (Bool → Option R) → Option R) (n : Nat) : KPs := fun R p k => match (PkS.un Slaws_sameInts p : Option ((List Int) × (List Int) × Unit)) with
  | some (x0, x1, _) => g n x0 x1 (fun r0 => k (PkS.pack Tlaws_sameInts (r0, ())))
  | none => none
theorem elaws_sameInts (laws_sameInts_l4 : ∀ {R : Type}, Nat → (List Int) → (List Int) → Int → Int → (Bool → Option R) → (Option R) → Option R) {R : Type} (n : Nat) (x0 : List Int) (x1 : List Int) (k : Pk → Option R) : evF tt sig (mkK [] R) (mkL (mkK []) [(4, Dlaws_sameInts_l4, Plaws_sameInts_l4 @laws_sameInts_l4 n)] R) Try.f38 Hlaws_sameInts (PkS.pack Slaws_sameInts (x0, x1, ())) k = (fun (k : Bool → Option R) => (bif ((x0.length : Int) != (x1.length : Int)) then k false else (laws_sameInts_l4 n x0 x1 (x0.length : Int) 0 (fun r1 => k r1) (k true)))) (fun r0 => k (PkS.pack Tlaws_sameInts (r0, ()))) := by kernel_rfl
theorem oklaws_sameInts (n : Nat) : FnOk Try.prog 38 (Klaws_sameInts @laws_sameInts n) := by
  refine fn_ok (sig := sig) mixed ttok (mkK_nat (claws_sameInts n)) (mkK_ok (claws_sameInts n)) (mkL_nat (mkK_nat (claws_sameInts n)) (l := [(4, Dlaws_sameInts_l4, Plaws_sameInts_l4 @laws_sameInts_l4 n)]) ⟨nllaws_sameInts_l4 n, trivial⟩) (fn := Try.f38) (c := bodyOf Try.f38) (by kernel_rfl) (by kernel_rfl) (by kernel_rfl) (.eq (l := [.lo (loopIn 4 (bodyOf Try.f38))]) (by kernel_rfl) ⟨(lklaws_sameInts_l4 n _ _ (at_id (i := 4) (by kernel_rfl) rfl)), trivial⟩) (shs := Hlaws_sameInts) (S := Slaws_sameInts) (h1 := by kernel_rfl) fun R p k => ?_
  unfold Klaws_sameInts
  cases h : (PkS.un Slaws_sameInts p) with
  | none => rfl
  | some d =>
    obtain ⟨x0, x1, u⟩ := (d : (List Int) × (List Int) × Unit)
    have hp := PkS.un_pack h
    subst hp
    exact (elaws_sameInts @laws_sameInts_l4 n x0 x1 k).symm

/-! ### slices.Backward[[]int,int] -/
theorem cslices_Backward_int (n : Nat) : AllOk Try.prog [] := trivial
@[reducible] def Sslices_Backward_int : PkS := ⟨[.one (.ro (.int .i64))], []⟩
@[reducible] def Tslices_Backward_int : PkS := ⟨[.one (.fn 148 [((300000, 0), 0)]), .one (.dead)], [((300000, 0), .box [.ro (.int .i64)])]⟩
def Hslices_Backward_int : List Sh := [.fn 148 [[(.ro (.int .i64))]], .skip]
def Kslices_Backward_int (g : ∀ {R : Type}, Nat → (List Int) → ((List Int) → Option R) → Option R) (n : Nat) : KPs := fun R p k => match (PkS.un Sslices_Backward_int p : Option ((List Int) × Unit)) with
  | some (x0, _) => g n x0 (fun r0 => k (PkS.pack Tslices_Backward_int (r0, ())))
  | none => none
theorem eslices_Backward_int  {R : Type} (n : Nat) (x0 : List Int) (k : Pk → Option R) : evF tt sig (mkK [] R) (mkL (mkK []) [] R) Try.f97 Hslices_Backward_int (PkS.pack Sslices_Backward_int (x0, ())) k = (fun (k : (List Int) → Option R) => k x0) (fun r0 => k (PkS.pack Tslices_Backward_int (r0, ()))) := by kernel_rfl
theorem okslices_Backward_int (n : Nat) : FnOk Try.prog 97 (Kslices_Backward_int @slices_Backward_int n) := by
  refine fn_ok (sig := sig) mixed ttok (mkK_nat (cslices_Backward_int n)) (mkK_ok (cslices_Backward_int n)) (mkL_nat (mkK_nat (cslices_Backward_int n)) (l := []) trivial) (fn := Try.f97) (c := bodyOf Try.f97) (by kernel_rfl) (by kernel_rfl) (by kernel_rfl) (.eq (l := []) (by kernel_rfl) trivial) (shs := Hslices_Backward_int) (S := Sslices_Backward_int) (h1 := by kernel_rfl) fun R p k => ?_
  unfold Kslices_Backward_int
  cases h : (PkS.un Sslices_Backward_int p) with
  | none => rfl
  | some d =>
    obtain ⟨x0, u⟩ := (d : (List Int) × Unit)
    have hp := PkS.un_pack h
    subst hp
    exact (eslices_Backward_int  n x0 k).symm

/-! ### loop.example/g00269/impl.NeedsAll -/
theorem cimpl_NeedsAll (n : Nat) : AllOk Try.prog [(49, Kimpl_GoodPlan @impl_GoodPlan n), (80, Kimpl_in @impl_in n), (94, Kimpl_order @impl_order n), (97, Kslices_Backward_int @slices_Backward_int n)] := ⟨okimpl_GoodPlan n, ⟨okimpl_in n, ⟨okimpl_order n, ⟨okslices_Backward_int n, trivial⟩⟩⟩⟩
@[reducible] def Simpl_NeedsAll_l9 : PkS := ⟨[.one (.int .i64), .one (.box (100000, 0) 0), .one (.box (100000, 2) 0), .one (.whole (100000, 3)), .one (.ro (.int .i64)), .one (.int .i64), .one (.int .i64), .one (.fn 148 [((100000, 4), 0)]), .one (.int .i64), .one (.box (100000, 0) 0), .one (.box (100000, 2) 0), .one (.whole (100000, 3)), .one (.dead), .one (.dead)], [((100000, 0), .box [.ro (.pr (.int .i64) (.sl (.int .i64)))]), ((100000, 1), .arr .bool), ((100000, 2), .box [.whole (100000, 1)]), ((100000, 3), .arr (.int .i64)), ((100000, 4), .box [.ro (.int .i64)])]⟩
@[reducible] def Timpl_NeedsAll_l9_0 : PkS := ⟨[.one (.int .i64), .one (.box (100000, 0) 0), .one (.box (100000, 2) 0), .one (.whole (100000, 3)), .one (.fn 148 [((100000, 4), 0)]), .one (.int .i64), .one (.box (100000, 0) 0), .one (.box (100000, 2) 0), .one (.whole (100000, 3)), .one (.dead), .one (.dead)], [((100000, 0), .box [.ro (.pr (.int .i64) (.sl (.int .i64)))]), ((100000, 1), .arr .bool), ((100000, 2), .box [.whole (100000, 1)]), ((100000, 3), .arr (.int .i64)), ((100000, 4), .box [.ro (.int .i64)])]⟩
def Dimpl_NeedsAll_l9 : LoopD := ⟨74, [1, 2, 6, 7, 45, 46, 47], [.one .any, .box [(.ro (.pr (.int .i64) (.sl (.int .i64))))], .box [(.own .bool)], .one (.own (.int .i64)), .one (.ro (.int .i64)), .one .any, .one .any, .fn 148 [[(.ro (.int .i64))]], .one .any, .box [(.ro (.pr (.int .i64) (.sl (.int .i64))))], .box [(.own .bool)], .one (.own (.int .i64)), .skip, .skip], fun x => match x with
  | .exit 2 => some ([1, 2, 6, 7], [.one .any, .box [(.ro (.pr (.int .i64) (.sl (.int .i64))))], .box [(.own .bool)], .one (.own (.int .i64)), .fn 148 [[(.ro (.int .i64))]], .one .any, .box [(.ro (.pr (.int .i64) (.sl (.int .i64))))], .box [(.own .bool)], .one (.own (.int .i64)), .skip, .skip])
  | _ => none⟩
def Pimpl_NeedsAll_l9 (g : ∀ {R : Type}, Nat → Int → (List Int) → Int → Int → Int → (List (Int × List Int)) → (List Bool) → (List Int) → (List Int) → (Int → Int → (List (Int × List Int)) → (List Bool) → (List Int) → (List Int) → Option R) → Option R) (n : Nat) : LPs := fun R q kk => match (PkS.un Simpl_NeedsAll_l9 q : Option (Int × (List Int) × Int × Int × Int × (List (Int × List Int)) × (List Bool) × (List Int) × (List Int) × Unit)) with
  | some (y9_0, y9_1, y9_2, y9_3, y9_4, y9_5, y9_6, y9_7, y9_8, _) => g n y9_0 y9_1 y9_2 y9_3 y9_4 y9_5 y9_6 y9_7 y9_8 (fun r0 r1 r2 r3 r4 r5 => kk (.exit 2) (PkS.pack Timpl_NeedsAll_l9_0 (r0, r1, r2, r3, r4, r5, ())))
  | none => none
theorem eimpl_NeedsAll_l9 (impl_GoodPlan : ∀ {R : Type}, Nat → (List (Int × List Int)) → (Bool → Option R) → Option R) (impl_in : ∀ {R : Type}, Nat → Int → Int → Int → (Bool → Option R) → Option R) (impl_order : ∀ {R : Type}, Nat → (List (Int × List Int)) → ((List Int) → Option R) → Option R) (slices_Backward_int : ∀ {R : Type}, Nat → (List Int) → ((List Int) → Option R) → Option R) (impl_NeedsAll_l9 : ∀ {R : Type}, Nat → Int → (List Int) → Int → Int → Int → (List (Int × List Int)) → (List Bool) → (List Int) → (List Int) → (Int → Int → (List (Int × List Int)) → (List Bool) → (List Int) → (List Int) → Option R) → Option R) {R : Type} (n : Nat) (y9_0 : Int) (y9_1 : List Int) (y9_2 : Int) (y9_3 : Int) (y9_4 : Int) (y9_5 : List (Int × List Int)) (y9_6 : List Bool) (y9_7 : List Int) (y9_8 : List Int) (kk : Ex → Pk → Option R) : Dimpl_NeedsAll_l9.step tt sig (mkK [(49, Kimpl_GoodPlan @impl_GoodPlan n), (80, Kimpl_in @impl_in n), (94, Kimpl_order @impl_order n), (97, Kslices_Backward_int @slices_Backward_int n)] R) (mkL (mkK [(49, Kimpl_GoodPlan @impl_GoodPlan n), (80, Kimpl_in @impl_in n), (94, Kimpl_order @impl_order n), (97, Kslices_Backward_int @slices_Backward_int n)]) [] R) (loopIn 9 (bodyOf Try.f39)) (fun q' => Pimpl_NeedsAll_l9 @impl_NeedsAll_l9 n R q' kk) (PkS.pack Simpl_NeedsAll_l9 (y9_0, y9_1, y9_2, y9_3, y9_4, y9_5, y9_6, y9_7, y9_8, ())) kk = (fun (kexit2 : Int → Int → (List (Int × List Int)) → (List Bool) → (List Int) → (List Int) → Option R) => (bif (decide (y9_3 < y9_2)) then (bif decide (0 ≤ y9_3) then (bif decide (y9_3 < (y9_1.length : Int)) then (bif decide (0 ≤ (y9_1.getD (Int.toNat y9_3) 0)) then (bif decide ((y9_1.getD (Int.toNat y9_3) 0) < (y9_6.length : Int)) then impl_NeedsAll_l9 n y9_0 y9_1 y9_2 (IntKind.wrap .i64 (y9_3 + 1)) y9_4 y9_5 (y9_6.set (Int.toNat (y9_1.getD (Int.toNat y9_3) 0)) true) y9_7 y9_8 kexit2 else none) else none) else none) else none) else kexit2 y9_0 y9_4 y9_5 y9_6 y9_7 y9_8)) (fun r0 r1 r2 r3 r4 r5 => kk (.exit 2) (PkS.pack Timpl_NeedsAll_l9_0 (r0, r1, r2, r3, r4, r5, ()))) := by kernel_rfl
theorem leimpl_NeedsAll_l9 : LoopEq tt sig (fun n => mkK [(49, Kimpl_GoodPlan @impl_GoodPlan n), (80, Kimpl_in @impl_in n), (94, Kimpl_order @impl_order n), (97, Kslices_Backward_int @slices_Backward_int n)]) (fun n => mkL (mkK [(49, Kimpl_GoodPlan @impl_GoodPlan n), (80, Kimpl_in @impl_in n), (94, Kimpl_order @impl_order n), (97, Kslices_Backward_int @slices_Backward_int n)]) []) Dimpl_NeedsAll_l9 Simpl_NeedsAll_l9 (loopIn 9 (bodyOf Try.f39)) (Pimpl_NeedsAll_l9 @impl_NeedsAll_l9) where
  zero R q kk := by unfold Pimpl_NeedsAll_l9; cases (PkS.un Simpl_NeedsAll_l9 q) <;> rfl
  succ n R q kk := by
    unfold Pimpl_NeedsAll_l9
    cases h : (PkS.un Simpl_NeedsAll_l9 q) with
    | none => rfl
    | some d =>
      obtain ⟨y9_0, y9_1, y9_2, y9_3, y9_4, y9_5, y9_6, y9_7, y9_8, u⟩ := (d : Int × (List Int) × Int × Int × Int × (List (Int × List Int)) × (List Bool) × (List Int) × (List Int) × Unit)
      have hp := PkS.un_pack h
      subst hp
      exact (eimpl_NeedsAll_l9 @impl_GoodPlan @impl_in @impl_order @slices_Backward_int @impl_NeedsAll_l9 n y9_0 y9_1 y9_2 y9_3 y9_4 y9_5 y9_6 y9_7 y9_8 kk).symm
theorem nlimpl_NeedsAll_l9 : ∀ n, NatLP (Pimpl_NeedsAll_l9 @impl_NeedsAll_l9 n) := leimpl_NeedsAll_l9.nat (fun n => mkK_nat (cimpl_NeedsAll n)) fun n => mkL_nat (mkK_nat (cimpl_NeedsAll n)) (l := []) trivial
theorem inimpl_NeedsAll_l9 (n : Nat) (R : Type) : LoopsOk Try.prog (mkL (mkK [(49, Kimpl_GoodPlan @impl_GoodPlan n), (80, Kimpl_in @impl_in n), (94, Kimpl_order @impl_order n), (97, Kslices_Backward_int @slices_Backward_int n)]) [] R) (loopIn 9 (bodyOf Try.f39)) := .eq (l := []) (by kernel_rfl) trivial
theorem lkimpl_NeedsAll_l9 (n : Nat) (R : Type) (L0 : LK R) (h0 : ∀ id, firstRegion (loopIn 9 (bodyOf Try.f39)) = some id → L0 id = Dimpl_NeedsAll_l9.oracle (mkK [(49, Kimpl_GoodPlan @impl_GoodPlan n), (80, Kimpl_in @impl_in n), (94, Kimpl_order @impl_order n), (97, Kslices_Backward_int @slices_Backward_int n)] R) (Pimpl_NeedsAll_l9 @impl_NeedsAll_l9 n R)) : LoopOk Try.prog L0 (loopIn 9 (bodyOf Try.f39)) :=
  leimpl_NeedsAll_l9.ok mixed ttok (fun n => mkK_nat (cimpl_NeedsAll n)) (fun n => mkK_ok (cimpl_NeedsAll n)) (fun n => inimpl_NeedsAll_l9 n R) (mkK_nat (cimpl_NeedsAll n)) h0
@[reducible] def Simpl_NeedsAll_l7 : PkS := ⟨[.one (.fn 148 [((100000, 0), 0)]), .one (.int .i64), .one (.box (100000, 1) 0), .one (.box (100000, 3) 0), .one (.whole (100000, 4)), .one (.dead), .one (.dead)], [((100000, 0), .box [.ro (.int .i64)]), ((100000, 1), .box [.ro (.pr (.int .i64) (.sl (.int .i64)))]), ((100000, 2), .arr .bool), ((100000, 3), .box [.whole (100000, 2)]), ((100000, 4), .arr (.int .i64))]⟩
@[reducible] def Timpl_NeedsAll_l7_0 : PkS := ⟨[.one (.dead), .one (.int .i64), .one (.dead), .one (.box (100000, 1) 0), .one (.whole (100000, 2)), .one (.dead), .one (.dead)], [((100000, 0), .arr .bool), ((100000, 1), .box [.whole (100000, 0)]), ((100000, 2), .arr (.int .i64))]⟩
def Dimpl_NeedsAll_l7 : RangeD := ⟨74, 34, 148, (.int .i64), false, 35, 36, [1, 2, 6, 7], [.one .any, .box [(.ro (.pr (.int .i64) (.sl (.int .i64))))], .box [(.own .bool)], .one (.own (.int .i64)), .skip, .skip], fun x => match x with
  | .normal => some [.skip, .one .any, .skip, .box [(.own .bool)], .one (.own (.int .i64)), .skip, .skip]
  | _ => none⟩
def Pimpl_NeedsAll_l7 (g : ∀ {R : Type}, Nat → Int → (List Int) → (List (Int × List Int)) → (List Bool) → (List Int) → Int → (Int → (List Bool) → (List Int) → Option R) → Option R) (n : Nat) : RPs := fun R q j kk => match (PkS.un Simpl_NeedsAll_l7 q : Option (Int × (List Int) × (List (Int × List Int)) × (List Bool) × (List Int) × Unit)) with
  | some (y7_0, y7_1, y7_2, y7_3, y7_4, _) => g n y7_0 y7_1 y7_2 y7_3 y7_4 j (fun r0 r1 r2 => kk (.normal) (PkS.pack Timpl_NeedsAll_l7_0 (r0, r1, r2, ())))
  | none => none
theorem eimpl_NeedsAll_l7 (impl_GoodPlan : ∀ {R : Type}, Nat → (List (Int × List Int)) → (Bool → Option R) → Option R) (impl_in : ∀ {R : Type}, Nat → Int → Int → Int → (Bool → Option R) → Option R) (impl_order : ∀ {R : Type}, Nat → (List (Int × List Int)) → ((List Int) → Option R) → Option R) (slices_Backward_int : ∀ {R : Type}, Nat → (List Int) → ((List Int) → Option R) → Option R) (impl_NeedsAll_l9 : ∀ {R : Type}, Nat → Int → (List Int) → Int → Int → Int → (List (Int × List Int)) → (List Bool) → (List Int) → (List Int) → (Int → Int → (List (Int × List Int)) → (List Bool) → (List Int) → (List Int) → Option R) → Option R) (impl_NeedsAll_l7 : ∀ {R : Type}, Nat → Int → (List Int) → (List (Int × List Int)) → (List Bool) → (List Int) → Int → (Int → (List Bool) → (List Int) → Option R) → Option R) {R : Type} (n : Nat) (y7_0 : Int) (y7_1 : List Int) (y7_2 : List (Int × List Int)) (y7_3 : List Bool) (y7_4 : List Int) (i7_ : Int) (kk : Ex → Pk → Option R) : Dimpl_NeedsAll_l7.step tt sig (mkK [(49, Kimpl_GoodPlan @impl_GoodPlan n), (80, Kimpl_in @impl_in n), (94, Kimpl_order @impl_order n), (97, Kslices_Backward_int @slices_Backward_int n)] R) (mkL (mkK [(49, Kimpl_GoodPlan @impl_GoodPlan n), (80, Kimpl_in @impl_in n), (94, Kimpl_order @impl_order n), (97, Kslices_Backward_int @slices_Backward_int n)]) [(9, Dimpl_NeedsAll_l9, Pimpl_NeedsAll_l9 @impl_NeedsAll_l9 n)] R) (asgIn 7 (bodyOf Try.f39)) (loopIn 7 (bodyOf Try.f39)) (fun q' j => Pimpl_NeedsAll_l7 @impl_NeedsAll_l7 n R q' j kk) (PkS.pack Simpl_NeedsAll_l7 (y7_0, y7_1, y7_2, y7_3, y7_4, ())) i7_ kk = (fun (knormal : Int → (List Bool) → (List Int) → Option R) => (bif decide (i7_ ≥ 0) then (bif decide (i7_ < (y7_1.length : Int)) then (bif decide (0 ≤ (y7_1.getD (Int.toNat i7_) 0)) then (bif decide ((y7_1.getD (Int.toNat i7_) 0) < (y7_3.length : Int)) then (bif (y7_3.getD (Int.toNat (y7_1.getD (Int.toNat i7_) 0)) false) then (bif decide (0 ≤ (y7_1.getD (Int.toNat i7_) 0)) then (bif decide ((y7_1.getD (Int.toNat i7_) 0) < (y7_2.length : Int)) then (impl_NeedsAll_l9 n y7_0 ((y7_2.getD (Int.toNat (y7_1.getD (Int.toNat i7_) 0)) (0, [])).2) (((y7_2.getD (Int.toNat (y7_1.getD (Int.toNat i7_) 0)) (0, [])).2).length : Int) 0 y7_0 y7_2 y7_3 y7_4 y7_1 (fun r5 r6 r7 r8 r9 r10 => impl_NeedsAll_l7 n r6 r10 r7 r8 r9 (IntKind.wrap .i64 (i7_ - 1)) knormal)) else none) else none) else impl_NeedsAll_l7 n y7_0 y7_1 y7_2 y7_3 y7_4 (IntKind.wrap .i64 (i7_ - 1)) knormal) else none) else none) else none) else knormal y7_0 y7_3 y7_4)) (fun r0 r1 r2 => kk (.normal) (PkS.pack Timpl_NeedsAll_l7_0 (r0, r1, r2, ()))) := by kernel_rfl
theorem leimpl_NeedsAll_l7 : RangeEq tt sig (fun n => mkK [(49, Kimpl_GoodPlan @impl_GoodPlan n), (80, Kimpl_in @impl_in n), (94, Kimpl_order @impl_order n), (97, Kslices_Backward_int @slices_Backward_int n)]) (fun n => mkL (mkK [(49, Kimpl_GoodPlan @impl_GoodPlan n), (80, Kimpl_in @impl_in n), (94, Kimpl_order @impl_order n), (97, Kslices_Backward_int @slices_Backward_int n)]) [(9, Dimpl_NeedsAll_l9, Pimpl_NeedsAll_l9 @impl_NeedsAll_l9 n)]) Dimpl_NeedsAll_l7 Simpl_NeedsAll_l7 (asgIn 7 (bodyOf Try.f39)) (loopIn 7 (bodyOf Try.f39)) (Pimpl_NeedsAll_l7 @impl_NeedsAll_l7) where
  zero R q j kk := by unfold Pimpl_NeedsAll_l7; cases (PkS.un Simpl_NeedsAll_l7 q) <;> rfl
  succ n R q j kk := by
    unfold Pimpl_NeedsAll_l7
    cases h : (PkS.un Simpl_NeedsAll_l7 q) with
    | none => rfl
    | some d =>
      obtain ⟨y7_0, y7_1, y7_2, y7_3, y7_4, u⟩ := (d : Int × (List Int) × (List (Int × List Int)) × (List Bool) × (List Int) × Unit)
      have hp := PkS.un_pack h
      subst hp
      exact (eimpl_NeedsAll_l7 @impl_GoodPlan @impl_in @impl_order @slices_Backward_int @impl_NeedsAll_l9 @impl_NeedsAll_l7 n y7_0 y7_1 y7_2 y7_3 y7_4 j kk).symm
theorem nlimpl_NeedsAll_l7 : ∀ n, NatRP (Pimpl_NeedsAll_l7 @impl_NeedsAll_l7 n) := leimpl_NeedsAll_l7.nat (fun n => mkK_nat (cimpl_NeedsAll n)) fun n => mkL_nat (mkK_nat (cimpl_NeedsAll n)) (l := [(9, Dimpl_NeedsAll_l9, Pimpl_NeedsAll_l9 @impl_NeedsAll_l9 n)]) ⟨nlimpl_NeedsAll_l9 n, trivial⟩
theorem inimpl_NeedsAll_l7 (n : Nat) (R : Type) : LoopsOk Try.prog (mkL (mkK [(49, Kimpl_GoodPlan @impl_GoodPlan n), (80, Kimpl_in @impl_in n), (94, Kimpl_order @impl_order n), (97, Kslices_Backward_int @slices_Backward_int n)]) [(9, Dimpl_NeedsAll_l9, Pimpl_NeedsAll_l9 @impl_NeedsAll_l9 n)] R) (loopIn 7 (bodyOf Try.f39)) := .eq (l := [.lo (loopIn 9 (bodyOf Try.f39))]) (by kernel_rfl) ⟨(lkimpl_NeedsAll_l9 n R _ (at_id (i := 9) (by kernel_rfl) rfl)), trivial⟩
theorem rkimpl_NeedsAll_l7 (n : Nat) (R : Type) (L0 : LK R) (h0 : ∀ id, firstRegion (loopIn 7 (bodyOf Try.f39)) = some id → L0 id = Dimpl_NeedsAll_l7.oracle (mkK [(49, Kimpl_GoodPlan @impl_GoodPlan n), (80, Kimpl_in @impl_in n), (94, Kimpl_order @impl_order n), (97, Kslices_Backward_int @slices_Backward_int n)] R) (Pimpl_NeedsAll_l7 @impl_NeedsAll_l7 n R)) : RangeOk Try.prog L0 (.tmp 34) #[35, 36] (asgIn 7 (bodyOf Try.f39)) (loopIn 7 (bodyOf Try.f39)) :=
  leimpl_NeedsAll_l7.ok mixed ttok (fun n => mkK_nat (cimpl_NeedsAll n)) (fun n => mkK_ok (cimpl_NeedsAll n)) (fun n => .eq (l := []) (by kernel_rfl) trivial) (fun n => inimpl_NeedsAll_l7 n R) (by kernel_rfl) (by kernel_rfl) (by kernel_rfl) (by kernel_rfl) (ts := 22) (te := 3) (ti := 3) (tb := 4) (ty := 155) (by kernel_rfl) ⟨Try.f148, by kernel_rfl, by kernel_rfl, by kernel_rfl, by kernel_rfl, by kernel_rfl⟩ (mkK_nat (cimpl_NeedsAll n)) h0
@[reducible] def Simpl_NeedsAll_l14 : PkS := ⟨[.one (.int .i64), .one (.whole (100000, 0)), .one (.whole (100000, 1)), .one (.int .i64), .one (.int .i64), .one (.dead), .one (.dead)], [((100000, 0), .arr (.int .i64)), ((100000, 1), .arr .bool)]⟩
@[reducible] def Timpl_NeedsAll_l14_0 : PkS := ⟨[.one (.whole (100000, 0)), .one (.dead), .one (.dead)], [((100000, 0), .arr (.int .i64))]⟩
def Dimpl_NeedsAll_l14 : LoopD := ⟨74, [1, 7, 55, 56, 57], [.one .any, .one (.own (.int .i64)), .one (.own .bool), .one .any, .one .any, .skip, .skip], fun x => match x with
  | .exit 4 => some ([7], [.one (.own (.int .i64)), .skip, .skip])
  | _ => none⟩
def Pimpl_NeedsAll_l14 (g : ∀ {R : Type}, Nat → Int → Int → Int → (List Int) → (List Bool) → ((List Int) → Option R) → Option R) (n : Nat) : LPs := fun R q kk => match (PkS.un Simpl_NeedsAll_l14 q : Option (Int × Int × Int × (List Int) × (List Bool) × Unit)) with
  | some (y14_0, y14_1, y14_2, y14_3, y14_4, _) => g n y14_0 y14_1 y14_2 y14_3 y14_4 (fun r0 => kk (.exit 4) (PkS.pack Timpl_NeedsAll_l14_0 (r0, ())))
  | none => none
theorem eimpl_NeedsAll_l14 (impl_GoodPlan : ∀ {R : Type}, Nat → (List (Int × List Int)) → (Bool → Option R) → Option R) (impl_in : ∀ {R : Type}, Nat → Int → Int → Int → (Bool → Option R) → Option R) (impl_order : ∀ {R : Type}, Nat → (List (Int × List Int)) → ((List Int) → Option R) → Option R) (slices_Backward_int : ∀ {R : Type}, Nat → (List Int) → ((List Int) → Option R) → Option R) (impl_NeedsAll_l9 : ∀ {R : Type}, Nat → Int → (List Int) → Int → Int → Int → (List (Int × List Int)) → (List Bool) → (List Int) → (List Int) → (Int → Int → (List (Int × List Int)) → (List Bool) → (List Int) → (List Int) → Option R) → Option R) (impl_NeedsAll_l14 : ∀ {R : Type}, Nat → Int → Int → Int → (List Int) → (List Bool) → ((List Int) → Option R) → Option R) {R : Type} (n : Nat) (y14_0 : Int) (y14_1 : Int) (y14_2 : Int) (y14_3 : List Int) (y14_4 : List Bool) (kk : Ex → Pk → Option R) : Dimpl_NeedsAll_l14.step tt sig (mkK [(49, Kimpl_GoodPlan @impl_GoodPlan n), (80, Kimpl_in @impl_in n), (94, Kimpl_order @impl_order n), (97, Kslices_Backward_int @slices_Backward_int n)] R) (mkL (mkK [(49, Kimpl_GoodPlan @impl_GoodPlan n), (80, Kimpl_in @impl_in n), (94, Kimpl_order @impl_order n), (97, Kslices_Backward_int @slices_Backward_int n)]) [(9, Dimpl_NeedsAll_l9, Pimpl_NeedsAll_l9 @impl_NeedsAll_l9 n)] R) (loopIn 14 (bodyOf Try.f39)) (fun q' => Pimpl_NeedsAll_l14 @impl_NeedsAll_l14 n R q' kk) (PkS.pack Simpl_NeedsAll_l14 (y14_0, y14_1, y14_2, y14_3, y14_4, ())) kk = (fun (kexit4 : (List Int) → Option R) => (bif (decide (y14_2 < y14_1)) then (bif decide (0 ≤ y14_2) then (bif decide (y14_2 < (y14_4.length : Int)) then (bif (y14_4.getD (Int.toNat y14_2) false) then (bif (y14_2 != y14_0) then (bif decide (y14_3.length + [y14_2].length ≤ LIM) then impl_NeedsAll_l14 n y14_0 y14_1 (IntKind.wrap .i64 (y14_2 + 1)) (y14_3 ++ [y14_2]) y14_4 kexit4 else none) else impl_NeedsAll_l14 n y14_0 y14_1 (IntKind.wrap .i64 (y14_2 + 1)) y14_3 y14_4 kexit4) else impl_NeedsAll_l14 n y14_0 y14_1 (IntKind.wrap .i64 (y14_2 + 1)) y14_3 y14_4 kexit4) else none) else none) else kexit4 y14_3)) (fun r0 => kk (.exit 4) (PkS.pack Timpl_NeedsAll_l14_0 (r0, ()))) := by kernel_rfl
theorem leimpl_NeedsAll_l14 : LoopEq tt sig (fun n => mkK [(49, Kimpl_GoodPlan @impl_GoodPlan n), (80, Kimpl_in @impl_in n), (94, Kimpl_order @impl_order n), (97, Kslices_Backward_int @slices_Backward_int n)]) (fun n => mkL (mkK [(49, Kimpl_GoodPlan @impl_GoodPlan n), (80, Kimpl_in @impl_in n), (94, Kimpl_order @impl_order n), (97, Kslices_Backward_int @slices_Backward_int n)]) [(9, Dimpl_NeedsAll_l9, Pimpl_NeedsAll_l9 @impl_NeedsAll_l9 n)]) Dimpl_NeedsAll_l14 Simpl_NeedsAll_l14 (loopIn 14 (bodyOf Try.f39)) (Pimpl_NeedsAll_l14 @impl_NeedsAll_l14) where
  zero R q kk := by unfold Pimpl_NeedsAll_l14; cases (PkS.un Simpl_NeedsAll_l14 q) <;> rfl
  succ n R q kk := by
    unfold Pimpl_NeedsAll_l14
    cases h : (PkS.un Simpl_NeedsAll_l14 q) with
    | none => rfl
    | some d =>
      obtain ⟨y14_0, y14_1, y14_2, y14_3, y14_4, u⟩ := (d : Int × Int × Int × (List Int) × (List Bool) × Unit)
      have hp := PkS.un_pack h
      subst hp
      exact (eimpl_NeedsAll_l14 @impl_GoodPlan @impl_in @impl_order @slices_Backward_int @impl_NeedsAll_l9 @impl_NeedsAll_l14 n y14_0 y14_1 y14_2 y14_3 y14_4 kk).symm
theorem nlimpl_NeedsAll_l14 : ∀ n, NatLP (Pimpl_NeedsAll_l14 @impl_NeedsAll_l14 n) := leimpl_NeedsAll_l14.nat (fun n => mkK_nat (cimpl_NeedsAll n)) fun n => mkL_nat (mkK_nat (cimpl_NeedsAll n)) (l := [(9, Dimpl_NeedsAll_l9, Pimpl_NeedsAll_l9 @impl_NeedsAll_l9 n)]) ⟨nlimpl_NeedsAll_l9 n, trivial⟩
theorem inimpl_NeedsAll_l14 (n : Nat) (R : Type) : LoopsOk Try.prog (mkL (mkK [(49, Kimpl_GoodPlan @impl_GoodPlan n), (80, Kimpl_in @impl_in n), (94, Kimpl_order @impl_order n), (97, Kslices_Backward_int @slices_Backward_int n)]) [(9, Dimpl_NeedsAll_l9, Pimpl_NeedsAll_l9 @impl_NeedsAll_l9 n)] R) (loopIn 14 (bodyOf Try.f39)) := .eq (l := []) (by kernel_rfl) trivial
theorem lkimpl_NeedsAll_l14 (n : Nat) (R : Type) (L0 : LK R) (h0 : ∀ id, firstRegion (loopIn 14 (bodyOf Try.f39)) = some id → L0 id = Dimpl_NeedsAll_l14.oracle (mkK [(49, Kimpl_GoodPlan @impl_GoodPlan n), (80, Kimpl_in @impl_in n), (94, Kimpl_order @impl_order n), (97, Kslices_Backward_int @slices_Backward_int n)] R) (Pimpl_NeedsAll_l14 @impl_NeedsAll_l14 n R)) : LoopOk Try.prog L0 (loopIn 14 (bodyOf Try.f39)) :=
  leimpl_NeedsAll_l14.ok mixed ttok (fun n => mkK_nat (cimpl_NeedsAll n)) (fun n => mkK_ok (cimpl_NeedsAll n)) (fun n => inimpl_NeedsAll_l14 n R) (mkK_nat (cimpl_NeedsAll n)) h0
@[reducible] def Simpl_NeedsAll : PkS := ⟨[.one (.ro (.pr (.int .i64) (.sl (.int .i64)))), .one (.int .i64)], []⟩
@[reducible] def Timpl_NeedsAll : PkS := ⟨[.tup [(false, [.whole (300000, 0)]), (false, [.bool])], .one (.dead), .one (.dead)], [((300000, 0), .arr (.int .i64))]⟩
def Himpl_NeedsAll : List Sh := [.tup [(false, [(.own (.int .i64))]), (false, [.any])], .skip, .skip]
def Kimpl_NeedsAll (g : ∀ {R : Type}, Nat → (List (Int × List Int)) → Int → (Bool → (List Int) → Option R) → Option R) (n : Nat) : KPs := fun R p k => match (PkS.un Simpl_NeedsAll p : Option ((List (Int × List Int)) × Int × Unit)) with
  | some (x0, x1, _) => g n x0 x1 (fun r0 r1 => k (PkS.pack Timpl_NeedsAll (r0, r1, ())))
  | none => none
theorem eimpl_NeedsAll (impl_GoodPlan : ∀ {R : Type}, Nat → (List (Int × List Int)) → (Bool → Option R) → Option R) (impl_in : ∀ {R : Type}, Nat → Int → Int → Int → (Bool → Option R) → Option R) (impl_order : ∀ {R : Type}, Nat → (List (Int × List Int)) → ((List Int) → Option R) → Option R) (slices_Backward_int : ∀ {R : Type}, Nat → (List Int) → ((List Int) → Option R) → Option R) (impl_NeedsAll_l9 : ∀ {R : Type}, Nat → Int → (List Int) → Int → Int → Int → (List (Int × List Int)) → (List Bool) → (List Int) → (List Int) → (Int → Int → (List (Int × List Int)) → (List Bool) → (List Int) → (List Int) → Option R) → Option R) (impl_NeedsAll_l14 : ∀ {R : Type}, Nat → Int → Int → Int → (List Int) → (List Bool) → ((List Int) → Option R) → Option R) (impl_NeedsAll_l7 : ∀ {R : Type}, Nat → Int → (List Int) → (List (Int × List Int)) → (List Bool) → (List Int) → Int → (Int → (List Bool) → (List Int) → Option R) → Option R) {R : Type} (n : Nat) (x0 : List (Int × List Int)) (x1 : Int) (k : Pk → Option R) : evF tt sig (mkK [(49, Kimpl_GoodPlan @impl_GoodPlan n), (80, Kimpl_in @impl_in n), (94, Kimpl_order @impl_order n), (97, Kslices_Backward_int @slices_Backward_int n)] R) (addR (mkK [(49, Kimpl_GoodPlan @impl_GoodPlan n), (80, Kimpl_in @impl_in n), (94, Kimpl_order @impl_order n), (97, Kslices_Backward_int @slices_Backward_int n)]) (mkL (mkK [(49, Kimpl_GoodPlan @impl_GoodPlan n), (80, Kimpl_in @impl_in n), (94, Kimpl_order @impl_order n), (97, Kslices_Backward_int @slices_Backward_int n)]) [(9, Dimpl_NeedsAll_l9, Pimpl_NeedsAll_l9 @impl_NeedsAll_l9 n), (14, Dimpl_NeedsAll_l14, Pimpl_NeedsAll_l14 @impl_NeedsAll_l14 n)]) 7 Dimpl_NeedsAll_l7 (Pimpl_NeedsAll_l7 @impl_NeedsAll_l7 n) R) Try.f39 Himpl_NeedsAll (PkS.pack Simpl_NeedsAll (x0, x1, ())) k = (fun (k : Bool → (List Int) → Option R) => (impl_GoodPlan n x0 fun r1 => (bif (!r1) then k false ([] : List Int) else (impl_in n x1 0 (IntKind.wrap .i64 ((x0.length : Int) - 1)) fun r2 => (bif (!r2) then k false ([] : List Int) else (bif decide (0 ≤ (x0.length : Int)) then (bif decide ((x0.length : Int) ≤ (x0.length : Int)) then (bif decide ((x0.length : Int) ≤ 1099511627776) then (bif decide (0 ≤ x1) then (bif decide (x1 < ((List.replicate (Int.toNat (x0.length : Int)) false).length : Int)) then (impl_order n x0 fun r3 => (slices_Backward_int n r3 fun r4 => (impl_NeedsAll_l7 n x1 r4 x0 ((List.replicate (Int.toNat (x0.length : Int)) false).set (Int.toNat x1) true) ([] : List Int) (IntKind.wrap .i64 ((r4.length : Int) - 1)) (fun r11 r12 r13 => (impl_NeedsAll_l14 n r11 (r12.length : Int) 0 r13 r12 (fun r14 => k true r14)))))) else none) else none) else none) else none) else none)))))) (fun r0 r1 => k (PkS.pack Timpl_NeedsAll (r0, r1, ()))) := by kernel_rfl
theorem okimpl_NeedsAll (n : Nat) : FnOk Try.prog 39 (Kimpl_NeedsAll @impl_NeedsAll n) := by
  refine fn_ok (sig := sig) mixed ttok (mkK_nat (cimpl_NeedsAll n)) (mkK_ok (cimpl_NeedsAll n)) (addR_nat (i := 7) (D := Dimpl_NeedsAll_l7) (mkK_nat (cimpl_NeedsAll n)) (mkL_nat (mkK_nat (cimpl_NeedsAll n)) (l := [(9, Dimpl_NeedsAll_l9, Pimpl_NeedsAll_l9 @impl_NeedsAll_l9 n), (14, Dimpl_NeedsAll_l14, Pimpl_NeedsAll_l14 @impl_NeedsAll_l14 n)]) ⟨nlimpl_NeedsAll_l9 n, ⟨nlimpl_NeedsAll_l14 n, trivial⟩⟩) (nlimpl_NeedsAll_l7 n)) (fn := Try.f39) (c := bodyOf Try.f39) (by kernel_rfl) (by kernel_rfl) (by kernel_rfl) (.eq (l := [.ra (.tmp 34) #[35, 36] (asgIn 7 (bodyOf Try.f39)) (loopIn 7 (bodyOf Try.f39)), .lo (loopIn 14 (bodyOf Try.f39))]) (by kernel_rfl) ⟨(rkimpl_NeedsAll_l7 n _ _ (at_id (i := 7) (by kernel_rfl) rfl)), ⟨(lkimpl_NeedsAll_l14 n _ _ (at_id (i := 14) (by kernel_rfl) rfl)), trivial⟩⟩) (shs := Himpl_NeedsAll) (S := Simpl_NeedsAll) (h1 := by kernel_rfl) fun R p k => ?_
  unfold Kimpl_NeedsAll
  cases h : (PkS.un Simpl_NeedsAll p) with
  | none => rfl
  | some d =>
    obtain ⟨x0, x1, u⟩ := (d : (List (Int × List Int)) × Int × Unit)
    have hp := PkS.un_pack h
    subst hp
    exact (eimpl_NeedsAll @impl_GoodPlan @impl_in @impl_order @slices_Backward_int @impl_NeedsAll_l9 @impl_NeedsAll_l14 @impl_NeedsAll_l7 n x0 x1 k).symm

/-! ### loop.example/g00269/spec.DrawNeedsAll -/
theorem cspec_DrawNeedsAll (n : Nat) : AllOk Try.prog [(98, Kspec_l1Cur_plan @spec_l1Cur_plan n), (99, Kspec_l1Cur_pick @spec_l1Cur_pick n)] := ⟨okspec_l1Cur_plan n, ⟨okspec_l1Cur_pick n, trivial⟩⟩
@[reducible] def Sspec_DrawNeedsAll : PkS := ⟨[.one (.ro (.int .u8))], []⟩
@[reducible] def Tspec_DrawNeedsAll : PkS := ⟨[.tup [(false, [.whole (300000, 0)]), (false, [.int .i64])], .one (.dead)], [((300000, 0), .arr (.pr (.int .i64) (.sl (.int .i64))))]⟩
def Hspec_DrawNeedsAll : List Sh := [.tup [(false, [(.own (.pr (.int .i64) (.sl (.int .i64))))]), (false, [.any])], .skip]
def Kspec_DrawNeedsAll (g : ∀ {R : Type}, Nat → (List Int) → (Int → (List (Int × List Int)) → Option R) → Option R) (n : Nat) : KPs := fun R p k => match (PkS.un Sspec_DrawNeedsAll p : Option ((List Int) × Unit)) with
  | some (x0, _) => g n x0 (fun r0 r1 => k (PkS.pack Tspec_DrawNeedsAll (r0, r1, ())))
  | none => none
theorem espec_DrawNeedsAll (spec_l1Cur_plan : ∀ {R : Type}, Nat → (List Int) → Int → Int → ((List (Int × List Int)) → (List Int) → Int → Int → Option R) → Option R) (spec_l1Cur_pick : ∀ {R : Type}, Nat → Int → (List Int) → Int → Int → (Int → (List Int) → Int → Int → Option R) → Option R) {R : Type} (n : Nat) (x0 : List Int) (k : Pk → Option R) : evF tt sig (mkK [(98, Kspec_l1Cur_plan @spec_l1Cur_plan n), (99, Kspec_l1Cur_pick @spec_l1Cur_pick n)] R) (mkL (mkK [(98, Kspec_l1Cur_plan @spec_l1Cur_plan n), (99, Kspec_l1Cur_pick @spec_l1Cur_pick n)]) [] R) Try.f40 Hspec_DrawNeedsAll (PkS.pack Sspec_DrawNeedsAll (x0, ())) k = (fun (k : Int → (List (Int × List Int)) → Option R) => (spec_l1Cur_plan n x0 0 0 fun r1 r2 r3 r4 => (spec_l1Cur_pick n (IntKind.wrap .i64 ((r1.length : Int) + 2)) r2 r3 r4 fun r5 r6 r7 r8 => k (IntKind.wrap .i64 (r5 - 1)) r1))) (fun r0 r1 => k (PkS.pack Tspec_DrawNeedsAll (r0, r1, ()))) := by kernel_rfl
theorem okspec_DrawNeedsAll (n : Nat) : FnOk Try.prog 40 (Kspec_DrawNeedsAll @spec_DrawNeedsAll n) := by
  refine fn_ok (sig := sig) mixed ttok (mkK_nat (cspec_DrawNeedsAll n)) (mkK_ok (cspec_DrawNeedsAll n)) (mkL_nat (mkK_nat (cspec_DrawNeedsAll n)) (l := []) trivial) (fn := Try.f40) (c := bodyOf Try.f40) (by kernel_rfl) (by kernel_rfl) (by kernel_rfl) (.eq (l := []) (by kernel_rfl) trivial) (shs := Hspec_DrawNeedsAll) (S := Sspec_DrawNeedsAll) (h1 := by kernel_rfl) fun R p k => ?_
  unfold Kspec_DrawNeedsAll
  cases h : (PkS.un Sspec_DrawNeedsAll p) with
  | none => rfl
  | some d =>
    obtain ⟨x0, u⟩ := (d : (List Int) × Unit)
    have hp := PkS.un_pack h
    subst hp
    exact (espec_DrawNeedsAll @spec_l1Cur_plan @spec_l1Cur_pick n x0 k).symm

/-! ### loop.example/g00269/spec.NeedsAll -/
theorem cspec_NeedsAll (n : Nat) : AllOk Try.prog [(95, Kspec_GoodPlan @spec_GoodPlan n), (72, Kspec_l1In @spec_l1In n)] := ⟨okspec_GoodPlan n, ⟨okspec_l1In n, trivial⟩⟩
@[reducible] def Sspec_NeedsAll_l5 : PkS := ⟨[.one (.ro (.pr (.int .i64) (.sl (.int .i64)))), .one (.whole (100000, 0)), .one (.ro (.int .i64)), .one (.int .i64), .one (.int .i64), .one (.dead), .one (.dead)], [((100000, 0), .arr .bool)]⟩
@[reducible] def Tspec_NeedsAll_l5_0 : PkS := ⟨[.one (.ro (.pr (.int .i64) (.sl (.int .i64)))), .one (.whole (100000, 0)), .one (.dead), .one (.dead)], [((100000, 0), .arr .bool)]⟩
def Dspec_NeedsAll_l5 : LoopD := ⟨90, [0, 6, 34, 35, 36], [.one (.ro (.pr (.int .i64) (.sl (.int .i64)))), .one (.own .bool), .one (.ro (.int .i64)), .one .any, .one .any, .skip, .skip], fun x => match x with
  | .exit 0 => some ([0, 6], [.one (.ro (.pr (.int .i64) (.sl (.int .i64)))), .one (.own .bool), .skip, .skip])
  | _ => none⟩
def Pspec_NeedsAll_l5 (g : ∀ {R : Type}, Nat → (List (Int × List Int)) → (List Int) → Int → Int → (List Bool) → ((List (Int × List Int)) → (List Bool) → Option R) → Option R) (n : Nat) : LPs := fun R q kk => match (PkS.un Sspec_NeedsAll_l5 q : Option ((List (Int × List Int)) × (List Int) × Int × Int × (List Bool) × Unit)) with
  | some (y5_0, y5_1, y5_2, y5_3, y5_4, _) => g n y5_0 y5_1 y5_2 y5_3 y5_4 (fun r0 r1 => kk (.exit 0) (PkS.pack Tspec_NeedsAll_l5_0 (r0, r1, ())))
  | none => none
theorem espec_NeedsAll_l5 (spec_GoodPlan : ∀ {R : Type}, Nat → (List (Int × List Int)) → (Bool → Option R) → Option R) (spec_l1In : ∀ {R : Type}, Nat → Int → Int → Int → (Bool → Option R) → Option R) (spec_NeedsAll_l5 : ∀ {R : Type}, Nat → (List (Int × List Int)) → (List Int) → Int → Int → (List Bool) → ((List (Int × List Int)) → (List Bool) → Option R) → Option R) {R : Type} (n : Nat) (y5_0 : List (Int × List Int)) (y5_1 : List Int) (y5_2 : Int) (y5_3 : Int) (y5_4 : List Bool) (kk : Ex → Pk → Option R) : Dspec_NeedsAll_l5.step tt sig (mkK [(95, Kspec_GoodPlan @spec_GoodPlan n), (72, Kspec_l1In @spec_l1In n)] R) (mkL (mkK [(95, Kspec_GoodPlan @spec_GoodPlan n), (72, Kspec_l1In @spec_l1In n)]) [] R) (loopIn 5 (bodyOf Try.f41)) (fun q' => Pspec_NeedsAll_l5 @spec_NeedsAll_l5 n R q' kk) (PkS.pack Sspec_NeedsAll_l5 (y5_0, y5_1, y5_2, y5_3, y5_4, ())) kk = (fun (kexit0 : (List (Int × List Int)) → (List Bool) → Option R) => (bif (decide (y5_3 < y5_2)) then (bif decide (0 ≤ y5_3) then (bif decide (y5_3 < (y5_1.length : Int)) then (bif decide (0 ≤ (y5_1.getD (Int.toNat y5_3) 0)) then (bif decide ((y5_1.getD (Int.toNat y5_3) 0) < (y5_4.length : Int)) then spec_NeedsAll_l5 n y5_0 y5_1 y5_2 (IntKind.wrap .i64 (y5_3 + 1)) (y5_4.set (Int.toNat (y5_1.getD (Int.toNat y5_3) 0)) true) kexit0 else none) else none) else none) else none) else kexit0 y5_0 y5_4)) (fun r0 r1 => kk (.exit 0) (PkS.pack Tspec_NeedsAll_l5_0 (r0, r1, ()))) := by kernel_rfl
theorem lespec_NeedsAll_l5 : LoopEq tt sig (fun n => mkK [(95, Kspec_GoodPlan @spec_GoodPlan n), (72, Kspec_l1In @spec_l1In n)]) (fun n => mkL (mkK [(95, Kspec_GoodPlan @spec_GoodPlan n), (72, Kspec_l1In @spec_l1In n)]) []) Dspec_NeedsAll_l5 Sspec_NeedsAll_l5 (loopIn 5 (bodyOf Try.f41)) (Pspec_NeedsAll_l5 @spec_NeedsAll_l5) where
  zero R q kk := by unfold Pspec_NeedsAll_l5; cases (PkS.un Sspec_NeedsAll_l5 q) <;> rfl
  succ n R q kk := by
    unfold Pspec_NeedsAll_l5
    cases h : (PkS.un Sspec_NeedsAll_l5 q) with
    | none => rfl
    | some d =>
      obtain ⟨y5_0, y5_1, y5_2, y5_3, y5_4, u⟩ := (d : (List (Int × List Int)) × (List Int) × Int × Int × (List Bool) × Unit)
      have hp := PkS.un_pack h
      subst hp
      exact (espec_NeedsAll_l5 @spec_GoodPlan @spec_l1In @spec_NeedsAll_l5 n y5_0 y5_1 y5_2 y5_3 y5_4 kk).symm
theorem nlspec_NeedsAll_l5 : ∀ n, NatLP (Pspec_NeedsAll_l5 @spec_NeedsAll_l5 n) := lespec_NeedsAll_l5.nat (fun n => mkK_nat (cspec_NeedsAll n)) fun n => mkL_nat (mkK_nat (cspec_NeedsAll n)) (l := []) trivial
theorem inspec_NeedsAll_l5 (n : Nat) (R : Type) : LoopsOk Try.prog (mkL (mkK [(95, Kspec_GoodPlan @spec_GoodPlan n), (72, Kspec_l1In @spec_l1In n)]) [] R) (loopIn 5 (bodyOf Try.f41)) := .eq (l := []) (by kernel_rfl) trivial
theorem lkspec_NeedsAll_l5 (n : Nat) (R : Type) (L0 : LK R) (h0 : ∀ id, firstRegion (loopIn 5 (bodyOf Try.f41)) = some id → L0 id = Dspec_NeedsAll_l5.oracle (mkK [(95, Kspec_GoodPlan @spec_GoodPlan n), (72, Kspec_l1In @spec_l1In n)] R) (Pspec_NeedsAll_l5 @spec_NeedsAll_l5 n R)) : LoopOk Try.prog L0 (loopIn 5 (bodyOf Try.f41)) :=
  lespec_NeedsAll_l5.ok mixed ttok (fun n => mkK_nat (cspec_NeedsAll n)) (fun n => mkK_ok (cspec_NeedsAll n)) (fun n => inspec_NeedsAll_l5 n R) (mkK_nat (cspec_NeedsAll n)) h0
@[reducible] def Sspec_NeedsAll_l16 : PkS := ⟨[.one (.ro (.pr (.int .i64) (.sl (.int .i64)))), .one (.whole (100000, 0)), .one (.bool), .one (.int .i64), .one (.int .i64), .one (.int .i64), .one (.ro (.int .i64)), .one (.int .i64), .one (.int .i64), .one (.dead), .one (.dead)], [((100000, 0), .arr .bool)]⟩
@[reducible] def Tspec_NeedsAll_l16_0 : PkS := ⟨[.one (.ro (.pr (.int .i64) (.sl (.int .i64)))), .one (.whole (100000, 0)), .one (.bool), .one (.int .i64), .one (.int .i64), .one (.dead), .one (.dead)], [((100000, 0), .arr .bool)]⟩
def Dspec_NeedsAll_l16 : LoopD := ⟨90, [0, 6, 9, 10, 46, 47, 54, 55, 56], [.one (.ro (.pr (.int .i64) (.sl (.int .i64)))), .one (.own .bool), .one .any, .one .any, .one .any, .one .any, .one (.ro (.int .i64)), .one .any, .one .any, .skip, .skip], fun x => match x with
  | .exit 6 => some ([0, 6, 9, 46, 47], [.one (.ro (.pr (.int .i64) (.sl (.int .i64)))), .one (.own .bool), .one .any, .one .any, .one .any, .skip, .skip])
  | _ => none⟩
def Pspec_NeedsAll_l16 (g : ∀ {R : Type}, Nat → (List (Int × List Int)) → Bool → Int → Int → Int → (List Int) → Int → Int → (List Bool) → ((List (Int × List Int)) → Bool → Int → Int → (List Bool) → Option R) → Option R) (n : Nat) : LPs := fun R q kk => match (PkS.un Sspec_NeedsAll_l16 q : Option ((List (Int × List Int)) × Bool × Int × Int × Int × (List Int) × Int × Int × (List Bool) × Unit)) with
  | some (y16_0, y16_1, y16_2, y16_3, y16_4, y16_5, y16_6, y16_7, y16_8, _) => g n y16_0 y16_1 y16_2 y16_3 y16_4 y16_5 y16_6 y16_7 y16_8 (fun r0 r1 r2 r3 r4 => kk (.exit 6) (PkS.pack Tspec_NeedsAll_l16_0 (r0, r1, r2, r3, r4, ())))
  | none => none
theorem espec_NeedsAll_l16 (spec_GoodPlan : ∀ {R : Type}, Nat → (List (Int × List Int)) → (Bool → Option R) → Option R) (spec_l1In : ∀ {R : Type}, Nat → Int → Int → Int → (Bool → Option R) → Option R) (spec_NeedsAll_l5 : ∀ {R : Type}, Nat → (List (Int × List Int)) → (List Int) → Int → Int → (List Bool) → ((List (Int × List Int)) → (List Bool) → Option R) → Option R) (spec_NeedsAll_l16 : ∀ {R : Type}, Nat → (List (Int × List Int)) → Bool → Int → Int → Int → (List Int) → Int → Int → (List Bool) → ((List (Int × List Int)) → Bool → Int → Int → (List Bool) → Option R) → Option R) {R : Type} (n : Nat) (y16_0 : List (Int × List Int)) (y16_1 : Bool) (y16_2 : Int) (y16_3 : Int) (y16_4 : Int) (y16_5 : List Int) (y16_6 : Int) (y16_7 : Int) (y16_8 : List Bool) (kk : Ex → Pk → Option R) : Dspec_NeedsAll_l16.step tt sig (mkK [(95, Kspec_GoodPlan @spec_GoodPlan n), (72, Kspec_l1In @spec_l1In n)] R) (mkL (mkK [(95, Kspec_GoodPlan @spec_GoodPlan n), (72, Kspec_l1In @spec_l1In n)]) [(5, Dspec_NeedsAll_l5, Pspec_NeedsAll_l5 @spec_NeedsAll_l5 n)] R) (loopIn 16 (bodyOf Try.f41)) (fun q' => Pspec_NeedsAll_l16 @spec_NeedsAll_l16 n R q' kk) (PkS.pack Sspec_NeedsAll_l16 (y16_0, y16_1, y16_2, y16_3, y16_4, y16_5, y16_6, y16_7, y16_8, ())) kk = (fun (kexit6 : (List (Int × List Int)) → Bool → Int → Int → (List Bool) → Option R) => (bif (decide (y16_7 < y16_6)) then (bif decide (0 ≤ y16_7) then (bif decide (y16_7 < (y16_5.length : Int)) then (bif decide (0 ≤ y16_2) then (bif decide (y16_2 < (y16_8.length : Int)) then (bif (y16_8.getD (Int.toNat y16_2) false) then (bif decide (0 ≤ (y16_5.getD (Int.toNat y16_7) 0)) then (bif decide ((y16_5.getD (Int.toNat y16_7) 0) < (y16_8.length : Int)) then (bif (!(y16_8.getD (Int.toNat (y16_5.getD (Int.toNat y16_7) 0)) false)) then (bif decide (0 ≤ (y16_5.getD (Int.toNat y16_7) 0)) then (bif decide ((y16_5.getD (Int.toNat y16_7) 0) < (y16_8.length : Int)) then spec_NeedsAll_l16 n y16_0 true y16_2 y16_3 y16_4 y16_5 y16_6 (IntKind.wrap .i64 (y16_7 + 1)) (y16_8.set (Int.toNat (y16_5.getD (Int.toNat y16_7) 0)) true) kexit6 else none) else none) else spec_NeedsAll_l16 n y16_0 y16_1 y16_2 y16_3 y16_4 y16_5 y16_6 (IntKind.wrap .i64 (y16_7 + 1)) y16_8 kexit6) else none) else none) else spec_NeedsAll_l16 n y16_0 y16_1 y16_2 y16_3 y16_4 y16_5 y16_6 (IntKind.wrap .i64 (y16_7 + 1)) y16_8 kexit6) else none) else none) else none) else none) else kexit6 y16_0 y16_1 y16_3 y16_4 y16_8)) (fun r0 r1 r2 r3 r4 => kk (.exit 6) (PkS.pack Tspec_NeedsAll_l16_0 (r0, r1, r2, r3, r4, ()))) := by kernel_rfl
theorem lespec_NeedsAll_l16 : LoopEq tt sig (fun n => mkK [(95, Kspec_GoodPlan @spec_GoodPlan n), (72, Kspec_l1In @spec_l1In n)]) (fun n => mkL (mkK [(95, Kspec_GoodPlan @spec_GoodPlan n), (72, Kspec_l1In @spec_l1In n)]) [(5, Dspec_NeedsAll_l5, Pspec_NeedsAll_l5 @spec_NeedsAll_l5 n)]) Dspec_NeedsAll_l16 Sspec_NeedsAll_l16 (loopIn 16 (bodyOf Try.f41)) (Pspec_NeedsAll_l16 @spec_NeedsAll_l16) where
  zero R q kk := by unfold Pspec_NeedsAll_l16; cases (PkS.un Sspec_NeedsAll_l16 q) <;> rfl
  succ n R q kk := by
    unfold Pspec_NeedsAll_l16
    cases h : (PkS.un Sspec_NeedsAll_l16 q) with
    | none => rfl
    | some d =>
      obtain ⟨y16_0, y16_1, y16_2, y16_3, y16_4, y16_5, y16_6, y16_7, y16_8, u⟩ := (d : (List (Int × List Int)) × Bool × Int × Int × Int × (List Int) × Int × Int × (List Bool) × Unit)
      have hp := PkS.un_pack h
      subst hp
      exact (espec_NeedsAll_l16 @spec_GoodPlan @spec_l1In @spec_NeedsAll_l5 @spec_NeedsAll_l16 n y16_0 y16_1 y16_2 y16_3 y16_4 y16_5 y16_6 y16_7 y16_8 kk).symm
theorem nlspec_NeedsAll_l16 : ∀ n, NatLP (Pspec_NeedsAll_l16 @spec_NeedsAll_l16 n) := lespec_NeedsAll_l16.nat (fun n => mkK_nat (cspec_NeedsAll n)) fun n => mkL_nat (mkK_nat (cspec_NeedsAll n)) (l := [(5, Dspec_NeedsAll_l5, Pspec_NeedsAll_l5 @spec_NeedsAll_l5 n)]) ⟨nlspec_NeedsAll_l5 n, trivial⟩
theorem inspec_NeedsAll_l16 (n : Nat) (R : Type) : LoopsOk Try.prog (mkL (mkK [(95, Kspec_GoodPlan @spec_GoodPlan n), (72, Kspec_l1In @spec_l1In n)]) [(5, Dspec_NeedsAll_l5, Pspec_NeedsAll_l5 @spec_NeedsAll_l5 n)] R) (loopIn 16 (bodyOf Try.f41)) := .eq (l := []) (by kernel_rfl) trivial
theorem lkspec_NeedsAll_l16 (n : Nat) (R : Type) (L0 : LK R) (h0 : ∀ id, firstRegion (loopIn 16 (bodyOf Try.f41)) = some id → L0 id = Dspec_NeedsAll_l16.oracle (mkK [(95, Kspec_GoodPlan @spec_GoodPlan n), (72, Kspec_l1In @spec_l1In n)] R) (Pspec_NeedsAll_l16 @spec_NeedsAll_l16 n R)) : LoopOk Try.prog L0 (loopIn 16 (bodyOf Try.f41)) :=
  lespec_NeedsAll_l16.ok mixed ttok (fun n => mkK_nat (cspec_NeedsAll n)) (fun n => mkK_ok (cspec_NeedsAll n)) (fun n => inspec_NeedsAll_l16 n R) (mkK_nat (cspec_NeedsAll n)) h0
@[reducible] def Sspec_NeedsAll_l13 : PkS := ⟨[.one (.ro (.pr (.int .i64) (.sl (.int .i64)))), .one (.whole (100000, 0)), .one (.bool), .one (.int .i64), .one (.int .i64), .one (.dead), .one (.dead)], [((100000, 0), .arr .bool)]⟩
@[reducible] def Tspec_NeedsAll_l13_0 : PkS := ⟨[.one (.ro (.pr (.int .i64) (.sl (.int .i64)))), .one (.whole (100000, 0)), .one (.bool), .one (.dead), .one (.dead)], [((100000, 0), .arr .bool)]⟩
def Dspec_NeedsAll_l13 : LoopD := ⟨90, [0, 6, 9, 46, 47], [.one (.ro (.pr (.int .i64) (.sl (.int .i64)))), .one (.own .bool), .one .any, .one .any, .one .any, .skip, .skip], fun x => match x with
  | .exit 4 => some ([0, 6, 9], [.one (.ro (.pr (.int .i64) (.sl (.int .i64)))), .one (.own .bool), .one .any, .skip, .skip])
  | _ => none⟩
def Pspec_NeedsAll_l13 (g : ∀ {R : Type}, Nat → (List (Int × List Int)) → Bool → Int → Int → (List Bool) → ((List (Int × List Int)) → Bool → (List Bool) → Option R) → Option R) (n : Nat) : LPs := fun R q kk => match (PkS.un Sspec_NeedsAll_l13 q : Option ((List (Int × List Int)) × Bool × Int × Int × (List Bool) × Unit)) with
  | some (y13_0, y13_1, y13_2, y13_3, y13_4, _) => g n y13_0 y13_1 y13_2 y13_3 y13_4 (fun r0 r1 r2 => kk (.exit 4) (PkS.pack Tspec_NeedsAll_l13_0 (r0, r1, r2, ())))
  | none => none
theorem espec_NeedsAll_l13 (spec_GoodPlan : ∀ {R : Type}, Nat → (List (Int × List Int)) → (Bool → Option R) → Option R) (spec_l1In : ∀ {R : Type}, Nat → Int → Int → Int → (Bool → Option R) → Option R) (spec_NeedsAll_l5 : ∀ {R : Type}, Nat → (List (Int × List Int)) → (List Int) → Int → Int → (List Bool) → ((List (Int × List Int)) → (List Bool) → Option R) → Option R) (spec_NeedsAll_l16 : ∀ {R : Type}, Nat → (List (Int × List Int)) → Bool → Int → Int → Int → (List Int) → Int → Int → (List Bool) → ((List (Int × List Int)) → Bool → Int → Int → (List Bool) → Option R) → Option R) (spec_NeedsAll_l13 : ∀ {R : Type}, Nat → (List (Int × List Int)) → Bool → Int → Int → (List Bool) → ((List (Int × List Int)) → Bool → (List Bool) → Option R) → Option R) {R : Type} (n : Nat) (y13_0 : List (Int × List Int)) (y13_1 : Bool) (y13_2 : Int) (y13_3 : Int) (y13_4 : List Bool) (kk : Ex → Pk → Option R) : Dspec_NeedsAll_l13.step tt sig (mkK [(95, Kspec_GoodPlan @spec_GoodPlan n), (72, Kspec_l1In @spec_l1In n)] R) (mkL (mkK [(95, Kspec_GoodPlan @spec_GoodPlan n), (72, Kspec_l1In @spec_l1In n)]) [(5, Dspec_NeedsAll_l5, Pspec_NeedsAll_l5 @spec_NeedsAll_l5 n), (16, Dspec_NeedsAll_l16, Pspec_NeedsAll_l16 @spec_NeedsAll_l16 n)] R) (loopIn 13 (bodyOf Try.f41)) (fun q' => Pspec_NeedsAll_l13 @spec_NeedsAll_l13 n R q' kk) (PkS.pack Sspec_NeedsAll_l13 (y13_0, y13_1, y13_2, y13_3, y13_4, ())) kk = (fun (kexit4 : (List (Int × List Int)) → Bool → (List Bool) → Option R) => (bif (decide (y13_3 < y13_2)) then (bif decide (0 ≤ y13_3) then (bif decide (y13_3 < (y13_0.length : Int)) then (spec_NeedsAll_l16 n y13_0 y13_1 y13_3 y13_2 y13_3 ((y13_0.getD (Int.toNat y13_3) (0, [])).2) (((y13_0.getD (Int.toNat y13_3) (0, [])).2).length : Int) 0 y13_4 (fun r5 r6 r7 r8 r9 => spec_NeedsAll_l13 n r5 r6 r7 (IntKind.wrap .i64 (r8 + 1)) r9 kexit4)) else none) else none) else kexit4 y13_0 y13_1 y13_4)) (fun r0 r1 r2 => kk (.exit 4) (PkS.pack Tspec_NeedsAll_l13_0 (r0, r1, r2, ()))) := by kernel_rfl
theorem lespec_NeedsAll_l13 : LoopEq tt sig (fun n => mkK [(95, Kspec_GoodPlan @spec_GoodPlan n), (72, Kspec_l1In @spec_l1In n)]) (fun n => mkL (mkK [(95, Kspec_GoodPlan @spec_GoodPlan n), (72, Kspec_l1In @spec_l1In n)]) [(5, Dspec_NeedsAll_l5, Pspec_NeedsAll_l5 @spec_NeedsAll_l5 n), (16, Dspec_NeedsAll_l16, Pspec_NeedsAll_l16 @spec_NeedsAll_l16 n)]) Dspec_NeedsAll_l13 Sspec_NeedsAll_l13 (loopIn 13 (bodyOf Try.f41)) (Pspec_NeedsAll_l13 @spec_NeedsAll_l13) where
  zero R q kk := by unfold Pspec_NeedsAll_l13; cases (PkS.un Sspec_NeedsAll_l13 q) <;> rfl
  succ n R q kk := by
    unfold Pspec_NeedsAll_l13
    cases h : (PkS.un Sspec_NeedsAll_l13 q) with
    | none => rfl
    | some d =>
      obtain ⟨y13_0, y13_1, y13_2, y13_3, y13_4, u⟩ := (d : (List (Int × List Int)) × Bool × Int × Int × (List Bool) × Unit)
      have hp := PkS.un_pack h
      subst hp
      exact (espec_NeedsAll_l13 @spec_GoodPlan @spec_l1In @spec_NeedsAll_l5 @spec_NeedsAll_l16 @spec_NeedsAll_l13 n y13_0 y13_1 y13_2 y13_3 y13_4 kk).symm
theorem nlspec_NeedsAll_l13 : ∀ n, NatLP (Pspec_NeedsAll_l13 @spec_NeedsAll_l13 n) := lespec_NeedsAll_l13.nat (fun n => mkK_nat (cspec_NeedsAll n)) fun n => mkL_nat (mkK_nat (cspec_NeedsAll n)) (l := [(5, Dspec_NeedsAll_l5, Pspec_NeedsAll_l5 @spec_NeedsAll_l5 n), (16, Dspec_NeedsAll_l16, Pspec_NeedsAll_l16 @spec_NeedsAll_l16 n)]) ⟨nlspec_NeedsAll_l5 n, ⟨nlspec_NeedsAll_l16 n, trivial⟩⟩
theorem inspec_NeedsAll_l13 (n : Nat) (R : Type) : LoopsOk Try.prog (mkL (mkK [(95, Kspec_GoodPlan @spec_GoodPlan n), (72, Kspec_l1In @spec_l1In n)]) [(5, Dspec_NeedsAll_l5, Pspec_NeedsAll_l5 @spec_NeedsAll_l5 n), (16, Dspec_NeedsAll_l16, Pspec_NeedsAll_l16 @spec_NeedsAll_l16 n)] R) (loopIn 13 (bodyOf Try.f41)) := .eq (l := [.lo (loopIn 16 (bodyOf Try.f41))]) (by kernel_rfl) ⟨(lkspec_NeedsAll_l16 n R _ (at_id (i := 16) (by kernel_rfl) rfl)), trivial⟩
theorem lkspec_NeedsAll_l13 (n : Nat) (R : Type) (L0 : LK R) (h0 : ∀ id, firstRegion (loopIn 13 (bodyOf Try.f41)) = some id → L0 id = Dspec_NeedsAll_l13.oracle (mkK [(95, Kspec_GoodPlan @spec_GoodPlan n), (72, Kspec_l1In @spec_l1In n)] R) (Pspec_NeedsAll_l13 @spec_NeedsAll_l13 n R)) : LoopOk Try.prog L0 (loopIn 13 (bodyOf Try.f41)) :=
  lespec_NeedsAll_l13.ok mixed ttok (fun n => mkK_nat (cspec_NeedsAll n)) (fun n => mkK_ok (cspec_NeedsAll n)) (fun n => inspec_NeedsAll_l13 n R) (mkK_nat (cspec_NeedsAll n)) h0
@[reducible] def Sspec_NeedsAll_l10 : PkS := ⟨[.one (.ro (.pr (.int .i64) (.sl (.int .i64)))), .one (.whole (100000, 0)), .one (.bool), .one (.dead), .one (.dead)], [((100000, 0), .arr .bool)]⟩
@[reducible] def Tspec_NeedsAll_l10_0 : PkS := ⟨[.one (.whole (100000, 0)), .one (.dead), .one (.dead)], [((100000, 0), .arr .bool)]⟩
def Dspec_NeedsAll_l10 : LoopD := ⟨90, [0, 6, 9], [.one (.ro (.pr (.int .i64) (.sl (.int .i64)))), .one (.own .bool), .one .any, .skip, .skip], fun x => match x with
  | .exit 2 => some ([6], [.one (.own .bool), .skip, .skip])
  | _ => none⟩
def Pspec_NeedsAll_l10 (g : ∀ {R : Type}, Nat → (List (Int × List Int)) → Bool → (List Bool) → ((List Bool) → Option R) → Option R) (n : Nat) : LPs := fun R q kk => match (PkS.un Sspec_NeedsAll_l10 q : Option ((List (Int × List Int)) × Bool × (List Bool) × Unit)) with
  | some (y10_0, y10_1, y10_2, _) => g n y10_0 y10_1 y10_2 (fun r0 => kk (.exit 2) (PkS.pack Tspec_NeedsAll_l10_0 (r0, ())))
  | none => none
theorem espec_NeedsAll_l10 (spec_GoodPlan : ∀ {R : Type}, Nat → (List (Int × List Int)) → (Bool → Option R) → Option R) (spec_l1In : ∀ {R : Type}, Nat → Int → Int → Int → (Bool → Option R) → Option R) (spec_NeedsAll_l5 : ∀ {R : Type}, Nat → (List (Int × List Int)) → (List Int) → Int → Int → (List Bool) → ((List (Int × List Int)) → (List Bool) → Option R) → Option R) (spec_NeedsAll_l16 : ∀ {R : Type}, Nat → (List (Int × List Int)) → Bool → Int → Int → Int → (List Int) → Int → Int → (List Bool) → ((List (Int × List Int)) → Bool → Int → Int → (List Bool) → Option R) → Option R) (spec_NeedsAll_l13 : ∀ {R : Type}, Nat → (List (Int × List Int)) → Bool → Int → Int → (List Bool) → ((List (Int × List Int)) → Bool → (List Bool) → Option R) → Option R) (spec_NeedsAll_l10 : ∀ {R : Type}, Nat → (List (Int × List Int)) → Bool → (List Bool) → ((List Bool) → Option R) → Option R) {R : Type} (n : Nat) (y10_0 : List (Int × List Int)) (y10_1 : Bool) (y10_2 : List Bool) (kk : Ex → Pk → Option R) : Dspec_NeedsAll_l10.step tt sig (mkK [(95, Kspec_GoodPlan @spec_GoodPlan n), (72, Kspec_l1In @spec_l1In n)] R) (mkL (mkK [(95, Kspec_GoodPlan @spec_GoodPlan n), (72, Kspec_l1In @spec_l1In n)]) [(5, Dspec_NeedsAll_l5, Pspec_NeedsAll_l5 @spec_NeedsAll_l5 n), (16, Dspec_NeedsAll_l16, Pspec_NeedsAll_l16 @spec_NeedsAll_l16 n), (13, Dspec_NeedsAll_l13, Pspec_NeedsAll_l13 @spec_NeedsAll_l13 n)] R) (loopIn 10 (bodyOf Try.f41)) (fun q' => Pspec_NeedsAll_l10 @spec_NeedsAll_l10 n R q' kk) (PkS.pack Sspec_NeedsAll_l10 (y10_0, y10_1, y10_2, ())) kk = (fun (kexit2 : (List Bool) → Option R) => (bif y10_1 then (spec_NeedsAll_l13 n y10_0 false (y10_0.length : Int) 0 y10_2 (fun r10 r11 r12 => spec_NeedsAll_l10 n r10 r11 r12 kexit2)) else kexit2 y10_2)) (fun r0 => kk (.exit 2) (PkS.pack Tspec_NeedsAll_l10_0 (r0, ()))) := by kernel_rfl
theorem lespec_NeedsAll_l10 : LoopEq tt sig (fun n => mkK [(95, Kspec_GoodPlan @spec_GoodPlan n), (72, Kspec_l1In @spec_l1In n)]) (fun n => mkL (mkK [(95, Kspec_GoodPlan @spec_GoodPlan n), (72, Kspec_l1In @spec_l1In n)]) [(5, Dspec_NeedsAll_l5, Pspec_NeedsAll_l5 @spec_NeedsAll_l5 n), (16, Dspec_NeedsAll_l16, Pspec_NeedsAll_l16 @spec_NeedsAll_l16 n), (13, Dspec_NeedsAll_l13, Pspec_NeedsAll_l13 @spec_NeedsAll_l13 n)]) Dspec_NeedsAll_l10 Sspec_NeedsAll_l10 (loopIn 10 (bodyOf Try.f41)) (Pspec_NeedsAll_l10 @spec_NeedsAll_l10) where
  zero R q kk := by unfold Pspec_NeedsAll_l10; cases (PkS.un Sspec_NeedsAll_l10 q) <;> rfl
  succ n R q kk := by
    unfold Pspec_NeedsAll_l10
    cases h : (PkS.un Sspec_NeedsAll_l10 q) with
    | none => rfl
    | some d =>
      obtain ⟨y10_0, y10_1, y10_2, u⟩ := (d : (List (Int × List Int)) × Bool × (List Bool) × Unit)
      have hp := PkS.un_pack h
      subst hp
      exact (espec_NeedsAll_l10 @spec_GoodPlan @spec_l1In @spec_NeedsAll_l5 @spec_NeedsAll_l16 @spec_NeedsAll_l13 @spec_NeedsAll_l10 n y10_0 y10_1 y10_2 kk).symm
theorem nlspec_NeedsAll_l10 : ∀ n, NatLP (Pspec_NeedsAll_l10 @spec_NeedsAll_l10 n) := lespec_NeedsAll_l10.nat (fun n => mkK_nat (cspec_NeedsAll n)) fun n => mkL_nat (mkK_nat (cspec_NeedsAll n)) (l := [(5, Dspec_NeedsAll_l5, Pspec_NeedsAll_l5 @spec_NeedsAll_l5 n), (16, Dspec_NeedsAll_l16, Pspec_NeedsAll_l16 @spec_NeedsAll_l16 n), (13, Dspec_NeedsAll_l13, Pspec_NeedsAll_l13 @spec_NeedsAll_l13 n)]) ⟨nlspec_NeedsAll_l5 n, ⟨nlspec_NeedsAll_l16 n, ⟨nlspec_NeedsAll_l13 n, trivial⟩⟩⟩
theorem inspec_NeedsAll_l10 (n : Nat) (R : Type) : LoopsOk Try.prog (mkL (mkK [(95, Kspec_GoodPlan @spec_GoodPlan n), (72, Kspec_l1In @spec_l1In n)]) [(5, Dspec_NeedsAll_l5, Pspec_NeedsAll_l5 @spec_NeedsAll_l5 n), (16, Dspec_NeedsAll_l16, Pspec_NeedsAll_l16 @spec_NeedsAll_l16 n), (13, Dspec_NeedsAll_l13, Pspec_NeedsAll_l13 @spec_NeedsAll_l13 n)] R) (loopIn 10 (bodyOf Try.f41)) := .eq (l := [.lo (loopIn 13 (bodyOf Try.f41))]) (by kernel_rfl) ⟨(lkspec_NeedsAll_l13 n R _ (at_id (i := 13) (by kernel_rfl) rfl)), trivial⟩
theorem lkspec_NeedsAll_l10 (n : Nat) (R : Type) (L0 : LK R) (h0 : ∀ id, firstRegion (loopIn 10 (bodyOf Try.f41)) = some id → L0 id = Dspec_NeedsAll_l10.oracle (mkK [(95, Kspec_GoodPlan @spec_GoodPlan n), (72, Kspec_l1In @spec_l1In n)] R) (Pspec_NeedsAll_l10 @spec_NeedsAll_l10 n R)) : LoopOk Try.prog L0 (loopIn 10 (bodyOf Try.f41)) :=
  lespec_NeedsAll_l10.ok mixed ttok (fun n => mkK_nat (cspec_NeedsAll n)) (fun n => mkK_ok (cspec_NeedsAll n)) (fun n => inspec_NeedsAll_l10 n R) (mkK_nat (cspec_NeedsAll n)) h0
@[reducible] def Sspec_NeedsAll_l25 : PkS := ⟨[.one (.whole (100000, 0)), .one (.whole (100000, 1)), .one (.int .i64), .one (.int .i64), .one (.dead), .one (.dead)], [((100000, 0), .arr (.int .i64)), ((100000, 1), .arr .bool)]⟩
@[reducible] def Tspec_NeedsAll_l25_0 : PkS := ⟨[.one (.whole (100000, 0)), .one (.dead), .one (.dead)], [((100000, 0), .arr (.int .i64))]⟩
def Dspec_NeedsAll_l25 : LoopD := ⟨90, [13, 76, 77, 78], [.one (.own (.int .i64)), .one (.own .bool), .one .any, .one .any, .skip, .skip], fun x => match x with
  | .exit 8 => some ([13], [.one (.own (.int .i64)), .skip, .skip])
  | _ => none⟩
def Pspec_NeedsAll_l25 (g : ∀ {R : Type}, Nat → Int → Int → (List Int) → (List Bool) → ((List Int) → Option R) → Option R) (n : Nat) : LPs := fun R q kk => match (PkS.un Sspec_NeedsAll_l25 q : Option (Int × Int × (List Int) × (List Bool) × Unit)) with
  | some (y25_0, y25_1, y25_2, y25_3, _) => g n y25_0 y25_1 y25_2 y25_3 (fun r0 => kk (.exit 8) (PkS.pack Tspec_NeedsAll_l25_0 (r0, ())))
  | none => none
theorem espec_NeedsAll_l25 (spec_GoodPlan : ∀ {R : Type}, Nat → (List (Int × List Int)) → (Bool → Option R) → Option R) (spec_l1In : ∀ {R : Type}, Nat → Int → Int → Int → (Bool → Option R) → Option R) (spec_NeedsAll_l5 : ∀ {R : Type}, Nat → (List (Int × List Int)) → (List Int) → Int → Int → (List Bool) → ((List (Int × List Int)) → (List Bool) → Option R) → Option R) (spec_NeedsAll_l16 : ∀ {R : Type}, Nat → (List (Int × List Int)) → Bool → Int → Int → Int → (List Int) → Int → Int → (List Bool) → ((List (Int × List Int)) → Bool → Int → Int → (List Bool) → Option R) → Option R) (spec_NeedsAll_l13 : ∀ {R : Type}, Nat → (List (Int × List Int)) → Bool → Int → Int → (List Bool) → ((List (Int × List Int)) → Bool → (List Bool) → Option R) → Option R) (spec_NeedsAll_l10 : ∀ {R : Type}, Nat → (List (Int × List Int)) → Bool → (List Bool) → ((List Bool) → Option R) → Option R) (spec_NeedsAll_l25 : ∀ {R : Type}, Nat → Int → Int → (List Int) → (List Bool) → ((List Int) → Option R) → Option R) {R : Type} (n : Nat) (y25_0 : Int) (y25_1 : Int) (y25_2 : List Int) (y25_3 : List Bool) (kk : Ex → Pk → Option R) : Dspec_NeedsAll_l25.step tt sig (mkK [(95, Kspec_GoodPlan @spec_GoodPlan n), (72, Kspec_l1In @spec_l1In n)] R) (mkL (mkK [(95, Kspec_GoodPlan @spec_GoodPlan n), (72, Kspec_l1In @spec_l1In n)]) [(5, Dspec_NeedsAll_l5, Pspec_NeedsAll_l5 @spec_NeedsAll_l5 n), (16, Dspec_NeedsAll_l16, Pspec_NeedsAll_l16 @spec_NeedsAll_l16 n), (13, Dspec_NeedsAll_l13, Pspec_NeedsAll_l13 @spec_NeedsAll_l13 n), (10, Dspec_NeedsAll_l10, Pspec_NeedsAll_l10 @spec_NeedsAll_l10 n)] R) (loopIn 25 (bodyOf Try.f41)) (fun q' => Pspec_NeedsAll_l25 @spec_NeedsAll_l25 n R q' kk) (PkS.pack Sspec_NeedsAll_l25 (y25_0, y25_1, y25_2, y25_3, ())) kk = (fun (kexit8 : (List Int) → Option R) => (bif (decide (y25_1 < y25_0)) then (bif decide (0 ≤ y25_1) then (bif decide (y25_1 < (y25_3.length : Int)) then (bif (y25_3.getD (Int.toNat y25_1) false) then (bif decide (y25_2.length + [y25_1].length ≤ LIM) then spec_NeedsAll_l25 n y25_0 (IntKind.wrap .i64 (y25_1 + 1)) (y25_2 ++ [y25_1]) y25_3 kexit8 else none) else spec_NeedsAll_l25 n y25_0 (IntKind.wrap .i64 (y25_1 + 1)) y25_2 y25_3 kexit8) else none) else none) else kexit8 y25_2)) (fun r0 => kk (.exit 8) (PkS.pack Tspec_NeedsAll_l25_0 (r0, ()))) := by kernel_rfl
theorem lespec_NeedsAll_l25 : LoopEq tt sig (fun n => mkK [(95, Kspec_GoodPlan @spec_GoodPlan n), (72, Kspec_l1In @spec_l1In n)]) (fun n => mkL (mkK [(95, Kspec_GoodPlan @spec_GoodPlan n), (72, Kspec_l1In @spec_l1In n)]) [(5, Dspec_NeedsAll_l5, Pspec_NeedsAll_l5 @spec_NeedsAll_l5 n), (16, Dspec_NeedsAll_l16, Pspec_NeedsAll_l16 @spec_NeedsAll_l16 n), (13, Dspec_NeedsAll_l13, Pspec_NeedsAll_l13 @spec_NeedsAll_l13 n), (10, Dspec_NeedsAll_l10, Pspec_NeedsAll_l10 @spec_NeedsAll_l10 n)]) Dspec_NeedsAll_l25 Sspec_NeedsAll_l25 (loopIn 25 (bodyOf Try.f41)) (Pspec_NeedsAll_l25 @spec_NeedsAll_l25) where
  zero R q kk := by unfold Pspec_NeedsAll_l25; cases (PkS.un Sspec_NeedsAll_l25 q) <;> rfl
  succ n R q kk := by
    unfold Pspec_NeedsAll_l25
    cases h : (PkS.un Sspec_NeedsAll_l25 q) with
    | none => rfl
    | some d =>
      obtain ⟨y25_0, y25_1, y25_2, y25_3, u⟩ := (d : Int × Int × (List Int) × (List Bool) × Unit)
      have hp := PkS.un_pack h
      subst hp
      exact (espec_NeedsAll_l25 @spec_GoodPlan @spec_l1In @spec_NeedsAll_l5 @spec_NeedsAll_l16 @spec_NeedsAll_l13 @spec_NeedsAll_l10 @spec_NeedsAll_l25 n y25_0 y25_1 y25_2 y25_3 kk).symm
theorem nlspec_NeedsAll_l25 : ∀ n, NatLP (Pspec_NeedsAll_l25 @spec_NeedsAll_l25 n) := lespec_NeedsAll_l25.nat (fun n => mkK_nat (cspec_NeedsAll n)) fun n => mkL_nat (mkK_nat (cspec_NeedsAll n)) (l := [(5, Dspec_NeedsAll_l5, Pspec_NeedsAll_l5 @spec_NeedsAll_l5 n), (16, Dspec_NeedsAll_l16, Pspec_NeedsAll_l16 @spec_NeedsAll_l16 n), (13, Dspec_NeedsAll_l13, Pspec_NeedsAll_l13 @spec_NeedsAll_l13 n), (10, Dspec_NeedsAll_l10, Pspec_NeedsAll_l10 @spec_NeedsAll_l10 n)]) ⟨nlspec_NeedsAll_l5 n, ⟨nlspec_NeedsAll_l16 n, ⟨nlspec_NeedsAll_l13 n, ⟨nlspec_NeedsAll_l10 n, trivial⟩⟩⟩⟩
theorem inspec_NeedsAll_l25 (n : Nat) (R : Type) : LoopsOk Try.prog (mkL (mkK [(95, Kspec_GoodPlan @spec_GoodPlan n), (72, Kspec_l1In @spec_l1In n)]) [(5, Dspec_NeedsAll_l5, Pspec_NeedsAll_l5 @spec_NeedsAll_l5 n), (16, Dspec_NeedsAll_l16, Pspec_NeedsAll_l16 @spec_NeedsAll_l16 n), (13, Dspec_NeedsAll_l13, Pspec_NeedsAll_l13 @spec_NeedsAll_l13 n), (10, Dspec_NeedsAll_l10, Pspec_NeedsAll_l10 @spec_NeedsAll_l10 n)] R) (loopIn 25 (bodyOf Try.f41)) := .eq (l := []) (by kernel_rfl) trivial
theorem lkspec_NeedsAll_l25 (n : Nat) (R : Type) (L0 : LK R) (h0 : ∀ id, firstRegion (loopIn 25 (bodyOf Try.f41)) = some id → L0 id = Dspec_NeedsAll_l25.oracle (mkK [(95, Kspec_GoodPlan @spec_GoodPlan n), (72, Kspec_l1In @spec_l1In n)] R) (Pspec_NeedsAll_l25 @spec_NeedsAll_l25 n R)) : LoopOk Try.prog L0 (loopIn 25 (bodyOf Try.f41)) :=
  lespec_NeedsAll_l25.ok mixed ttok (fun n => mkK_nat (cspec_NeedsAll n)) (fun n => mkK_ok (cspec_NeedsAll n)) (fun n => inspec_NeedsAll_l25 n R) (mkK_nat (cspec_NeedsAll n)) h0
@[reducible] def Sspec_NeedsAll : PkS := ⟨[.one (.ro (.pr (.int .i64) (.sl (.int .i64)))), .one (.int .i64)], []⟩
@[reducible] def Tspec_NeedsAll : PkS := ⟨[.tup [(false, [.whole (300000, 0)]), (false, [.bool])], .one (.dead), .one (.dead)], [((300000, 0), .arr (.int .i64))]⟩
def Hspec_NeedsAll : List Sh := [.tup [(false, [(.own (.int .i64))]), (false, [.any])], .skip, .skip]
def Kspec_NeedsAll (g : ∀ {R : Type}, Nat → (List (Int × List Int)) → Int → (Bool → (List Int) → Option R) → Option R) (n : Nat) : KPs := fun R p k => match (PkS.un Sspec_NeedsAll p : Option ((List (Int × List Int)) × Int × Unit)) with
  | some (x0, x1, _) => g n x0 x1 (fun r0 r1 => k (PkS.pack Tspec_NeedsAll (r0, r1, ())))
  | none => none
theorem espec_NeedsAll (spec_GoodPlan : ∀ {R : Type}, Nat → (List (Int × List Int)) → (Bool → Option R) → Option R) (spec_l1In : ∀ {R : Type}, Nat → Int → Int → Int → (Bool → Option R) → Option R) (spec_NeedsAll_l5 : ∀ {R : Type}, Nat → (List (Int × List Int)) → (List Int) → Int → Int → (List Bool) → ((List (Int × List Int)) → (List Bool) → Option R) → Option R) (spec_NeedsAll_l16 : ∀ {R : Type}, Nat → (List (Int × List Int)) → Bool → Int → Int → Int → (List Int) → Int → Int → (List Bool) → ((List (Int × List Int)) → Bool → Int → Int → (List Bool) → Option R) → Option R) (spec_NeedsAll_l13 : ∀ {R : Type}, Nat → (List (Int × List Int)) → Bool → Int → Int → (List Bool) → ((List (Int × List Int)) → Bool → (List Bool) → Option R) → Option R) (spec_NeedsAll_l10 : ∀ {R : Type}, Nat → (List (Int × List Int)) → Bool → (List Bool) → ((List Bool) → Option R) → Option R) (spec_NeedsAll_l25 : ∀ {R : Type}, Nat → Int → Int → (List Int) → (List Bool) → ((List Int) → Option R) → Option R) {R : Type} (n : Nat) (x0 : List (Int × List Int)) (x1 : Int) (k : Pk → Option R) : evF tt sig (mkK [(95, Kspec_GoodPlan @spec_GoodPlan n), (72, Kspec_l1In @spec_l1In n)] R) (mkL (mkK [(95, Kspec_GoodPlan @spec_GoodPlan n), (72, Kspec_l1In @spec_l1In n)]) [(5, Dspec_NeedsAll_l5, Pspec_NeedsAll_l5 @spec_NeedsAll_l5 n), (16, Dspec_NeedsAll_l16, Pspec_NeedsAll_l16 @spec_NeedsAll_l16 n), (13, Dspec_NeedsAll_l13, Pspec_NeedsAll_l13 @spec_NeedsAll_l13 n), (10, Dspec_NeedsAll_l10, Pspec_NeedsAll_l10 @spec_NeedsAll_l10 n), (25, Dspec_NeedsAll_l25, Pspec_NeedsAll_l25 @spec_NeedsAll_l25 n)] R) Try.f41 Hspec_NeedsAll (PkS.pack Sspec_NeedsAll (x0, x1, ())) k = (fun (k : Bool → (List Int) → Option R) => (spec_GoodPlan n x0 fun r1 => (bif (!r1) then k false ([] : List Int) else (spec_l1In n x1 0 (IntKind.wrap .i64 ((x0.length : Int) - 1)) fun r2 => (bif (!r2) then k false ([] : List Int) else (bif decide (0 ≤ (x0.length : Int)) then (bif decide ((x0.length : Int) ≤ (x0.length : Int)) then (bif decide ((x0.length : Int) ≤ 1099511627776) then (bif decide (0 ≤ x1) then (bif decide (x1 < (x0.length : Int)) then (spec_NeedsAll_l5 n x0 ((x0.getD (Int.toNat x1) (0, [])).2) (((x0.getD (Int.toNat x1) (0, [])).2).length : Int) 0 (List.replicate (Int.toNat (x0.length : Int)) false) (fun r3 r4 => (spec_NeedsAll_l10 n r3 true r4 (fun r13 => (spec_NeedsAll_l25 n (r13.length : Int) 0 ([] : List Int) r13 (fun r14 => k true r14)))))) else none) else none) else none) else none) else none)))))) (fun r0 r1 => k (PkS.pack Tspec_NeedsAll (r0, r1, ()))) := by kernel_rfl
theorem okspec_NeedsAll (n : Nat) : FnOk Try.prog 41 (Kspec_NeedsAll @spec_NeedsAll n) := by
  refine fn_ok (sig := sig) mixed ttok (mkK_nat (cspec_NeedsAll n)) (mkK_ok (cspec_NeedsAll n)) (mkL_nat (mkK_nat (cspec_NeedsAll n)) (l := [(5, Dspec_NeedsAll_l5, Pspec_NeedsAll_l5 @spec_NeedsAll_l5 n), (16, Dspec_NeedsAll_l16, Pspec_NeedsAll_l16 @spec_NeedsAll_l16 n), (13, Dspec_NeedsAll_l13, Pspec_NeedsAll_l13 @spec_NeedsAll_l13 n), (10, Dspec_NeedsAll_l10, Pspec_NeedsAll_l10 @spec_NeedsAll_l10 n), (25, Dspec_NeedsAll_l25, Pspec_NeedsAll_l25 @spec_NeedsAll_l25 n)]) ⟨nlspec_NeedsAll_l5 n, ⟨nlspec_NeedsAll_l16 n, ⟨nlspec_NeedsAll_l13 n, ⟨nlspec_NeedsAll_l10 n, ⟨nlspec_NeedsAll_l25 n, trivial⟩⟩⟩⟩⟩) (fn := Try.f41) (c := bodyOf Try.f41) (by kernel_rfl) (by kernel_rfl) (by kernel_rfl) (.eq (l := [.lo (loopIn 5 (bodyOf Try.f41)), .lo (loopIn 10 (bodyOf Try.f41)), .lo (loopIn 25 (bodyOf Try.f41))]) (by kernel_rfl) ⟨(lkspec_NeedsAll_l5 n _ _ (at_id (i := 5) (by kernel_rfl) rfl)), ⟨(lkspec_NeedsAll_l10 n _ _ (at_id (i := 10) (by kernel_rfl) rfl)), ⟨(lkspec_NeedsAll_l25 n _ _ (at_id (i := 25) (by kernel_rfl) rfl)), trivial⟩⟩⟩) (shs := Hspec_NeedsAll) (S := Sspec_NeedsAll) (h1 := by kernel_rfl) fun R p k => ?_
  unfold Kspec_NeedsAll
  cases h : (PkS.un Sspec_NeedsAll p) with
  | none => rfl
  | some d =>
    obtain ⟨x0, x1, u⟩ := (d : (List (Int × List Int)) × Int × Unit)
    have hp := PkS.un_pack h
    subst hp
    exact (espec_NeedsAll @spec_GoodPlan @spec_l1In @spec_NeedsAll_l5 @spec_NeedsAll_l16 @spec_NeedsAll_l13 @spec_NeedsAll_l10 @spec_NeedsAll_l25 n x0 x1 k).symm

/-! ### loop.example/g00269/laws.FnOrdered -/
theorem claws_FnOrdered (n : Nat) : AllOk Try.prog [(35, Kspec_DrawOrderOf @spec_DrawOrderOf n), (36, Kimpl_OrderOf @impl_OrderOf n), (37, Kspec_OrderOf @spec_OrderOf n), (38, Klaws_sameInts @laws_sameInts n), (39, Kimpl_NeedsAll @impl_NeedsAll n), (40, Kspec_DrawNeedsAll @spec_DrawNeedsAll n), (41, Kspec_NeedsAll @spec_NeedsAll n)] := ⟨okspec_DrawOrderOf n, ⟨okimpl_OrderOf n, ⟨okspec_OrderOf n, ⟨oklaws_sameInts n, ⟨okimpl_NeedsAll n, ⟨okspec_DrawNeedsAll n, ⟨okspec_NeedsAll n, trivial⟩⟩⟩⟩⟩⟩⟩
@[reducible] def Slaws_FnOrdered_l11 : PkS := ⟨[.one (.ro (.int .u8)), .one (.ro (.pr (.int .i64) (.sl (.int .i64)))), .one (.whole (100000, 0)), .one (.whole (100000, 1)), .one (.int .i64), .one (.int .i64), .one (.dead), .one (.dead)], [((100000, 0), .arr (.int .i64)), ((100000, 1), .arr (.int .i64))]⟩
@[reducible] def Tlaws_FnOrdered_l11_0 : PkS := ⟨[.one (.ro (.int .u8)), .one (.ro (.pr (.int .i64) (.sl (.int .i64)))), .one (.whole (100000, 0)), .one (.dead), .one (.dead)], [((100000, 0), .arr (.int .i64))]⟩
def Dlaws_FnOrdered_l11 : LoopD := ⟨122, [1, 5, 10, 55, 56, 57], [.one (.ro (.int .u8)), .one (.ro (.pr (.int .i64) (.sl (.int .i64)))), .one (.own (.int .i64)), .one (.own (.int .i64)), .one .any, .one .any, .skip, .skip], fun x => match x with
  | .exit 0 => some ([1, 5, 10], [.one (.ro (.int .u8)), .one (.ro (.pr (.int .i64) (.sl (.int .i64)))), .one (.own (.int .i64)), .skip, .skip])
  | _ => none⟩
def Plaws_FnOrdered_l11 (g : ∀ {R : Type}, Nat → (List Int) → (List (Int × List Int)) → Int → Int → (List Int) → (List Int) → ((List Int) → (List (Int × List Int)) → (List Int) → Option R) → Option R) (n : Nat) : LPs := fun R q kk => match (PkS.un Slaws_FnOrdered_l11 q : Option ((List Int) × (List (Int × List Int)) × Int × Int × (List Int) × (List Int) × Unit)) with
  | some (y11_0, y11_1, y11_2, y11_3, y11_4, y11_5, _) => g n y11_0 y11_1 y11_2 y11_3 y11_4 y11_5 (fun r0 r1 r2 => kk (.exit 0) (PkS.pack Tlaws_FnOrdered_l11_0 (r0, r1, r2, ())))
  | none => none
theorem elaws_FnOrdered_l11 (spec_DrawOrderOf : ∀ {R : Type}, Nat → (List Int) → ((List (Int × List Int)) → Option R) → Option R) (impl_OrderOf : ∀ {R : Type}, Nat → (List (Int × List Int)) → (Bool → (List Int) → Option R) → Option R) (spec_OrderOf : ∀ {R : Type}, Nat → (List (Int × List Int)) → ((List Int) → Bool → Option R) → Option R) (laws_sameInts : ∀ {R : Type}, Nat → (List Int) → (List Int) → (Bool → Option R) → Option R) (impl_NeedsAll : ∀ {R : Type}, Nat → (List (Int × List Int)) → Int → (Bool → (List Int) → Option R) → Option R) (spec_DrawNeedsAll : ∀ {R : Type}, Nat → (List Int) → (Int → (List (Int × List Int)) → Option R) → Option R) (spec_NeedsAll : ∀ {R : Type}, Nat → (List (Int × List Int)) → Int → (Bool → (List Int) → Option R) → Option R) (laws_FnOrdered_l11 : ∀ {R : Type}, Nat → (List Int) → (List (Int × List Int)) → Int → Int → (List Int) → (List Int) → ((List Int) → (List (Int × List Int)) → (List Int) → Option R) → Option R) {R : Type} (n : Nat) (y11_0 : List Int) (y11_1 : List (Int × List Int)) (y11_2 : Int) (y11_3 : Int) (y11_4 : List Int) (y11_5 : List Int) (kk : Ex → Pk → Option R) : Dlaws_FnOrdered_l11.step tt sig (mkK [(35, Kspec_DrawOrderOf @spec_DrawOrderOf n), (36, Kimpl_OrderOf @impl_OrderOf n), (37, Kspec_OrderOf @spec_OrderOf n), (38, Klaws_sameInts @laws_sameInts n), (39, Kimpl_NeedsAll @impl_NeedsAll n), (40, Kspec_DrawNeedsAll @spec_DrawNeedsAll n), (41, Kspec_NeedsAll @spec_NeedsAll n)] R) (mkL (mkK [(35, Kspec_DrawOrderOf @spec_DrawOrderOf n), (36, Kimpl_OrderOf @impl_OrderOf n), (37, Kspec_OrderOf @spec_OrderOf n), (38, Klaws_sameInts @laws_sameInts n), (39, Kimpl_NeedsAll @impl_NeedsAll n), (40, Kspec_DrawNeedsAll @spec_DrawNeedsAll n), (41, Kspec_NeedsAll @spec_NeedsAll n)]) [] R) (loopIn 11 (bodyOf Try.f8)) (fun q' => Plaws_FnOrdered_l11 @laws_FnOrdered_l11 n R q' kk) (PkS.pack Slaws_FnOrdered_l11 (y11_0, y11_1, y11_2, y11_3, y11_4, y11_5, ())) kk = (fun (kexit0 : (List Int) → (List (Int × List Int)) → (List Int) → Option R) => (bif (decide (y11_3 < y11_2)) then (bif decide (0 ≤ y11_3) then (bif decide (y11_3 < (y11_5.length : Int)) then (bif decide (0 ≤ (y11_5.getD (Int.toNat y11_3) 0)) then (bif decide ((y11_5.getD (Int.toNat y11_3) 0) < (y11_4.length : Int)) then laws_FnOrdered_l11 n y11_0 y11_1 y11_2 (IntKind.wrap .i64 (y11_3 + 1)) (y11_4.set (Int.toNat (y11_5.getD (Int.toNat y11_3) 0)) y11_3) y11_5 kexit0 else none) else none) else none) else none) else kexit0 y11_0 y11_1 y11_4)) (fun r0 r1 r2 => kk (.exit 0) (PkS.pack Tlaws_FnOrdered_l11_0 (r0, r1, r2, ()))) := by kernel_rfl
theorem lelaws_FnOrdered_l11 : LoopEq tt sig (fun n => mkK [(35, Kspec_DrawOrderOf @spec_DrawOrderOf n), (36, Kimpl_OrderOf @impl_OrderOf n), (37, Kspec_OrderOf @spec_OrderOf n), (38, Klaws_sameInts @laws_sameInts n), (39, Kimpl_NeedsAll @impl_NeedsAll n), (40, Kspec_DrawNeedsAll @spec_DrawNeedsAll n), (41, Kspec_NeedsAll @spec_NeedsAll n)]) (fun n => mkL (mkK [(35, Kspec_DrawOrderOf @spec_DrawOrderOf n), (36, Kimpl_OrderOf @impl_OrderOf n), (37, Kspec_OrderOf @spec_OrderOf n), (38, Klaws_sameInts @laws_sameInts n), (39, Kimpl_NeedsAll @impl_NeedsAll n), (40, Kspec_DrawNeedsAll @spec_DrawNeedsAll n), (41, Kspec_NeedsAll @spec_NeedsAll n)]) []) Dlaws_FnOrdered_l11 Slaws_FnOrdered_l11 (loopIn 11 (bodyOf Try.f8)) (Plaws_FnOrdered_l11 @laws_FnOrdered_l11) where
  zero R q kk := by unfold Plaws_FnOrdered_l11; cases (PkS.un Slaws_FnOrdered_l11 q) <;> rfl
  succ n R q kk := by
    unfold Plaws_FnOrdered_l11
    cases h : (PkS.un Slaws_FnOrdered_l11 q) with
    | none => rfl
    | some d =>
      obtain ⟨y11_0, y11_1, y11_2, y11_3, y11_4, y11_5, u⟩ := (d : (List Int) × (List (Int × List Int)) × Int × Int × (List Int) × (List Int) × Unit)
      have hp := PkS.un_pack h
      subst hp
      exact (elaws_FnOrdered_l11 @spec_DrawOrderOf @impl_OrderOf @spec_OrderOf @laws_sameInts @impl_NeedsAll @spec_DrawNeedsAll @spec_NeedsAll @laws_FnOrdered_l11 n y11_0 y11_1 y11_2 y11_3 y11_4 y11_5 kk).symm
theorem nllaws_FnOrdered_l11 : ∀ n, NatLP (Plaws_FnOrdered_l11 @laws_FnOrdered_l11 n) := lelaws_FnOrdered_l11.nat (fun n => mkK_nat (claws_FnOrdered n)) fun n => mkL_nat (mkK_nat (claws_FnOrdered n)) (l := []) trivial
theorem inlaws_FnOrdered_l11 (n : Nat) (R : Type) : LoopsOk Try.prog (mkL (mkK [(35, Kspec_DrawOrderOf @spec_DrawOrderOf n), (36, Kimpl_OrderOf @impl_OrderOf n), (37, Kspec_OrderOf @spec_OrderOf n), (38, Klaws_sameInts @laws_sameInts n), (39, Kimpl_NeedsAll @impl_NeedsAll n), (40, Kspec_DrawNeedsAll @spec_DrawNeedsAll n), (41, Kspec_NeedsAll @spec_NeedsAll n)]) [] R) (loopIn 11 (bodyOf Try.f8)) := .eq (l := []) (by kernel_rfl) trivial
theorem lklaws_FnOrdered_l11 (n : Nat) (R : Type) (L0 : LK R) (h0 : ∀ id, firstRegion (loopIn 11 (bodyOf Try.f8)) = some id → L0 id = Dlaws_FnOrdered_l11.oracle (mkK [(35, Kspec_DrawOrderOf @spec_DrawOrderOf n), (36, Kimpl_OrderOf @impl_OrderOf n), (37, Kspec_OrderOf @spec_OrderOf n), (38, Klaws_sameInts @laws_sameInts n), (39, Kimpl_NeedsAll @impl_NeedsAll n), (40, Kspec_DrawNeedsAll @spec_DrawNeedsAll n), (41, Kspec_NeedsAll @spec_NeedsAll n)] R) (Plaws_FnOrdered_l11 @laws_FnOrdered_l11 n R)) : LoopOk Try.prog L0 (loopIn 11 (bodyOf Try.f8)) :=
  lelaws_FnOrdered_l11.ok mixed ttok (fun n => mkK_nat (claws_FnOrdered n)) (fun n => mkK_ok (claws_FnOrdered n)) (fun n => inlaws_FnOrdered_l11 n R) (mkK_nat (claws_FnOrdered n)) h0
@[reducible] def Slaws_FnOrdered_l22 : PkS := ⟨[.one (.ro (.int .u8)), .one (.ro (.pr (.int .i64) (.sl (.int .i64)))), .one (.whole (100000, 0)), .one (.int .i64), .one (.int .i64), .one (.int .i64), .one (.whole (100000, 1)), .one (.int .i64), .one (.int .i64), .one (.dead), .one (.dead)], [((100000, 0), .arr (.int .i64)), ((100000, 1), .arr (.int .i64))]⟩
@[reducible] def Tlaws_FnOrdered_l22_0 : PkS := ⟨[.one (.bool), .one (.dead), .one (.dead)], []⟩
@[reducible] def Tlaws_FnOrdered_l22_1 : PkS := ⟨[.one (.ro (.int .u8)), .one (.ro (.pr (.int .i64) (.sl (.int .i64)))), .one (.whole (100000, 0)), .one (.int .i64), .one (.int .i64), .one (.dead), .one (.dead)], [((100000, 0), .arr (.int .i64))]⟩
def Dlaws_FnOrdered_l22 : LoopD := ⟨122, [1, 5, 10, 13, 68, 69, 80, 81, 82], [.one (.ro (.int .u8)), .one (.ro (.pr (.int .i64) (.sl (.int .i64)))), .one (.own (.int .i64)), .one .any, .one .any, .one .any, .one (.own (.int .i64)), .one .any, .one .any, .skip, .skip], fun x => match x with
  | .ret => some ([4], [.one .any, .skip, .skip])
  | .exit 4 => some ([1, 5, 10, 68, 69], [.one (.ro (.int .u8)), .one (.ro (.pr (.int .i64) (.sl (.int .i64)))), .one (.own (.int .i64)), .one .any, .one .any, .skip, .skip])
  | _ => none⟩
def Plaws_FnOrdered_l22 (g : ∀ {R : Type}, Nat → (List Int) → (List (Int × List Int)) → Int → Int → Int → Int → Int → (List Int) → (List Int) → (Bool → Option R) → ((List Int) → (List (Int × List Int)) → Int → Int → (List Int) → Option R) → Option R) (n : Nat) : LPs := fun R q kk => match (PkS.un Slaws_FnOrdered_l22 q : Option ((List Int) × (List (Int × List Int)) × Int × Int × Int × Int × Int × (List Int) × (List Int) × Unit)) with
  | some (y22_0, y22_1, y22_2, y22_3, y22_4, y22_5, y22_6, y22_7, y22_8, _) => g n y22_0 y22_1 y22_2 y22_3 y22_4 y22_5 y22_6 y22_7 y22_8 (fun r0 => kk .ret (PkS.pack Tlaws_FnOrdered_l22_0 (r0, ()))) (fun r0 r1 r2 r3 r4 => kk (.exit 4) (PkS.pack Tlaws_FnOrdered_l22_1 (r0, r1, r2, r3, r4, ())))
  | none => none
theorem elaws_FnOrdered_l22 (spec_DrawOrderOf : ∀ {R : Type}, Nat → (List Int) → ((List (Int × List Int)) → Option R) → Option R) (impl_OrderOf : ∀ {R : Type}, Nat → (List (Int × List Int)) → (Bool → (List Int) → Option R) → Option R) (spec_OrderOf : ∀ {R : Type}, Nat → (List (Int × List Int)) → ((List Int) → Bool → Option R) → Option R) (laws_sameInts : ∀ {R : Type}, Nat → (List Int) → (List Int) → (Bool → Option R) → Option R) (impl_NeedsAll : ∀ {R : Type}, Nat → (List (Int × List Int)) → Int → (Bool → (List Int) → Option R) → Option R) (spec_DrawNeedsAll : ∀ {R : Type}, Nat → (List Int) → (Int → (List (Int × List Int)) → Option R) → Option R) (spec_NeedsAll : ∀ {R : Type}, Nat → (List (Int × List Int)) → Int → (Bool → (List Int) → Option R) → Option R) (laws_FnOrdered_l11 : ∀ {R : Type}, Nat → (List Int) → (List (Int × List Int)) → Int → Int → (List Int) → (List Int) → ((List Int) → (List (Int × List Int)) → (List Int) → Option R) → Option R) (laws_FnOrdered_l22 : ∀ {R : Type}, Nat → (List Int) → (List (Int × List Int)) → Int → Int → Int → Int → Int → (List Int) → (List Int) → (Bool → Option R) → ((List Int) → (List (Int × List Int)) → Int → Int → (List Int) → Option R) → Option R) {R : Type} (n : Nat) (y22_0 : List Int) (y22_1 : List (Int × List Int)) (y22_2 : Int) (y22_3 : Int) (y22_4 : Int) (y22_5 : Int) (y22_6 : Int) (y22_7 : List Int) (y22_8 : List Int) (kk : Ex → Pk → Option R) : Dlaws_FnOrdered_l22.step tt sig (mkK [(35, Kspec_DrawOrderOf @spec_DrawOrderOf n), (36, Kimpl_OrderOf @impl_OrderOf n), (37, Kspec_OrderOf @spec_OrderOf n), (38, Klaws_sameInts @laws_sameInts n), (39, Kimpl_NeedsAll @impl_NeedsAll n), (40, Kspec_DrawNeedsAll @spec_DrawNeedsAll n), (41, Kspec_NeedsAll @spec_NeedsAll n)] R) (mkL (mkK [(35, Kspec_DrawOrderOf @spec_DrawOrderOf n), (36, Kimpl_OrderOf @impl_OrderOf n), (37, Kspec_OrderOf @spec_OrderOf n), (38, Klaws_sameInts @laws_sameInts n), (39, Kimpl_NeedsAll @impl_NeedsAll n), (40, Kspec_DrawNeedsAll @spec_DrawNeedsAll n), (41, Kspec_NeedsAll @spec_NeedsAll n)]) [(11, Dlaws_FnOrdered_l11, Plaws_FnOrdered_l11 @laws_FnOrdered_l11 n)] R) (loopIn 22 (bodyOf Try.f8)) (fun q' => Plaws_FnOrdered_l22 @laws_FnOrdered_l22 n R q' kk) (PkS.pack Slaws_FnOrdered_l22 (y22_0, y22_1, y22_2, y22_3, y22_4, y22_5, y22_6, y22_7, y22_8, ())) kk = (fun (kret : Bool → Option R) (kexit4 : (List Int) → (List (Int × List Int)) → Int → Int → (List Int) → Option R) => (bif (decide (y22_6 < y22_5)) then (bif decide (0 ≤ y22_6) then (bif decide (y22_6 < (y22_8.length : Int)) then (bif decide (0 ≤ (y22_8.getD (Int.toNat y22_6) 0)) then (bif decide ((y22_8.getD (Int.toNat y22_6) 0) < (y22_7.length : Int)) then (bif decide (0 ≤ y22_2) then (bif decide (y22_2 < (y22_7.length : Int)) then (bif (decide ((y22_7.getD (Int.toNat (y22_8.getD (Int.toNat y22_6) 0)) 0) ≥ (y22_7.getD (Int.toNat y22_2) 0))) then kret false else laws_FnOrdered_l22 n y22_0 y22_1 y22_2 y22_3 y22_4 y22_5 (IntKind.wrap .i64 (y22_6 + 1)) y22_7 y22_8 kret kexit4) else none) else none) else none) else none) else none) else none) else kexit4 y22_0 y22_1 y22_3 y22_4 y22_7)) (fun r0 => kk .ret (PkS.pack Tlaws_FnOrdered_l22_0 (r0, ()))) (fun r0 r1 r2 r3 r4 => kk (.exit 4) (PkS.pack Tlaws_FnOrdered_l22_1 (r0, r1, r2, r3, r4, ()))) := by kernel_rfl
theorem lelaws_FnOrdered_l22 : LoopEq tt sig (fun n => mkK [(35, Kspec_DrawOrderOf @spec_DrawOrderOf n), (36, Kimpl_OrderOf @impl_OrderOf n), (37, Kspec_OrderOf @spec_OrderOf n), (38, Klaws_sameInts @laws_sameInts n), (39, Kimpl_NeedsAll @impl_NeedsAll n), (40, Kspec_DrawNeedsAll @spec_DrawNeedsAll n), (41, Kspec_NeedsAll @spec_NeedsAll n)]) (fun n => mkL (mkK [(35, Kspec_DrawOrderOf @spec_DrawOrderOf n), (36, Kimpl_OrderOf @impl_OrderOf n), (37, Kspec_OrderOf @spec_OrderOf n), (38, Klaws_sameInts @laws_sameInts n), (39, Kimpl_NeedsAll @impl_NeedsAll n), (40, Kspec_DrawNeedsAll @spec_DrawNeedsAll n), (41, Kspec_NeedsAll @spec_NeedsAll n)]) [(11, Dlaws_FnOrdered_l11, Plaws_FnOrdered_l11 @laws_FnOrdered_l11 n)]) Dlaws_FnOrdered_l22 Slaws_FnOrdered_l22 (loopIn 22 (bodyOf Try.f8)) (Plaws_FnOrdered_l22 @laws_FnOrdered_l22) where
  zero R q kk := by unfold Plaws_FnOrdered_l22; cases (PkS.un Slaws_FnOrdered_l22 q) <;> rfl
  succ n R q kk := by
    unfold Plaws_FnOrdered_l22
    cases h : (PkS.un Slaws_FnOrdered_l22 q) with
    | none => rfl
    | some d =>
      obtain ⟨y22_0, y22_1, y22_2, y22_3, y22_4, y22_5, y22_6, y22_7, y22_8, u⟩ := (d : (List Int) × (List (Int × List Int)) × Int × Int × Int × Int × Int × (List Int) × (List Int) × Unit)
      have hp := PkS.un_pack h
      subst hp
      exact (elaws_FnOrdered_l22 @spec_DrawOrderOf @impl_OrderOf @spec_OrderOf @laws_sameInts @impl_NeedsAll @spec_DrawNeedsAll @spec_NeedsAll @laws_FnOrdered_l11 @laws_FnOrdered_l22 n y22_0 y22_1 y22_2 y22_3 y22_4 y22_5 y22_6 y22_7 y22_8 kk).symm
theorem nllaws_FnOrdered_l22 : ∀ n, NatLP (Plaws_FnOrdered_l22 @laws_FnOrdered_l22 n) := lelaws_FnOrdered_l22.nat (fun n => mkK_nat (claws_FnOrdered n)) fun n => mkL_nat (mkK_nat (claws_FnOrdered n)) (l := [(11, Dlaws_FnOrdered_l11, Plaws_FnOrdered_l11 @laws_FnOrdered_l11 n)]) ⟨nllaws_FnOrdered_l11 n, trivial⟩
theorem inlaws_FnOrdered_l22 (n : Nat) (R : Type) : LoopsOk Try.prog (mkL (mkK [(35, Kspec_DrawOrderOf @spec_DrawOrderOf n), (36, Kimpl_OrderOf @impl_OrderOf n), (37, Kspec_OrderOf @spec_OrderOf n), (38, Klaws_sameInts @laws_sameInts n), (39, Kimpl_NeedsAll @impl_NeedsAll n), (40, Kspec_DrawNeedsAll @spec_DrawNeedsAll n), (41, Kspec_NeedsAll @spec_NeedsAll n)]) [(11, Dlaws_FnOrdered_l11, Plaws_FnOrdered_l11 @laws_FnOrdered_l11 n)] R) (loopIn 22 (bodyOf Try.f8)) := .eq (l := []) (by kernel_rfl) trivial
theorem lklaws_FnOrdered_l22 (n : Nat) (R : Type) (L0 : LK R) (h0 : ∀ id, firstRegion (loopIn 22 (bodyOf Try.f8)) = some id → L0 id = Dlaws_FnOrdered_l22.oracle (mkK [(35, Kspec_DrawOrderOf @spec_DrawOrderOf n), (36, Kimpl_OrderOf @impl_OrderOf n), (37, Kspec_OrderOf @spec_OrderOf n), (38, Klaws_sameInts @laws_sameInts n), (39, Kimpl_NeedsAll @impl_NeedsAll n), (40, Kspec_DrawNeedsAll @spec_DrawNeedsAll n), (41, Kspec_NeedsAll @spec_NeedsAll n)] R) (Plaws_FnOrdered_l22 @laws_FnOrdered_l22 n R)) : LoopOk Try.prog L0 (loopIn 22 (bodyOf Try.f8)) :=
  lelaws_FnOrdered_l22.ok mixed ttok (fun n => mkK_nat (claws_FnOrdered n)) (fun n => mkK_ok (claws_FnOrdered n)) (fun n => inlaws_FnOrdered_l22 n R) (mkK_nat (claws_FnOrdered n)) h0
@[reducible] def Slaws_FnOrdered_l16 : PkS := ⟨[.one (.ro (.int .u8)), .one (.ro (.pr (.int .i64) (.sl (.int .i64)))), .one (.whole (100000, 0)), .one (.int .i64), .one (.int .i64), .one (.dead), .one (.dead)], [((100000, 0), .arr (.int .i64))]⟩
@[reducible] def Tlaws_FnOrdered_l16_0 : PkS := ⟨[.one (.bool), .one (.dead), .one (.dead)], []⟩
@[reducible] def Tlaws_FnOrdered_l16_1 : PkS := ⟨[.one (.ro (.int .u8)), .one (.dead), .one (.dead)], []⟩
def Dlaws_FnOrdered_l16 : LoopD := ⟨122, [1, 5, 10, 68, 69], [.one (.ro (.int .u8)), .one (.ro (.pr (.int .i64) (.sl (.int .i64)))), .one (.own (.int .i64)), .one .any, .one .any, .skip, .skip], fun x => match x with
  | .ret => some ([4], [.one .any, .skip, .skip])
  | .exit 2 => some ([1], [.one (.ro (.int .u8)), .skip, .skip])
  | _ => none⟩
def Plaws_FnOrdered_l16 (g : ∀ {R : Type}, Nat → (List Int) → (List (Int × List Int)) → Int → Int → (List Int) → (Bool → Option R) → ((List Int) → Option R) → Option R) (n : Nat) : LPs := fun R q kk => match (PkS.un Slaws_FnOrdered_l16 q : Option ((List Int) × (List (Int × List Int)) × Int × Int × (List Int) × Unit)) with
  | some (y16_0, y16_1, y16_2, y16_3, y16_4, _) => g n y16_0 y16_1 y16_2 y16_3 y16_4 (fun r0 => kk .ret (PkS.pack Tlaws_FnOrdered_l16_0 (r0, ()))) (fun r0 => kk (.exit 2) (PkS.pack Tlaws_FnOrdered_l16_1 (r0, ())))
  | none => none
theorem elaws_FnOrdered_l16 (spec_DrawOrderOf : ∀ {R : Type}, Nat → (List Int) → ((List (Int × List Int)) → Option R) → Option R) (impl_OrderOf : ∀ {R : Type}, Nat → (List (Int × List Int)) → (Bool → (List Int) → Option R) → Option R) (spec_OrderOf : ∀ {R : Type}, Nat → (List (Int × List Int)) → ((List Int) → Bool → Option R) → Option R) (laws_sameInts : ∀ {R : Type}, Nat → (List Int) → (List Int) → (Bool → Option R) → Option R) (impl_NeedsAll : ∀ {R : Type}, Nat → (List (Int × List Int)) → Int → (Bool → (List Int) → Option R) → Option R) (spec_DrawNeedsAll : ∀ {R : Type}, Nat → (List Int) → (Int → (List (Int × List Int)) → Option R) → Option R) (spec_NeedsAll : ∀ {R : Type}, Nat → (List (Int × List Int)) → Int → (Bool → (List Int) → Option R) → Option R) (laws_FnOrdered_l11 : ∀ {R : Type}, Nat → (List Int) → (List (Int × List Int)) → Int → Int → (List Int) → (List Int) → ((List Int) → (List (Int × List Int)) → (List Int) → Option R) → Option R) (laws_FnOrdered_l22 : ∀ {R : Type}, Nat → (List Int) → (List (Int × List Int)) → Int → Int → Int → Int → Int → (List Int) → (List Int) → (Bool → Option R) → ((List Int) → (List (Int × List Int)) → Int → Int → (List Int) → Option R) → Option R) (laws_FnOrdered_l16 : ∀ {R : Type}, Nat → (List Int) → (List (Int × List Int)) → Int → Int → (List Int) → (Bool → Option R) → ((List Int) → Option R) → Option R) {R : Type} (n : Nat) (y16_0 : List Int) (y16_1 : List (Int × List Int)) (y16_2 : Int) (y16_3 : Int) (y16_4 : List Int) (kk : Ex → Pk → Option R) : Dlaws_FnOrdered_l16.step tt sig (mkK [(35, Kspec_DrawOrderOf @spec_DrawOrderOf n), (36, Kimpl_OrderOf @impl_OrderOf n), (37, Kspec_OrderOf @spec_OrderOf n), (38, Klaws_sameInts @laws_sameInts n), (39, Kimpl_NeedsAll @impl_NeedsAll n), (40, Kspec_DrawNeedsAll @spec_DrawNeedsAll n), (41, Kspec_NeedsAll @spec_NeedsAll n)] R) (mkL (mkK [(35, Kspec_DrawOrderOf @spec_DrawOrderOf n), (36, Kimpl_OrderOf @impl_OrderOf n), (37, Kspec_OrderOf @spec_OrderOf n), (38, Klaws_sameInts @laws_sameInts n), (39, Kimpl_NeedsAll @impl_NeedsAll n), (40, Kspec_DrawNeedsAll @spec_DrawNeedsAll n), (41, Kspec_NeedsAll @spec_NeedsAll n)]) [(11, Dlaws_FnOrdered_l11, Plaws_FnOrdered_l11 @laws_FnOrdered_l11 n), (22, Dlaws_FnOrdered_l22, Plaws_FnOrdered_l22 @laws_FnOrdered_l22 n)] R) (loopIn 16 (bodyOf Try.f8)) (fun q' => Plaws_FnOrdered_l16 @laws_FnOrdered_l16 n R q' kk) (PkS.pack Slaws_FnOrdered_l16 (y16_0, y16_1, y16_2, y16_3, y16_4, ())) kk = (fun (kret : Bool → Option R) (kexit2 : (List Int) → Option R) => (bif (decide (y16_3 < y16_2)) then (impl_NeedsAll n y16_1 y16_3 fun r10 r11 => (bif (!r10) then kret false else (laws_FnOrdered_l22 n y16_0 y16_1 y16_3 y16_2 y16_3 (r11.length : Int) 0 y16_4 r11 (fun r12 => kret r12) (fun r13 r14 r15 r16 r17 => laws_FnOrdered_l16 n r13 r14 r15 (IntKind.wrap .i64 (r16 + 1)) r17 kret kexit2)))) else kexit2 y16_0)) (fun r0 => kk .ret (PkS.pack Tlaws_FnOrdered_l16_0 (r0, ()))) (fun r0 => kk (.exit 2) (PkS.pack Tlaws_FnOrdered_l16_1 (r0, ()))) := by kernel_rfl
theorem lelaws_FnOrdered_l16 : LoopEq tt sig (fun n => mkK [(35, Kspec_DrawOrderOf @spec_DrawOrderOf n), (36, Kimpl_OrderOf @impl_OrderOf n), (37, Kspec_OrderOf @spec_OrderOf n), (38, Klaws_sameInts @laws_sameInts n), (39, Kimpl_NeedsAll @impl_NeedsAll n), (40, Kspec_DrawNeedsAll @spec_DrawNeedsAll n), (41, Kspec_NeedsAll @spec_NeedsAll n)]) (fun n => mkL (mkK [(35, Kspec_DrawOrderOf @spec_DrawOrderOf n), (36, Kimpl_OrderOf @impl_OrderOf n), (37, Kspec_OrderOf @spec_OrderOf n), (38, Klaws_sameInts @laws_sameInts n), (39, Kimpl_NeedsAll @impl_NeedsAll n), (40, Kspec_DrawNeedsAll @spec_DrawNeedsAll n), (41, Kspec_NeedsAll @spec_NeedsAll n)]) [(11, Dlaws_FnOrdered_l11, Plaws_FnOrdered_l11 @laws_FnOrdered_l11 n), (22, Dlaws_FnOrdered_l22, Plaws_FnOrdered_l22 @laws_FnOrdered_l22 n)]) Dlaws_FnOrdered_l16 Slaws_FnOrdered_l16 (loopIn 16 (bodyOf Try.f8)) (Plaws_FnOrdered_l16 @laws_FnOrdered_l16) where
  zero R q kk := by unfold Plaws_FnOrdered_l16; cases (PkS.un Slaws_FnOrdered_l16 q) <;> rfl
  succ n R q kk := by
    unfold Plaws_FnOrdered_l16
    cases h : (PkS.un Slaws_FnOrdered_l16 q) with
    | none => rfl
    | some d =>
      obtain ⟨y16_0, y16_1, y16_2, y16_3, y16_4, u⟩ := (d : (List Int) × (List (Int × List Int)) × Int × Int × (List Int) × Unit)
      have hp := PkS.un_pack h
      subst hp
      exact (elaws_FnOrdered_l16 @spec_DrawOrderOf @impl_OrderOf @spec_OrderOf @laws_sameInts @impl_NeedsAll @spec_DrawNeedsAll @spec_NeedsAll @laws_FnOrdered_l11 @laws_FnOrdered_l22 @laws_FnOrdered_l16 n y16_0 y16_1 y16_2 y16_3 y16_4 kk).symm
theorem nllaws_FnOrdered_l16 : ∀ n, NatLP (Plaws_FnOrdered_l16 @laws_FnOrdered_l16 n) := lelaws_FnOrdered_l16.nat (fun n => mkK_nat (claws_FnOrdered n)) fun n => mkL_nat (mkK_nat (claws_FnOrdered n)) (l := [(11, Dlaws_FnOrdered_l11, Plaws_FnOrdered_l11 @laws_FnOrdered_l11 n), (22, Dlaws_FnOrdered_l22, Plaws_FnOrdered_l22 @laws_FnOrdered_l22 n)]) ⟨nllaws_FnOrdered_l11 n, ⟨nllaws_FnOrdered_l22 n, trivial⟩⟩
theorem inlaws_FnOrdered_l16 (n : Nat) (R : Type) : LoopsOk Try.prog (mkL (mkK [(35, Kspec_DrawOrderOf @spec_DrawOrderOf n), (36, Kimpl_OrderOf @impl_OrderOf n), (37, Kspec_OrderOf @spec_OrderOf n), (38, Klaws_sameInts @laws_sameInts n), (39, Kimpl_NeedsAll @impl_NeedsAll n), (40, Kspec_DrawNeedsAll @spec_DrawNeedsAll n), (41, Kspec_NeedsAll @spec_NeedsAll n)]) [(11, Dlaws_FnOrdered_l11, Plaws_FnOrdered_l11 @laws_FnOrdered_l11 n), (22, Dlaws_FnOrdered_l22, Plaws_FnOrdered_l22 @laws_FnOrdered_l22 n)] R) (loopIn 16 (bodyOf Try.f8)) := .eq (l := [.lo (loopIn 22 (bodyOf Try.f8))]) (by kernel_rfl) ⟨(lklaws_FnOrdered_l22 n R _ (at_id (i := 22) (by kernel_rfl) rfl)), trivial⟩
theorem lklaws_FnOrdered_l16 (n : Nat) (R : Type) (L0 : LK R) (h0 : ∀ id, firstRegion (loopIn 16 (bodyOf Try.f8)) = some id → L0 id = Dlaws_FnOrdered_l16.oracle (mkK [(35, Kspec_DrawOrderOf @spec_DrawOrderOf n), (36, Kimpl_OrderOf @impl_OrderOf n), (37, Kspec_OrderOf @spec_OrderOf n), (38, Klaws_sameInts @laws_sameInts n), (39, Kimpl_NeedsAll @impl_NeedsAll n), (40, Kspec_DrawNeedsAll @spec_DrawNeedsAll n), (41, Kspec_NeedsAll @spec_NeedsAll n)] R) (Plaws_FnOrdered_l16 @laws_FnOrdered_l16 n R)) : LoopOk Try.prog L0 (loopIn 16 (bodyOf Try.f8)) :=
  lelaws_FnOrdered_l16.ok mixed ttok (fun n => mkK_nat (claws_FnOrdered n)) (fun n => mkK_ok (claws_FnOrdered n)) (fun n => inlaws_FnOrdered_l16 n R) (mkK_nat (claws_FnOrdered n)) h0
@[reducible] def Slaws_FnOrdered : PkS := ⟨[.one (.ro (.int .u8)), .one (.ro (.int .u8))], []⟩
@[reducible] def Tlaws_FnOrdered : PkS := ⟨[.one (.bool), .one (.dead), .one (.dead)], []⟩
def Hlaws_FnOrdered : List Sh := [.one .any, .skip, .skip]
def Klaws_FnOrdered (g : ∀ {R : Type}, Nat → (List Int) → (List Int) → (Bool → Option R) → Option R) (n : Nat) : KPs := fun R p k => match (PkS.un Slaws_FnOrdered p : Option ((List Int) × (List Int) × Unit)) with
  | some (x0, x1, _) => g n x0 x1 (fun r0 => k (PkS.pack Tlaws_FnOrdered (r0, ())))
  | none => none
theorem elaws_FnOrdered (spec_DrawOrderOf : ∀ {R : Type}, Nat → (List Int) → ((List (Int × List Int)) → Option R) → Option R) (impl_OrderOf : ∀ {R : Type}, Nat → (List (Int × List Int)) → (Bool → (List Int) → Option R) → Option R) (spec_OrderOf : ∀ {R : Type}, Nat → (List (Int × List Int)) → ((List Int) → Bool → Option R) → Option R) (laws_sameInts : ∀ {R : Type}, Nat → (List Int) → (List Int) → (Bool → Option R) → Option R) (impl_NeedsAll : ∀ {R : Type}, Nat → (List (Int × List Int)) → Int → (Bool → (List Int) → Option R) → Option R) (spec_DrawNeedsAll : ∀ {R : Type}, Nat → (List Int) → (Int → (List (Int × List Int)) → Option R) → Option R) (spec_NeedsAll : ∀ {R : Type}, Nat → (List (Int × List Int)) → Int → (Bool → (List Int) → Option R) → Option R) (laws_FnOrdered_l11 : ∀ {R : Type}, Nat → (List Int) → (List (Int × List Int)) → Int → Int → (List Int) → (List Int) → ((List Int) → (List (Int × List Int)) → (List Int) → Option R) → Option R) (laws_FnOrdered_l22 : ∀ {R : Type}, Nat → (List Int) → (List (Int × List Int)) → Int → Int → Int → Int → Int → (List Int) → (List Int) → (Bool → Option R) → ((List Int) → (List (Int × List Int)) → Int → Int → (List Int) → Option R) → Option R) (laws_FnOrdered_l16 : ∀ {R : Type}, Nat → (List Int) → (List (Int × List Int)) → Int → Int → (List Int) → (Bool → Option R) → ((List Int) → Option R) → Option R) {R : Type} (n : Nat) (x0 : List Int) (x1 : List Int) (k : Pk → Option R) : evF tt sig (mkK [(35, Kspec_DrawOrderOf @spec_DrawOrderOf n), (36, Kimpl_OrderOf @impl_OrderOf n), (37, Kspec_OrderOf @spec_OrderOf n), (38, Klaws_sameInts @laws_sameInts n), (39, Kimpl_NeedsAll @impl_NeedsAll n), (40, Kspec_DrawNeedsAll @spec_DrawNeedsAll n), (41, Kspec_NeedsAll @spec_NeedsAll n)] R) (mkL (mkK [(35, Kspec_DrawOrderOf @spec_DrawOrderOf n), (36, Kimpl_OrderOf @impl_OrderOf n), (37, Kspec_OrderOf @spec_OrderOf n), (38, Klaws_sameInts @laws_sameInts n), (39, Kimpl_NeedsAll @impl_NeedsAll n), (40, Kspec_DrawNeedsAll @spec_DrawNeedsAll n), (41, Kspec_NeedsAll @spec_NeedsAll n)]) [(11, Dlaws_FnOrdered_l11, Plaws_FnOrdered_l11 @laws_FnOrdered_l11 n), (22, Dlaws_FnOrdered_l22, Plaws_FnOrdered_l22 @laws_FnOrdered_l22 n), (16, Dlaws_FnOrdered_l16, Plaws_FnOrdered_l16 @laws_FnOrdered_l16 n)] R) Try.f8 Hlaws_FnOrdered (PkS.pack Slaws_FnOrdered (x0, x1, ())) k = (fun (k : Bool → Option R) => (bif (decide ((IntKind.wrap .i64 ((x0.length : Int) + (x1.length : Int))) > 1048576)) then k true else (spec_DrawOrderOf n x0 fun r1 => (impl_OrderOf n r1 fun r2 r3 => (spec_OrderOf n r1 fun r4 r5 => (bif (!(r2 == r5)) then k false else (laws_sameInts n r3 r4 fun r6 => (bif (!r6) then k false else (bif r2 then (bif decide (0 ≤ (r1.length : Int)) then (bif decide ((r1.length : Int) ≤ (r1.length : Int)) then (bif decide ((r1.length : Int) ≤ 1099511627776) then (laws_FnOrdered_l11 n x1 r1 (r3.length : Int) 0 (List.replicate (Int.toNat (r1.length : Int)) (0 : Int)) r3 (fun r7 r8 r9 => (laws_FnOrdered_l16 n r7 r8 (r8.length : Int) 0 r9 (fun r18 => k r18) (fun r19 => (spec_DrawNeedsAll n r19 fun r20 r21 => (impl_NeedsAll n r21 r20 fun r22 r23 => (spec_NeedsAll n r21 r20 fun r24 r25 => (bif (r22 == r24) then (laws_sameInts n r23 r25 fun r26 => k r26) else k false)))))))) else none) else none) else none) else (spec_DrawNeedsAll n x1 fun r27 r28 => (impl_NeedsAll n r28 r27 fun r29 r30 => (spec_NeedsAll n r28 r27 fun r31 r32 => (bif (r29 == r31) then (laws_sameInts n r30 r32 fun r33 => k r33) else k false))))))))))))) (fun r0 => k (PkS.pack Tlaws_FnOrdered (r0, ()))) := by kernel_rfl
theorem oklaws_FnOrdered (n : Nat) : FnOk Try.prog 8 (Klaws_FnOrdered @laws_FnOrdered n) := by
  refine fn_ok (sig := sig) mixed ttok (mkK_nat (claws_FnOrdered n)) (mkK_ok (claws_FnOrdered n)) (mkL_nat (mkK_nat (claws_FnOrdered n)) (l := [(11, Dlaws_FnOrdered_l11, Plaws_FnOrdered_l11 @laws_FnOrdered_l11 n), (22, Dlaws_FnOrdered_l22, Plaws_FnOrdered_l22 @laws_FnOrdered_l22 n), (16, Dlaws_FnOrdered_l16, Plaws_FnOrdered_l16 @laws_FnOrdered_l16 n)]) ⟨nllaws_FnOrdered_l11 n, ⟨nllaws_FnOrdered_l22 n, ⟨nllaws_FnOrdered_l16 n, trivial⟩⟩⟩) (fn := Try.f8) (c := bodyOf Try.f8) (by kernel_rfl) (by kernel_rfl) (by kernel_rfl) (.eq (l := [.lo (loopIn 11 (bodyOf Try.f8)), .lo (loopIn 16 (bodyOf Try.f8))]) (by kernel_rfl) ⟨(lklaws_FnOrdered_l11 n _ _ (at_id (i := 11) (by kernel_rfl) rfl)), ⟨(lklaws_FnOrdered_l16 n _ _ (at_id (i := 16) (by kernel_rfl) rfl)), trivial⟩⟩) (shs := Hlaws_FnOrdered) (S := Slaws_FnOrdered) (h1 := by kernel_rfl) fun R p k => ?_
  unfold Klaws_FnOrdered
  cases h : (PkS.un Slaws_FnOrdered p) with
  | none => rfl
  | some d =>
    obtain ⟨x0, x1, u⟩ := (d : (List Int) × (List Int) × Unit)
    have hp := PkS.un_pack h
    subst hp
    exact (elaws_FnOrdered @spec_DrawOrderOf @impl_OrderOf @spec_OrderOf @laws_sameInts @impl_NeedsAll @spec_DrawNeedsAll @spec_NeedsAll @laws_FnOrdered_l11 @laws_FnOrdered_l22 @laws_FnOrdered_l16 n x0 x1 k).symm
end Go.Am.G
