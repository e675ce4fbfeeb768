/- The code of the functions that the law reaches does what the plain functions say. -/
import Derived.Test.YtjkakpepejlooaaF11
import Derived.Test.YtjkakpepejlooaaAmC
import Derived.KernelRfl
import Derived.Test.YtjkakpepejlooaaProg
set_option linter.unusedVariables false
set_option maxRecDepth 100000
namespace Go.Am.G
open Go Go.Am
open Go.Proofs
def tt : TT := [(3, ⟨1, false, (.int .i64), 0, [], [.int .i64 0], 8, true, false, []⟩), (4, ⟨1, false, .bool, 0, [], [.bool false], 1, true, false, []⟩), (5, ⟨1, false, (.int .u8), 0, [], [.int .u8 0], 1, true, false, []⟩), (25, ⟨1, false, (.sl (.pr (.int .i64) (.sl (.int .i64)))), 48, [], [.nil], 24, true, true, []⟩), (29, ⟨1, false, (.sl (.int .i64)), 3, [], [.nil], 24, true, true, []⟩), (44, ⟨1, false, (.sl (.int .u8)), 5, [], [.nil], 24, true, true, []⟩), (48, ⟨2, true, (.pr (.int .i64) (.sl (.int .i64))), 0, [(0, 1, false), (1, 1, false)], [.int .i64 0, .nil], 32, true, false, []⟩), (63, ⟨1, false, (.sl .bool), 4, [], [.nil], 24, true, true, []⟩), (71, ⟨3, true, (.pr (.sl (.int .i64)) (.pr (.int .i64) (.sl (.int .i64)))), 0, [(0, 1, false), (1, 1, false), (2, 1, false)], [.nil, .int .i64 0, .nil], 56, true, false, []⟩), (79, ⟨1, false, (.int .u64), 0, [], [.int .u64 0], 8, true, false, []⟩), (81, ⟨3, true, (.pr (.sl (.int .u8)) (.pr (.int .i64) (.int .u64))), 0, [(0, 1, false), (1, 1, false), (2, 1, false)], [.nil, .int .i64 0, .int .u64 0], 40, true, false, []⟩), (96, ⟨1, false, (.int .u64), 0, [], [.int .u64 0], 8, true, false, []⟩)]
def sig : Sig := sigOf [(11, [.one (.ro (.int .u8))]), (13, [.one (.ro (.pr (.int .i64) (.sl (.int .i64))))]), (15, [.one (.ro (.pr (.int .i64) (.sl (.int .i64))))]), (26, [.one (.ro (.pr (.int .i64) (.sl (.int .i64)))), .one (.ro (.int .i64)), .one .any]), (27, [.one (.ro (.pr (.int .i64) (.sl (.int .i64)))), .one (.ro (.int .i64)), .one .any]), (32, [.one (.ro (.pr (.int .i64) (.sl (.int .i64)))), .one (.ro (.int .i64)), .one .any]), (33, [.one (.ro (.pr (.int .i64) (.sl (.int .i64)))), .one (.ro (.int .i64)), .one .any]), (35, [.one (.ro (.int .i64)), .one (.ro (.int .i64))]), (36, [.one (.ro (.int .i64)), .one (.ro (.int .i64))]), (37, [.one (.ro (.int .i64)), .one .any]), (38, [.one (.ro (.int .u8))]), (40, [.one .any, .one .any, .one .any]), (41, [.one (.ro (.int .i64))]), (43, [.one (.ro (.pr (.int .i64) (.sl (.int .i64)))), .fn 44 []]), (44, [.agg [.any, (.ro (.int .i64))]]), (45, [.one .any]), (46, [.one (.ro (.int .i64))]), (50, [.one (.ro (.pr (.int .i64) (.sl (.int .i64)))), .one (.ro (.int .i64))]), (53, [.one (.ro (.int .i64)), .one .any]), (56, [.one (.ro (.pr (.int .i64) (.sl (.int .i64)))), .one (.ro (.int .i64))]), (57, [.one (.ro (.pr (.int .i64) (.sl (.int .i64)))), .one (.ro (.int .i64))]), (59, [.one (.ro (.int .i64))]), (60, [.one (.own (.int .i64))]), (61, [.box [(.ro (.int .u8)), .any, .any]]), (62, [.box [(.ro (.int .u8)), .any, .any], .one .any, .one .any]), (63, [.one (.ro (.int .u8))]), (65, [.one (.ro (.pr (.int .i64) (.sl (.int .i64)))), .fn 44 []]), (66, [.one .any, .one .any, .one .any]), (67, [.one (.ro (.int .i64)), .one .any]), (70, [.one (.ro (.int .i64)), .one .any]), (71, [.one (.ro (.int .i64))]), (72, [.one (.own (.int .i64)), .one .any]), (73, [.one (.ro (.int .i64)), .one .any]), (74, [.one .any, .one (.own (.int .i64)), .box [(.ro (.pr (.int .i64) (.sl (.int .i64))))], .box [(.own (.int .i64)), .any, (.own (.int .i64))]]), (76, [.box [(.ro (.int .u8)), .any, .any], .one .any]), (77, [.box [(.ro (.int .u8)), .any, .any], .one .any]), (78, [.box [(.ro (.int .u8)), .any, .any], .one (.ro (.int .i64))]), (80, [.one (.ro (.int .i64)), .one .any]), (81, [.one (.own (.int .i64)), .one .any, .one (.own (.int .i64))]), (82, [.box [(.ro (.int .u8)), .any, .any]]), (83, [.one .any, .one .any]), (84, [.one .any]), (87, [.one .any])]
theorem ttok : TTok Try.prog tt := .of_chk (by kernel_rfl)
theorem mixed : Try.prog.follows .mixedOrders = true := by kernel_rfl

/-! ### (*loop.example/g00269/spec.l1Cur).next -/
theorem cspec_l1Cur_next (n : Nat) : AllOk Try.prog [] := trivial
@[reducible] def Sspec_l1Cur_next : PkS := ⟨[.one (.box (200000, 0) 0)], [((200000, 0), .box [.ro (.int .u8), .int .i64, .int .u64])]⟩
@[reducible] def Tspec_l1Cur_next : PkS := ⟨[.one (.int .i64), .one (.box (300000, 0) 0)], [((300000, 0), .box [.ro (.int .u8), .int .i64, .int .u64])]⟩
def Hspec_l1Cur_next : List Sh := [.one .any, .box [(.ro (.int .u8)), .any, .any]]
def Kspec_l1Cur_next (g : ∀ {R : Type}, Nat → (List Int) → Int → Int → (Int → (List Int) → Int → Int → Option R) → Option R) (n : Nat) : KPs := fun R p k => match (PkS.un Sspec_l1Cur_next p : Option ((List Int) × Int × Int × Unit)) with
  | some (x0, x1, x2, _) => g n x0 x1 x2 (fun r0 r1 r2 r3 => k (PkS.pack Tspec_l1Cur_next (r0, r1, r2, r3, ())))
  | none => none
theorem espec_l1Cur_next  {R : Type} (n : Nat) (x0 : List Int) (x1 : Int) (x2 : Int) (k : Pk → Option R) : evF tt sig (mkK [] R) (mkL (mkK []) [] R) Try.f82 Hspec_l1Cur_next (PkS.pack Sspec_l1Cur_next (x0, x1, x2, ())) k = (fun (k : Int → (List Int) → Int → Int → Option R) => (bif (decide (x1 < (x0.length : Int))) then (bif decide (0 ≤ x1) then (bif decide (x1 < (x0.length : Int)) then (bif (decide ((IntKind.wrap .i64 (x1 + 1)) ≤ (x0.length : Int))) then k (IntKind.wrap .i64 ((x0.getD (Int.toNat x1) 0))) x0 (IntKind.wrap .i64 (x1 + 1)) (IntKind.wrap .u64 ((IntKind.wrap .u64 ((IntKind.wrap .u64 (x2 * 6364136223846793005)) + (IntKind.wrap .u64 ((IntKind.wrap .i64 ((x0.getD (Int.toNat x1) 0))))))) + 1442695040888963407)) else k (IntKind.wrap .i64 ((IntKind.wrap .u64 (Int.ofNat (BitVec.toNat (BitVec.ofInt (IntKind.bits .u64) (Int.fdiv (IntKind.wrap .u64 ((IntKind.wrap .u64 ((IntKind.wrap .u64 (x2 * 6364136223846793005)) + (IntKind.wrap .u64 ((IntKind.wrap .i64 ((x0.getD (Int.toNat x1) 0))))))) + 1442695040888963407)) (2 ^ (min (Int.toNat 40) (IntKind.bits .u64)))) &&& BitVec.ofInt (IntKind.bits .u64) 255)))))) x0 (IntKind.wrap .i64 (x1 + 1)) (IntKind.wrap .u64 ((IntKind.wrap .u64 ((IntKind.wrap .u64 (x2 * 6364136223846793005)) + (IntKind.wrap .u64 ((IntKind.wrap .i64 ((x0.getD (Int.toNat x1) 0))))))) + 1442695040888963407))) else none) else none) else (bif (decide ((IntKind.wrap .i64 (x1 + 1)) ≤ (x0.length : Int))) then k 0 x0 (IntKind.wrap .i64 (x1 + 1)) (IntKind.wrap .u64 ((IntKind.wrap .u64 ((IntKind.wrap .u64 (x2 * 6364136223846793005)) + 0)) + 1442695040888963407)) else k (IntKind.wrap .i64 ((IntKind.wrap .u64 (Int.ofNat (BitVec.toNat (BitVec.ofInt (IntKind.bits .u64) (Int.fdiv (IntKind.wrap .u64 ((IntKind.wrap .u64 ((IntKind.wrap .u64 (x2 * 6364136223846793005)) + 0)) + 1442695040888963407)) (2 ^ (min (Int.toNat 40) (IntKind.bits .u64)))) &&& BitVec.ofInt (IntKind.bits .u64) 255)))))) x0 (IntKind.wrap .i64 (x1 + 1)) (IntKind.wrap .u64 ((IntKind.wrap .u64 ((IntKind.wrap .u64 (x2 * 6364136223846793005)) + 0)) + 1442695040888963407))))) (fun r0 r1 r2 r3 => k (PkS.pack Tspec_l1Cur_next (r0, r1, r2, r3, ()))) := by kernel_rfl
theorem okspec_l1Cur_next (n : Nat) : FnOk Try.prog 82 (Kspec_l1Cur_next @spec_l1Cur_next n) := by
  refine fn_ok (sig := sig) mixed ttok (mkK_nat (cspec_l1Cur_next n)) (mkK_ok (cspec_l1Cur_next n)) (mkL_nat (mkK_nat (cspec_l1Cur_next n)) (l := []) trivial) (fn := Try.f82) (c := bodyOf Try.f82) (by kernel_rfl) (by kernel_rfl) (by kernel_rfl) (.eq (l := []) (by kernel_rfl) trivial) (shs := Hspec_l1Cur_next) (S := Sspec_l1Cur_next) (h1 := by kernel_rfl) fun R p k => ?_
  unfold Kspec_l1Cur_next
  cases h : (PkS.un Sspec_l1Cur_next p) with
  | none => rfl
  | some d =>
    obtain ⟨x0, x1, x2, u⟩ := (d : (List Int) × Int × Int × Unit)
    have hp := PkS.un_pack h
    subst hp
    exact (espec_l1Cur_next  n x0 x1 x2 k).symm

/-! ### (*loop.example/g00269/spec.l1Cur).pick -/
theorem cspec_l1Cur_pick (n : Nat) : AllOk Try.prog [(82, Kspec_l1Cur_next @spec_l1Cur_next n)] := ⟨okspec_l1Cur_next n, trivial⟩
@[reducible] def Sspec_l1Cur_pick : PkS := ⟨[.one (.box (200000, 0) 0), .one (.int .i64)], [((200000, 0), .box [.ro (.int .u8), .int .i64, .int .u64])]⟩
@[reducible] def Tspec_l1Cur_pick : PkS := ⟨[.one (.int .i64), .one (.box (300000, 0) 0), .one (.dead)], [((300000, 0), .box [.ro (.int .u8), .int .i64, .int .u64])]⟩
def Hspec_l1Cur_pick : List Sh := [.one .any, .box [(.ro (.int .u8)), .any, .any], .skip]
def Kspec_l1Cur_pick (g : ∀ {R : Type}, Nat → Int → (List Int) → Int → Int → (Int → (List Int) → Int → Int → Option R) → Option R) (n : Nat) : KPs := fun R p k => match (PkS.un Sspec_l1Cur_pick p : Option (Int × (List Int) × Int × Int × Unit)) with
  | some (x0, x1, x2, x3, _) => g n x0 x1 x2 x3 (fun r0 r1 r2 r3 => k (PkS.pack Tspec_l1Cur_pick (r0, r1, r2, r3, ())))
  | none => none
theorem espec_l1Cur_pick (spec_l1Cur_next : ∀ {R : Type}, Nat → (List Int) → Int → Int → (Int → (List Int) → Int → Int → Option R) → Option R) {R : Type} (n : Nat) (x0 : Int) (x1 : List Int) (x2 : Int) (x3 : Int) (k : Pk → Option R) : evF tt sig (mkK [(82, Kspec_l1Cur_next @spec_l1Cur_next n)] R) (mkL (mkK [(82, Kspec_l1Cur_next @spec_l1Cur_next n)]) [] R) Try.f76 Hspec_l1Cur_pick (PkS.pack Sspec_l1Cur_pick (x0, x1, x2, x3, ())) k = (fun (k : Int → (List Int) → Int → Int → Option R) => (bif (decide (x0 ≤ 1)) then k 0 x1 x2 x3 else (spec_l1Cur_next n x1 x2 x3 fun r1 r2 r3 r4 => (bif (decide (x0 > 200)) then (spec_l1Cur_next n r2 r3 r4 fun r5 r6 r7 r8 => (bif decide (x0 ≠ 0) then k (Int.tmod (IntKind.wrap .i64 ((IntKind.wrap .i64 (r1 * 256)) + r5)) x0) r6 r7 r8 else none)) else (bif decide (x0 ≠ 0) then k (Int.tmod r1 x0) r2 r3 r4 else none))))) (fun r0 r1 r2 r3 => k (PkS.pack Tspec_l1Cur_pick (r0, r1, r2, r3, ()))) := by kernel_rfl
theorem okspec_l1Cur_pick (n : Nat) : FnOk Try.prog 76 (Kspec_l1Cur_pick @spec_l1Cur_pick n) := by
  refine fn_ok (sig := sig) mixed ttok (mkK_nat (cspec_l1Cur_pick n)) (mkK_ok (cspec_l1Cur_pick n)) (mkL_nat (mkK_nat (cspec_l1Cur_pick n)) (l := []) trivial) (fn := Try.f76) (c := bodyOf Try.f76) (by kernel_rfl) (by kernel_rfl) (by kernel_rfl) (.eq (l := []) (by kernel_rfl) trivial) (shs := Hspec_l1Cur_pick) (S := Sspec_l1Cur_pick) (h1 := by kernel_rfl) fun R p k => ?_
  unfold Kspec_l1Cur_pick
  cases h : (PkS.un Sspec_l1Cur_pick p) with
  | none => rfl
  | some d =>
    obtain ⟨x0, x1, x2, x3, u⟩ := (d : Int × (List Int) × Int × Int × Unit)
    have hp := PkS.un_pack h
    subst hp
    exact (espec_l1Cur_pick @spec_l1Cur_next n x0 x1 x2 x3 k).symm

/-! ### (*loop.example/g00269/spec.l1Cur).one -/
theorem cspec_l1Cur_one (n : Nat) : AllOk Try.prog [(76, Kspec_l1Cur_pick @spec_l1Cur_pick n)] := ⟨okspec_l1Cur_pick n, trivial⟩
@[reducible] def Sspec_l1Cur_one : PkS := ⟨[.one (.box (200000, 0) 0), .one (.int .i64)], [((200000, 0), .box [.ro (.int .u8), .int .i64, .int .u64])]⟩
@[reducible] def Tspec_l1Cur_one : PkS := ⟨[.one (.bool), .one (.box (300000, 0) 0), .one (.dead)], [((300000, 0), .box [.ro (.int .u8), .int .i64, .int .u64])]⟩
def Hspec_l1Cur_one : List Sh := [.one .any, .box [(.ro (.int .u8)), .any, .any], .skip]
def Kspec_l1Cur_one (g : ∀ {R : Type}, Nat → Int → (List Int) → Int → Int → (Bool → (List Int) → Int → Int → Option R) → Option R) (n : Nat) : KPs := fun R p k => match (PkS.un Sspec_l1Cur_one p : Option (Int × (List Int) × Int × Int × Unit)) with
  | some (x0, x1, x2, x3, _) => g n x0 x1 x2 x3 (fun r0 r1 r2 r3 => k (PkS.pack Tspec_l1Cur_one (r0, r1, r2, r3, ())))
  | none => none
theorem espec_l1Cur_one (spec_l1Cur_pick : ∀ {R : Type}, Nat → Int → (List Int) → Int → Int → (Int → (List Int) → Int → Int → Option R) → Option R) {R : Type} (n : Nat) (x0 : Int) (x1 : List Int) (x2 : Int) (x3 : Int) (k : Pk → Option R) : evF tt sig (mkK [(76, Kspec_l1Cur_pick @spec_l1Cur_pick n)] R) (mkL (mkK [(76, Kspec_l1Cur_pick @spec_l1Cur_pick n)]) [] R) Try.f77 Hspec_l1Cur_one (PkS.pack Sspec_l1Cur_one (x0, x1, x2, x3, ())) k = (fun (k : Bool → (List Int) → Int → Int → Option R) => (spec_l1Cur_pick n x0 x1 x2 x3 fun r1 r2 r3 r4 => k (r1 == 0) r2 r3 r4)) (fun r0 r1 r2 r3 => k (PkS.pack Tspec_l1Cur_one (r0, r1, r2, r3, ()))) := by kernel_rfl
theorem okspec_l1Cur_one (n : Nat) : FnOk Try.prog 77 (Kspec_l1Cur_one @spec_l1Cur_one n) := by
  refine fn_ok (sig := sig) mixed ttok (mkK_nat (cspec_l1Cur_one n)) (mkK_ok (cspec_l1Cur_one n)) (mkL_nat (mkK_nat (cspec_l1Cur_one n)) (l := []) trivial) (fn := Try.f77) (c := bodyOf Try.f77) (by kernel_rfl) (by kernel_rfl) (by kernel_rfl) (.eq (l := []) (by kernel_rfl) trivial) (shs := Hspec_l1Cur_one) (S := Sspec_l1Cur_one) (h1 := by kernel_rfl) fun R p k => ?_
  unfold Kspec_l1Cur_one
  cases h : (PkS.un Sspec_l1Cur_one p) with
  | none => rfl
  | some d =>
    obtain ⟨x0, x1, x2, x3, u⟩ := (d : Int × (List Int) × Int × Int × Unit)
    have hp := PkS.un_pack h
    subst hp
    exact (espec_l1Cur_one @spec_l1Cur_pick n x0 x1 x2 x3 k).symm

/-! ### (*loop.example/g00269/spec.l1Cur).set -/
theorem cspec_l1Cur_set (n : Nat) : AllOk Try.prog [(76, Kspec_l1Cur_pick @spec_l1Cur_pick n)] := ⟨okspec_l1Cur_pick n, trivial⟩
@[reducible] def Sspec_l1Cur_set_l4 : PkS := ⟨[.one (.box (100000, 0) 0), .one (.int .i64), .one (.whole (100000, 1)), .one (.int .i64), .one (.int .i64), .one (.box (100000, 0) 0), .one (.dead), .one (.dead)], [((100000, 0), .box [.ro (.int .u8), .int .i64, .int .u64]), ((100000, 1), .arr (.int .i64))]⟩
@[reducible] def Tspec_l1Cur_set_l4_0 : PkS := ⟨[.one (.whole (100000, 0)), .one (.box (100000, 1) 0), .one (.dead), .one (.dead)], [((100000, 0), .arr (.int .i64)), ((100000, 1), .box [.ro (.int .u8), .int .i64, .int .u64])]⟩
def Dspec_l1Cur_set_l4 : LoopD := ⟨35, [0, 1, 7, 8, 9], [.box [(.ro (.int .u8)), .any, .any], .one .any, .one (.own (.int .i64)), .one .any, .one .any, .box [(.ro (.int .u8)), .any, .any], .skip, .skip], fun x => match x with
  | .exit 0 => some ([7], [.one (.own (.int .i64)), .box [(.ro (.int .u8)), .any, .any], .skip, .skip])
  | _ => none⟩
def Pspec_l1Cur_set_l4 (g : ∀ {R : Type}, Nat → Int → Int → Int → (List Int) → Int → Int → (List Int) → ((List Int) → (List Int) → Int → Int → Option R) → Option R) (n : Nat) : LPs := fun R q kk => match (PkS.un Sspec_l1Cur_set_l4 q : Option (Int × Int × Int × (List Int) × Int × Int × (List Int) × Unit)) with
  | some (y4_0, y4_1, y4_2, y4_3, y4_4, y4_5, y4_6, _) => g n y4_0 y4_1 y4_2 y4_3 y4_4 y4_5 y4_6 (fun r0 r1 r2 r3 => kk (.exit 0) (PkS.pack Tspec_l1Cur_set_l4_0 (r0, r1, r2, r3, ())))
  | none => none
theorem espec_l1Cur_set_l4 (spec_l1Cur_pick : ∀ {R : Type}, Nat → Int → (List Int) → Int → Int → (Int → (List Int) → Int → Int → Option R) → Option R) (spec_l1Cur_set_l4 : ∀ {R : Type}, Nat → Int → Int → Int → (List Int) → Int → Int → (List Int) → ((List Int) → (List Int) → Int → Int → Option R) → Option R) {R : Type} (n : Nat) (y4_0 : Int) (y4_1 : Int) (y4_2 : Int) (y4_3 : List Int) (y4_4 : Int) (y4_5 : Int) (y4_6 : List Int) (kk : Ex → Pk → Option R) : Dspec_l1Cur_set_l4.step tt sig (mkK [(76, Kspec_l1Cur_pick @spec_l1Cur_pick n)] R) (mkL (mkK [(76, Kspec_l1Cur_pick @spec_l1Cur_pick n)]) [] R) (loopIn 4 (bodyOf Try.f62)) (fun q' => Pspec_l1Cur_set_l4 @spec_l1Cur_set_l4 n R q' kk) (PkS.pack Sspec_l1Cur_set_l4 (y4_0, y4_1, y4_2, y4_3, y4_4, y4_5, y4_6, ())) kk = (fun (kexit0 : (List Int) → (List Int) → Int → Int → Option R) => (bif (decide (y4_2 > 0)) then (bif (decide (y4_1 < y4_0)) then (bif decide (y4_6.length + [y4_1].length ≤ LIM) then (spec_l1Cur_pick n 4 y4_3 y4_4 y4_5 fun r9 r10 r11 r12 => spec_l1Cur_set_l4 n y4_0 (IntKind.wrap .i64 (y4_1 + (IntKind.wrap .i64 (1 + r9)))) (IntKind.wrap .i64 (y4_2 - 1)) r10 r11 r12 (y4_6 ++ [y4_1]) kexit0) else none) else kexit0 y4_6 y4_3 y4_4 y4_5) else kexit0 y4_6 y4_3 y4_4 y4_5)) (fun r0 r1 r2 r3 => kk (.exit 0) (PkS.pack Tspec_l1Cur_set_l4_0 (r0, r1, r2, r3, ()))) := by kernel_rfl
theorem lespec_l1Cur_set_l4 : LoopEq tt sig (fun n => mkK [(76, Kspec_l1Cur_pick @spec_l1Cur_pick n)]) (fun n => mkL (mkK [(76, Kspec_l1Cur_pick @spec_l1Cur_pick n)]) []) Dspec_l1Cur_set_l4 Sspec_l1Cur_set_l4 (loopIn 4 (bodyOf Try.f62)) (Pspec_l1Cur_set_l4 @spec_l1Cur_set_l4) where
  zero R q kk := by unfold Pspec_l1Cur_set_l4; cases (PkS.un Sspec_l1Cur_set_l4 q) <;> rfl
  succ n R q kk := by
    unfold Pspec_l1Cur_set_l4
    cases h : (PkS.un Sspec_l1Cur_set_l4 q) with
    | none => rfl
    | some d =>
      obtain ⟨y4_0, y4_1, y4_2, y4_3, y4_4, y4_5, y4_6, u⟩ := (d : Int × Int × Int × (List Int) × Int × Int × (List Int) × Unit)
      have hp := PkS.un_pack h
      subst hp
      exact (espec_l1Cur_set_l4 @spec_l1Cur_pick @spec_l1Cur_set_l4 n y4_0 y4_1 y4_2 y4_3 y4_4 y4_5 y4_6 kk).symm
theorem nlspec_l1Cur_set_l4 : ∀ n, NatLP (Pspec_l1Cur_set_l4 @spec_l1Cur_set_l4 n) := lespec_l1Cur_set_l4.nat (fun n => mkK_nat (cspec_l1Cur_set n)) fun n => mkL_nat (mkK_nat (cspec_l1Cur_set n)) (l := []) trivial
theorem inspec_l1Cur_set_l4 (n : Nat) (R : Type) : LoopsOk Try.prog (mkL (mkK [(76, Kspec_l1Cur_pick @spec_l1Cur_pick n)]) [] R) (loopIn 4 (bodyOf Try.f62)) := .eq (l := []) (by kernel_rfl) trivial
theorem lkspec_l1Cur_set_l4 (n : Nat) (R : Type) (L0 : LK R) (h0 : ∀ id, firstRegion (loopIn 4 (bodyOf Try.f62)) = some id → L0 id = Dspec_l1Cur_set_l4.oracle (mkK [(76, Kspec_l1Cur_pick @spec_l1Cur_pick n)] R) (Pspec_l1Cur_set_l4 @spec_l1Cur_set_l4 n R)) : LoopOk Try.prog L0 (loopIn 4 (bodyOf Try.f62)) :=
  lespec_l1Cur_set_l4.ok mixed ttok (fun n => mkK_nat (cspec_l1Cur_set n)) (fun n => mkK_ok (cspec_l1Cur_set n)) (fun n => inspec_l1Cur_set_l4 n R) (mkK_nat (cspec_l1Cur_set n)) h0
@[reducible] def Sspec_l1Cur_set : PkS := ⟨[.one (.box (200000, 0) 0), .one (.int .i64), .one (.int .i64)], [((200000, 0), .box [.ro (.int .u8), .int .i64, .int .u64])]⟩
@[reducible] def Tspec_l1Cur_set : PkS := ⟨[.one (.whole (300000, 0)), .one (.box (300000, 1) 0), .one (.dead), .one (.dead)], [((300000, 0), .arr (.int .i64)), ((300000, 1), .box [.ro (.int .u8), .int .i64, .int .u64])]⟩
def Hspec_l1Cur_set : List Sh := [.one (.own (.int .i64)), .box [(.ro (.int .u8)), .any, .any], .skip, .skip]
def Kspec_l1Cur_set (g : ∀ {R : Type}, Nat → Int → Int → (List Int) → Int → Int → ((List Int) → (List Int) → Int → Int → Option R) → Option R) (n : Nat) : KPs := fun R p k => match (PkS.un Sspec_l1Cur_set p : Option (Int × Int × (List Int) × Int × Int × Unit)) with
  | some (x0, x1, x2, x3, x4, _) => g n x0 x1 x2 x3 x4 (fun r0 r1 r2 r3 => k (PkS.pack Tspec_l1Cur_set (r0, r1, r2, r3, ())))
  | none => none
theorem espec_l1Cur_set (spec_l1Cur_pick : ∀ {R : Type}, Nat → Int → (List Int) → Int → Int → (Int → (List Int) → Int → Int → Option R) → Option R) (spec_l1Cur_set_l4 : ∀ {R : Type}, Nat → Int → Int → Int → (List Int) → Int → Int → (List Int) → ((List Int) → (List Int) → Int → Int → Option R) → Option R) {R : Type} (n : Nat) (x0 : Int) (x1 : Int) (x2 : List Int) (x3 : Int) (x4 : Int) (k : Pk → Option R) : evF tt sig (mkK [(76, Kspec_l1Cur_pick @spec_l1Cur_pick n)] R) (mkL (mkK [(76, Kspec_l1Cur_pick @spec_l1Cur_pick n)]) [(4, Dspec_l1Cur_set_l4, Pspec_l1Cur_set_l4 @spec_l1Cur_set_l4 n)] R) Try.f62 Hspec_l1Cur_set (PkS.pack Sspec_l1Cur_set (x0, x1, x2, x3, x4, ())) k = (fun (k : (List Int) → (List Int) → Int → Int → Option R) => (spec_l1Cur_pick n 4 x2 x3 x4 fun r1 r2 r3 r4 => (spec_l1Cur_pick n (IntKind.wrap .i64 (x1 + 1)) r2 r3 r4 fun r5 r6 r7 r8 => (spec_l1Cur_set_l4 n x0 r1 r5 r6 r7 r8 ([] : List Int) (fun r13 r14 r15 r16 => k r13 r14 r15 r16))))) (fun r0 r1 r2 r3 => k (PkS.pack Tspec_l1Cur_set (r0, r1, r2, r3, ()))) := by kernel_rfl
theorem okspec_l1Cur_set (n : Nat) : FnOk Try.prog 62 (Kspec_l1Cur_set @spec_l1Cur_set n) := by
  refine fn_ok (sig := sig) mixed ttok (mkK_nat (cspec_l1Cur_set n)) (mkK_ok (cspec_l1Cur_set n)) (mkL_nat (mkK_nat (cspec_l1Cur_set n)) (l := [(4, Dspec_l1Cur_set_l4, Pspec_l1Cur_set_l4 @spec_l1Cur_set_l4 n)]) ⟨nlspec_l1Cur_set_l4 n, trivial⟩) (fn := Try.f62) (c := bodyOf Try.f62) (by kernel_rfl) (by kernel_rfl) (by kernel_rfl) (.eq (l := [.lo (loopIn 4 (bodyOf Try.f62))]) (by kernel_rfl) ⟨(lkspec_l1Cur_set_l4 n _ _ (at_id (i := 4) (by kernel_rfl) rfl)), trivial⟩) (shs := Hspec_l1Cur_set) (S := Sspec_l1Cur_set) (h1 := by kernel_rfl) fun R p k => ?_
  unfold Kspec_l1Cur_set
  cases h : (PkS.un Sspec_l1Cur_set p) with
  | none => rfl
  | some d =>
    obtain ⟨x0, x1, x2, x3, x4, u⟩ := (d : Int × Int × (List Int) × Int × Int × Unit)
    have hp := PkS.un_pack h
    subst hp
    exact (espec_l1Cur_set @spec_l1Cur_pick @spec_l1Cur_set_l4 n x0 x1 x2 x3 x4 k).symm

/-! ### (*loop.example/g00269/spec.l1Cur).among -/
theorem cspec_l1Cur_among (n : Nat) : AllOk Try.prog [(76, Kspec_l1Cur_pick @spec_l1Cur_pick n)] := ⟨okspec_l1Cur_pick n, trivial⟩
@[reducible] def Sspec_l1Cur_among : PkS := ⟨[.one (.box (200000, 0) 0), .one (.ro (.int .i64))], [((200000, 0), .box [.ro (.int .u8), .int .i64, .int .u64])]⟩
@[reducible] def Tspec_l1Cur_among : PkS := ⟨[.one (.int .i64), .one (.box (300000, 0) 0), .one (.dead)], [((300000, 0), .box [.ro (.int .u8), .int .i64, .int .u64])]⟩
def Hspec_l1Cur_among : List Sh := [.one .any, .box [(.ro (.int .u8)), .any, .any], .skip]
def Kspec_l1Cur_among (g : ∀ {R : Type}, Nat → (List Int) → (List Int) → Int → Int → (Int → (List Int) → Int → Int → Option R) → Option R) (n : Nat) : KPs := fun R p k => match (PkS.un Sspec_l1Cur_among p : Option ((List Int) × (List Int) × Int × Int × Unit)) with
  | some (x0, x1, x2, x3, _) => g n x0 x1 x2 x3 (fun r0 r1 r2 r3 => k (PkS.pack Tspec_l1Cur_among (r0, r1, r2, r3, ())))
  | none => none
theorem espec_l1Cur_among (spec_l1Cur_pick : ∀ {R : Type}, Nat → Int → (List Int) → Int → Int → (Int → (List Int) → Int → Int → Option R) → Option R) {R : Type} (n : Nat) (x0 : List Int) (x1 : List Int) (x2 : Int) (x3 : Int) (k : Pk → Option R) : evF tt sig (mkK [(76, Kspec_l1Cur_pick @spec_l1Cur_pick n)] R) (mkL (mkK [(76, Kspec_l1Cur_pick @spec_l1Cur_pick n)]) [] R) Try.f78 Hspec_l1Cur_among (PkS.pack Sspec_l1Cur_among (x0, x1, x2, x3, ())) k = (fun (k : Int → (List Int) → Int → Int → Option R) => (spec_l1Cur_pick n (x0.length : Int) x1 x2 x3 fun r1 r2 r3 r4 => (bif decide (0 ≤ r1) then (bif decide (r1 < (x0.length : Int)) then k (x0.getD (Int.toNat r1) 0) r2 r3 r4 else none) else none))) (fun r0 r1 r2 r3 => k (PkS.pack Tspec_l1Cur_among (r0, r1, r2, r3, ()))) := by kernel_rfl
theorem okspec_l1Cur_among (n : Nat) : FnOk Try.prog 78 (Kspec_l1Cur_among @spec_l1Cur_among n) := by
  refine fn_ok (sig := sig) mixed ttok (mkK_nat (cspec_l1Cur_among n)) (mkK_ok (cspec_l1Cur_among n)) (mkL_nat (mkK_nat (cspec_l1Cur_among n)) (l := []) trivial) (fn := Try.f78) (c := bodyOf Try.f78) (by kernel_rfl) (by kernel_rfl) (by kernel_rfl) (.eq (l := []) (by kernel_rfl) trivial) (shs := Hspec_l1Cur_among) (S := Sspec_l1Cur_among) (h1 := by kernel_rfl) fun R p k => ?_
  unfold Kspec_l1Cur_among
  cases h : (PkS.un Sspec_l1Cur_among p) with
  | none => rfl
  | some d =>
    obtain ⟨x0, x1, x2, x3, u⟩ := (d : (List Int) × (List Int) × Int × Int × Unit)
    have hp := PkS.un_pack h
    subst hp
    exact (espec_l1Cur_among @spec_l1Cur_pick n x0 x1 x2 x3 k).symm

/-! ### (*loop.example/g00269/spec.l1Cur).rules -/
theorem cspec_l1Cur_rules (n : Nat) : AllOk Try.prog [(76, Kspec_l1Cur_pick @spec_l1Cur_pick n), (77, Kspec_l1Cur_one @spec_l1Cur_one n), (62, Kspec_l1Cur_set @spec_l1Cur_set n), (78, Kspec_l1Cur_among @spec_l1Cur_among n)] := ⟨okspec_l1Cur_pick n, ⟨okspec_l1Cur_one n, ⟨okspec_l1Cur_set n, ⟨okspec_l1Cur_among n, trivial⟩⟩⟩⟩
@[reducible] def Sspec_l1Cur_rules_l5 : PkS := ⟨[.one (.box (100000, 0) 0), .one (.whole (100000, 1)), .one (.int .i64), .one (.box (100000, 0) 0)], [((100000, 0), .box [.ro (.int .u8), .int .i64, .int .u64]), ((100000, 1), .arr (.pr (.int .i64) (.sl (.int .i64))))]⟩
@[reducible] def Tspec_l1Cur_rules_l5_0 : PkS := ⟨[.one (.box (100000, 0) 0), .one (.whole (100000, 1)), .one (.box (100000, 0) 0)], [((100000, 0), .box [.ro (.int .u8), .int .i64, .int .u64]), ((100000, 1), .arr (.pr (.int .i64) (.sl (.int .i64))))]⟩
def Dspec_l1Cur_rules_l5 : LoopD := ⟨38, [0, 3, 4], [.box [(.ro (.int .u8)), .any, .any], .one (.own (.pr (.int .i64) (.sl (.int .i64)))), .one .any, .box [(.ro (.int .u8)), .any, .any]], fun x => match x with
  | .exit 0 => some ([0, 3], [.box [(.ro (.int .u8)), .any, .any], .one (.own (.pr (.int .i64) (.sl (.int .i64)))), .box [(.ro (.int .u8)), .any, .any]])
  | _ => none⟩
def Pspec_l1Cur_rules_l5 (g : ∀ {R : Type}, Nat → Int → (List Int) → Int → Int → (List (Int × List Int)) → ((List Int) → Int → Int → (List (Int × List Int)) → Option R) → Option R) (n : Nat) : LPs := fun R q kk => match (PkS.un Sspec_l1Cur_rules_l5 q : Option (Int × (List Int) × Int × Int × (List (Int × List Int)) × Unit)) with
  | some (y5_0, y5_1, y5_2, y5_3, y5_4, _) => g n y5_0 y5_1 y5_2 y5_3 y5_4 (fun r0 r1 r2 r3 => kk (.exit 0) (PkS.pack Tspec_l1Cur_rules_l5_0 (r0, r1, r2, r3, ())))
  | none => none
theorem espec_l1Cur_rules_l5 (spec_l1Cur_pick : ∀ {R : Type}, Nat → Int → (List Int) → Int → Int → (Int → (List Int) → Int → Int → Option R) → Option R) (spec_l1Cur_one : ∀ {R : Type}, Nat → Int → (List Int) → Int → Int → (Bool → (List Int) → Int → Int → Option R) → Option R) (spec_l1Cur_set : ∀ {R : Type}, Nat → Int → Int → (List Int) → Int → Int → ((List Int) → (List Int) → Int → Int → Option R) → Option R) (spec_l1Cur_among : ∀ {R : Type}, Nat → (List Int) → (List Int) → Int → Int → (Int → (List Int) → Int → Int → Option R) → Option R) (spec_l1Cur_rules_l5 : ∀ {R : Type}, Nat → Int → (List Int) → Int → Int → (List (Int × List Int)) → ((List Int) → Int → Int → (List (Int × List Int)) → Option R) → Option R) {R : Type} (n : Nat) (y5_0 : Int) (y5_1 : List Int) (y5_2 : Int) (y5_3 : Int) (y5_4 : List (Int × List Int)) (kk : Ex → Pk → Option R) : Dspec_l1Cur_rules_l5.step tt sig (mkK [(76, Kspec_l1Cur_pick @spec_l1Cur_pick n), (77, Kspec_l1Cur_one @spec_l1Cur_one n), (62, Kspec_l1Cur_set @spec_l1Cur_set n), (78, Kspec_l1Cur_among @spec_l1Cur_among n)] R) (mkL (mkK [(76, Kspec_l1Cur_pick @spec_l1Cur_pick n), (77, Kspec_l1Cur_one @spec_l1Cur_one n), (62, Kspec_l1Cur_set @spec_l1Cur_set n), (78, Kspec_l1Cur_among @spec_l1Cur_among n)]) [] R) (loopIn 5 (bodyOf Try.f61)) (fun q' => Pspec_l1Cur_rules_l5 @spec_l1Cur_rules_l5 n R q' kk) (PkS.pack Sspec_l1Cur_rules_l5 (y5_0, y5_1, y5_2, y5_3, y5_4, ())) kk = (fun (kexit0 : (List Int) → Int → Int → (List (Int × List Int)) → Option R) => (bif (decide (y5_0 > 0)) then (spec_l1Cur_pick n 14 y5_1 y5_2 y5_3 fun r13 r14 r15 r16 => (spec_l1Cur_set n 14 3 r14 r15 r16 fun r17 r18 r19 r20 => (bif decide (y5_4.length + ([(r13, r17)]).length ≤ LIM) then spec_l1Cur_rules_l5 n (IntKind.wrap .i64 (y5_0 - 1)) r18 r19 r20 (y5_4 ++ [(r13, r17)]) kexit0 else none))) else kexit0 y5_1 y5_2 y5_3 y5_4)) (fun r0 r1 r2 r3 => kk (.exit 0) (PkS.pack Tspec_l1Cur_rules_l5_0 (r0, r1, r2, r3, ()))) := by kernel_rfl
theorem lespec_l1Cur_rules_l5 : LoopEq tt sig (fun n => mkK [(76, Kspec_l1Cur_pick @spec_l1Cur_pick n), (77, Kspec_l1Cur_one @spec_l1Cur_one n), (62, Kspec_l1Cur_set @spec_l1Cur_set n), (78, Kspec_l1Cur_among @spec_l1Cur_among n)]) (fun n => mkL (mkK [(76, Kspec_l1Cur_pick @spec_l1Cur_pick n), (77, Kspec_l1Cur_one @spec_l1Cur_one n), (62, Kspec_l1Cur_set @spec_l1Cur_set n), (78, Kspec_l1Cur_among @spec_l1Cur_among n)]) []) Dspec_l1Cur_rules_l5 Sspec_l1Cur_rules_l5 (loopIn 5 (bodyOf Try.f61)) (Pspec_l1Cur_rules_l5 @spec_l1Cur_rules_l5) where
  zero R q kk := by unfold Pspec_l1Cur_rules_l5; cases (PkS.un Sspec_l1Cur_rules_l5 q) <;> rfl
  succ n R q kk := by
    unfold Pspec_l1Cur_rules_l5
    cases h : (PkS.un Sspec_l1Cur_rules_l5 q) with
    | none => rfl
    | some d =>
      obtain ⟨y5_0, y5_1, y5_2, y5_3, y5_4, u⟩ := (d : Int × (List Int) × Int × Int × (List (Int × List Int)) × Unit)
      have hp := PkS.un_pack h
      subst hp
      exact (espec_l1Cur_rules_l5 @spec_l1Cur_pick @spec_l1Cur_one @spec_l1Cur_set @spec_l1Cur_among @spec_l1Cur_rules_l5 n y5_0 y5_1 y5_2 y5_3 y5_4 kk).symm
theorem nlspec_l1Cur_rules_l5 : ∀ n, NatLP (Pspec_l1Cur_rules_l5 @spec_l1Cur_rules_l5 n) := lespec_l1Cur_rules_l5.nat (fun n => mkK_nat (cspec_l1Cur_rules n)) fun n => mkL_nat (mkK_nat (cspec_l1Cur_rules n)) (l := []) trivial
theorem inspec_l1Cur_rules_l5 (n : Nat) (R : Type) : LoopsOk Try.prog (mkL (mkK [(76, Kspec_l1Cur_pick @spec_l1Cur_pick n), (77, Kspec_l1Cur_one @spec_l1Cur_one n), (62, Kspec_l1Cur_set @spec_l1Cur_set n), (78, Kspec_l1Cur_among @spec_l1Cur_among n)]) [] R) (loopIn 5 (bodyOf Try.f61)) := .eq (l := []) (by kernel_rfl) trivial
theorem lkspec_l1Cur_rules_l5 (n : Nat) (R : Type) (L0 : LK R) (h0 : ∀ id, firstRegion (loopIn 5 (bodyOf Try.f61)) = some id → L0 id = Dspec_l1Cur_rules_l5.oracle (mkK [(76, Kspec_l1Cur_pick @spec_l1Cur_pick n), (77, Kspec_l1Cur_one @spec_l1Cur_one n), (62, Kspec_l1Cur_set @spec_l1Cur_set n), (78, Kspec_l1Cur_among @spec_l1Cur_among n)] R) (Pspec_l1Cur_rules_l5 @spec_l1Cur_rules_l5 n R)) : LoopOk Try.prog L0 (loopIn 5 (bodyOf Try.f61)) :=
  lespec_l1Cur_rules_l5.ok mixed ttok (fun n => mkK_nat (cspec_l1Cur_rules n)) (fun n => mkK_ok (cspec_l1Cur_rules n)) (fun n => inspec_l1Cur_rules_l5 n R) (mkK_nat (cspec_l1Cur_rules n)) h0
@[reducible] def Sspec_l1Cur_rules : PkS := ⟨[.one (.box (200000, 0) 0)], [((200000, 0), .box [.ro (.int .u8), .int .i64, .int .u64])]⟩
@[reducible] def Tspec_l1Cur_rules : PkS := ⟨[.one (.whole (300000, 0)), .one (.box (300000, 1) 0)], [((300000, 0), .arr (.pr (.int .i64) (.sl (.int .i64)))), ((300000, 1), .box [.ro (.int .u8), .int .i64, .int .u64])]⟩
def Hspec_l1Cur_rules : List Sh := [.one (.own (.pr (.int .i64) (.sl (.int .i64)))), .box [(.ro (.int .u8)), .any, .any]]
def Kspec_l1Cur_rules (g : ∀ {R : Type}, Nat → (List Int) → Int → Int → ((List (Int × List Int)) → (List Int) → Int → Int → Option R) → Option R) (n : Nat) : KPs := fun R p k => match (PkS.un Sspec_l1Cur_rules p : Option ((List Int) × Int × Int × Unit)) with
  | some (x0, x1, x2, _) => g n x0 x1 x2 (fun r0 r1 r2 r3 => k (PkS.pack Tspec_l1Cur_rules (r0, r1, r2, r3, ())))
  | none => none
theorem espec_l1Cur_rules (spec_l1Cur_pick : ∀ {R : Type}, Nat → Int → (List Int) → Int → Int → (Int → (List Int) → Int → Int → Option R) → Option R) (spec_l1Cur_one : ∀ {R : Type}, Nat → Int → (List Int) → Int → Int → (Bool → (List Int) → Int → Int → Option R) → Option R) (spec_l1Cur_set : ∀ {R : Type}, Nat → Int → Int → (List Int) → Int → Int → ((List Int) → (List Int) → Int → Int → Option R) → Option R) (spec_l1Cur_among : ∀ {R : Type}, Nat → (List Int) → (List Int) → Int → Int → (Int → (List Int) → Int → Int → Option R) → Option R) (spec_l1Cur_rules_l5 : ∀ {R : Type}, Nat → Int → (List Int) → Int → Int → (List (Int × List Int)) → ((List Int) → Int → Int → (List (Int × List Int)) → Option R) → Option R) {R : Type} (n : Nat) (x0 : List Int) (x1 : Int) (x2 : Int) (k : Pk → Option R) : evF tt sig (mkK [(76, Kspec_l1Cur_pick @spec_l1Cur_pick n), (77, Kspec_l1Cur_one @spec_l1Cur_one n), (62, Kspec_l1Cur_set @spec_l1Cur_set n), (78, Kspec_l1Cur_among @spec_l1Cur_among n)] R) (mkL (mkK [(76, Kspec_l1Cur_pick @spec_l1Cur_pick n), (77, Kspec_l1Cur_one @spec_l1Cur_one n), (62, Kspec_l1Cur_set @spec_l1Cur_set n), (78, Kspec_l1Cur_among @spec_l1Cur_among n)]) [(5, Dspec_l1Cur_rules_l5, Pspec_l1Cur_rules_l5 @spec_l1Cur_rules_l5 n)] R) Try.f61 Hspec_l1Cur_rules (PkS.pack Sspec_l1Cur_rules (x0, x1, x2, ())) k = (fun (k : (List (Int × List Int)) → (List Int) → Int → Int → Option R) => (spec_l1Cur_pick n 14 x0 x1 x2 fun r1 r2 r3 r4 => (spec_l1Cur_one n 20 r2 r3 r4 fun r5 r6 r7 r8 => (bif r5 then (spec_l1Cur_pick n 2 r6 r7 r8 fun r9 r10 r11 r12 => (spec_l1Cur_rules_l5 n (IntKind.wrap .i64 (60 + r9)) r10 r11 r12 ([] : List (Int × List Int)) (fun r21 r22 r23 r24 => (bif (decide ((r24.length : Int) > 0)) then (spec_l1Cur_one n 40 r21 r22 r23 fun r25 r26 r27 r28 => (bif r25 then (spec_l1Cur_among n ([(-1), 39, 40]) r26 r27 r28 fun r29 r30 r31 r32 => (bif decide (0 < (r24.length : Int)) then k (r24.set 0 (r29, (r24.getD 0 (0, [])).2)) r30 r31 r32 else none)) else k r24 r26 r27 r28)) else k r24 r21 r22 r23)))) else (spec_l1Cur_rules_l5 n r1 r6 r7 r8 ([] : List (Int × List Int)) (fun r33 r34 r35 r36 => (bif (decide ((r36.length : Int) > 0)) then (spec_l1Cur_one n 40 r33 r34 r35 fun r37 r38 r39 r40 => (bif r37 then (spec_l1Cur_among n ([(-1), 39, 40]) r38 r39 r40 fun r41 r42 r43 r44 => (bif decide (0 < (r36.length : Int)) then k (r36.set 0 (r41, (r36.getD 0 (0, [])).2)) r42 r43 r44 else none)) else k r36 r38 r39 r40)) else k r36 r33 r34 r35))))))) (fun r0 r1 r2 r3 => k (PkS.pack Tspec_l1Cur_rules (r0, r1, r2, r3, ()))) := by kernel_rfl
theorem okspec_l1Cur_rules (n : Nat) : FnOk Try.prog 61 (Kspec_l1Cur_rules @spec_l1Cur_rules n) := by
  refine fn_ok (sig := sig) mixed ttok (mkK_nat (cspec_l1Cur_rules n)) (mkK_ok (cspec_l1Cur_rules n)) (mkL_nat (mkK_nat (cspec_l1Cur_rules n)) (l := [(5, Dspec_l1Cur_rules_l5, Pspec_l1Cur_rules_l5 @spec_l1Cur_rules_l5 n)]) ⟨nlspec_l1Cur_rules_l5 n, trivial⟩) (fn := Try.f61) (c := bodyOf Try.f61) (by kernel_rfl) (by kernel_rfl) (by kernel_rfl) (.eq (l := [.lo (loopIn 5 (bodyOf Try.f61))]) (by kernel_rfl) ⟨(lkspec_l1Cur_rules_l5 n _ _ (at_id (i := 5) (by kernel_rfl) rfl)), trivial⟩) (shs := Hspec_l1Cur_rules) (S := Sspec_l1Cur_rules) (h1 := by kernel_rfl) fun R p k => ?_
  unfold Kspec_l1Cur_rules
  cases h : (PkS.un Sspec_l1Cur_rules p) with
  | none => rfl
  | some d =>
    obtain ⟨x0, x1, x2, u⟩ := (d : (List Int) × Int × Int × Unit)
    have hp := PkS.un_pack h
    subst hp
    exact (espec_l1Cur_rules @spec_l1Cur_pick @spec_l1Cur_one @spec_l1Cur_set @spec_l1Cur_among @spec_l1Cur_rules_l5 n x0 x1 x2 k).symm

/-! ### loop.example/g00269/spec.DrawFollows -/
theorem cspec_DrawFollows (n : Nat) : AllOk Try.prog [(61, Kspec_l1Cur_rules @spec_l1Cur_rules n), (62, Kspec_l1Cur_set @spec_l1Cur_set n), (76, Kspec_l1Cur_pick @spec_l1Cur_pick n)] := ⟨okspec_l1Cur_rules n, ⟨okspec_l1Cur_set n, ⟨okspec_l1Cur_pick n, trivial⟩⟩⟩
@[reducible] def Sspec_DrawFollows : PkS := ⟨[.one (.ro (.int .u8))], []⟩
@[reducible] def Tspec_DrawFollows : PkS := ⟨[.tup [(false, [.whole (300000, 0)]), (false, [.whole (300000, 1)]), (false, [.int .i64])], .one (.dead)], [((300000, 0), .arr (.pr (.int .i64) (.sl (.int .i64)))), ((300000, 1), .arr (.int .i64))]⟩
def Hspec_DrawFollows : List Sh := [.tup [(false, [(.own (.pr (.int .i64) (.sl (.int .i64))))]), (false, [(.own (.int .i64))]), (false, [.any])], .skip]
def Kspec_DrawFollows (g : ∀ {R : Type}, Nat → (List Int) → (Int → (List (Int × List Int)) → (List Int) → Option R) → Option R) (n : Nat) : KPs := fun R p k => match (PkS.un Sspec_DrawFollows p : Option ((List Int) × Unit)) with
  | some (x0, _) => g n x0 (fun r0 r1 r2 => k (PkS.pack Tspec_DrawFollows (r0, r1, r2, ())))
  | none => none
theorem espec_DrawFollows (spec_l1Cur_rules : ∀ {R : Type}, Nat → (List Int) → Int → Int → ((List (Int × List Int)) → (List Int) → Int → Int → Option R) → Option R) (spec_l1Cur_set : ∀ {R : Type}, Nat → Int → Int → (List Int) → Int → Int → ((List Int) → (List Int) → Int → Int → Option R) → Option R) (spec_l1Cur_pick : ∀ {R : Type}, Nat → Int → (List Int) → Int → Int → (Int → (List Int) → Int → Int → Option R) → Option R) {R : Type} (n : Nat) (x0 : List Int) (k : Pk → Option R) : evF tt sig (mkK [(61, Kspec_l1Cur_rules @spec_l1Cur_rules n), (62, Kspec_l1Cur_set @spec_l1Cur_set n), (76, Kspec_l1Cur_pick @spec_l1Cur_pick n)] R) (mkL (mkK [(61, Kspec_l1Cur_rules @spec_l1Cur_rules n), (62, Kspec_l1Cur_set @spec_l1Cur_set n), (76, Kspec_l1Cur_pick @spec_l1Cur_pick n)]) [] R) Try.f63 Hspec_DrawFollows (PkS.pack Sspec_DrawFollows (x0, ())) k = (fun (k : Int → (List (Int × List Int)) → (List Int) → Option R) => (spec_l1Cur_rules n x0 0 0 fun r1 r2 r3 r4 => (spec_l1Cur_set n 14 4 r2 r3 r4 fun r5 r6 r7 r8 => (spec_l1Cur_pick n 16 r6 r7 r8 fun r9 r10 r11 r12 => k (IntKind.wrap .i64 (r9 - 1)) r1 r5)))) (fun r0 r1 r2 => k (PkS.pack Tspec_DrawFollows (r0, r1, r2, ()))) := by kernel_rfl
theorem okspec_DrawFollows (n : Nat) : FnOk Try.prog 63 (Kspec_DrawFollows @spec_DrawFollows n) := by
  refine fn_ok (sig := sig) mixed ttok (mkK_nat (cspec_DrawFollows n)) (mkK_ok (cspec_DrawFollows n)) (mkL_nat (mkK_nat (cspec_DrawFollows n)) (l := []) trivial) (fn := Try.f63) (c := bodyOf Try.f63) (by kernel_rfl) (by kernel_rfl) (by kernel_rfl) (.eq (l := []) (by kernel_rfl) trivial) (shs := Hspec_DrawFollows) (S := Sspec_DrawFollows) (h1 := by kernel_rfl) fun R p k => ?_
  unfold Kspec_DrawFollows
  cases h : (PkS.un Sspec_DrawFollows p) with
  | none => rfl
  | some d =>
    obtain ⟨x0, u⟩ := (d : (List Int) × Unit)
    have hp := PkS.un_pack h
    subst hp
    exact (espec_DrawFollows @spec_l1Cur_rules @spec_l1Cur_set @spec_l1Cur_pick n x0 k).symm

/-! ### loop.example/g00269/spec.DrawWhyOf -/
theorem cspec_DrawWhyOf (n : Nat) : AllOk Try.prog [(63, Kspec_DrawFollows @spec_DrawFollows n)] := ⟨okspec_DrawFollows n, trivial⟩
@[reducible] def Sspec_DrawWhyOf : PkS := ⟨[.one (.ro (.int .u8))], []⟩
@[reducible] def Tspec_DrawWhyOf : PkS := ⟨[.tup [(false, [.whole (300000, 0)]), (false, [.whole (300000, 1)]), (false, [.int .i64])], .one (.dead)], [((300000, 0), .arr (.pr (.int .i64) (.sl (.int .i64)))), ((300000, 1), .arr (.int .i64))]⟩
def Hspec_DrawWhyOf : List Sh := [.tup [(false, [(.own (.pr (.int .i64) (.sl (.int .i64))))]), (false, [(.own (.int .i64))]), (false, [.any])], .skip]
def Kspec_DrawWhyOf (g : ∀ {R : Type}, Nat → (List Int) → (Int → (List (Int × List Int)) → (List Int) → Option R) → Option R) (n : Nat) : KPs := fun R p k => match (PkS.un Sspec_DrawWhyOf p : Option ((List Int) × Unit)) with
  | some (x0, _) => g n x0 (fun r0 r1 r2 => k (PkS.pack Tspec_DrawWhyOf (r0, r1, r2, ())))
  | none => none
theorem espec_DrawWhyOf (spec_DrawFollows : ∀ {R : Type}, Nat → (List Int) → (Int → (List (Int × List Int)) → (List Int) → Option R) → Option R) {R : Type} (n : Nat) (x0 : List Int) (k : Pk → Option R) : evF tt sig (mkK [(63, Kspec_DrawFollows @spec_DrawFollows n)] R) (mkL (mkK [(63, Kspec_DrawFollows @spec_DrawFollows n)]) [] R) Try.f38 Hspec_DrawWhyOf (PkS.pack Sspec_DrawWhyOf (x0, ())) k = (fun (k : Int → (List (Int × List Int)) → (List Int) → Option R) => (spec_DrawFollows n x0 fun r1 r2 r3 => k r1 r2 r3)) (fun r0 r1 r2 => k (PkS.pack Tspec_DrawWhyOf (r0, r1, r2, ()))) := by kernel_rfl
theorem okspec_DrawWhyOf (n : Nat) : FnOk Try.prog 38 (Kspec_DrawWhyOf @spec_DrawWhyOf n) := by
  refine fn_ok (sig := sig) mixed ttok (mkK_nat (cspec_DrawWhyOf n)) (mkK_ok (cspec_DrawWhyOf n)) (mkL_nat (mkK_nat (cspec_DrawWhyOf n)) (l := []) trivial) (fn := Try.f38) (c := bodyOf Try.f38) (by kernel_rfl) (by kernel_rfl) (by kernel_rfl) (.eq (l := []) (by kernel_rfl) trivial) (shs := Hspec_DrawWhyOf) (S := Sspec_DrawWhyOf) (h1 := by kernel_rfl) fun R p k => ?_
  unfold Kspec_DrawWhyOf
  cases h : (PkS.un Sspec_DrawWhyOf p) with
  | none => rfl
  | some d =>
    obtain ⟨x0, u⟩ := (d : (List Int) × Unit)
    have hp := PkS.un_pack h
    subst hp
    exact (espec_DrawWhyOf @spec_DrawFollows n x0 k).symm

/-! ### loop.example/g00269/impl.in -/
theorem cimpl_in (n : Nat) : AllOk Try.prog [] := trivial
@[reducible] def Simpl_in : PkS := ⟨[.one (.int .i64), .one (.int .i64), .one (.int .i64)], []⟩
@[reducible] def Timpl_in : PkS := ⟨[.one (.bool), .one (.dead), .one (.dead), .one (.dead)], []⟩
def Himpl_in : List Sh := [.one .any, .skip, .skip, .skip]
def Kimpl_in (g : ∀ {R : Type}, Nat → Int → Int → Int → (Bool → Option R) → Option R) (n : Nat) : KPs := fun R p k => match (PkS.un Simpl_in p : Option (Int × Int × Int × Unit)) with
  | some (x0, x1, x2, _) => g n x0 x1 x2 (fun r0 => k (PkS.pack Timpl_in (r0, ())))
  | none => none
theorem eimpl_in  {R : Type} (n : Nat) (x0 : Int) (x1 : Int) (x2 : Int) (k : Pk → Option R) : evF tt sig (mkK [] R) (mkL (mkK []) [] R) Try.f66 Himpl_in (PkS.pack Simpl_in (x0, x1, x2, ())) k = (fun (k : Bool → Option R) => (bif (decide (x0 ≥ x1)) then k (decide (x0 ≤ x2)) else k false)) (fun r0 => k (PkS.pack Timpl_in (r0, ()))) := by kernel_rfl
theorem okimpl_in (n : Nat) : FnOk Try.prog 66 (Kimpl_in @impl_in n) := by
  refine fn_ok (sig := sig) mixed ttok (mkK_nat (cimpl_in n)) (mkK_ok (cimpl_in n)) (mkL_nat (mkK_nat (cimpl_in n)) (l := []) trivial) (fn := Try.f66) (c := bodyOf Try.f66) (by kernel_rfl) (by kernel_rfl) (by kernel_rfl) (.eq (l := []) (by kernel_rfl) trivial) (shs := Himpl_in) (S := Simpl_in) (h1 := by kernel_rfl) fun R p k => ?_
  unfold Kimpl_in
  cases h : (PkS.un Simpl_in p) with
  | none => rfl
  | some d =>
    obtain ⟨x0, x1, x2, u⟩ := (d : Int × Int × Int × Unit)
    have hp := PkS.un_pack h
    subst hp
    exact (eimpl_in  n x0 x1 x2 k).symm

/-! ### loop.example/g00269/impl.isFact -/
theorem cimpl_isFact (n : Nat) : AllOk Try.prog [(66, Kimpl_in @impl_in n)] := ⟨okimpl_in n, trivial⟩
@[reducible] def Simpl_isFact : PkS := ⟨[.one (.int .i64)], []⟩
@[reducible] def Timpl_isFact : PkS := ⟨[.one (.bool), .one (.dead)], []⟩
def Himpl_isFact : List Sh := [.one .any, .skip]
def Kimpl_isFact (g : ∀ {R : Type}, Nat → Int → (Bool → Option R) → Option R) (n : Nat) : KPs := fun R p k => match (PkS.un Simpl_isFact p : Option (Int × Unit)) with
  | some (x0, _) => g n x0 (fun r0 => k (PkS.pack Timpl_isFact (r0, ())))
  | none => none
theorem eimpl_isFact (impl_in : ∀ {R : Type}, Nat → Int → Int → Int → (Bool → Option R) → Option R) {R : Type} (n : Nat) (x0 : Int) (k : Pk → Option R) : evF tt sig (mkK [(66, Kimpl_in @impl_in n)] R) (mkL (mkK [(66, Kimpl_in @impl_in n)]) [] R) Try.f45 Himpl_isFact (PkS.pack Simpl_isFact (x0, ())) k = (fun (k : Bool → Option R) => (impl_in n x0 0 39 fun r1 => k r1)) (fun r0 => k (PkS.pack Timpl_isFact (r0, ()))) := by kernel_rfl
theorem okimpl_isFact (n : Nat) : FnOk Try.prog 45 (Kimpl_isFact @impl_isFact n) := by
  refine fn_ok (sig := sig) mixed ttok (mkK_nat (cimpl_isFact n)) (mkK_ok (cimpl_isFact n)) (mkL_nat (mkK_nat (cimpl_isFact n)) (l := []) trivial) (fn := Try.f45) (c := bodyOf Try.f45) (by kernel_rfl) (by kernel_rfl) (by kernel_rfl) (.eq (l := []) (by kernel_rfl) trivial) (shs := Himpl_isFact) (S := Simpl_isFact) (h1 := by kernel_rfl) fun R p k => ?_
  unfold Kimpl_isFact
  cases h : (PkS.un Simpl_isFact p) with
  | none => rfl
  | some d =>
    obtain ⟨x0, u⟩ := (d : Int × Unit)
    have hp := PkS.un_pack h
    subst hp
    exact (eimpl_isFact @impl_in n x0 k).symm

/-! ### loop.example/g00269/impl.rising -/
theorem cimpl_rising (n : Nat) : AllOk Try.prog [(66, Kimpl_in @impl_in n)] := ⟨okimpl_in n, trivial⟩
@[reducible] def Simpl_rising_l2 : PkS := ⟨[.one (.ro (.int .i64)), .one (.int .i64), .one (.ro (.int .i64)), .one (.int .i64), .one (.int .i64), .one (.dead), .one (.dead)], []⟩
@[reducible] def Timpl_rising_l2_0 : PkS := ⟨[.one (.bool), .one (.dead), .one (.dead)], []⟩
@[reducible] def Timpl_rising_l2_1 : PkS := ⟨[.one (.dead), .one (.dead)], []⟩
def Dimpl_rising_l2 : LoopD := ⟨33, [0, 1, 7, 8, 9], [.one (.ro (.int .i64)), .one .any, .one (.ro (.int .i64)), .one .any, .one .any, .skip, .skip], fun x => match x with
  | .ret => some ([4], [.one .any, .skip, .skip])
  | .exit 0 => some ([], [.skip, .skip])
  | _ => none⟩
def Pimpl_rising_l2 (g : ∀ {R : Type}, Nat → (List Int) → Int → (List Int) → Int → Int → (Bool → Option R) → (Option R) → Option R) (n : Nat) : LPs := fun R q kk => match (PkS.un Simpl_rising_l2 q : Option ((List Int) × Int × (List Int) × Int × Int × Unit)) with
  | some (y2_0, y2_1, y2_2, y2_3, y2_4, _) => g n y2_0 y2_1 y2_2 y2_3 y2_4 (fun r0 => kk .ret (PkS.pack Timpl_rising_l2_0 (r0, ()))) (kk (.exit 0) (PkS.pack Timpl_rising_l2_1 ()))
  | none => none
theorem eimpl_rising_l2 (impl_in : ∀ {R : Type}, Nat → Int → Int → Int → (Bool → Option R) → Option R) (impl_rising_l2 : ∀ {R : Type}, Nat → (List Int) → Int → (List Int) → Int → Int → (Bool → Option R) → (Option R) → Option R) {R : Type} (n : Nat) (y2_0 : List Int) (y2_1 : Int) (y2_2 : List Int) (y2_3 : Int) (y2_4 : Int) (kk : Ex → Pk → Option R) : Dimpl_rising_l2.step tt sig (mkK [(66, Kimpl_in @impl_in n)] R) (mkL (mkK [(66, Kimpl_in @impl_in n)]) [] R) (loopIn 2 (bodyOf Try.f67)) (fun q' => Pimpl_rising_l2 @impl_rising_l2 n R q' kk) (PkS.pack Simpl_rising_l2 (y2_0, y2_1, y2_2, y2_3, y2_4, ())) kk = (fun (kret : Bool → Option R) (kexit0 : Option R) => (bif (decide (y2_4 < y2_3)) then (bif decide (0 ≤ y2_4) then (bif decide (y2_4 < (y2_2.length : Int)) then (impl_in n (y2_2.getD (Int.toNat y2_4) 0) 0 (IntKind.wrap .i64 (y2_1 - 1)) fun r1 => (bif (!r1) then kret false else (bif (decide (y2_4 > 0)) then (bif decide (0 ≤ (IntKind.wrap .i64 (y2_4 - 1))) then (bif decide ((IntKind.wrap .i64 (y2_4 - 1)) < (y2_0.length : Int)) then (bif (decide ((y2_0.getD (Int.toNat (IntKind.wrap .i64 (y2_4 - 1))) 0) ≥ (y2_2.getD (Int.toNat y2_4) 0))) then kret false else impl_rising_l2 n y2_0 y2_1 y2_2 y2_3 (IntKind.wrap .i64 (y2_4 + 1)) kret kexit0) else none) else none) else impl_rising_l2 n y2_0 y2_1 y2_2 y2_3 (IntKind.wrap .i64 (y2_4 + 1)) kret kexit0))) else none) else none) else kexit0)) (fun r0 => kk .ret (PkS.pack Timpl_rising_l2_0 (r0, ()))) (kk (.exit 0) (PkS.pack Timpl_rising_l2_1 ())) := by kernel_rfl
theorem leimpl_rising_l2 : LoopEq tt sig (fun n => mkK [(66, Kimpl_in @impl_in n)]) (fun n => mkL (mkK [(66, Kimpl_in @impl_in n)]) []) Dimpl_rising_l2 Simpl_rising_l2 (loopIn 2 (bodyOf Try.f67)) (Pimpl_rising_l2 @impl_rising_l2) where
  zero R q kk := by unfold Pimpl_rising_l2; cases (PkS.un Simpl_rising_l2 q) <;> rfl
  succ n R q kk := by
    unfold Pimpl_rising_l2
    cases h : (PkS.un Simpl_rising_l2 q) with
    | none => rfl
    | some d =>
      obtain ⟨y2_0, y2_1, y2_2, y2_3, y2_4, u⟩ := (d : (List Int) × Int × (List Int) × Int × Int × Unit)
      have hp := PkS.un_pack h
      subst hp
      exact (eimpl_rising_l2 @impl_in @impl_rising_l2 n y2_0 y2_1 y2_2 y2_3 y2_4 kk).symm
theorem nlimpl_rising_l2 : ∀ n, NatLP (Pimpl_rising_l2 @impl_rising_l2 n) := leimpl_rising_l2.nat (fun n => mkK_nat (cimpl_rising n)) fun n => mkL_nat (mkK_nat (cimpl_rising n)) (l := []) trivial
theorem inimpl_rising_l2 (n : Nat) (R : Type) : LoopsOk Try.prog (mkL (mkK [(66, Kimpl_in @impl_in n)]) [] R) (loopIn 2 (bodyOf Try.f67)) := .eq (l := []) (by kernel_rfl) trivial
theorem lkimpl_rising_l2 (n : Nat) (R : Type) (L0 : LK R) (h0 : ∀ id, firstRegion (loopIn 2 (bodyOf Try.f67)) = some id → L0 id = Dimpl_rising_l2.oracle (mkK [(66, Kimpl_in @impl_in n)] R) (Pimpl_rising_l2 @impl_rising_l2 n R)) : LoopOk Try.prog L0 (loopIn 2 (bodyOf Try.f67)) :=
  leimpl_rising_l2.ok mixed ttok (fun n => mkK_nat (cimpl_rising n)) (fun n => mkK_ok (cimpl_rising n)) (fun n => inimpl_rising_l2 n R) (mkK_nat (cimpl_rising n)) h0
@[reducible] def Simpl_rising : PkS := ⟨[.one (.ro (.int .i64)), .one (.int .i64)], []⟩
@[reducible] def Timpl_rising : PkS := ⟨[.one (.bool), .one (.dead), .one (.dead)], []⟩
def Himpl_rising : List Sh := [.one .any, .skip, .skip]
def Kimpl_rising (g : ∀ {R : Type}, Nat → (List Int) → Int → (Bool → Option R) → Option R) (n : Nat) : KPs := fun R p k => match (PkS.un Simpl_rising p : Option ((List Int) × Int × Unit)) with
  | some (x0, x1, _) => g n x0 x1 (fun r0 => k (PkS.pack Timpl_rising (r0, ())))
  | none => none
theorem eimpl_rising (impl_in : ∀ {R : Type}, Nat → Int → Int → Int → (Bool → Option R) → Option R) (impl_rising_l2 : ∀ {R : Type}, Nat → (List Int) → Int → (List Int) → Int → Int → (Bool → Option R) → (Option R) → Option R) {R : Type} (n : Nat) (x0 : List Int) (x1 : Int) (k : Pk → Option R) : evF tt sig (mkK [(66, Kimpl_in @impl_in n)] R) (mkL (mkK [(66, Kimpl_in @impl_in n)]) [(2, Dimpl_rising_l2, Pimpl_rising_l2 @impl_rising_l2 n)] R) Try.f67 Himpl_rising (PkS.pack Simpl_rising (x0, x1, ())) k = (fun (k : Bool → Option R) => (impl_rising_l2 n x0 x1 x0 (x0.length : Int) 0 (fun r2 => k r2) (k true))) (fun r0 => k (PkS.pack Timpl_rising (r0, ()))) := by kernel_rfl
theorem okimpl_rising (n : Nat) : FnOk Try.prog 67 (Kimpl_rising @impl_rising n) := by
  refine fn_ok (sig := sig) mixed ttok (mkK_nat (cimpl_rising n)) (mkK_ok (cimpl_rising n)) (mkL_nat (mkK_nat (cimpl_rising n)) (l := [(2, Dimpl_rising_l2, Pimpl_rising_l2 @impl_rising_l2 n)]) ⟨nlimpl_rising_l2 n, trivial⟩) (fn := Try.f67) (c := bodyOf Try.f67) (by kernel_rfl) (by kernel_rfl) (by kernel_rfl) (.eq (l := [.lo (loopIn 2 (bodyOf Try.f67))]) (by kernel_rfl) ⟨(lkimpl_rising_l2 n _ _ (at_id (i := 2) (by kernel_rfl) rfl)), trivial⟩) (shs := Himpl_rising) (S := Simpl_rising) (h1 := by kernel_rfl) fun R p k => ?_
  unfold Kimpl_rising
  cases h : (PkS.un Simpl_rising p) with
  | none => rfl
  | some d =>
    obtain ⟨x0, x1, u⟩ := (d : (List Int) × Int × Unit)
    have hp := PkS.un_pack h
    subst hp
    exact (eimpl_rising @impl_in @impl_rising_l2 n x0 x1 k).symm

/-! ### loop.example/g00269/impl.isSet -/
theorem cimpl_isSet (n : Nat) : AllOk Try.prog [(67, Kimpl_rising @impl_rising n)] := ⟨okimpl_rising n, trivial⟩
@[reducible] def Simpl_isSet : PkS := ⟨[.one (.ro (.int .i64))], []⟩
@[reducible] def Timpl_isSet : PkS := ⟨[.one (.bool), .one (.dead)], []⟩
def Himpl_isSet : List Sh := [.one .any, .skip]
def Kimpl_isSet (g : ∀ {R : Type}, Nat → (List Int) → (Bool → Option R) → Option R) (n : Nat) : KPs := fun R p k => match (PkS.un Simpl_isSet p : Option ((List Int) × Unit)) with
  | some (x0, _) => g n x0 (fun r0 => k (PkS.pack Timpl_isSet (r0, ())))
  | none => none
theorem eimpl_isSet (impl_rising : ∀ {R : Type}, Nat → (List Int) → Int → (Bool → Option R) → Option R) {R : Type} (n : Nat) (x0 : List Int) (k : Pk → Option R) : evF tt sig (mkK [(67, Kimpl_rising @impl_rising n)] R) (mkL (mkK [(67, Kimpl_rising @impl_rising n)]) [] R) Try.f46 Himpl_isSet (PkS.pack Simpl_isSet (x0, ())) k = (fun (k : Bool → Option R) => (impl_rising n x0 40 fun r1 => k r1)) (fun r0 => k (PkS.pack Timpl_isSet (r0, ()))) := by kernel_rfl
theorem okimpl_isSet (n : Nat) : FnOk Try.prog 46 (Kimpl_isSet @impl_isSet n) := by
  refine fn_ok (sig := sig) mixed ttok (mkK_nat (cimpl_isSet n)) (mkK_ok (cimpl_isSet n)) (mkL_nat (mkK_nat (cimpl_isSet n)) (l := []) trivial) (fn := Try.f46) (c := bodyOf Try.f46) (by kernel_rfl) (by kernel_rfl) (by kernel_rfl) (.eq (l := []) (by kernel_rfl) trivial) (shs := Himpl_isSet) (S := Simpl_isSet) (h1 := by kernel_rfl) fun R p k => ?_
  unfold Kimpl_isSet
  cases h : (PkS.un Simpl_isSet p) with
  | none => rfl
  | some d =>
    obtain ⟨x0, u⟩ := (d : (List Int) × Unit)
    have hp := PkS.un_pack h
    subst hp
    exact (eimpl_isSet @impl_rising n x0 k).symm

/-! ### loop.example/g00269/impl.GoodRules$1 -/
theorem cimpl_GoodRules_c1 (n : Nat) : AllOk Try.prog [(45, Kimpl_isFact @impl_isFact n), (46, Kimpl_isSet @impl_isSet n)] := ⟨okimpl_isFact n, ⟨okimpl_isSet n, trivial⟩⟩
@[reducible] def Simpl_GoodRules_c1 : PkS := ⟨[.agg [.int .i64, .ro (.int .i64)]], []⟩
@[reducible] def Timpl_GoodRules_c1 : PkS := ⟨[.one (.bool), .one (.dead)], []⟩
def Himpl_GoodRules_c1 : List Sh := [.one .any, .skip]
def Kimpl_GoodRules_c1 (g : ∀ {R : Type}, Nat → Int → (List Int) → (Bool → Option R) → Option R) (n : Nat) : KPs := fun R p k => match (PkS.un Simpl_GoodRules_c1 p : Option (Int × (List Int) × Unit)) with
  | some (x0, x1, _) => g n x0 x1 (fun r0 => k (PkS.pack Timpl_GoodRules_c1 (r0, ())))
  | none => none
theorem eimpl_GoodRules_c1 (impl_isFact : ∀ {R : Type}, Nat → Int → (Bool → Option R) → Option R) (impl_isSet : ∀ {R : Type}, Nat → (List Int) → (Bool → Option R) → Option R) {R : Type} (n : Nat) (x0 : Int) (x1 : List Int) (k : Pk → Option R) : evF tt sig (mkK [(45, Kimpl_isFact @impl_isFact n), (46, Kimpl_isSet @impl_isSet n)] R) (mkL (mkK [(45, Kimpl_isFact @impl_isFact n), (46, Kimpl_isSet @impl_isSet n)]) [] R) Try.f44 Himpl_GoodRules_c1 (PkS.pack Simpl_GoodRules_c1 (x0, x1, ())) k = (fun (k : Bool → Option R) => (impl_isFact n x0 fun r1 => (bif (!r1) then k true else (impl_isSet n x1 fun r2 => k (!r2))))) (fun r0 => k (PkS.pack Timpl_GoodRules_c1 (r0, ()))) := by kernel_rfl
theorem okimpl_GoodRules_c1 (n : Nat) : FnOk Try.prog 44 (Kimpl_GoodRules_c1 @impl_GoodRules_c1 n) := by
  refine fn_ok (sig := sig) mixed ttok (mkK_nat (cimpl_GoodRules_c1 n)) (mkK_ok (cimpl_GoodRules_c1 n)) (mkL_nat (mkK_nat (cimpl_GoodRules_c1 n)) (l := []) trivial) (fn := Try.f44) (c := bodyOf Try.f44) (by kernel_rfl) (by kernel_rfl) (by kernel_rfl) (.eq (l := []) (by kernel_rfl) trivial) (shs := Himpl_GoodRules_c1) (S := Simpl_GoodRules_c1) (h1 := by kernel_rfl) fun R p k => ?_
  unfold Kimpl_GoodRules_c1
  cases h : (PkS.un Simpl_GoodRules_c1 p) with
  | none => rfl
  | some d =>
    obtain ⟨x0, x1, u⟩ := (d : Int × (List Int) × Unit)
    have hp := PkS.un_pack h
    subst hp
    exact (eimpl_GoodRules_c1 @impl_isFact @impl_isSet n x0 x1 k).symm

/-! ### slices.IndexFunc[[]loop.example/g00269/impl.Rule,loop.example/g00269/impl.Rule] -/
theorem cslices_IndexFunc_impl_Rule_impl_GoodRules_c1 (n : Nat) : AllOk Try.prog [(44, Kimpl_GoodRules_c1 @impl_GoodRules_c1 n)] := ⟨okimpl_GoodRules_c1 n, trivial⟩
@[reducible] def Sslices_IndexFunc_impl_Rule_impl_GoodRules_c1_l2 : PkS := ⟨[.one (.ro (.pr (.int .i64) (.sl (.int .i64)))), .one (.fn 44 []), .one (.int .i64), .one (.int .i64), .one (.dead), .one (.fn 44 [])], []⟩
@[reducible] def Tslices_IndexFunc_impl_Rule_impl_GoodRules_c1_l2_0 : PkS := ⟨[.one (.int .i64), .one (.dead), .one (.fn 44 [])], []⟩
@[reducible] def Tslices_IndexFunc_impl_Rule_impl_GoodRules_c1_l2_1 : PkS := ⟨[.one (.dead), .one (.fn 44 [])], []⟩
def Dslices_IndexFunc_impl_Rule_impl_GoodRules_c1_l2 : LoopD := ⟨19, [0, 1, 7, 8], [.one (.ro (.pr (.int .i64) (.sl (.int .i64)))), .fn 44 [], .one .any, .one .any, .skip, .fn 44 []], fun x => match x with
  | .ret => some ([4], [.one .any, .skip, .fn 44 []])
  | .exit 0 => some ([], [.skip, .fn 44 []])
  | _ => none⟩
def Pslices_IndexFunc_impl_Rule_impl_GoodRules_c1_l2 (g : ∀ {R : Type}, Nat → (List (Int × List Int)) → Int → Int → (Int → Option R) → (Option R) → Option R) (n : Nat) : LPs := fun R q kk => match (PkS.un Sslices_IndexFunc_impl_Rule_impl_GoodRules_c1_l2 q : Option ((List (Int × List Int)) × Int × Int × Unit)) with
  | some (y2_0, y2_1, y2_2, _) => g n y2_0 y2_1 y2_2 (fun r0 => kk .ret (PkS.pack Tslices_IndexFunc_impl_Rule_impl_GoodRules_c1_l2_0 (r0, ()))) (kk (.exit 0) (PkS.pack Tslices_IndexFunc_impl_Rule_impl_GoodRules_c1_l2_1 ()))
  | none => none
theorem eslices_IndexFunc_impl_Rule_impl_GoodRules_c1_l2 (impl_GoodRules_c1 : ∀ {R : Type}, Nat → Int → (List Int) → (Bool → Option R) → Option R) (slices_IndexFunc_impl_Rule_impl_GoodRules_c1_l2 : ∀ {R : Type}, Nat → (List (Int × List Int)) → Int → Int → (Int → Option R) → (Option R) → Option R) {R : Type} (n : Nat) (y2_0 : List (Int × List Int)) (y2_1 : Int) (y2_2 : Int) (kk : Ex → Pk → Option R) : Dslices_IndexFunc_impl_Rule_impl_GoodRules_c1_l2.step tt sig (mkK [(44, Kimpl_GoodRules_c1 @impl_GoodRules_c1 n)] R) (mkL (mkK [(44, Kimpl_GoodRules_c1 @impl_GoodRules_c1 n)]) [] R) (loopIn 2 (bodyOf Try.f65)) (fun q' => Pslices_IndexFunc_impl_Rule_impl_GoodRules_c1_l2 @slices_IndexFunc_impl_Rule_impl_GoodRules_c1_l2 n R q' kk) (PkS.pack Sslices_IndexFunc_impl_Rule_impl_GoodRules_c1_l2 (y2_0, y2_1, y2_2, ())) kk = (fun (kret : Int → Option R) (kexit0 : Option R) => (bif (decide (y2_2 < y2_1)) then (bif decide (0 ≤ y2_2) then (bif decide (y2_2 < (y2_0.length : Int)) then (impl_GoodRules_c1 n ((y2_0.getD (Int.toNat y2_2) (0, [])).1) ((y2_0.getD (Int.toNat y2_2) (0, [])).2) fun r1 => (bif r1 then kret y2_2 else slices_IndexFunc_impl_Rule_impl_GoodRules_c1_l2 n y2_0 y2_1 (IntKind.wrap .i64 (y2_2 + 1)) kret kexit0)) else none) else none) else kexit0)) (fun r0 => kk .ret (PkS.pack Tslices_IndexFunc_impl_Rule_impl_GoodRules_c1_l2_0 (r0, ()))) (kk (.exit 0) (PkS.pack Tslices_IndexFunc_impl_Rule_impl_GoodRules_c1_l2_1 ())) := by kernel_rfl
theorem leslices_IndexFunc_impl_Rule_impl_GoodRules_c1_l2 : LoopEq tt sig (fun n => mkK [(44, Kimpl_GoodRules_c1 @impl_GoodRules_c1 n)]) (fun n => mkL (mkK [(44, Kimpl_GoodRules_c1 @impl_GoodRules_c1 n)]) []) Dslices_IndexFunc_impl_Rule_impl_GoodRules_c1_l2 Sslices_IndexFunc_impl_Rule_impl_GoodRules_c1_l2 (loopIn 2 (bodyOf Try.f65)) (Pslices_IndexFunc_impl_Rule_impl_GoodRules_c1_l2 @slices_IndexFunc_impl_Rule_impl_GoodRules_c1_l2) where
  zero R q kk := by unfold Pslices_IndexFunc_impl_Rule_impl_GoodRules_c1_l2; cases (PkS.un Sslices_IndexFunc_impl_Rule_impl_GoodRules_c1_l2 q) <;> rfl
  succ n R q kk := by
    unfold Pslices_IndexFunc_impl_Rule_impl_GoodRules_c1_l2
    cases h : (PkS.un Sslices_IndexFunc_impl_Rule_impl_GoodRules_c1_l2 q) with
    | none => rfl
    | some d =>
      obtain ⟨y2_0, y2_1, y2_2, u⟩ := (d : (List (Int × List Int)) × Int × Int × Unit)
      have hp := PkS.un_pack h
      subst hp
      exact (eslices_IndexFunc_impl_Rule_impl_GoodRules_c1_l2 @impl_GoodRules_c1 @slices_IndexFunc_impl_Rule_impl_GoodRules_c1_l2 n y2_0 y2_1 y2_2 kk).symm
theorem nlslices_IndexFunc_impl_Rule_impl_GoodRules_c1_l2 : ∀ n, NatLP (Pslices_IndexFunc_impl_Rule_impl_GoodRules_c1_l2 @slices_IndexFunc_impl_Rule_impl_GoodRules_c1_l2 n) := leslices_IndexFunc_impl_Rule_impl_GoodRules_c1_l2.nat (fun n => mkK_nat (cslices_IndexFunc_impl_Rule_impl_GoodRules_c1 n)) fun n => mkL_nat (mkK_nat (cslices_IndexFunc_impl_Rule_impl_GoodRules_c1 n)) (l := []) trivial
theorem inslices_IndexFunc_impl_Rule_impl_GoodRules_c1_l2 (n : Nat) (R : Type) : LoopsOk Try.prog (mkL (mkK [(44, Kimpl_GoodRules_c1 @impl_GoodRules_c1 n)]) [] R) (loopIn 2 (bodyOf Try.f65)) := .eq (l := []) (by kernel_rfl) trivial
theorem lkslices_IndexFunc_impl_Rule_impl_GoodRules_c1_l2 (n : Nat) (R : Type) (L0 : LK R) (h0 : ∀ id, firstRegion (loopIn 2 (bodyOf Try.f65)) = some id → L0 id = Dslices_IndexFunc_impl_Rule_impl_GoodRules_c1_l2.oracle (mkK [(44, Kimpl_GoodRules_c1 @impl_GoodRules_c1 n)] R) (Pslices_IndexFunc_impl_Rule_impl_GoodRules_c1_l2 @slices_IndexFunc_impl_Rule_impl_GoodRules_c1_l2 n R)) : LoopOk Try.prog L0 (loopIn 2 (bodyOf Try.f65)) :=
  leslices_IndexFunc_impl_Rule_impl_GoodRules_c1_l2.ok mixed ttok (fun n => mkK_nat (cslices_IndexFunc_impl_Rule_impl_GoodRules_c1 n)) (fun n => mkK_ok (cslices_IndexFunc_impl_Rule_impl_GoodRules_c1 n)) (fun n => inslices_IndexFunc_impl_Rule_impl_GoodRules_c1_l2 n R) (mkK_nat (cslices_IndexFunc_impl_Rule_impl_GoodRules_c1 n)) h0
@[reducible] def Sslices_IndexFunc_impl_Rule_impl_GoodRules_c1 : PkS := ⟨[.one (.ro (.pr (.int .i64) (.sl (.int .i64)))), .one (.fn 44 [])], []⟩
@[reducible] def Tslices_IndexFunc_impl_Rule_impl_GoodRules_c1 : PkS := ⟨[.one (.int .i64), .one (.dead), .one (.fn 44 [])], []⟩
def Hslices_IndexFunc_impl_Rule_impl_GoodRules_c1 : List Sh := [.one .any, .skip, .fn 44 []]
def Kslices_IndexFunc_impl_Rule_impl_GoodRules_c1 (g : ∀ {R : Type}, Nat → (List (Int × List Int)) → (Int → Option R) → Option R) (n : Nat) : KPs := fun R p k => match (PkS.un Sslices_IndexFunc_impl_Rule_impl_GoodRules_c1 p : Option ((List (Int × List Int)) × Unit)) with
  | some (x0, _) => g n x0 (fun r0 => k (PkS.pack Tslices_IndexFunc_impl_Rule_impl_GoodRules_c1 (r0, ())))
  | none => none
theorem eslices_IndexFunc_impl_Rule_impl_GoodRules_c1 (impl_GoodRules_c1 : ∀ {R : Type}, Nat → Int → (List Int) → (Bool → Option R) → Option R) (slices_IndexFunc_impl_Rule_impl_GoodRules_c1_l2 : ∀ {R : Type}, Nat → (List (Int × List Int)) → Int → Int → (Int → Option R) → (Option R) → Option R) {R : Type} (n : Nat) (x0 : List (Int × List Int)) (k : Pk → Option R) : evF tt sig (mkK [(44, Kimpl_GoodRules_c1 @impl_GoodRules_c1 n)] R) (mkL (mkK [(44, Kimpl_GoodRules_c1 @impl_GoodRules_c1 n)]) [(2, Dslices_IndexFunc_impl_Rule_impl_GoodRules_c1_l2, Pslices_IndexFunc_impl_Rule_impl_GoodRules_c1_l2 @slices_IndexFunc_impl_Rule_impl_GoodRules_c1_l2 n)] R) Try.f65 Hslices_IndexFunc_impl_Rule_impl_GoodRules_c1 (PkS.pack Sslices_IndexFunc_impl_Rule_impl_GoodRules_c1 (x0, ())) k = (fun (k : Int → Option R) => (slices_IndexFunc_impl_Rule_impl_GoodRules_c1_l2 n x0 (x0.length : Int) 0 (fun r2 => k r2) (k (-1)))) (fun r0 => k (PkS.pack Tslices_IndexFunc_impl_Rule_impl_GoodRules_c1 (r0, ()))) := by kernel_rfl
theorem okslices_IndexFunc_impl_Rule_impl_GoodRules_c1 (n : Nat) : FnOk Try.prog 65 (Kslices_IndexFunc_impl_Rule_impl_GoodRules_c1 @slices_IndexFunc_impl_Rule_impl_GoodRules_c1 n) := by
  refine fn_ok (sig := sig) mixed ttok (mkK_nat (cslices_IndexFunc_impl_Rule_impl_GoodRules_c1 n)) (mkK_ok (cslices_IndexFunc_impl_Rule_impl_GoodRules_c1 n)) (mkL_nat (mkK_nat (cslices_IndexFunc_impl_Rule_impl_GoodRules_c1 n)) (l := [(2, Dslices_IndexFunc_impl_Rule_impl_GoodRules_c1_l2, Pslices_IndexFunc_impl_Rule_impl_GoodRules_c1_l2 @slices_IndexFunc_impl_Rule_impl_GoodRules_c1_l2 n)]) ⟨nlslices_IndexFunc_impl_Rule_impl_GoodRules_c1_l2 n, trivial⟩) (fn := Try.f65) (c := bodyOf Try.f65) (by kernel_rfl) (by kernel_rfl) (by kernel_rfl) (.eq (l := [.lo (loopIn 2 (bodyOf Try.f65))]) (by kernel_rfl) ⟨(lkslices_IndexFunc_impl_Rule_impl_GoodRules_c1_l2 n _ _ (at_id (i := 2) (by kernel_rfl) rfl)), trivial⟩) (shs := Hslices_IndexFunc_impl_Rule_impl_GoodRules_c1) (S := Sslices_IndexFunc_impl_Rule_impl_GoodRules_c1) (h1 := by kernel_rfl) fun R p k => ?_
  unfold Kslices_IndexFunc_impl_Rule_impl_GoodRules_c1
  cases h : (PkS.un Sslices_IndexFunc_impl_Rule_impl_GoodRules_c1 p) with
  | none => rfl
  | some d =>
    obtain ⟨x0, u⟩ := (d : (List (Int × List Int)) × Unit)
    have hp := PkS.un_pack h
    subst hp
    exact (eslices_IndexFunc_impl_Rule_impl_GoodRules_c1 @impl_GoodRules_c1 @slices_IndexFunc_impl_Rule_impl_GoodRules_c1_l2 n x0 k).symm

/-! ### slices.ContainsFunc[[]loop.example/g00269/impl.Rule,loop.example/g00269/impl.Rule] -/
theorem cslices_ContainsFunc_impl_Rule_impl_GoodRules_c1 (n : Nat) : AllOk Try.prog [(65, Kslices_IndexFunc_impl_Rule_impl_GoodRules_c1 @slices_IndexFunc_impl_Rule_impl_GoodRules_c1 n)] := ⟨okslices_IndexFunc_impl_Rule_impl_GoodRules_c1 n, trivial⟩
@[reducible] def Sslices_ContainsFunc_impl_Rule_impl_GoodRules_c1 : PkS := ⟨[.one (.ro (.pr (.int .i64) (.sl (.int .i64)))), .one (.fn 44 [])], []⟩
@[reducible] def Tslices_ContainsFunc_impl_Rule_impl_GoodRules_c1 : PkS := ⟨[.one (.bool), .one (.dead), .one (.fn 44 [])], []⟩
def Hslices_ContainsFunc_impl_Rule_impl_GoodRules_c1 : List Sh := [.one .any, .skip, .fn 44 []]
def Kslices_ContainsFunc_impl_Rule_impl_GoodRules_c1 (g : ∀ {R : Type}, Nat → (List (Int × List Int)) → (Bool → Option R) → Option R) (n : Nat) : KPs := fun R p k => match (PkS.un Sslices_ContainsFunc_impl_Rule_impl_GoodRules_c1 p : Option ((List (Int × List Int)) × Unit)) with
  | some (x0, _) => g n x0 (fun r0 => k (PkS.pack Tslices_ContainsFunc_impl_Rule_impl_GoodRules_c1 (r0, ())))
  | none => none
theorem eslices_ContainsFunc_impl_Rule_impl_GoodRules_c1 (slices_IndexFunc_impl_Rule_impl_GoodRules_c1 : ∀ {R : Type}, Nat → (List (Int × List Int)) → (Int → Option R) → Option R) {R : Type} (n : Nat) (x0 : List (Int × List Int)) (k : Pk → Option R) : evF tt sig (mkK [(65, Kslices_IndexFunc_impl_Rule_impl_GoodRules_c1 @slices_IndexFunc_impl_Rule_impl_GoodRules_c1 n)] R) (mkL (mkK [(65, Kslices_IndexFunc_impl_Rule_impl_GoodRules_c1 @slices_IndexFunc_impl_Rule_impl_GoodRules_c1 n)]) [] R) Try.f43 Hslices_ContainsFunc_impl_Rule_impl_GoodRules_c1 (PkS.pack Sslices_ContainsFunc_impl_Rule_impl_GoodRules_c1 (x0, ())) k = (fun (k : Bool → Option R) => (slices_IndexFunc_impl_Rule_impl_GoodRules_c1 n x0 fun r1 => k (decide (r1 ≥ 0)))) (fun r0 => k (PkS.pack Tslices_ContainsFunc_impl_Rule_impl_GoodRules_c1 (r0, ()))) := by kernel_rfl
theorem okslices_ContainsFunc_impl_Rule_impl_GoodRules_c1 (n : Nat) : FnOk Try.prog 43 (Kslices_ContainsFunc_impl_Rule_impl_GoodRules_c1 @slices_ContainsFunc_impl_Rule_impl_GoodRules_c1 n) := by
  refine fn_ok (sig := sig) mixed ttok (mkK_nat (cslices_ContainsFunc_impl_Rule_impl_GoodRules_c1 n)) (mkK_ok (cslices_ContainsFunc_impl_Rule_impl_GoodRules_c1 n)) (mkL_nat (mkK_nat (cslices_ContainsFunc_impl_Rule_impl_GoodRules_c1 n)) (l := []) trivial) (fn := Try.f43) (c := bodyOf Try.f43) (by kernel_rfl) (by kernel_rfl) (by kernel_rfl) (.eq (l := []) (by kernel_rfl) trivial) (shs := Hslices_ContainsFunc_impl_Rule_impl_GoodRules_c1) (S := Sslices_ContainsFunc_impl_Rule_impl_GoodRules_c1) (h1 := by kernel_rfl) fun R p k => ?_
  unfold Kslices_ContainsFunc_impl_Rule_impl_GoodRules_c1
  cases h : (PkS.un Sslices_ContainsFunc_impl_Rule_impl_GoodRules_c1 p) with
  | none => rfl
  | some d =>
    obtain ⟨x0, u⟩ := (d : (List (Int × List Int)) × Unit)
    have hp := PkS.un_pack h
    subst hp
    exact (eslices_ContainsFunc_impl_Rule_impl_GoodRules_c1 @slices_IndexFunc_impl_Rule_impl_GoodRules_c1 n x0 k).symm

/-! ### loop.example/g00269/impl.GoodRules -/
theorem cimpl_GoodRules (n : Nat) : AllOk Try.prog [(43, Kslices_ContainsFunc_impl_Rule_impl_GoodRules_c1 @slices_ContainsFunc_impl_Rule_impl_GoodRules_c1 n)] := ⟨okslices_ContainsFunc_impl_Rule_impl_GoodRules_c1 n, trivial⟩
@[reducible] def Simpl_GoodRules : PkS := ⟨[.one (.ro (.pr (.int .i64) (.sl (.int .i64))))], []⟩
@[reducible] def Timpl_GoodRules : PkS := ⟨[.one (.bool), .one (.dead)], []⟩
def Himpl_GoodRules : List Sh := [.one .any, .skip]
def Kimpl_GoodRules (g : ∀ {R : Type}, Nat → (List (Int × List Int)) → (Bool → Option R) → Option R) (n : Nat) : KPs := fun R p k => match (PkS.un Simpl_GoodRules p : Option ((List (Int × List Int)) × Unit)) with
  | some (x0, _) => g n x0 (fun r0 => k (PkS.pack Timpl_GoodRules (r0, ())))
  | none => none
theorem eimpl_GoodRules (slices_ContainsFunc_impl_Rule_impl_GoodRules_c1 : ∀ {R : Type}, Nat → (List (Int × List Int)) → (Bool → Option R) → Option R) {R : Type} (n : Nat) (x0 : List (Int × List Int)) (k : Pk → Option R) : evF tt sig (mkK [(43, Kslices_ContainsFunc_impl_Rule_impl_GoodRules_c1 @slices_ContainsFunc_impl_Rule_impl_GoodRules_c1 n)] R) (mkL (mkK [(43, Kslices_ContainsFunc_impl_Rule_impl_GoodRules_c1 @slices_ContainsFunc_impl_Rule_impl_GoodRules_c1 n)]) [] R) Try.f15 Himpl_GoodRules (PkS.pack Simpl_GoodRules (x0, ())) k = (fun (k : Bool → Option R) => (bif (decide ((x0.length : Int) ≤ 60)) then (slices_ContainsFunc_impl_Rule_impl_GoodRules_c1 n x0 fun r1 => k (!r1)) else k false)) (fun r0 => k (PkS.pack Timpl_GoodRules (r0, ()))) := by kernel_rfl
theorem okimpl_GoodRules (n : Nat) : FnOk Try.prog 15 (Kimpl_GoodRules @impl_GoodRules n) := by
  refine fn_ok (sig := sig) mixed ttok (mkK_nat (cimpl_GoodRules n)) (mkK_ok (cimpl_GoodRules n)) (mkL_nat (mkK_nat (cimpl_GoodRules n)) (l := []) trivial) (fn := Try.f15) (c := bodyOf Try.f15) (by kernel_rfl) (by kernel_rfl) (by kernel_rfl) (.eq (l := []) (by kernel_rfl) trivial) (shs := Himpl_GoodRules) (S := Simpl_GoodRules) (h1 := by kernel_rfl) fun R p k => ?_
  unfold Kimpl_GoodRules
  cases h : (PkS.un Simpl_GoodRules p) with
  | none => rfl
  | some d =>
    obtain ⟨x0, u⟩ := (d : (List (Int × List Int)) × Unit)
    have hp := PkS.un_pack h
    subst hp
    exact (eimpl_GoodRules @slices_ContainsFunc_impl_Rule_impl_GoodRules_c1 n x0 k).symm

/-! ### loop.example/g00269/impl.rulesOk -/
theorem cimpl_rulesOk (n : Nat) : AllOk Try.prog [(15, Kimpl_GoodRules @impl_GoodRules n), (46, Kimpl_isSet @impl_isSet n)] := ⟨okimpl_GoodRules n, ⟨okimpl_isSet n, trivial⟩⟩
@[reducible] def Simpl_rulesOk : PkS := ⟨[.one (.ro (.pr (.int .i64) (.sl (.int .i64)))), .one (.ro (.int .i64))], []⟩
@[reducible] def Timpl_rulesOk : PkS := ⟨[.one (.bool), .one (.dead), .one (.dead)], []⟩
def Himpl_rulesOk : List Sh := [.one .any, .skip, .skip]
def Kimpl_rulesOk (g : ∀ {R : Type}, Nat → (List (Int × List Int)) → (List Int) → (Bool → Option R) → Option R) (n : Nat) : KPs := fun R p k => match (PkS.un Simpl_rulesOk p : Option ((List (Int × List Int)) × (List Int) × Unit)) with
  | some (x0, x1, _) => g n x0 x1 (fun r0 => k (PkS.pack Timpl_rulesOk (r0, ())))
  | none => none
theorem eimpl_rulesOk (impl_GoodRules : ∀ {R : Type}, Nat → (List (Int × List Int)) → (Bool → Option R) → Option R) (impl_isSet : ∀ {R : Type}, Nat → (List Int) → (Bool → Option R) → Option R) {R : Type} (n : Nat) (x0 : List (Int × List Int)) (x1 : List Int) (k : Pk → Option R) : evF tt sig (mkK [(15, Kimpl_GoodRules @impl_GoodRules n), (46, Kimpl_isSet @impl_isSet n)] R) (mkL (mkK [(15, Kimpl_GoodRules @impl_GoodRules n), (46, Kimpl_isSet @impl_isSet n)]) [] R) Try.f50 Himpl_rulesOk (PkS.pack Simpl_rulesOk (x0, x1, ())) k = (fun (k : Bool → Option R) => (impl_GoodRules n x0 fun r1 => (bif r1 then (impl_isSet n x1 fun r2 => k r2) else k false))) (fun r0 => k (PkS.pack Timpl_rulesOk (r0, ()))) := by kernel_rfl
theorem okimpl_rulesOk (n : Nat) : FnOk Try.prog 50 (Kimpl_rulesOk @impl_rulesOk n) := by
  refine fn_ok (sig := sig) mixed ttok (mkK_nat (cimpl_rulesOk n)) (mkK_ok (cimpl_rulesOk n)) (mkL_nat (mkK_nat (cimpl_rulesOk n)) (l := []) trivial) (fn := Try.f50) (c := bodyOf Try.f50) (by kernel_rfl) (by kernel_rfl) (by kernel_rfl) (.eq (l := []) (by kernel_rfl) trivial) (shs := Himpl_rulesOk) (S := Simpl_rulesOk) (h1 := by kernel_rfl) fun R p k => ?_
  unfold Kimpl_rulesOk
  cases h : (PkS.un Simpl_rulesOk p) with
  | none => rfl
  | some d =>
    obtain ⟨x0, x1, u⟩ := (d : (List (Int × List Int)) × (List Int) × Unit)
    have hp := PkS.un_pack h
    subst hp
    exact (eimpl_rulesOk @impl_GoodRules @impl_isSet n x0 x1 k).symm

/-! ### slices.Clone[[]int,int] -/
theorem cslices_Clone_int (n : Nat) : AllOk Try.prog [] := trivial
@[reducible] def Sslices_Clone_int : PkS := ⟨[.one (.ro (.int .i64))], []⟩
@[reducible] def Tslices_Clone_int : PkS := ⟨[.one (.whole (300000, 0)), .one (.dead)], [((300000, 0), .arr (.int .i64))]⟩
def Kslices_Clone_int (g : ∀ {R : Type}, Nat → (List Int) → ((List Int) → Option R) → Option R) (n : Nat) : KPs := fun R p k => match (PkS.un Sslices_Clone_int p : Option ((List Int) × Unit)) with
  | some (x0, _) => g n x0 (fun r0 => k (PkS.pack Tslices_Clone_int (r0, ())))
  | none => none
theorem okslices_Clone_int (n : Nat) : FnOk Try.prog 71 (Kslices_Clone_int @slices_Clone_int n) := by
  have e : Kslices_Clone_int @slices_Clone_int n = cloneK (.int .i64) := by kernel_rfl
  rw [e]
  exact clone_ok (sig := sig) mixed ttok (fn := Try.f71) (c := bodyOf Try.f71) (by kernel_rfl) (by kernel_rfl) (by kernel_rfl) (.int .i64) [.one (.own (.int .i64)), .skip] (.eq (l := []) (by kernel_rfl) trivial) (fun xs => by kernel_rfl) (by kernel_rfl) (by kernel_rfl)

/-! ### slices.Index[[]int,int] -/
theorem cslices_Index_int (n : Nat) : AllOk Try.prog [] := trivial
@[reducible] def Sslices_Index_int_l2 : PkS := ⟨[.one (.ro (.int .i64)), .one (.int .i64), .one (.int .i64), .one (.int .i64), .one (.dead), .one (.dead)], []⟩
@[reducible] def Tslices_Index_int_l2_0 : PkS := ⟨[.one (.int .i64), .one (.dead), .one (.dead)], []⟩
@[reducible] def Tslices_Index_int_l2_1 : PkS := ⟨[.one (.dead), .one (.dead)], []⟩
def Dslices_Index_int_l2 : LoopD := ⟨19, [0, 1, 7, 8], [.one (.ro (.int .i64)), .one .any, .one .any, .one .any, .skip, .skip], fun x => match x with
  | .ret => some ([4], [.one .any, .skip, .skip])
  | .exit 0 => some ([], [.skip, .skip])
  | _ => none⟩
def Pslices_Index_int_l2 (g : ∀ {R : Type}, Nat → (List Int) → Int → Int → Int → (Int → Option R) → (Option R) → Option R) (n : Nat) : LPs := fun R q kk => match (PkS.un Sslices_Index_int_l2 q : Option ((List Int) × Int × Int × Int × Unit)) with
  | some (y2_0, y2_1, y2_2, y2_3, _) => g n y2_0 y2_1 y2_2 y2_3 (fun r0 => kk .ret (PkS.pack Tslices_Index_int_l2_0 (r0, ()))) (kk (.exit 0) (PkS.pack Tslices_Index_int_l2_1 ()))
  | none => none
theorem eslices_Index_int_l2 (slices_Index_int_l2 : ∀ {R : Type}, Nat → (List Int) → Int → Int → Int → (Int → Option R) → (Option R) → Option R) {R : Type} (n : Nat) (y2_0 : List Int) (y2_1 : Int) (y2_2 : Int) (y2_3 : Int) (kk : Ex → Pk → Option R) : Dslices_Index_int_l2.step tt sig (mkK [] R) (mkL (mkK []) [] R) (loopIn 2 (bodyOf Try.f70)) (fun q' => Pslices_Index_int_l2 @slices_Index_int_l2 n R q' kk) (PkS.pack Sslices_Index_int_l2 (y2_0, y2_1, y2_2, y2_3, ())) kk = (fun (kret : Int → Option R) (kexit0 : Option R) => (bif (decide (y2_3 < y2_2)) then (bif decide (0 ≤ y2_3) then (bif decide (y2_3 < (y2_0.length : Int)) then (bif (y2_1 == (y2_0.getD (Int.toNat y2_3) 0)) then kret y2_3 else slices_Index_int_l2 n y2_0 y2_1 y2_2 (IntKind.wrap .i64 (y2_3 + 1)) kret kexit0) else none) else none) else kexit0)) (fun r0 => kk .ret (PkS.pack Tslices_Index_int_l2_0 (r0, ()))) (kk (.exit 0) (PkS.pack Tslices_Index_int_l2_1 ())) := by kernel_rfl
theorem leslices_Index_int_l2 : LoopEq tt sig (fun n => mkK []) (fun n => mkL (mkK []) []) Dslices_Index_int_l2 Sslices_Index_int_l2 (loopIn 2 (bodyOf Try.f70)) (Pslices_Index_int_l2 @slices_Index_int_l2) where
  zero R q kk := by unfold Pslices_Index_int_l2; cases (PkS.un Sslices_Index_int_l2 q) <;> rfl
  succ n R q kk := by
    unfold Pslices_Index_int_l2
    cases h : (PkS.un Sslices_Index_int_l2 q) with
    | none => rfl
    | some d =>
      obtain ⟨y2_0, y2_1, y2_2, y2_3, u⟩ := (d : (List Int) × Int × Int × Int × Unit)
      have hp := PkS.un_pack h
      subst hp
      exact (eslices_Index_int_l2 @slices_Index_int_l2 n y2_0 y2_1 y2_2 y2_3 kk).symm
theorem nlslices_Index_int_l2 : ∀ n, NatLP (Pslices_Index_int_l2 @slices_Index_int_l2 n) := leslices_Index_int_l2.nat (fun n => mkK_nat (cslices_Index_int n)) fun n => mkL_nat (mkK_nat (cslices_Index_int n)) (l := []) trivial
theorem inslices_Index_int_l2 (n : Nat) (R : Type) : LoopsOk Try.prog (mkL (mkK []) [] R) (loopIn 2 (bodyOf Try.f70)) := .eq (l := []) (by kernel_rfl) trivial
theorem lkslices_Index_int_l2 (n : Nat) (R : Type) (L0 : LK R) (h0 : ∀ id, firstRegion (loopIn 2 (bodyOf Try.f70)) = some id → L0 id = Dslices_Index_int_l2.oracle (mkK [] R) (Pslices_Index_int_l2 @slices_Index_int_l2 n R)) : LoopOk Try.prog L0 (loopIn 2 (bodyOf Try.f70)) :=
  leslices_Index_int_l2.ok mixed ttok (fun n => mkK_nat (cslices_Index_int n)) (fun n => mkK_ok (cslices_Index_int n)) (fun n => inslices_Index_int_l2 n R) (mkK_nat (cslices_Index_int n)) h0
@[reducible] def Sslices_Index_int : PkS := ⟨[.one (.ro (.int .i64)), .one (.int .i64)], []⟩
@[reducible] def Tslices_Index_int : PkS := ⟨[.one (.int .i64), .one (.dead), .one (.dead)], []⟩
def Hslices_Index_int : List Sh := [.one .any, .skip, .skip]
def Kslices_Index_int (g : ∀ {R : Type}, Nat → (List Int) → Int → (Int → Option R) → Option R) (n : Nat) : KPs := fun R p k => match (PkS.un Sslices_Index_int p : Option ((List Int) × Int × Unit)) with
  | some (x0, x1, _) => g n x0 x1 (fun r0 => k (PkS.pack Tslices_Index_int (r0, ())))
  | none => none
theorem eslices_Index_int (slices_Index_int_l2 : ∀ {R : Type}, Nat → (List Int) → Int → Int → Int → (Int → Option R) → (Option R) → Option R) {R : Type} (n : Nat) (x0 : List Int) (x1 : Int) (k : Pk → Option R) : evF tt sig (mkK [] R) (mkL (mkK []) [(2, Dslices_Index_int_l2, Pslices_Index_int_l2 @slices_Index_int_l2 n)] R) Try.f70 Hslices_Index_int (PkS.pack Sslices_Index_int (x0, x1, ())) k = (fun (k : Int → Option R) => (slices_Index_int_l2 n x0 x1 (x0.length : Int) 0 (fun r1 => k r1) (k (-1)))) (fun r0 => k (PkS.pack Tslices_Index_int (r0, ()))) := by kernel_rfl
theorem okslices_Index_int (n : Nat) : FnOk Try.prog 70 (Kslices_Index_int @slices_Index_int n) := by
  refine fn_ok (sig := sig) mixed ttok (mkK_nat (cslices_Index_int n)) (mkK_ok (cslices_Index_int n)) (mkL_nat (mkK_nat (cslices_Index_int n)) (l := [(2, Dslices_Index_int_l2, Pslices_Index_int_l2 @slices_Index_int_l2 n)]) ⟨nlslices_Index_int_l2 n, trivial⟩) (fn := Try.f70) (c := bodyOf Try.f70) (by kernel_rfl) (by kernel_rfl) (by kernel_rfl) (.eq (l := [.lo (loopIn 2 (bodyOf Try.f70))]) (by kernel_rfl) ⟨(lkslices_Index_int_l2 n _ _ (at_id (i := 2) (by kernel_rfl) rfl)), trivial⟩) (shs := Hslices_Index_int) (S := Sslices_Index_int) (h1 := by kernel_rfl) fun R p k => ?_
  unfold Kslices_Index_int
  cases h : (PkS.un Sslices_Index_int p) with
  | none => rfl
  | some d =>
    obtain ⟨x0, x1, u⟩ := (d : (List Int) × Int × Unit)
    have hp := PkS.un_pack h
    subst hp
    exact (eslices_Index_int @slices_Index_int_l2 n x0 x1 k).symm

/-! ### slices.Contains[[]int,int] -/
theorem cslices_Contains_int (n : Nat) : AllOk Try.prog [(70, Kslices_Index_int @slices_Index_int n)] := ⟨okslices_Index_int n, trivial⟩
@[reducible] def Sslices_Contains_int : PkS := ⟨[.one (.ro (.int .i64)), .one (.int .i64)], []⟩
@[reducible] def Tslices_Contains_int : PkS := ⟨[.one (.bool), .one (.dead), .one (.dead)], []⟩
def Hslices_Contains_int : List Sh := [.one .any, .skip, .skip]
def Kslices_Contains_int (g : ∀ {R : Type}, Nat → (List Int) → Int → (Bool → Option R) → Option R) (n : Nat) : KPs := fun R p k => match (PkS.un Sslices_Contains_int p : Option ((List Int) × Int × Unit)) with
  | some (x0, x1, _) => g n x0 x1 (fun r0 => k (PkS.pack Tslices_Contains_int (r0, ())))
  | none => none
theorem eslices_Contains_int (slices_Index_int : ∀ {R : Type}, Nat → (List Int) → Int → (Int → Option R) → Option R) {R : Type} (n : Nat) (x0 : List Int) (x1 : Int) (k : Pk → Option R) : evF tt sig (mkK [(70, Kslices_Index_int @slices_Index_int n)] R) (mkL (mkK [(70, Kslices_Index_int @slices_Index_int n)]) [] R) Try.f53 Hslices_Contains_int (PkS.pack Sslices_Contains_int (x0, x1, ())) k = (fun (k : Bool → Option R) => (slices_Index_int n x0 x1 fun r1 => k (decide (r1 ≥ 0)))) (fun r0 => k (PkS.pack Tslices_Contains_int (r0, ()))) := by kernel_rfl
theorem okslices_Contains_int (n : Nat) : FnOk Try.prog 53 (Kslices_Contains_int @slices_Contains_int n) := by
  refine fn_ok (sig := sig) mixed ttok (mkK_nat (cslices_Contains_int n)) (mkK_ok (cslices_Contains_int n)) (mkL_nat (mkK_nat (cslices_Contains_int n)) (l := []) trivial) (fn := Try.f53) (c := bodyOf Try.f53) (by kernel_rfl) (by kernel_rfl) (by kernel_rfl) (.eq (l := []) (by kernel_rfl) trivial) (shs := Hslices_Contains_int) (S := Sslices_Contains_int) (h1 := by kernel_rfl) fun R p k => ?_
  unfold Kslices_Contains_int
  cases h : (PkS.un Sslices_Contains_int p) with
  | none => rfl
  | some d =>
    obtain ⟨x0, x1, u⟩ := (d : (List Int) × Int × Unit)
    have hp := PkS.un_pack h
    subst hp
    exact (eslices_Contains_int @slices_Index_int n x0 x1 k).symm

/-! ### cmp.isNaN[int] -/
theorem ccmp_isNaN_int (n : Nat) : AllOk Try.prog [] := trivial
@[reducible] def Scmp_isNaN_int : PkS := ⟨[.one (.int .i64)], []⟩
@[reducible] def Tcmp_isNaN_int : PkS := ⟨[.one (.bool), .one (.dead)], []⟩
def Hcmp_isNaN_int : List Sh := [.one .any, .skip]
def Kcmp_isNaN_int (g : ∀ {R : Type}, Nat → Int → (Bool → Option R) → Option R) (n : Nat) : KPs := fun R p k => match (PkS.un Scmp_isNaN_int p : Option (Int × Unit)) with
  | some (x0, _) => g n x0 (fun r0 => k (PkS.pack Tcmp_isNaN_int (r0, ())))
  | none => none
theorem ecmp_isNaN_int  {R : Type} (n : Nat) (x0 : Int) (k : Pk → Option R) : evF tt sig (mkK [] R) (mkL (mkK []) [] R) Try.f87 Hcmp_isNaN_int (PkS.pack Scmp_isNaN_int (x0, ())) k = (fun (k : Bool → Option R) => k (x0 != x0)) (fun r0 => k (PkS.pack Tcmp_isNaN_int (r0, ()))) := by kernel_rfl
theorem okcmp_isNaN_int (n : Nat) : FnOk Try.prog 87 (Kcmp_isNaN_int @cmp_isNaN_int n) := by
  refine fn_ok (sig := sig) mixed ttok (mkK_nat (ccmp_isNaN_int n)) (mkK_ok (ccmp_isNaN_int n)) (mkL_nat (mkK_nat (ccmp_isNaN_int n)) (l := []) trivial) (fn := Try.f87) (c := bodyOf Try.f87) (by kernel_rfl) (by kernel_rfl) (by kernel_rfl) (.eq (l := []) (by kernel_rfl) trivial) (shs := Hcmp_isNaN_int) (S := Scmp_isNaN_int) (h1 := by kernel_rfl) fun R p k => ?_
  unfold Kcmp_isNaN_int
  cases h : (PkS.un Scmp_isNaN_int p) with
  | none => rfl
  | some d =>
    obtain ⟨x0, u⟩ := (d : Int × Unit)
    have hp := PkS.un_pack h
    subst hp
    exact (ecmp_isNaN_int  n x0 k).symm

/-! ### cmp.Less[int] -/
theorem ccmp_Less_int (n : Nat) : AllOk Try.prog [(87, Kcmp_isNaN_int @cmp_isNaN_int n)] := ⟨okcmp_isNaN_int n, trivial⟩
@[reducible] def Scmp_Less_int : PkS := ⟨[.one (.int .i64), .one (.int .i64)], []⟩
@[reducible] def Tcmp_Less_int : PkS := ⟨[.one (.bool), .one (.dead), .one (.dead)], []⟩
def Hcmp_Less_int : List Sh := [.one .any, .skip, .skip]
def Kcmp_Less_int (g : ∀ {R : Type}, Nat → Int → Int → (Bool → Option R) → Option R) (n : Nat) : KPs := fun R p k => match (PkS.un Scmp_Less_int p : Option (Int × Int × Unit)) with
  | some (x0, x1, _) => g n x0 x1 (fun r0 => k (PkS.pack Tcmp_Less_int (r0, ())))
  | none => none
theorem ecmp_Less_int (cmp_isNaN_int : ∀ {R : Type}, Nat → Int → (Bool → Option R) → Option R) {R : Type} (n : Nat) (x0 : Int) (x1 : Int) (k : Pk → Option R) : evF tt sig (mkK [(87, Kcmp_isNaN_int @cmp_isNaN_int n)] R) (mkL (mkK [(87, Kcmp_isNaN_int @cmp_isNaN_int n)]) [] R) Try.f83 Hcmp_Less_int (PkS.pack Scmp_Less_int (x0, x1, ())) k = (fun (k : Bool → Option R) => (cmp_isNaN_int n x0 fun r1 => (bif r1 then (cmp_isNaN_int n x1 fun r2 => (bif (!r2) then k true else k (decide (x0 < x1)))) else k (decide (x0 < x1))))) (fun r0 => k (PkS.pack Tcmp_Less_int (r0, ()))) := by kernel_rfl
theorem okcmp_Less_int (n : Nat) : FnOk Try.prog 83 (Kcmp_Less_int @cmp_Less_int n) := by
  refine fn_ok (sig := sig) mixed ttok (mkK_nat (ccmp_Less_int n)) (mkK_ok (ccmp_Less_int n)) (mkL_nat (mkK_nat (ccmp_Less_int n)) (l := []) trivial) (fn := Try.f83) (c := bodyOf Try.f83) (by kernel_rfl) (by kernel_rfl) (by kernel_rfl) (.eq (l := []) (by kernel_rfl) trivial) (shs := Hcmp_Less_int) (S := Scmp_Less_int) (h1 := by kernel_rfl) fun R p k => ?_
  unfold Kcmp_Less_int
  cases h : (PkS.un Scmp_Less_int p) with
  | none => rfl
  | some d =>
    obtain ⟨x0, x1, u⟩ := (d : Int × Int × Unit)
    have hp := PkS.un_pack h
    subst hp
    exact (ecmp_Less_int @cmp_isNaN_int n x0 x1 k).symm

/-! ### slices.isNaN[int] -/
theorem cslices_isNaN_int (n : Nat) : AllOk Try.prog [] := trivial
@[reducible] def Sslices_isNaN_int : PkS := ⟨[.one (.int .i64)], []⟩
@[reducible] def Tslices_isNaN_int : PkS := ⟨[.one (.bool), .one (.dead)], []⟩
def Hslices_isNaN_int : List Sh := [.one .any, .skip]
def Kslices_isNaN_int (g : ∀ {R : Type}, Nat → Int → (Bool → Option R) → Option R) (n : Nat) : KPs := fun R p k => match (PkS.un Sslices_isNaN_int p : Option (Int × Unit)) with
  | some (x0, _) => g n x0 (fun r0 => k (PkS.pack Tslices_isNaN_int (r0, ())))
  | none => none
theorem eslices_isNaN_int  {R : Type} (n : Nat) (x0 : Int) (k : Pk → Option R) : evF tt sig (mkK [] R) (mkL (mkK []) [] R) Try.f84 Hslices_isNaN_int (PkS.pack Sslices_isNaN_int (x0, ())) k = (fun (k : Bool → Option R) => k (x0 != x0)) (fun r0 => k (PkS.pack Tslices_isNaN_int (r0, ()))) := by kernel_rfl
theorem okslices_isNaN_int (n : Nat) : FnOk Try.prog 84 (Kslices_isNaN_int @slices_isNaN_int n) := by
  refine fn_ok (sig := sig) mixed ttok (mkK_nat (cslices_isNaN_int n)) (mkK_ok (cslices_isNaN_int n)) (mkL_nat (mkK_nat (cslices_isNaN_int n)) (l := []) trivial) (fn := Try.f84) (c := bodyOf Try.f84) (by kernel_rfl) (by kernel_rfl) (by kernel_rfl) (.eq (l := []) (by kernel_rfl) trivial) (shs := Hslices_isNaN_int) (S := Sslices_isNaN_int) (h1 := by kernel_rfl) fun R p k => ?_
  unfold Kslices_isNaN_int
  cases h : (PkS.un Sslices_isNaN_int p) with
  | none => rfl
  | some d =>
    obtain ⟨x0, u⟩ := (d : Int × Unit)
    have hp := PkS.un_pack h
    subst hp
    exact (eslices_isNaN_int  n x0 k).symm

/-! ### slices.BinarySearch[[]int,int] -/
theorem cslices_BinarySearch_int (n : Nat) : AllOk Try.prog [(83, Kcmp_Less_int @cmp_Less_int n), (84, Kslices_isNaN_int @slices_isNaN_int n)] := ⟨okcmp_Less_int n, ⟨okslices_isNaN_int n, trivial⟩⟩
@[reducible] def Sslices_BinarySearch_int_l3 : PkS := ⟨[.one (.ro (.int .i64)), .one (.int .i64), .one (.int .i64), .one (.int .i64), .one (.int .i64), .one (.dead), .one (.dead)], []⟩
@[reducible] def Tslices_BinarySearch_int_l3_0 : PkS := ⟨[.one (.ro (.int .i64)), .one (.int .i64), .one (.int .i64), .one (.int .i64), .one (.dead), .one (.dead)], []⟩
def Dslices_BinarySearch_int_l3 : LoopD := ⟨54, [0, 1, 6, 7, 8], [.one (.ro (.int .i64)), .one .any, .one .any, .one .any, .one .any, .skip, .skip], fun x => match x with
  | .exit 0 => some ([0, 1, 6, 7], [.one (.ro (.int .i64)), .one .any, .one .any, .one .any, .skip, .skip])
  | _ => none⟩
def Pslices_BinarySearch_int_l3 (g : ∀ {R : Type}, Nat → (List Int) → Int → Int → Int → Int → ((List Int) → Int → Int → Int → Option R) → Option R) (n : Nat) : LPs := fun R q kk => match (PkS.un Sslices_BinarySearch_int_l3 q : Option ((List Int) × Int × Int × Int × Int × Unit)) with
  | some (y3_0, y3_1, y3_2, y3_3, y3_4, _) => g n y3_0 y3_1 y3_2 y3_3 y3_4 (fun r0 r1 r2 r3 => kk (.exit 0) (PkS.pack Tslices_BinarySearch_int_l3_0 (r0, r1, r2, r3, ())))
  | none => none
theorem eslices_BinarySearch_int_l3 (cmp_Less_int : ∀ {R : Type}, Nat → Int → Int → (Bool → Option R) → Option R) (slices_isNaN_int : ∀ {R : Type}, Nat → Int → (Bool → Option R) → Option R) (slices_BinarySearch_int_l3 : ∀ {R : Type}, Nat → (List Int) → Int → Int → Int → Int → ((List Int) → Int → Int → Int → Option R) → Option R) {R : Type} (n : Nat) (y3_0 : List Int) (y3_1 : Int) (y3_2 : Int) (y3_3 : Int) (y3_4 : Int) (kk : Ex → Pk → Option R) : Dslices_BinarySearch_int_l3.step tt sig (mkK [(83, Kcmp_Less_int @cmp_Less_int n), (84, Kslices_isNaN_int @slices_isNaN_int n)] R) (mkL (mkK [(83, Kcmp_Less_int @cmp_Less_int n), (84, Kslices_isNaN_int @slices_isNaN_int n)]) [] R) (loopIn 3 (bodyOf Try.f80)) (fun q' => Pslices_BinarySearch_int_l3 @slices_BinarySearch_int_l3 n R q' kk) (PkS.pack Sslices_BinarySearch_int_l3 (y3_0, y3_1, y3_2, y3_3, y3_4, ())) kk = (fun (kexit0 : (List Int) → Int → Int → Int → Option R) => (bif (decide (y3_3 < y3_4)) then (bif decide (0 ≤ (IntKind.wrap .i64 ((Int.fdiv (IntKind.wrap .u64 ((IntKind.wrap .i64 (y3_3 + y3_4)))) (2 ^ (min (Int.toNat 1) (IntKind.bits .u64))))))) then (bif decide ((IntKind.wrap .i64 ((Int.fdiv (IntKind.wrap .u64 ((IntKind.wrap .i64 (y3_3 + y3_4)))) (2 ^ (min (Int.toNat 1) (IntKind.bits .u64)))))) < (y3_0.length : Int)) then (cmp_Less_int n (y3_0.getD (Int.toNat (IntKind.wrap .i64 ((Int.fdiv (IntKind.wrap .u64 ((IntKind.wrap .i64 (y3_3 + y3_4)))) (2 ^ (min (Int.toNat 1) (IntKind.bits .u64))))))) 0) y3_1 fun r1 => (bif r1 then slices_BinarySearch_int_l3 n y3_0 y3_1 y3_2 (IntKind.wrap .i64 ((IntKind.wrap .i64 ((Int.fdiv (IntKind.wrap .u64 ((IntKind.wrap .i64 (y3_3 + y3_4)))) (2 ^ (min (Int.toNat 1) (IntKind.bits .u64)))))) + 1)) y3_4 kexit0 else slices_BinarySearch_int_l3 n y3_0 y3_1 y3_2 y3_3 (IntKind.wrap .i64 ((Int.fdiv (IntKind.wrap .u64 ((IntKind.wrap .i64 (y3_3 + y3_4)))) (2 ^ (min (Int.toNat 1) (IntKind.bits .u64)))))) kexit0)) else none) else none) else kexit0 y3_0 y3_1 y3_2 y3_3)) (fun r0 r1 r2 r3 => kk (.exit 0) (PkS.pack Tslices_BinarySearch_int_l3_0 (r0, r1, r2, r3, ()))) := by kernel_rfl
theorem leslices_BinarySearch_int_l3 : LoopEq tt sig (fun n => mkK [(83, Kcmp_Less_int @cmp_Less_int n), (84, Kslices_isNaN_int @slices_isNaN_int n)]) (fun n => mkL (mkK [(83, Kcmp_Less_int @cmp_Less_int n), (84, Kslices_isNaN_int @slices_isNaN_int n)]) []) Dslices_BinarySearch_int_l3 Sslices_BinarySearch_int_l3 (loopIn 3 (bodyOf Try.f80)) (Pslices_BinarySearch_int_l3 @slices_BinarySearch_int_l3) where
  zero R q kk := by unfold Pslices_BinarySearch_int_l3; cases (PkS.un Sslices_BinarySearch_int_l3 q) <;> rfl
  succ n R q kk := by
    unfold Pslices_BinarySearch_int_l3
    cases h : (PkS.un Sslices_BinarySearch_int_l3 q) with
    | none => rfl
    | some d =>
      obtain ⟨y3_0, y3_1, y3_2, y3_3, y3_4, u⟩ := (d : (List Int) × Int × Int × Int × Int × Unit)
      have hp := PkS.un_pack h
      subst hp
      exact (eslices_BinarySearch_int_l3 @cmp_Less_int @slices_isNaN_int @slices_BinarySearch_int_l3 n y3_0 y3_1 y3_2 y3_3 y3_4 kk).symm
theorem nlslices_BinarySearch_int_l3 : ∀ n, NatLP (Pslices_BinarySearch_int_l3 @slices_BinarySearch_int_l3 n) := leslices_BinarySearch_int_l3.nat (fun n => mkK_nat (cslices_BinarySearch_int n)) fun n => mkL_nat (mkK_nat (cslices_BinarySearch_int n)) (l := []) trivial
theorem inslices_BinarySearch_int_l3 (n : Nat) (R : Type) : LoopsOk Try.prog (mkL (mkK [(83, Kcmp_Less_int @cmp_Less_int n), (84, Kslices_isNaN_int @slices_isNaN_int n)]) [] R) (loopIn 3 (bodyOf Try.f80)) := .eq (l := []) (by kernel_rfl) trivial
theorem lkslices_BinarySearch_int_l3 (n : Nat) (R : Type) (L0 : LK R) (h0 : ∀ id, firstRegion (loopIn 3 (bodyOf Try.f80)) = some id → L0 id = Dslices_BinarySearch_int_l3.oracle (mkK [(83, Kcmp_Less_int @cmp_Less_int n), (84, Kslices_isNaN_int @slices_isNaN_int n)] R) (Pslices_BinarySearch_int_l3 @slices_BinarySearch_int_l3 n R)) : LoopOk Try.prog L0 (loopIn 3 (bodyOf Try.f80)) :=
  leslices_BinarySearch_int_l3.ok mixed ttok (fun n => mkK_nat (cslices_BinarySearch_int n)) (fun n => mkK_ok (cslices_BinarySearch_int n)) (fun n => inslices_BinarySearch_int_l3 n R) (mkK_nat (cslices_BinarySearch_int n)) h0
@[reducible] def Sslices_BinarySearch_int : PkS := ⟨[.one (.ro (.int .i64)), .one (.int .i64)], []⟩
@[reducible] def Tslices_BinarySearch_int : PkS := ⟨[.tup [(false, [.int .i64]), (false, [.bool])], .one (.dead), .one (.dead)], []⟩
def Hslices_BinarySearch_int : List Sh := [.tup [(false, [.any]), (false, [.any])], .skip, .skip]
def Kslices_BinarySearch_int (g : ∀ {R : Type}, Nat → (List Int) → Int → (Int → Bool → Option R) → Option R) (n : Nat) : KPs := fun R p k => match (PkS.un Sslices_BinarySearch_int p : Option ((List Int) × Int × Unit)) with
  | some (x0, x1, _) => g n x0 x1 (fun r0 r1 => k (PkS.pack Tslices_BinarySearch_int (r0, r1, ())))
  | none => none
theorem eslices_BinarySearch_int (cmp_Less_int : ∀ {R : Type}, Nat → Int → Int → (Bool → Option R) → Option R) (slices_isNaN_int : ∀ {R : Type}, Nat → Int → (Bool → Option R) → Option R) (slices_BinarySearch_int_l3 : ∀ {R : Type}, Nat → (List Int) → Int → Int → Int → Int → ((List Int) → Int → Int → Int → Option R) → Option R) {R : Type} (n : Nat) (x0 : List Int) (x1 : Int) (k : Pk → Option R) : evF tt sig (mkK [(83, Kcmp_Less_int @cmp_Less_int n), (84, Kslices_isNaN_int @slices_isNaN_int n)] R) (mkL (mkK [(83, Kcmp_Less_int @cmp_Less_int n), (84, Kslices_isNaN_int @slices_isNaN_int n)]) [(3, Dslices_BinarySearch_int_l3, Pslices_BinarySearch_int_l3 @slices_BinarySearch_int_l3 n)] R) Try.f80 Hslices_BinarySearch_int (PkS.pack Sslices_BinarySearch_int (x0, x1, ())) k = (fun (k : Int → Bool → Option R) => (slices_BinarySearch_int_l3 n x0 x1 (x0.length : Int) 0 (x0.length : Int) (fun r2 r3 r4 r5 => (bif (decide (r5 < r4)) then (bif decide (0 ≤ r5) then (bif decide (r5 < (r2.length : Int)) then (bif ((r2.getD (Int.toNat r5) 0) == r3) then k r5 true else (bif decide (0 ≤ r5) then (bif decide (r5 < (r2.length : Int)) then (slices_isNaN_int n (r2.getD (Int.toNat r5) 0) fun r6 => (bif r6 then (slices_isNaN_int n r3 fun r7 => k r5 r7) else k r5 false)) else none) else none)) else none) else none) else k r5 false)))) (fun r0 r1 => k (PkS.pack Tslices_BinarySearch_int (r0, r1, ()))) := by kernel_rfl
theorem okslices_BinarySearch_int (n : Nat) : FnOk Try.prog 80 (Kslices_BinarySearch_int @slices_BinarySearch_int n) := by
  refine fn_ok (sig := sig) mixed ttok (mkK_nat (cslices_BinarySearch_int n)) (mkK_ok (cslices_BinarySearch_int n)) (mkL_nat (mkK_nat (cslices_BinarySearch_int n)) (l := [(3, Dslices_BinarySearch_int_l3, Pslices_BinarySearch_int_l3 @slices_BinarySearch_int_l3 n)]) ⟨nlslices_BinarySearch_int_l3 n, trivial⟩) (fn := Try.f80) (c := bodyOf Try.f80) (by kernel_rfl) (by kernel_rfl) (by kernel_rfl) (.eq (l := [.lo (loopIn 3 (bodyOf Try.f80))]) (by kernel_rfl) ⟨(lkslices_BinarySearch_int_l3 n _ _ (at_id (i := 3) (by kernel_rfl) rfl)), trivial⟩) (shs := Hslices_BinarySearch_int) (S := Sslices_BinarySearch_int) (h1 := by kernel_rfl) fun R p k => ?_
  unfold Kslices_BinarySearch_int
  cases h : (PkS.un Sslices_BinarySearch_int p) with
  | none => rfl
  | some d =>
    obtain ⟨x0, x1, u⟩ := (d : (List Int) × Int × Unit)
    have hp := PkS.un_pack h
    subst hp
    exact (eslices_BinarySearch_int @cmp_Less_int @slices_isNaN_int @slices_BinarySearch_int_l3 n x0 x1 k).symm

/-! ### slices.Insert[[]int,int] -/
theorem cslices_Insert_int (n : Nat) : AllOk Try.prog [] := trivial
@[reducible] def Sslices_Insert_int : PkS := ⟨[.one (.whole (200000, 0)), .one (.int .i64), .one (.whole (200000, 1))], [((200000, 0), .arr (.int .i64)), ((200000, 1), .arr (.int .i64))]⟩
@[reducible] def Tslices_Insert_int : PkS := ⟨[.one (.whole (300000, 0)), .one (.dead), .one (.dead), .one (.dead)], [((300000, 0), .arr (.int .i64))]⟩
def Kslices_Insert_int (g : ∀ {R : Type}, Nat → Int → (List Int) → (List Int) → ((List Int) → Option R) → Option R) (n : Nat) : KPs := fun R p k => match (PkS.un Sslices_Insert_int p : Option (Int × (List Int) × (List Int) × Unit)) with
  | some (x0, x1, x2, _) => g n x0 x1 x2 (fun r0 => k (PkS.pack Tslices_Insert_int (r0, ())))
  | none => none
def ren21 : Go.Shelf.Ren := ⟨fun n => match n with
  | 21 => 81
  | 27 => 85
  | 28 => 86
  | 35 => 88
  | 39 => 60
  | _ => 0, fun n => match n with
  | 0 => 0
  | 3 => 3
  | 4 => 4
  | 22 => 29
  | _ => 0, fun x => x⟩
theorem lays21 : Go.Proofs.Lays2.n21 Try.prog ren21 where
  mixed := by kernel_rfl
  f21 := by kernel_rfl
  f27 := by kernel_rfl
  f28 := by kernel_rfl
  f35 := by kernel_rfl
  f39 := by kernel_rfl
  t0 := by kernel_rfl
  a0 w := by kernel_rfl
  z0 w := by kernel_rfl
  v0 w := by kernel_rfl
  t3 := by kernel_rfl
  a3 w := by kernel_rfl
  z3 w := by kernel_rfl
  v3 w := by kernel_rfl
  t4 := by kernel_rfl
  a4 w := by kernel_rfl
  z4 w := by kernel_rfl
  v4 w := by kernel_rfl
  t22 := by kernel_rfl
  a22 w := by kernel_rfl
  z22 w := by kernel_rfl
  v22 w := by kernel_rfl
  i3 := by kernel_rfl
theorem okslices_Insert_int (n : Nat) : FnOk Try.prog 81 (Kslices_Insert_int @slices_Insert_int n) := by
  have e : Kslices_Insert_int @slices_Insert_int n = insK := by kernel_rfl
  rw [e]
  exact insert_ok lays21 rfl (fn := Try.f81) (c := bodyOf Try.f81) (by kernel_rfl) (by kernel_rfl) (by kernel_rfl)

/-! ### loop.example/g00269/impl.with -/
theorem cimpl_with (n : Nat) : AllOk Try.prog [(80, Kslices_BinarySearch_int @slices_BinarySearch_int n), (71, Kslices_Clone_int @slices_Clone_int n), (81, Kslices_Insert_int @slices_Insert_int n)] := ⟨okslices_BinarySearch_int n, ⟨okslices_Clone_int n, ⟨okslices_Insert_int n, trivial⟩⟩⟩
@[reducible] def Simpl_with : PkS := ⟨[.one (.whole (200000, 0)), .one (.int .i64)], [((200000, 0), .arr (.int .i64))]⟩
@[reducible] def Timpl_with : PkS := ⟨[.one (.whole (300000, 0)), .one (.dead), .one (.dead)], [((300000, 0), .arr (.int .i64))]⟩
def Himpl_with : List Sh := [.one (.own (.int .i64)), .skip, .skip]
def Kimpl_with (g : ∀ {R : Type}, Nat → Int → (List Int) → ((List Int) → Option R) → Option R) (n : Nat) : KPs := fun R p k => match (PkS.un Simpl_with p : Option (Int × (List Int) × Unit)) with
  | some (x0, x1, _) => g n x0 x1 (fun r0 => k (PkS.pack Timpl_with (r0, ())))
  | none => none
theorem eimpl_with (slices_BinarySearch_int : ∀ {R : Type}, Nat → (List Int) → Int → (Int → Bool → Option R) → Option R) (slices_Clone_int : ∀ {R : Type}, Nat → (List Int) → ((List Int) → Option R) → Option R) (slices_Insert_int : ∀ {R : Type}, Nat → Int → (List Int) → (List Int) → ((List Int) → Option R) → Option R) {R : Type} (n : Nat) (x0 : Int) (x1 : List Int) (k : Pk → Option R) : evF tt sig (mkK [(80, Kslices_BinarySearch_int @slices_BinarySearch_int n), (71, Kslices_Clone_int @slices_Clone_int n), (81, Kslices_Insert_int @slices_Insert_int n)] R) (mkL (mkK [(80, Kslices_BinarySearch_int @slices_BinarySearch_int n), (71, Kslices_Clone_int @slices_Clone_int n), (81, Kslices_Insert_int @slices_Insert_int n)]) [] R) Try.f72 Himpl_with (PkS.pack Simpl_with (x0, x1, ())) k = (fun (k : (List Int) → Option R) => (slices_BinarySearch_int n x1 x0 fun r1 r2 => (bif r2 then k x1 else (slices_Clone_int n x1 fun r3 => (slices_Insert_int n r1 r3 [x0] fun r4 => k r4))))) (fun r0 => k (PkS.pack Timpl_with (r0, ()))) := by kernel_rfl
theorem okimpl_with (n : Nat) : FnOk Try.prog 72 (Kimpl_with @impl_with n) := by
  refine fn_ok (sig := sig) mixed ttok (mkK_nat (cimpl_with n)) (mkK_ok (cimpl_with n)) (mkL_nat (mkK_nat (cimpl_with n)) (l := []) trivial) (fn := Try.f72) (c := bodyOf Try.f72) (by kernel_rfl) (by kernel_rfl) (by kernel_rfl) (.eq (l := []) (by kernel_rfl) trivial) (shs := Himpl_with) (S := Simpl_with) (h1 := by kernel_rfl) fun R p k => ?_
  unfold Kimpl_with
  cases h : (PkS.un Simpl_with p) with
  | none => rfl
  | some d =>
    obtain ⟨x0, x1, u⟩ := (d : Int × (List Int) × Unit)
    have hp := PkS.un_pack h
    subst hp
    exact (eimpl_with @slices_BinarySearch_int @slices_Clone_int @slices_Insert_int n x0 x1 k).symm

/-! ### loop.example/g00269/impl.least$1 -/
theorem cimpl_least_c1 (n : Nat) : AllOk Try.prog [(53, Kslices_Contains_int @slices_Contains_int n), (72, Kimpl_with @impl_with n)] := ⟨okslices_Contains_int n, ⟨okimpl_with n, trivial⟩⟩
@[reducible] def Simpl_least_c1 : PkS := ⟨[.one (.int .i64), .one (.whole (200000, 0)), .one (.box (200000, 1) 0), .one (.box (200000, 4) 0)], [((200000, 0), .arr (.int .i64)), ((200000, 1), .box [.ro (.pr (.int .i64) (.sl (.int .i64)))]), ((200000, 2), .arr (.int .i64)), ((200000, 3), .arr (.int .i64)), ((200000, 4), .box [.whole (200000, 2), .int .i64, .whole (200000, 3)])]⟩
@[reducible] def Timpl_least_c1 : PkS := ⟨[.one (.whole (300000, 0)), .one (.dead), .one (.dead), .one (.box (300000, 1) 0), .one (.box (300000, 4) 0)], [((300000, 0), .arr (.int .i64)), ((300000, 1), .box [.ro (.pr (.int .i64) (.sl (.int .i64)))]), ((300000, 2), .arr (.int .i64)), ((300000, 3), .arr (.int .i64)), ((300000, 4), .box [.whole (300000, 2), .int .i64, .whole (300000, 3)])]⟩
def Himpl_least_c1 : List Sh := [.one (.own (.int .i64)), .skip, .skip, .box [(.ro (.pr (.int .i64) (.sl (.int .i64))))], .box [(.own (.int .i64)), .any, (.own (.int .i64))]]
def Kimpl_least_c1 (g : ∀ {R : Type}, Nat → Int → (List Int) → (List (Int × List Int)) → (List Int) → (List Int) → Int → ((List Int) → (List (Int × List Int)) → (List Int) → (List Int) → Int → Option R) → Option R) (n : Nat) : KPs := fun R p k => match (PkS.un Simpl_least_c1 p : Option (Int × (List Int) × (List (Int × List Int)) × (List Int) × (List Int) × Int × Unit)) with
  | some (x0, x1, x2, x3, x4, x5, _) => g n x0 x1 x2 x3 x4 x5 (fun r0 r1 r2 r3 r4 => k (PkS.pack Timpl_least_c1 (r0, r1, r2, r3, r4, ())))
  | none => none
theorem eimpl_least_c1 (slices_Contains_int : ∀ {R : Type}, Nat → (List Int) → Int → (Bool → Option R) → Option R) (impl_with : ∀ {R : Type}, Nat → Int → (List Int) → ((List Int) → Option R) → Option R) {R : Type} (n : Nat) (x0 : Int) (x1 : List Int) (x2 : List (Int × List Int)) (x3 : List Int) (x4 : List Int) (x5 : Int) (k : Pk → Option R) : evF tt sig (mkK [(53, Kslices_Contains_int @slices_Contains_int n), (72, Kimpl_with @impl_with n)] R) (mkL (mkK [(53, Kslices_Contains_int @slices_Contains_int n), (72, Kimpl_with @impl_with n)]) [] R) Try.f74 Himpl_least_c1 (PkS.pack Simpl_least_c1 (x0, x1, x2, x3, x4, x5, ())) k = (fun (k : (List Int) → (List (Int × List Int)) → (List Int) → (List Int) → Int → Option R) => (bif decide (0 ≤ x0) then (bif decide (x0 < (x2.length : Int)) then (slices_Contains_int n x3 ((x2.getD (Int.toNat x0) (0, [])).1) fun r1 => (bif r1 then k x1 x2 x3 x4 x5 else (impl_with n ((x2.getD (Int.toNat x0) (0, [])).1) x3 fun r2 => (bif decide (x4.length + [x0].length ≤ LIM) then (bif decide (x1.length + ([(x2.getD (Int.toNat x0) (0, [])).1]).length ≤ LIM) then k (x1 ++ [(x2.getD (Int.toNat x0) (0, [])).1]) x2 r2 (x4 ++ [x0]) x5 else none) else none)))) else none) else none)) (fun r0 r1 r2 r3 r4 => k (PkS.pack Timpl_least_c1 (r0, r1, r2, r3, r4, ()))) := by kernel_rfl
theorem okimpl_least_c1 (n : Nat) : FnOk Try.prog 74 (Kimpl_least_c1 @impl_least_c1 n) := by
  refine fn_ok (sig := sig) mixed ttok (mkK_nat (cimpl_least_c1 n)) (mkK_ok (cimpl_least_c1 n)) (mkL_nat (mkK_nat (cimpl_least_c1 n)) (l := []) trivial) (fn := Try.f74) (c := bodyOf Try.f74) (by kernel_rfl) (by kernel_rfl) (by kernel_rfl) (.eq (l := []) (by kernel_rfl) trivial) (shs := Himpl_least_c1) (S := Simpl_least_c1) (h1 := by kernel_rfl) fun R p k => ?_
  unfold Kimpl_least_c1
  cases h : (PkS.un Simpl_least_c1 p) with
  | none => rfl
  | some d =>
    obtain ⟨x0, x1, x2, x3, x4, x5, u⟩ := (d : Int × (List Int) × (List (Int × List Int)) × (List Int) × (List Int) × Int × Unit)
    have hp := PkS.un_pack h
    subst hp
    exact (eimpl_least_c1 @slices_Contains_int @impl_with n x0 x1 x2 x3 x4 x5 k).symm

/-! ### loop.example/g00269/impl.least -/
theorem cimpl_least (n : Nat) : AllOk Try.prog [(71, Kslices_Clone_int @slices_Clone_int n), (74, Kimpl_least_c1 @impl_least_c1 n), (53, Kslices_Contains_int @slices_Contains_int n)] := ⟨okslices_Clone_int n, ⟨okimpl_least_c1 n, ⟨okslices_Contains_int n, trivial⟩⟩⟩
@[reducible] def Simpl_least_l5 : PkS := ⟨[.one (.ro (.int .i64)), .one (.box (100000, 0) 0), .one (.box (100000, 3) 0), .one (.box (100000, 6) 0), .one (.whole (100000, 7)), .one (.fn 74 [((100000, 0), 0), ((100000, 6), 0)]), .one (.whole (100000, 8)), .one (.ro (.pr (.int .i64) (.sl (.int .i64)))), .one (.int .i64), .one (.int .i64), .one (.dead), .one (.dead)], [((100000, 0), .box [.ro (.pr (.int .i64) (.sl (.int .i64)))]), ((100000, 1), .arr (.int .i64)), ((100000, 2), .arr (.int .i64)), ((100000, 3), .box [.whole (100000, 1), .int .i64, .whole (100000, 2)]), ((100000, 4), .arr (.int .i64)), ((100000, 5), .arr (.int .i64)), ((100000, 6), .box [.whole (100000, 4), .int .i64, .whole (100000, 5)]), ((100000, 7), .arr (.int .i64)), ((100000, 8), .arr (.int .i64))]⟩
@[reducible] def Timpl_least_l5_0 : PkS := ⟨[.one (.ro (.int .i64)), .one (.box (100000, 0) 0), .one (.box (100000, 3) 0), .one (.box (100000, 6) 0), .one (.whole (100000, 7)), .one (.fn 74 [((100000, 0), 0), ((100000, 6), 0)]), .one (.whole (100000, 8)), .one (.dead), .one (.dead)], [((100000, 0), .box [.ro (.pr (.int .i64) (.sl (.int .i64)))]), ((100000, 1), .arr (.int .i64)), ((100000, 2), .arr (.int .i64)), ((100000, 3), .box [.whole (100000, 1), .int .i64, .whole (100000, 2)]), ((100000, 4), .arr (.int .i64)), ((100000, 5), .arr (.int .i64)), ((100000, 6), .box [.whole (100000, 4), .int .i64, .whole (100000, 5)]), ((100000, 7), .arr (.int .i64)), ((100000, 8), .arr (.int .i64))]⟩
def Dimpl_least_l5 : LoopD := ⟨109, [1, 2, 4, 5, 6, 7, 8, 22, 23, 24], [.one (.ro (.int .i64)), .box [(.ro (.pr (.int .i64) (.sl (.int .i64))))], .box [(.own (.int .i64)), .any, (.own (.int .i64))], .box [(.own (.int .i64)), .any, (.own (.int .i64))], .one (.own (.int .i64)), .fn 74 [[(.ro (.pr (.int .i64) (.sl (.int .i64))))], [(.own (.int .i64)), .any, (.own (.int .i64))]], .one (.own (.int .i64)), .one (.ro (.pr (.int .i64) (.sl (.int .i64)))), .one .any, .one .any, .skip, .skip], fun x => match x with
  | .exit 0 => some ([1, 2, 4, 5, 6, 7, 8], [.one (.ro (.int .i64)), .box [(.ro (.pr (.int .i64) (.sl (.int .i64))))], .box [(.own (.int .i64)), .any, (.own (.int .i64))], .box [(.own (.int .i64)), .any, (.own (.int .i64))], .one (.own (.int .i64)), .fn 74 [[(.ro (.pr (.int .i64) (.sl (.int .i64))))], [(.own (.int .i64)), .any, (.own (.int .i64))]], .one (.own (.int .i64)), .skip, .skip])
  | _ => none⟩
def Pimpl_least_l5 (g : ∀ {R : Type}, Nat → (List Int) → (List (Int × List Int)) → Int → Int → (List (Int × List Int)) → (List Int) → (List Int) → Int → (List Int) → (List Int) → Int → (List Int) → (List Int) → ((List Int) → (List (Int × List Int)) → (List Int) → (List Int) → Int → (List Int) → (List Int) → Int → (List Int) → (List Int) → Option R) → Option R) (n : Nat) : LPs := fun R q kk => match (PkS.un Simpl_least_l5 q : Option ((List Int) × (List (Int × List Int)) × Int × Int × (List (Int × List Int)) × (List Int) × (List Int) × Int × (List Int) × (List Int) × Int × (List Int) × (List Int) × Unit)) with
  | some (y5_0, y5_1, y5_2, y5_3, y5_4, y5_5, y5_6, y5_7, y5_8, y5_9, y5_10, y5_11, y5_12, _) => g n y5_0 y5_1 y5_2 y5_3 y5_4 y5_5 y5_6 y5_7 y5_8 y5_9 y5_10 y5_11 y5_12 (fun r0 r1 r2 r3 r4 r5 r6 r7 r8 r9 => kk (.exit 0) (PkS.pack Timpl_least_l5_0 (r0, r1, r2, r3, r4, r5, r6, r7, r8, r9, ())))
  | none => none
theorem eimpl_least_l5 (slices_Clone_int : ∀ {R : Type}, Nat → (List Int) → ((List Int) → Option R) → Option R) (impl_least_c1 : ∀ {R : Type}, Nat → Int → (List Int) → (List (Int × List Int)) → (List Int) → (List Int) → Int → ((List Int) → (List (Int × List Int)) → (List Int) → (List Int) → Int → Option R) → Option R) (slices_Contains_int : ∀ {R : Type}, Nat → (List Int) → Int → (Bool → Option R) → Option R) (impl_least_l5 : ∀ {R : Type}, Nat → (List Int) → (List (Int × List Int)) → Int → Int → (List (Int × List Int)) → (List Int) → (List Int) → Int → (List Int) → (List Int) → Int → (List Int) → (List Int) → ((List Int) → (List (Int × List Int)) → (List Int) → (List Int) → Int → (List Int) → (List Int) → Int → (List Int) → (List Int) → Option R) → Option R) {R : Type} (n : Nat) (y5_0 : List Int) (y5_1 : List (Int × List Int)) (y5_2 : Int) (y5_3 : Int) (y5_4 : List (Int × List Int)) (y5_5 : List Int) (y5_6 : List Int) (y5_7 : Int) (y5_8 : List Int) (y5_9 : List Int) (y5_10 : Int) (y5_11 : List Int) (y5_12 : List Int) (kk : Ex → Pk → Option R) : Dimpl_least_l5.step tt sig (mkK [(71, Kslices_Clone_int @slices_Clone_int n), (74, Kimpl_least_c1 @impl_least_c1 n), (53, Kslices_Contains_int @slices_Contains_int n)] R) (mkL (mkK [(71, Kslices_Clone_int @slices_Clone_int n), (74, Kimpl_least_c1 @impl_least_c1 n), (53, Kslices_Contains_int @slices_Contains_int n)]) [] R) (loopIn 5 (bodyOf Try.f57)) (fun q' => Pimpl_least_l5 @impl_least_l5 n R q' kk) (PkS.pack Simpl_least_l5 (y5_0, y5_1, y5_2, y5_3, y5_4, y5_5, y5_6, y5_7, y5_8, y5_9, y5_10, y5_11, y5_12, ())) kk = (fun (kexit0 : (List Int) → (List (Int × List Int)) → (List Int) → (List Int) → Int → (List Int) → (List Int) → Int → (List Int) → (List Int) → Option R) => (bif (decide (y5_3 < y5_2)) then (bif decide (0 ≤ y5_3) then (bif decide (y5_3 < (y5_1.length : Int)) then (bif decide (y5_11.length + ([(((y5_1.getD (Int.toNat y5_3) (0, [])).2).length : Int)]).length ≤ LIM) then (bif (decide ((((y5_1.getD (Int.toNat y5_3) (0, [])).2).length : Int) > 0)) then impl_least_l5 n y5_0 y5_1 y5_2 (IntKind.wrap .i64 (y5_3 + 1)) y5_4 y5_5 y5_6 y5_7 y5_8 y5_9 y5_10 (y5_11 ++ [(((y5_1.getD (Int.toNat y5_3) (0, [])).2).length : Int)]) y5_12 kexit0 else (impl_least_c1 n y5_3 ([] : List Int) y5_4 y5_8 y5_9 y5_10 fun r2 r3 r4 r5 r6 => (slices_Contains_int n y5_12 ((y5_1.getD (Int.toNat y5_3) (0, [])).1) fun r7 => (bif (!r7) then (bif decide (y5_12.length + ([(y5_1.getD (Int.toNat y5_3) (0, [])).1]).length ≤ LIM) then impl_least_l5 n y5_0 y5_1 y5_2 (IntKind.wrap .i64 (y5_3 + 1)) r3 y5_5 y5_6 y5_7 r4 r5 r6 (y5_11 ++ [(((y5_1.getD (Int.toNat y5_3) (0, [])).2).length : Int)]) (y5_12 ++ [(y5_1.getD (Int.toNat y5_3) (0, [])).1]) kexit0 else none) else impl_least_l5 n y5_0 y5_1 y5_2 (IntKind.wrap .i64 (y5_3 + 1)) r3 y5_5 y5_6 y5_7 r4 r5 r6 (y5_11 ++ [(((y5_1.getD (Int.toNat y5_3) (0, [])).2).length : Int)]) y5_12 kexit0)))) else none) else none) else none) else kexit0 y5_0 y5_4 y5_5 y5_6 y5_7 y5_8 y5_9 y5_10 y5_11 y5_12)) (fun r0 r1 r2 r3 r4 r5 r6 r7 r8 r9 => kk (.exit 0) (PkS.pack Timpl_least_l5_0 (r0, r1, r2, r3, r4, r5, r6, r7, r8, r9, ()))) := by kernel_rfl
theorem leimpl_least_l5 : LoopEq tt sig (fun n => mkK [(71, Kslices_Clone_int @slices_Clone_int n), (74, Kimpl_least_c1 @impl_least_c1 n), (53, Kslices_Contains_int @slices_Contains_int n)]) (fun n => mkL (mkK [(71, Kslices_Clone_int @slices_Clone_int n), (74, Kimpl_least_c1 @impl_least_c1 n), (53, Kslices_Contains_int @slices_Contains_int n)]) []) Dimpl_least_l5 Simpl_least_l5 (loopIn 5 (bodyOf Try.f57)) (Pimpl_least_l5 @impl_least_l5) where
  zero R q kk := by unfold Pimpl_least_l5; cases (PkS.un Simpl_least_l5 q) <;> rfl
  succ n R q kk := by
    unfold Pimpl_least_l5
    cases h : (PkS.un Simpl_least_l5 q) with
    | none => rfl
    | some d =>
      obtain ⟨y5_0, y5_1, y5_2, y5_3, y5_4, y5_5, y5_6, y5_7, y5_8, y5_9, y5_10, y5_11, y5_12, u⟩ := (d : (List Int) × (List (Int × List Int)) × Int × Int × (List (Int × List Int)) × (List Int) × (List Int) × Int × (List Int) × (List Int) × Int × (List Int) × (List Int) × Unit)
      have hp := PkS.un_pack h
      subst hp
      exact (eimpl_least_l5 @slices_Clone_int @impl_least_c1 @slices_Contains_int @impl_least_l5 n y5_0 y5_1 y5_2 y5_3 y5_4 y5_5 y5_6 y5_7 y5_8 y5_9 y5_10 y5_11 y5_12 kk).symm
theorem nlimpl_least_l5 : ∀ n, NatLP (Pimpl_least_l5 @impl_least_l5 n) := leimpl_least_l5.nat (fun n => mkK_nat (cimpl_least n)) fun n => mkL_nat (mkK_nat (cimpl_least n)) (l := []) trivial
theorem inimpl_least_l5 (n : Nat) (R : Type) : LoopsOk Try.prog (mkL (mkK [(71, Kslices_Clone_int @slices_Clone_int n), (74, Kimpl_least_c1 @impl_least_c1 n), (53, Kslices_Contains_int @slices_Contains_int n)]) [] R) (loopIn 5 (bodyOf Try.f57)) := .eq (l := []) (by kernel_rfl) trivial
theorem lkimpl_least_l5 (n : Nat) (R : Type) (L0 : LK R) (h0 : ∀ id, firstRegion (loopIn 5 (bodyOf Try.f57)) = some id → L0 id = Dimpl_least_l5.oracle (mkK [(71, Kslices_Clone_int @slices_Clone_int n), (74, Kimpl_least_c1 @impl_least_c1 n), (53, Kslices_Contains_int @slices_Contains_int n)] R) (Pimpl_least_l5 @impl_least_l5 n R)) : LoopOk Try.prog L0 (loopIn 5 (bodyOf Try.f57)) :=
  leimpl_least_l5.ok mixed ttok (fun n => mkK_nat (cimpl_least n)) (fun n => mkK_ok (cimpl_least n)) (fun n => inimpl_least_l5 n R) (mkK_nat (cimpl_least n)) h0
@[reducible] def Simpl_least_l14 : PkS := ⟨[.one (.box (100000, 0) 0), .one (.box (100000, 3) 0), .one (.box (100000, 6) 0), .one (.whole (100000, 7)), .one (.fn 74 [((100000, 0), 0), ((100000, 6), 0)]), .one (.whole (100000, 8)), .one (.ro (.int .i64)), .one (.int .i64), .one (.int .i64), .one (.dead), .one (.dead)], [((100000, 0), .box [.ro (.pr (.int .i64) (.sl (.int .i64)))]), ((100000, 1), .arr (.int .i64)), ((100000, 2), .arr (.int .i64)), ((100000, 3), .box [.whole (100000, 1), .int .i64, .whole (100000, 2)]), ((100000, 4), .arr (.int .i64)), ((100000, 5), .arr (.int .i64)), ((100000, 6), .box [.whole (100000, 4), .int .i64, .whole (100000, 5)]), ((100000, 7), .arr (.int .i64)), ((100000, 8), .arr (.int .i64))]⟩
@[reducible] def Timpl_least_l14_0 : PkS := ⟨[.one (.box (100000, 0) 0), .one (.box (100000, 3) 0), .one (.box (100000, 6) 0), .one (.whole (100000, 7)), .one (.fn 74 [((100000, 0), 0), ((100000, 6), 0)]), .one (.whole (100000, 8)), .one (.dead), .one (.dead)], [((100000, 0), .box [.ro (.pr (.int .i64) (.sl (.int .i64)))]), ((100000, 1), .arr (.int .i64)), ((100000, 2), .arr (.int .i64)), ((100000, 3), .box [.whole (100000, 1), .int .i64, .whole (100000, 2)]), ((100000, 4), .arr (.int .i64)), ((100000, 5), .arr (.int .i64)), ((100000, 6), .box [.whole (100000, 4), .int .i64, .whole (100000, 5)]), ((100000, 7), .arr (.int .i64)), ((100000, 8), .arr (.int .i64))]⟩
def Dimpl_least_l14 : LoopD := ⟨109, [2, 4, 5, 6, 7, 8, 53, 54, 55], [.box [(.ro (.pr (.int .i64) (.sl (.int .i64))))], .box [(.own (.int .i64)), .any, (.own (.int .i64))], .box [(.own (.int .i64)), .any, (.own (.int .i64))], .one (.own (.int .i64)), .fn 74 [[(.ro (.pr (.int .i64) (.sl (.int .i64))))], [(.own (.int .i64)), .any, (.own (.int .i64))]], .one (.own (.int .i64)), .one (.ro (.int .i64)), .one .any, .one .any, .skip, .skip], fun x => match x with
  | .exit 2 => some ([2, 4, 5, 6, 7, 8], [.box [(.ro (.pr (.int .i64) (.sl (.int .i64))))], .box [(.own (.int .i64)), .any, (.own (.int .i64))], .box [(.own (.int .i64)), .any, (.own (.int .i64))], .one (.own (.int .i64)), .fn 74 [[(.ro (.pr (.int .i64) (.sl (.int .i64))))], [(.own (.int .i64)), .any, (.own (.int .i64))]], .one (.own (.int .i64)), .skip, .skip])
  | _ => none⟩
def Pimpl_least_l14 (g : ∀ {R : Type}, Nat → (List Int) → Int → Int → (List (Int × List Int)) → (List Int) → (List Int) → Int → (List Int) → (List Int) → Int → (List Int) → (List Int) → ((List (Int × List Int)) → (List Int) → (List Int) → Int → (List Int) → (List Int) → Int → (List Int) → (List Int) → Option R) → Option R) (n : Nat) : LPs := fun R q kk => match (PkS.un Simpl_least_l14 q : Option ((List Int) × Int × Int × (List (Int × List Int)) × (List Int) × (List Int) × Int × (List Int) × (List Int) × Int × (List Int) × (List Int) × Unit)) with
  | some (y14_0, y14_1, y14_2, y14_3, y14_4, y14_5, y14_6, y14_7, y14_8, y14_9, y14_10, y14_11, _) => g n y14_0 y14_1 y14_2 y14_3 y14_4 y14_5 y14_6 y14_7 y14_8 y14_9 y14_10 y14_11 (fun r0 r1 r2 r3 r4 r5 r6 r7 r8 => kk (.exit 2) (PkS.pack Timpl_least_l14_0 (r0, r1, r2, r3, r4, r5, r6, r7, r8, ())))
  | none => none
theorem eimpl_least_l14 (slices_Clone_int : ∀ {R : Type}, Nat → (List Int) → ((List Int) → Option R) → Option R) (impl_least_c1 : ∀ {R : Type}, Nat → Int → (List Int) → (List (Int × List Int)) → (List Int) → (List Int) → Int → ((List Int) → (List (Int × List Int)) → (List Int) → (List Int) → Int → Option R) → Option R) (slices_Contains_int : ∀ {R : Type}, Nat → (List Int) → Int → (Bool → Option R) → Option R) (impl_least_l5 : ∀ {R : Type}, Nat → (List Int) → (List (Int × List Int)) → Int → Int → (List (Int × List Int)) → (List Int) → (List Int) → Int → (List Int) → (List Int) → Int → (List Int) → (List Int) → ((List Int) → (List (Int × List Int)) → (List Int) → (List Int) → Int → (List Int) → (List Int) → Int → (List Int) → (List Int) → Option R) → Option R) (impl_least_l14 : ∀ {R : Type}, Nat → (List Int) → Int → Int → (List (Int × List Int)) → (List Int) → (List Int) → Int → (List Int) → (List Int) → Int → (List Int) → (List Int) → ((List (Int × List Int)) → (List Int) → (List Int) → Int → (List Int) → (List Int) → Int → (List Int) → (List Int) → Option R) → Option R) {R : Type} (n : Nat) (y14_0 : List Int) (y14_1 : Int) (y14_2 : Int) (y14_3 : List (Int × List Int)) (y14_4 : List Int) (y14_5 : List Int) (y14_6 : Int) (y14_7 : List Int) (y14_8 : List Int) (y14_9 : Int) (y14_10 : List Int) (y14_11 : List Int) (kk : Ex → Pk → Option R) : Dimpl_least_l14.step tt sig (mkK [(71, Kslices_Clone_int @slices_Clone_int n), (74, Kimpl_least_c1 @impl_least_c1 n), (53, Kslices_Contains_int @slices_Contains_int n)] R) (mkL (mkK [(71, Kslices_Clone_int @slices_Clone_int n), (74, Kimpl_least_c1 @impl_least_c1 n), (53, Kslices_Contains_int @slices_Contains_int n)]) [(5, Dimpl_least_l5, Pimpl_least_l5 @impl_least_l5 n)] R) (loopIn 14 (bodyOf Try.f57)) (fun q' => Pimpl_least_l14 @impl_least_l14 n R q' kk) (PkS.pack Simpl_least_l14 (y14_0, y14_1, y14_2, y14_3, y14_4, y14_5, y14_6, y14_7, y14_8, y14_9, y14_10, y14_11, ())) kk = (fun (kexit2 : (List (Int × List Int)) → (List Int) → (List Int) → Int → (List Int) → (List Int) → Int → (List Int) → (List Int) → Option R) => (bif (decide (y14_2 < y14_1)) then (bif decide (0 ≤ y14_2) then (bif decide (y14_2 < (y14_0.length : Int)) then (slices_Contains_int n y14_11 (y14_0.getD (Int.toNat y14_2) 0) fun r18 => (bif (!r18) then (bif decide (y14_11.length + ([(y14_0.getD (Int.toNat y14_2) 0)]).length ≤ LIM) then impl_least_l14 n y14_0 y14_1 (IntKind.wrap .i64 (y14_2 + 1)) y14_3 y14_4 y14_5 y14_6 y14_7 y14_8 y14_9 y14_10 (y14_11 ++ [(y14_0.getD (Int.toNat y14_2) 0)]) kexit2 else none) else impl_least_l14 n y14_0 y14_1 (IntKind.wrap .i64 (y14_2 + 1)) y14_3 y14_4 y14_5 y14_6 y14_7 y14_8 y14_9 y14_10 y14_11 kexit2)) else none) else none) else kexit2 y14_3 y14_4 y14_5 y14_6 y14_7 y14_8 y14_9 y14_10 y14_11)) (fun r0 r1 r2 r3 r4 r5 r6 r7 r8 => kk (.exit 2) (PkS.pack Timpl_least_l14_0 (r0, r1, r2, r3, r4, r5, r6, r7, r8, ()))) := by kernel_rfl
theorem leimpl_least_l14 : LoopEq tt sig (fun n => mkK [(71, Kslices_Clone_int @slices_Clone_int n), (74, Kimpl_least_c1 @impl_least_c1 n), (53, Kslices_Contains_int @slices_Contains_int n)]) (fun n => mkL (mkK [(71, Kslices_Clone_int @slices_Clone_int n), (74, Kimpl_least_c1 @impl_least_c1 n), (53, Kslices_Contains_int @slices_Contains_int n)]) [(5, Dimpl_least_l5, Pimpl_least_l5 @impl_least_l5 n)]) Dimpl_least_l14 Simpl_least_l14 (loopIn 14 (bodyOf Try.f57)) (Pimpl_least_l14 @impl_least_l14) where
  zero R q kk := by unfold Pimpl_least_l14; cases (PkS.un Simpl_least_l14 q) <;> rfl
  succ n R q kk := by
    unfold Pimpl_least_l14
    cases h : (PkS.un Simpl_least_l14 q) with
    | none => rfl
    | some d =>
      obtain ⟨y14_0, y14_1, y14_2, y14_3, y14_4, y14_5, y14_6, y14_7, y14_8, y14_9, y14_10, y14_11, u⟩ := (d : (List Int) × Int × Int × (List (Int × List Int)) × (List Int) × (List Int) × Int × (List Int) × (List Int) × Int × (List Int) × (List Int) × Unit)
      have hp := PkS.un_pack h
      subst hp
      exact (eimpl_least_l14 @slices_Clone_int @impl_least_c1 @slices_Contains_int @impl_least_l5 @impl_least_l14 n y14_0 y14_1 y14_2 y14_3 y14_4 y14_5 y14_6 y14_7 y14_8 y14_9 y14_10 y14_11 kk).symm
theorem nlimpl_least_l14 : ∀ n, NatLP (Pimpl_least_l14 @impl_least_l14 n) := leimpl_least_l14.nat (fun n => mkK_nat (cimpl_least n)) fun n => mkL_nat (mkK_nat (cimpl_least n)) (l := [(5, Dimpl_least_l5, Pimpl_least_l5 @impl_least_l5 n)]) ⟨nlimpl_least_l5 n, trivial⟩
theorem inimpl_least_l14 (n : Nat) (R : Type) : LoopsOk Try.prog (mkL (mkK [(71, Kslices_Clone_int @slices_Clone_int n), (74, Kimpl_least_c1 @impl_least_c1 n), (53, Kslices_Contains_int @slices_Contains_int n)]) [(5, Dimpl_least_l5, Pimpl_least_l5 @impl_least_l5 n)] R) (loopIn 14 (bodyOf Try.f57)) := .eq (l := []) (by kernel_rfl) trivial
theorem lkimpl_least_l14 (n : Nat) (R : Type) (L0 : LK R) (h0 : ∀ id, firstRegion (loopIn 14 (bodyOf Try.f57)) = some id → L0 id = Dimpl_least_l14.oracle (mkK [(71, Kslices_Clone_int @slices_Clone_int n), (74, Kimpl_least_c1 @impl_least_c1 n), (53, Kslices_Contains_int @slices_Contains_int n)] R) (Pimpl_least_l14 @impl_least_l14 n R)) : LoopOk Try.prog L0 (loopIn 14 (bodyOf Try.f57)) :=
  leimpl_least_l14.ok mixed ttok (fun n => mkK_nat (cimpl_least n)) (fun n => mkK_ok (cimpl_least n)) (fun n => inimpl_least_l14 n R) (mkK_nat (cimpl_least n)) h0
@[reducible] def Simpl_least_l23 : PkS := ⟨[.one (.box (100000, 0) 0), .one (.box (100000, 3) 0), .one (.box (100000, 6) 0), .one (.whole (100000, 7)), .one (.fn 74 [((100000, 0), 0), ((100000, 6), 0)]), .one (.whole (100000, 8)), .one (.int .i64), .one (.ro (.pr (.int .i64) (.sl (.int .i64)))), .one (.int .i64), .one (.int .i64), .one (.dead), .one (.dead)], [((100000, 0), .box [.ro (.pr (.int .i64) (.sl (.int .i64)))]), ((100000, 1), .arr (.int .i64)), ((100000, 2), .arr (.int .i64)), ((100000, 3), .box [.whole (100000, 1), .int .i64, .whole (100000, 2)]), ((100000, 4), .arr (.int .i64)), ((100000, 5), .arr (.int .i64)), ((100000, 6), .box [.whole (100000, 4), .int .i64, .whole (100000, 5)]), ((100000, 7), .arr (.int .i64)), ((100000, 8), .arr (.int .i64))]⟩
@[reducible] def Timpl_least_l23_0 : PkS := ⟨[.one (.box (100000, 0) 0), .one (.box (100000, 3) 0), .one (.box (100000, 6) 0), .one (.whole (100000, 7)), .one (.fn 74 [((100000, 0), 0), ((100000, 6), 0)]), .one (.whole (100000, 8)), .one (.dead), .one (.dead)], [((100000, 0), .box [.ro (.pr (.int .i64) (.sl (.int .i64)))]), ((100000, 1), .arr (.int .i64)), ((100000, 2), .arr (.int .i64)), ((100000, 3), .box [.whole (100000, 1), .int .i64, .whole (100000, 2)]), ((100000, 4), .arr (.int .i64)), ((100000, 5), .arr (.int .i64)), ((100000, 6), .box [.whole (100000, 4), .int .i64, .whole (100000, 5)]), ((100000, 7), .arr (.int .i64)), ((100000, 8), .arr (.int .i64))]⟩
def Dimpl_least_l23 : LoopD := ⟨109, [2, 4, 5, 6, 7, 8, 13, 76, 77, 78], [.box [(.ro (.pr (.int .i64) (.sl (.int .i64))))], .box [(.own (.int .i64)), .any, (.own (.int .i64))], .box [(.own (.int .i64)), .any, (.own (.int .i64))], .one (.own (.int .i64)), .fn 74 [[(.ro (.pr (.int .i64) (.sl (.int .i64))))], [(.own (.int .i64)), .any, (.own (.int .i64))]], .one (.own (.int .i64)), .one .any, .one (.ro (.pr (.int .i64) (.sl (.int .i64)))), .one .any, .one .any, .skip, .skip], fun x => match x with
  | .exit 6 => some ([2, 4, 5, 6, 7, 8], [.box [(.ro (.pr (.int .i64) (.sl (.int .i64))))], .box [(.own (.int .i64)), .any, (.own (.int .i64))], .box [(.own (.int .i64)), .any, (.own (.int .i64))], .one (.own (.int .i64)), .fn 74 [[(.ro (.pr (.int .i64) (.sl (.int .i64))))], [(.own (.int .i64)), .any, (.own (.int .i64))]], .one (.own (.int .i64)), .skip, .skip])
  | _ => none⟩
def Pimpl_least_l23 (g : ∀ {R : Type}, Nat → Int → (List (Int × List Int)) → Int → Int → (List (Int × List Int)) → (List Int) → (List Int) → Int → (List Int) → (List Int) → Int → (List Int) → (List Int) → ((List (Int × List Int)) → (List Int) → (List Int) → Int → (List Int) → (List Int) → Int → (List Int) → (List Int) → Option R) → Option R) (n : Nat) : LPs := fun R q kk => match (PkS.un Simpl_least_l23 q : Option (Int × (List (Int × List Int)) × Int × Int × (List (Int × List Int)) × (List Int) × (List Int) × Int × (List Int) × (List Int) × Int × (List Int) × (List Int) × Unit)) with
  | some (y23_0, y23_1, y23_2, y23_3, y23_4, y23_5, y23_6, y23_7, y23_8, y23_9, y23_10, y23_11, y23_12, _) => g n y23_0 y23_1 y23_2 y23_3 y23_4 y23_5 y23_6 y23_7 y23_8 y23_9 y23_10 y23_11 y23_12 (fun r0 r1 r2 r3 r4 r5 r6 r7 r8 => kk (.exit 6) (PkS.pack Timpl_least_l23_0 (r0, r1, r2, r3, r4, r5, r6, r7, r8, ())))
  | none => none
theorem eimpl_least_l23 (slices_Clone_int : ∀ {R : Type}, Nat → (List Int) → ((List Int) → Option R) → Option R) (impl_least_c1 : ∀ {R : Type}, Nat → Int → (List Int) → (List (Int × List Int)) → (List Int) → (List Int) → Int → ((List Int) → (List (Int × List Int)) → (List Int) → (List Int) → Int → Option R) → Option R) (slices_Contains_int : ∀ {R : Type}, Nat → (List Int) → Int → (Bool → Option R) → Option R) (impl_least_l5 : ∀ {R : Type}, Nat → (List Int) → (List (Int × List Int)) → Int → Int → (List (Int × List Int)) → (List Int) → (List Int) → Int → (List Int) → (List Int) → Int → (List Int) → (List Int) → ((List Int) → (List (Int × List Int)) → (List Int) → (List Int) → Int → (List Int) → (List Int) → Int → (List Int) → (List Int) → Option R) → Option R) (impl_least_l14 : ∀ {R : Type}, Nat → (List Int) → Int → Int → (List (Int × List Int)) → (List Int) → (List Int) → Int → (List Int) → (List Int) → Int → (List Int) → (List Int) → ((List (Int × List Int)) → (List Int) → (List Int) → Int → (List Int) → (List Int) → Int → (List Int) → (List Int) → Option R) → Option R) (impl_least_l23 : ∀ {R : Type}, Nat → Int → (List (Int × List Int)) → Int → Int → (List (Int × List Int)) → (List Int) → (List Int) → Int → (List Int) → (List Int) → Int → (List Int) → (List Int) → ((List (Int × List Int)) → (List Int) → (List Int) → Int → (List Int) → (List Int) → Int → (List Int) → (List Int) → Option R) → Option R) {R : Type} (n : Nat) (y23_0 : Int) (y23_1 : List (Int × List Int)) (y23_2 : Int) (y23_3 : Int) (y23_4 : List (Int × List Int)) (y23_5 : List Int) (y23_6 : List Int) (y23_7 : Int) (y23_8 : List Int) (y23_9 : List Int) (y23_10 : Int) (y23_11 : List Int) (y23_12 : List Int) (kk : Ex → Pk → Option R) : Dimpl_least_l23.step tt sig (mkK [(71, Kslices_Clone_int @slices_Clone_int n), (74, Kimpl_least_c1 @impl_least_c1 n), (53, Kslices_Contains_int @slices_Contains_int n)] R) (mkL (mkK [(71, Kslices_Clone_int @slices_Clone_int n), (74, Kimpl_least_c1 @impl_least_c1 n), (53, Kslices_Contains_int @slices_Contains_int n)]) [(5, Dimpl_least_l5, Pimpl_least_l5 @impl_least_l5 n), (14, Dimpl_least_l14, Pimpl_least_l14 @impl_least_l14 n)] R) (loopIn 23 (bodyOf Try.f57)) (fun q' => Pimpl_least_l23 @impl_least_l23 n R q' kk) (PkS.pack Simpl_least_l23 (y23_0, y23_1, y23_2, y23_3, y23_4, y23_5, y23_6, y23_7, y23_8, y23_9, y23_10, y23_11, y23_12, ())) kk = (fun (kexit6 : (List (Int × List Int)) → (List Int) → (List Int) → Int → (List Int) → (List Int) → Int → (List Int) → (List Int) → Option R) => (bif (decide (y23_3 < y23_2)) then (bif decide (0 ≤ y23_3) then (bif decide (y23_3 < (y23_1.length : Int)) then (slices_Contains_int n ((y23_1.getD (Int.toNat y23_3) (0, [])).2) y23_0 fun r28 => (bif (!r28) then impl_least_l23 n y23_0 y23_1 y23_2 (IntKind.wrap .i64 (y23_3 + 1)) y23_4 y23_5 y23_6 y23_7 y23_8 y23_9 y23_10 y23_11 y23_12 kexit6 else (bif decide (0 ≤ y23_3) then (bif decide (y23_3 < (y23_11.length : Int)) then (bif decide (0 ≤ y23_3) then (bif decide (y23_3 < (y23_11.length : Int)) then (bif decide (0 ≤ y23_3) then (bif decide (y23_3 < ((y23_11.set (Int.toNat y23_3) (IntKind.wrap .i64 ((y23_11.getD (Int.toNat y23_3) 0) - 1))).length : Int)) then (bif (((y23_11.set (Int.toNat y23_3) (IntKind.wrap .i64 ((y23_11.getD (Int.toNat y23_3) 0) - 1))).getD (Int.toNat y23_3) 0) == 0) then (impl_least_c1 n y23_3 y23_12 y23_4 y23_8 y23_9 (IntKind.wrap .i64 (y23_10 + 1)) fun r29 r30 r31 r32 r33 => impl_least_l23 n y23_0 y23_1 y23_2 (IntKind.wrap .i64 (y23_3 + 1)) r30 y23_5 y23_6 y23_7 r31 r32 r33 (y23_11.set (Int.toNat y23_3) (IntKind.wrap .i64 ((y23_11.getD (Int.toNat y23_3) 0) - 1))) r29 kexit6) else impl_least_l23 n y23_0 y23_1 y23_2 (IntKind.wrap .i64 (y23_3 + 1)) y23_4 y23_5 y23_6 y23_7 y23_8 y23_9 (IntKind.wrap .i64 (y23_10 + 1)) (y23_11.set (Int.toNat y23_3) (IntKind.wrap .i64 ((y23_11.getD (Int.toNat y23_3) 0) - 1))) y23_12 kexit6) else none) else none) else none) else none) else none) else none))) else none) else none) else kexit6 y23_4 y23_5 y23_6 y23_7 y23_8 y23_9 y23_10 y23_11 y23_12)) (fun r0 r1 r2 r3 r4 r5 r6 r7 r8 => kk (.exit 6) (PkS.pack Timpl_least_l23_0 (r0, r1, r2, r3, r4, r5, r6, r7, r8, ()))) := by kernel_rfl
theorem leimpl_least_l23 : LoopEq tt sig (fun n => mkK [(71, Kslices_Clone_int @slices_Clone_int n), (74, Kimpl_least_c1 @impl_least_c1 n), (53, Kslices_Contains_int @slices_Contains_int n)]) (fun n => mkL (mkK [(71, Kslices_Clone_int @slices_Clone_int n), (74, Kimpl_least_c1 @impl_least_c1 n), (53, Kslices_Contains_int @slices_Contains_int n)]) [(5, Dimpl_least_l5, Pimpl_least_l5 @impl_least_l5 n), (14, Dimpl_least_l14, Pimpl_least_l14 @impl_least_l14 n)]) Dimpl_least_l23 Simpl_least_l23 (loopIn 23 (bodyOf Try.f57)) (Pimpl_least_l23 @impl_least_l23) where
  zero R q kk := by unfold Pimpl_least_l23; cases (PkS.un Simpl_least_l23 q) <;> rfl
  succ n R q kk := by
    unfold Pimpl_least_l23
    cases h : (PkS.un Simpl_least_l23 q) with
    | none => rfl
    | some d =>
      obtain ⟨y23_0, y23_1, y23_2, y23_3, y23_4, y23_5, y23_6, y23_7, y23_8, y23_9, y23_10, y23_11, y23_12, u⟩ := (d : Int × (List (Int × List Int)) × Int × Int × (List (Int × List Int)) × (List Int) × (List Int) × Int × (List Int) × (List Int) × Int × (List Int) × (List Int) × Unit)
      have hp := PkS.un_pack h
      subst hp
      exact (eimpl_least_l23 @slices_Clone_int @impl_least_c1 @slices_Contains_int @impl_least_l5 @impl_least_l14 @impl_least_l23 n y23_0 y23_1 y23_2 y23_3 y23_4 y23_5 y23_6 y23_7 y23_8 y23_9 y23_10 y23_11 y23_12 kk).symm
theorem nlimpl_least_l23 : ∀ n, NatLP (Pimpl_least_l23 @impl_least_l23 n) := leimpl_least_l23.nat (fun n => mkK_nat (cimpl_least n)) fun n => mkL_nat (mkK_nat (cimpl_least n)) (l := [(5, Dimpl_least_l5, Pimpl_least_l5 @impl_least_l5 n), (14, Dimpl_least_l14, Pimpl_least_l14 @impl_least_l14 n)]) ⟨nlimpl_least_l5 n, ⟨nlimpl_least_l14 n, trivial⟩⟩
theorem inimpl_least_l23 (n : Nat) (R : Type) : LoopsOk Try.prog (mkL (mkK [(71, Kslices_Clone_int @slices_Clone_int n), (74, Kimpl_least_c1 @impl_least_c1 n), (53, Kslices_Contains_int @slices_Contains_int n)]) [(5, Dimpl_least_l5, Pimpl_least_l5 @impl_least_l5 n), (14, Dimpl_least_l14, Pimpl_least_l14 @impl_least_l14 n)] R) (loopIn 23 (bodyOf Try.f57)) := .eq (l := []) (by kernel_rfl) trivial
theorem lkimpl_least_l23 (n : Nat) (R : Type) (L0 : LK R) (h0 : ∀ id, firstRegion (loopIn 23 (bodyOf Try.f57)) = some id → L0 id = Dimpl_least_l23.oracle (mkK [(71, Kslices_Clone_int @slices_Clone_int n), (74, Kimpl_least_c1 @impl_least_c1 n), (53, Kslices_Contains_int @slices_Contains_int n)] R) (Pimpl_least_l23 @impl_least_l23 n R)) : LoopOk Try.prog L0 (loopIn 23 (bodyOf Try.f57)) :=
  leimpl_least_l23.ok mixed ttok (fun n => mkK_nat (cimpl_least n)) (fun n => mkK_ok (cimpl_least n)) (fun n => inimpl_least_l23 n R) (mkK_nat (cimpl_least n)) h0
@[reducible] def Simpl_least_l19 : PkS := ⟨[.one (.box (100000, 0) 0), .one (.box (100000, 3) 0), .one (.box (100000, 6) 0), .one (.whole (100000, 7)), .one (.fn 74 [((100000, 0), 0), ((100000, 6), 0)]), .one (.whole (100000, 8)), .one (.dead), .one (.dead)], [((100000, 0), .box [.ro (.pr (.int .i64) (.sl (.int .i64)))]), ((100000, 1), .arr (.int .i64)), ((100000, 2), .arr (.int .i64)), ((100000, 3), .box [.whole (100000, 1), .int .i64, .whole (100000, 2)]), ((100000, 4), .arr (.int .i64)), ((100000, 5), .arr (.int .i64)), ((100000, 6), .box [.whole (100000, 4), .int .i64, .whole (100000, 5)]), ((100000, 7), .arr (.int .i64)), ((100000, 8), .arr (.int .i64))]⟩
@[reducible] def Timpl_least_l19_0 : PkS := ⟨[.one (.box (100000, 2) 0), .one (.box (100000, 5) 0), .one (.dead), .one (.dead)], [((100000, 0), .arr (.int .i64)), ((100000, 1), .arr (.int .i64)), ((100000, 2), .box [.whole (100000, 0), .int .i64, .whole (100000, 1)]), ((100000, 3), .arr (.int .i64)), ((100000, 4), .arr (.int .i64)), ((100000, 5), .box [.whole (100000, 3), .int .i64, .whole (100000, 4)])]⟩
def Dimpl_least_l19 : LoopD := ⟨109, [2, 4, 5, 6, 7, 8], [.box [(.ro (.pr (.int .i64) (.sl (.int .i64))))], .box [(.own (.int .i64)), .any, (.own (.int .i64))], .box [(.own (.int .i64)), .any, (.own (.int .i64))], .one (.own (.int .i64)), .fn 74 [[(.ro (.pr (.int .i64) (.sl (.int .i64))))], [(.own (.int .i64)), .any, (.own (.int .i64))]], .one (.own (.int .i64)), .skip, .skip], fun x => match x with
  | .exit 4 => some ([4, 5], [.box [(.own (.int .i64)), .any, (.own (.int .i64))], .box [(.own (.int .i64)), .any, (.own (.int .i64))], .skip, .skip])
  | _ => none⟩
def Pimpl_least_l19 (g : ∀ {R : Type}, Nat → (List (Int × List Int)) → (List Int) → (List Int) → Int → (List Int) → (List Int) → Int → (List Int) → (List Int) → ((List Int) → (List Int) → Int → (List Int) → (List Int) → Int → Option R) → Option R) (n : Nat) : LPs := fun R q kk => match (PkS.un Simpl_least_l19 q : Option ((List (Int × List Int)) × (List Int) × (List Int) × Int × (List Int) × (List Int) × Int × (List Int) × (List Int) × Unit)) with
  | some (y19_0, y19_1, y19_2, y19_3, y19_4, y19_5, y19_6, y19_7, y19_8, _) => g n y19_0 y19_1 y19_2 y19_3 y19_4 y19_5 y19_6 y19_7 y19_8 (fun r0 r1 r2 r3 r4 r5 => kk (.exit 4) (PkS.pack Timpl_least_l19_0 (r0, r1, r2, r3, r4, r5, ())))
  | none => none
theorem eimpl_least_l19 (slices_Clone_int : ∀ {R : Type}, Nat → (List Int) → ((List Int) → Option R) → Option R) (impl_least_c1 : ∀ {R : Type}, Nat → Int → (List Int) → (List (Int × List Int)) → (List Int) → (List Int) → Int → ((List Int) → (List (Int × List Int)) → (List Int) → (List Int) → Int → Option R) → Option R) (slices_Contains_int : ∀ {R : Type}, Nat → (List Int) → Int → (Bool → Option R) → Option R) (impl_least_l5 : ∀ {R : Type}, Nat → (List Int) → (List (Int × List Int)) → Int → Int → (List (Int × List Int)) → (List Int) → (List Int) → Int → (List Int) → (List Int) → Int → (List Int) → (List Int) → ((List Int) → (List (Int × List Int)) → (List Int) → (List Int) → Int → (List Int) → (List Int) → Int → (List Int) → (List Int) → Option R) → Option R) (impl_least_l14 : ∀ {R : Type}, Nat → (List Int) → Int → Int → (List (Int × List Int)) → (List Int) → (List Int) → Int → (List Int) → (List Int) → Int → (List Int) → (List Int) → ((List (Int × List Int)) → (List Int) → (List Int) → Int → (List Int) → (List Int) → Int → (List Int) → (List Int) → Option R) → Option R) (impl_least_l23 : ∀ {R : Type}, Nat → Int → (List (Int × List Int)) → Int → Int → (List (Int × List Int)) → (List Int) → (List Int) → Int → (List Int) → (List Int) → Int → (List Int) → (List Int) → ((List (Int × List Int)) → (List Int) → (List Int) → Int → (List Int) → (List Int) → Int → (List Int) → (List Int) → Option R) → Option R) (impl_least_l19 : ∀ {R : Type}, Nat → (List (Int × List Int)) → (List Int) → (List Int) → Int → (List Int) → (List Int) → Int → (List Int) → (List Int) → ((List Int) → (List Int) → Int → (List Int) → (List Int) → Int → Option R) → Option R) {R : Type} (n : Nat) (y19_0 : List (Int × List Int)) (y19_1 : List Int) (y19_2 : List Int) (y19_3 : Int) (y19_4 : List Int) (y19_5 : List Int) (y19_6 : Int) (y19_7 : List Int) (y19_8 : List Int) (kk : Ex → Pk → Option R) : Dimpl_least_l19.step tt sig (mkK [(71, Kslices_Clone_int @slices_Clone_int n), (74, Kimpl_least_c1 @impl_least_c1 n), (53, Kslices_Contains_int @slices_Contains_int n)] R) (mkL (mkK [(71, Kslices_Clone_int @slices_Clone_int n), (74, Kimpl_least_c1 @impl_least_c1 n), (53, Kslices_Contains_int @slices_Contains_int n)]) [(5, Dimpl_least_l5, Pimpl_least_l5 @impl_least_l5 n), (14, Dimpl_least_l14, Pimpl_least_l14 @impl_least_l14 n), (23, Dimpl_least_l23, Pimpl_least_l23 @impl_least_l23 n)] R) (loopIn 19 (bodyOf Try.f57)) (fun q' => Pimpl_least_l19 @impl_least_l19 n R q' kk) (PkS.pack Simpl_least_l19 (y19_0, y19_1, y19_2, y19_3, y19_4, y19_5, y19_6, y19_7, y19_8, ())) kk = (fun (kexit4 : (List Int) → (List Int) → Int → (List Int) → (List Int) → Int → Option R) => (bif (decide ((y19_8.length : Int) > 0)) then (bif decide (0 < (y19_8.length : Int)) then (bif decide (1 ≤ (y19_8.length : Int)) then (bif decide ((y19_8.length : Int) ≤ (y19_8.length : Int)) then (impl_least_l23 n (y19_8.getD 0 0) y19_0 (y19_0.length : Int) 0 y19_0 y19_1 y19_2 y19_3 y19_4 y19_5 y19_6 y19_7 ((y19_8.drop 1).take ((Int.toNat (y19_8.length : Int)) - 1)) (fun r34 r35 r36 r37 r38 r39 r40 r41 r42 => impl_least_l19 n r34 r35 r36 r37 r38 r39 r40 r41 r42 kexit4)) else none) else none) else none) else kexit4 y19_1 y19_2 y19_3 y19_4 y19_5 y19_6)) (fun r0 r1 r2 r3 r4 r5 => kk (.exit 4) (PkS.pack Timpl_least_l19_0 (r0, r1, r2, r3, r4, r5, ()))) := by kernel_rfl
theorem leimpl_least_l19 : LoopEq tt sig (fun n => mkK [(71, Kslices_Clone_int @slices_Clone_int n), (74, Kimpl_least_c1 @impl_least_c1 n), (53, Kslices_Contains_int @slices_Contains_int n)]) (fun n => mkL (mkK [(71, Kslices_Clone_int @slices_Clone_int n), (74, Kimpl_least_c1 @impl_least_c1 n), (53, Kslices_Contains_int @slices_Contains_int n)]) [(5, Dimpl_least_l5, Pimpl_least_l5 @impl_least_l5 n), (14, Dimpl_least_l14, Pimpl_least_l14 @impl_least_l14 n), (23, Dimpl_least_l23, Pimpl_least_l23 @impl_least_l23 n)]) Dimpl_least_l19 Simpl_least_l19 (loopIn 19 (bodyOf Try.f57)) (Pimpl_least_l19 @impl_least_l19) where
  zero R q kk := by unfold Pimpl_least_l19; cases (PkS.un Simpl_least_l19 q) <;> rfl
  succ n R q kk := by
    unfold Pimpl_least_l19
    cases h : (PkS.un Simpl_least_l19 q) with
    | none => rfl
    | some d =>
      obtain ⟨y19_0, y19_1, y19_2, y19_3, y19_4, y19_5, y19_6, y19_7, y19_8, u⟩ := (d : (List (Int × List Int)) × (List Int) × (List Int) × Int × (List Int) × (List Int) × Int × (List Int) × (List Int) × Unit)
      have hp := PkS.un_pack h
      subst hp
      exact (eimpl_least_l19 @slices_Clone_int @impl_least_c1 @slices_Contains_int @impl_least_l5 @impl_least_l14 @impl_least_l23 @impl_least_l19 n y19_0 y19_1 y19_2 y19_3 y19_4 y19_5 y19_6 y19_7 y19_8 kk).symm
theorem nlimpl_least_l19 : ∀ n, NatLP (Pimpl_least_l19 @impl_least_l19 n) := leimpl_least_l19.nat (fun n => mkK_nat (cimpl_least n)) fun n => mkL_nat (mkK_nat (cimpl_least n)) (l := [(5, Dimpl_least_l5, Pimpl_least_l5 @impl_least_l5 n), (14, Dimpl_least_l14, Pimpl_least_l14 @impl_least_l14 n), (23, Dimpl_least_l23, Pimpl_least_l23 @impl_least_l23 n)]) ⟨nlimpl_least_l5 n, ⟨nlimpl_least_l14 n, ⟨nlimpl_least_l23 n, trivial⟩⟩⟩
theorem inimpl_least_l19 (n : Nat) (R : Type) : LoopsOk Try.prog (mkL (mkK [(71, Kslices_Clone_int @slices_Clone_int n), (74, Kimpl_least_c1 @impl_least_c1 n), (53, Kslices_Contains_int @slices_Contains_int n)]) [(5, Dimpl_least_l5, Pimpl_least_l5 @impl_least_l5 n), (14, Dimpl_least_l14, Pimpl_least_l14 @impl_least_l14 n), (23, Dimpl_least_l23, Pimpl_least_l23 @impl_least_l23 n)] R) (loopIn 19 (bodyOf Try.f57)) := .eq (l := [.lo (loopIn 23 (bodyOf Try.f57))]) (by kernel_rfl) ⟨(lkimpl_least_l23 n R _ (at_id (i := 23) (by kernel_rfl) rfl)), trivial⟩
theorem lkimpl_least_l19 (n : Nat) (R : Type) (L0 : LK R) (h0 : ∀ id, firstRegion (loopIn 19 (bodyOf Try.f57)) = some id → L0 id = Dimpl_least_l19.oracle (mkK [(71, Kslices_Clone_int @slices_Clone_int n), (74, Kimpl_least_c1 @impl_least_c1 n), (53, Kslices_Contains_int @slices_Contains_int n)] R) (Pimpl_least_l19 @impl_least_l19 n R)) : LoopOk Try.prog L0 (loopIn 19 (bodyOf Try.f57)) :=
  leimpl_least_l19.ok mixed ttok (fun n => mkK_nat (cimpl_least n)) (fun n => mkK_ok (cimpl_least n)) (fun n => inimpl_least_l19 n R) (mkK_nat (cimpl_least n)) h0
@[reducible] def Simpl_least : PkS := ⟨[.one (.ro (.pr (.int .i64) (.sl (.int .i64)))), .one (.ro (.int .i64))], []⟩
@[reducible] def Timpl_least : PkS := ⟨[.agg [.whole (300000, 0), .int .i64, .whole (300000, 1)], .one (.dead), .one (.dead)], [((300000, 0), .arr (.int .i64)), ((300000, 1), .arr (.int .i64))]⟩
def Himpl_least : List Sh := [.agg [(.own (.int .i64)), .any, (.own (.int .i64))], .skip, .skip]
def Kimpl_least (g : ∀ {R : Type}, Nat → (List (Int × List Int)) → (List Int) → (Int → (List Int) → (List Int) → Option R) → Option R) (n : Nat) : KPs := fun R p k => match (PkS.un Simpl_least p : Option ((List (Int × List Int)) × (List Int) × Unit)) with
  | some (x0, x1, _) => g n x0 x1 (fun r0 r1 r2 => k (PkS.pack Timpl_least (r0, r1, r2, ())))
  | none => none
theorem eimpl_least (slices_Clone_int : ∀ {R : Type}, Nat → (List Int) → ((List Int) → Option R) → Option R) (impl_least_c1 : ∀ {R : Type}, Nat → Int → (List Int) → (List (Int × List Int)) → (List Int) → (List Int) → Int → ((List Int) → (List (Int × List Int)) → (List Int) → (List Int) → Int → Option R) → Option R) (slices_Contains_int : ∀ {R : Type}, Nat → (List Int) → Int → (Bool → Option R) → Option R) (impl_least_l5 : ∀ {R : Type}, Nat → (List Int) → (List (Int × List Int)) → Int → Int → (List (Int × List Int)) → (List Int) → (List Int) → Int → (List Int) → (List Int) → Int → (List Int) → (List Int) → ((List Int) → (List (Int × List Int)) → (List Int) → (List Int) → Int → (List Int) → (List Int) → Int → (List Int) → (List Int) → Option R) → Option R) (impl_least_l14 : ∀ {R : Type}, Nat → (List Int) → Int → Int → (List (Int × List Int)) → (List Int) → (List Int) → Int → (List Int) → (List Int) → Int → (List Int) → (List Int) → ((List (Int × List Int)) → (List Int) → (List Int) → Int → (List Int) → (List Int) → Int → (List Int) → (List Int) → Option R) → Option R) (impl_least_l23 : ∀ {R : Type}, Nat → Int → (List (Int × List Int)) → Int → Int → (List (Int × List Int)) → (List Int) → (List Int) → Int → (List Int) → (List Int) → Int → (List Int) → (List Int) → ((List (Int × List Int)) → (List Int) → (List Int) → Int → (List Int) → (List Int) → Int → (List Int) → (List Int) → Option R) → Option R) (impl_least_l19 : ∀ {R : Type}, Nat → (List (Int × List Int)) → (List Int) → (List Int) → Int → (List Int) → (List Int) → Int → (List Int) → (List Int) → ((List Int) → (List Int) → Int → (List Int) → (List Int) → Int → Option R) → Option R) {R : Type} (n : Nat) (x0 : List (Int × List Int)) (x1 : List Int) (k : Pk → Option R) : evF tt sig (mkK [(71, Kslices_Clone_int @slices_Clone_int n), (74, Kimpl_least_c1 @impl_least_c1 n), (53, Kslices_Contains_int @slices_Contains_int n)] R) (mkL (mkK [(71, Kslices_Clone_int @slices_Clone_int n), (74, Kimpl_least_c1 @impl_least_c1 n), (53, Kslices_Contains_int @slices_Contains_int n)]) [(5, Dimpl_least_l5, Pimpl_least_l5 @impl_least_l5 n), (14, Dimpl_least_l14, Pimpl_least_l14 @impl_least_l14 n), (23, Dimpl_least_l23, Pimpl_least_l23 @impl_least_l23 n), (19, Dimpl_least_l19, Pimpl_least_l19 @impl_least_l19 n)] R) Try.f57 Himpl_least (PkS.pack Simpl_least (x0, x1, ())) k = (fun (k : Int → (List Int) → (List Int) → Option R) => (slices_Clone_int n x1 fun r1 => (impl_least_l5 n x1 x0 (x0.length : Int) 0 x0 ([] : List Int) ([] : List Int) 0 r1 ([] : List Int) 0 ([] : List Int) ([] : List Int) (fun r8 r9 r10 r11 r12 r13 r14 r15 r16 r17 => (impl_least_l14 n r8 (r8.length : Int) 0 r9 r10 r11 r12 r13 r14 r15 r16 r17 (fun r19 r20 r21 r22 r23 r24 r25 r26 r27 => (impl_least_l19 n r19 r20 r21 r22 r23 r24 r25 r26 r27 (fun r43 r44 r45 r46 r47 r48 => k r48 r46 r47)))))))) (fun r0 r1 r2 => k (PkS.pack Timpl_least (r0, r1, r2, ()))) := by kernel_rfl
theorem okimpl_least (n : Nat) : FnOk Try.prog 57 (Kimpl_least @impl_least n) := by
  refine fn_ok (sig := sig) mixed ttok (mkK_nat (cimpl_least n)) (mkK_ok (cimpl_least n)) (mkL_nat (mkK_nat (cimpl_least n)) (l := [(5, Dimpl_least_l5, Pimpl_least_l5 @impl_least_l5 n), (14, Dimpl_least_l14, Pimpl_least_l14 @impl_least_l14 n), (23, Dimpl_least_l23, Pimpl_least_l23 @impl_least_l23 n), (19, Dimpl_least_l19, Pimpl_least_l19 @impl_least_l19 n)]) ⟨nlimpl_least_l5 n, ⟨nlimpl_least_l14 n, ⟨nlimpl_least_l23 n, ⟨nlimpl_least_l19 n, trivial⟩⟩⟩⟩) (fn := Try.f57) (c := bodyOf Try.f57) (by kernel_rfl) (by kernel_rfl) (by kernel_rfl) (.eq (l := [.lo (loopIn 5 (bodyOf Try.f57)), .lo (loopIn 14 (bodyOf Try.f57)), .lo (loopIn 19 (bodyOf Try.f57))]) (by kernel_rfl) ⟨(lkimpl_least_l5 n _ _ (at_id (i := 5) (by kernel_rfl) rfl)), ⟨(lkimpl_least_l14 n _ _ (at_id (i := 14) (by kernel_rfl) rfl)), ⟨(lkimpl_least_l19 n _ _ (at_id (i := 19) (by kernel_rfl) rfl)), trivial⟩⟩⟩) (shs := Himpl_least) (S := Simpl_least) (h1 := by kernel_rfl) fun R p k => ?_
  unfold Kimpl_least
  cases h : (PkS.un Simpl_least p) with
  | none => rfl
  | some d =>
    obtain ⟨x0, x1, u⟩ := (d : (List (Int × List Int)) × (List Int) × Unit)
    have hp := PkS.un_pack h
    subst hp
    exact (eimpl_least @slices_Clone_int @impl_least_c1 @slices_Contains_int @impl_least_l5 @impl_least_l14 @impl_least_l23 @impl_least_l19 n x0 x1 k).symm

/-! ### loop.example/g00269/impl.Follows -/
theorem cimpl_Follows (n : Nat) : AllOk Try.prog [(50, Kimpl_rulesOk @impl_rulesOk n), (45, Kimpl_isFact @impl_isFact n), (57, Kimpl_least @impl_least n), (53, Kslices_Contains_int @slices_Contains_int n)] := ⟨okimpl_rulesOk n, ⟨okimpl_isFact n, ⟨okimpl_least n, ⟨okslices_Contains_int n, trivial⟩⟩⟩⟩
@[reducible] def Simpl_Follows : PkS := ⟨[.one (.ro (.pr (.int .i64) (.sl (.int .i64)))), .one (.ro (.int .i64)), .one (.int .i64)], []⟩
@[reducible] def Timpl_Follows : PkS := ⟨[.tup [(false, [.bool]), (false, [.bool])], .one (.dead), .one (.dead), .one (.dead)], []⟩
def Himpl_Follows : List Sh := [.tup [(false, [.any]), (false, [.any])], .skip, .skip, .skip]
def Kimpl_Follows (g : ∀ {R : Type}, Nat → (List (Int × List Int)) → (List Int) → Int → (Bool → Bool → Option R) → Option R) (n : Nat) : KPs := fun R p k => match (PkS.un Simpl_Follows p : Option ((List (Int × List Int)) × (List Int) × Int × Unit)) with
  | some (x0, x1, x2, _) => g n x0 x1 x2 (fun r0 r1 => k (PkS.pack Timpl_Follows (r0, r1, ())))
  | none => none
theorem eimpl_Follows (impl_rulesOk : ∀ {R : Type}, Nat → (List (Int × List Int)) → (List Int) → (Bool → Option R) → Option R) (impl_isFact : ∀ {R : Type}, Nat → Int → (Bool → Option R) → Option R) (impl_least : ∀ {R : Type}, Nat → (List (Int × List Int)) → (List Int) → (Int → (List Int) → (List Int) → Option R) → Option R) (slices_Contains_int : ∀ {R : Type}, Nat → (List Int) → Int → (Bool → Option R) → Option R) {R : Type} (n : Nat) (x0 : List (Int × List Int)) (x1 : List Int) (x2 : Int) (k : Pk → Option R) : evF tt sig (mkK [(50, Kimpl_rulesOk @impl_rulesOk n), (45, Kimpl_isFact @impl_isFact n), (57, Kimpl_least @impl_least n), (53, Kslices_Contains_int @slices_Contains_int n)] R) (mkL (mkK [(50, Kimpl_rulesOk @impl_rulesOk n), (45, Kimpl_isFact @impl_isFact n), (57, Kimpl_least @impl_least n), (53, Kslices_Contains_int @slices_Contains_int n)]) [] R) Try.f27 Himpl_Follows (PkS.pack Simpl_Follows (x0, x1, x2, ())) k = (fun (k : Bool → Bool → Option R) => (impl_rulesOk n x0 x1 fun r1 => (bif (!r1) then k false false else (impl_isFact n x2 fun r2 => (bif (!r2) then k false false else (impl_least n x0 x1 fun r3 r4 r5 => (slices_Contains_int n r4 x2 fun r6 => k r6 true))))))) (fun r0 r1 => k (PkS.pack Timpl_Follows (r0, r1, ()))) := by kernel_rfl
theorem okimpl_Follows (n : Nat) : FnOk Try.prog 27 (Kimpl_Follows @impl_Follows n) := by
  refine fn_ok (sig := sig) mixed ttok (mkK_nat (cimpl_Follows n)) (mkK_ok (cimpl_Follows n)) (mkL_nat (mkK_nat (cimpl_Follows n)) (l := []) trivial) (fn := Try.f27) (c := bodyOf Try.f27) (by kernel_rfl) (by kernel_rfl) (by kernel_rfl) (.eq (l := []) (by kernel_rfl) trivial) (shs := Himpl_Follows) (S := Simpl_Follows) (h1 := by kernel_rfl) fun R p k => ?_
  unfold Kimpl_Follows
  cases h : (PkS.un Simpl_Follows p) with
  | none => rfl
  | some d =>
    obtain ⟨x0, x1, x2, u⟩ := (d : (List (Int × List Int)) × (List Int) × Int × Unit)
    have hp := PkS.un_pack h
    subst hp
    exact (eimpl_Follows @impl_rulesOk @impl_isFact @impl_least @slices_Contains_int n x0 x1 x2 k).symm

/-! ### slices.Backward[[]int,int] -/
theorem cslices_Backward_int (n : Nat) : AllOk Try.prog [] := trivial
@[reducible] def Sslices_Backward_int : PkS := ⟨[.one (.ro (.int .i64))], []⟩
@[reducible] def Tslices_Backward_int : PkS := ⟨[.one (.fn 75 [((300000, 0), 0)]), .one (.dead)], [((300000, 0), .box [.ro (.int .i64)])]⟩
def Hslices_Backward_int : List Sh := [.fn 75 [[(.ro (.int .i64))]], .skip]
def Kslices_Backward_int (g : ∀ {R : Type}, Nat → (List Int) → ((List Int) → Option R) → Option R) (n : Nat) : KPs := fun R p k => match (PkS.un Sslices_Backward_int p : Option ((List Int) × Unit)) with
  | some (x0, _) => g n x0 (fun r0 => k (PkS.pack Tslices_Backward_int (r0, ())))
  | none => none
theorem eslices_Backward_int  {R : Type} (n : Nat) (x0 : List Int) (k : Pk → Option R) : evF tt sig (mkK [] R) (mkL (mkK []) [] R) Try.f59 Hslices_Backward_int (PkS.pack Sslices_Backward_int (x0, ())) k = (fun (k : (List Int) → Option R) => k x0) (fun r0 => k (PkS.pack Tslices_Backward_int (r0, ()))) := by kernel_rfl
theorem okslices_Backward_int (n : Nat) : FnOk Try.prog 59 (Kslices_Backward_int @slices_Backward_int n) := by
  refine fn_ok (sig := sig) mixed ttok (mkK_nat (cslices_Backward_int n)) (mkK_ok (cslices_Backward_int n)) (mkL_nat (mkK_nat (cslices_Backward_int n)) (l := []) trivial) (fn := Try.f59) (c := bodyOf Try.f59) (by kernel_rfl) (by kernel_rfl) (by kernel_rfl) (.eq (l := []) (by kernel_rfl) trivial) (shs := Hslices_Backward_int) (S := Sslices_Backward_int) (h1 := by kernel_rfl) fun R p k => ?_
  unfold Kslices_Backward_int
  cases h : (PkS.un Sslices_Backward_int p) with
  | none => rfl
  | some d =>
    obtain ⟨x0, u⟩ := (d : (List Int) × Unit)
    have hp := PkS.un_pack h
    subst hp
    exact (eslices_Backward_int  n x0 k).symm

/-! ### slices.Reverse[[]int,int] -/
theorem cslices_Reverse_int (n : Nat) : AllOk Try.prog [] := trivial
@[reducible] def Sslices_Reverse_int_l1 : PkS := ⟨[.one (.whole (100000, 0)), .one (.int .i64), .one (.int .i64), .one (.whole (100000, 0))], [((100000, 0), .arr (.int .i64))]⟩
@[reducible] def Tslices_Reverse_int_l1_0 : PkS := ⟨[.one (.whole (100000, 0))], [((100000, 0), .arr (.int .i64))]⟩
def Dslices_Reverse_int_l1 : LoopD := ⟨28, [0, 2, 3], [.one (.own (.int .i64)), .one .any, .one .any, .one (.own (.int .i64))], fun x => match x with
  | .exit 0 => some ([], [.one (.own (.int .i64))])
  | _ => none⟩
def Pslices_Reverse_int_l1 (g : ∀ {R : Type}, Nat → Int → Int → (List Int) → ((List Int) → Option R) → Option R) (n : Nat) : LPs := fun R q kk => match (PkS.un Sslices_Reverse_int_l1 q : Option (Int × Int × (List Int) × Unit)) with
  | some (y1_0, y1_1, y1_2, _) => g n y1_0 y1_1 y1_2 (fun r0 => kk (.exit 0) (PkS.pack Tslices_Reverse_int_l1_0 (r0, ())))
  | none => none
theorem eslices_Reverse_int_l1 (slices_Reverse_int_l1 : ∀ {R : Type}, Nat → Int → Int → (List Int) → ((List Int) → Option R) → Option R) {R : Type} (n : Nat) (y1_0 : Int) (y1_1 : Int) (y1_2 : List Int) (kk : Ex → Pk → Option R) : Dslices_Reverse_int_l1.step tt sig (mkK [] R) (mkL (mkK []) [] R) (loopIn 1 (bodyOf Try.f60)) (fun q' => Pslices_Reverse_int_l1 @slices_Reverse_int_l1 n R q' kk) (PkS.pack Sslices_Reverse_int_l1 (y1_0, y1_1, y1_2, ())) kk = (fun (kexit0 : (List Int) → Option R) => (bif (decide (y1_0 < y1_1)) then (bif decide (0 ≤ y1_1) then (bif decide (y1_1 < (y1_2.length : Int)) then (bif decide (0 ≤ y1_0) then (bif decide (y1_0 < (y1_2.length : Int)) then (bif decide (0 ≤ y1_0) then (bif decide (y1_0 < (y1_2.length : Int)) then (bif decide (0 ≤ y1_1) then (bif decide (y1_1 < ((y1_2.set (Int.toNat y1_0) (y1_2.getD (Int.toNat y1_1) 0)).length : Int)) then slices_Reverse_int_l1 n (IntKind.wrap .i64 (y1_0 + 1)) (IntKind.wrap .i64 (y1_1 - 1)) ((y1_2.set (Int.toNat y1_0) (y1_2.getD (Int.toNat y1_1) 0)).set (Int.toNat y1_1) (y1_2.getD (Int.toNat y1_0) 0)) kexit0 else none) else none) else none) else none) else none) else none) else none) else none) else kexit0 y1_2)) (fun r0 => kk (.exit 0) (PkS.pack Tslices_Reverse_int_l1_0 (r0, ()))) := by kernel_rfl
theorem leslices_Reverse_int_l1 : LoopEq tt sig (fun n => mkK []) (fun n => mkL (mkK []) []) Dslices_Reverse_int_l1 Sslices_Reverse_int_l1 (loopIn 1 (bodyOf Try.f60)) (Pslices_Reverse_int_l1 @slices_Reverse_int_l1) where
  zero R q kk := by unfold Pslices_Reverse_int_l1; cases (PkS.un Sslices_Reverse_int_l1 q) <;> rfl
  succ n R q kk := by
    unfold Pslices_Reverse_int_l1
    cases h : (PkS.un Sslices_Reverse_int_l1 q) with
    | none => rfl
    | some d =>
      obtain ⟨y1_0, y1_1, y1_2, u⟩ := (d : Int × Int × (List Int) × Unit)
      have hp := PkS.un_pack h
      subst hp
      exact (eslices_Reverse_int_l1 @slices_Reverse_int_l1 n y1_0 y1_1 y1_2 kk).symm
theorem nlslices_Reverse_int_l1 : ∀ n, NatLP (Pslices_Reverse_int_l1 @slices_Reverse_int_l1 n) := leslices_Reverse_int_l1.nat (fun n => mkK_nat (cslices_Reverse_int n)) fun n => mkL_nat (mkK_nat (cslices_Reverse_int n)) (l := []) trivial
theorem inslices_Reverse_int_l1 (n : Nat) (R : Type) : LoopsOk Try.prog (mkL (mkK []) [] R) (loopIn 1 (bodyOf Try.f60)) := .eq (l := []) (by kernel_rfl) trivial
theorem lkslices_Reverse_int_l1 (n : Nat) (R : Type) (L0 : LK R) (h0 : ∀ id, firstRegion (loopIn 1 (bodyOf Try.f60)) = some id → L0 id = Dslices_Reverse_int_l1.oracle (mkK [] R) (Pslices_Reverse_int_l1 @slices_Reverse_int_l1 n R)) : LoopOk Try.prog L0 (loopIn 1 (bodyOf Try.f60)) :=
  leslices_Reverse_int_l1.ok mixed ttok (fun n => mkK_nat (cslices_Reverse_int n)) (fun n => mkK_ok (cslices_Reverse_int n)) (fun n => inslices_Reverse_int_l1 n R) (mkK_nat (cslices_Reverse_int n)) h0
@[reducible] def Sslices_Reverse_int : PkS := ⟨[.one (.whole (200000, 0))], [((200000, 0), .arr (.int .i64))]⟩
@[reducible] def Tslices_Reverse_int : PkS := ⟨[.tup [], .one (.whole (300000, 0))], [((300000, 0), .arr (.int .i64))]⟩
def Hslices_Reverse_int : List Sh := [.tup [], .one (.own (.int .i64))]
def Kslices_Reverse_int (g : ∀ {R : Type}, Nat → (List Int) → ((List Int) → Option R) → Option R) (n : Nat) : KPs := fun R p k => match (PkS.un Sslices_Reverse_int p : Option ((List Int) × Unit)) with
  | some (x0, _) => g n x0 (fun r0 => k (PkS.pack Tslices_Reverse_int (r0, ())))
  | none => none
theorem eslices_Reverse_int (slices_Reverse_int_l1 : ∀ {R : Type}, Nat → Int → Int → (List Int) → ((List Int) → Option R) → Option R) {R : Type} (n : Nat) (x0 : List Int) (k : Pk → Option R) : evF tt sig (mkK [] R) (mkL (mkK []) [(1, Dslices_Reverse_int_l1, Pslices_Reverse_int_l1 @slices_Reverse_int_l1 n)] R) Try.f60 Hslices_Reverse_int (PkS.pack Sslices_Reverse_int (x0, ())) k = (fun (k : (List Int) → Option R) => (slices_Reverse_int_l1 n 0 (IntKind.wrap .i64 ((x0.length : Int) - 1)) x0 (fun r1 => k r1))) (fun r0 => k (PkS.pack Tslices_Reverse_int (r0, ()))) := by kernel_rfl
theorem okslices_Reverse_int (n : Nat) : FnOk Try.prog 60 (Kslices_Reverse_int @slices_Reverse_int n) := by
  refine fn_ok (sig := sig) mixed ttok (mkK_nat (cslices_Reverse_int n)) (mkK_ok (cslices_Reverse_int n)) (mkL_nat (mkK_nat (cslices_Reverse_int n)) (l := [(1, Dslices_Reverse_int_l1, Pslices_Reverse_int_l1 @slices_Reverse_int_l1 n)]) ⟨nlslices_Reverse_int_l1 n, trivial⟩) (fn := Try.f60) (c := bodyOf Try.f60) (by kernel_rfl) (by kernel_rfl) (by kernel_rfl) (.eq (l := [.lo (loopIn 1 (bodyOf Try.f60))]) (by kernel_rfl) ⟨(lkslices_Reverse_int_l1 n _ _ (at_id (i := 1) (by kernel_rfl) rfl)), trivial⟩) (shs := Hslices_Reverse_int) (S := Sslices_Reverse_int) (h1 := by kernel_rfl) fun R p k => ?_
  unfold Kslices_Reverse_int
  cases h : (PkS.un Sslices_Reverse_int p) with
  | none => rfl
  | some d =>
    obtain ⟨x0, u⟩ := (d : (List Int) × Unit)
    have hp := PkS.un_pack h
    subst hp
    exact (eslices_Reverse_int @slices_Reverse_int_l1 n x0 k).symm

/-! ### loop.example/g00269/impl.WhyOf -/
theorem cimpl_WhyOf (n : Nat) : AllOk Try.prog [(27, Kimpl_Follows @impl_Follows n), (57, Kimpl_least @impl_least n), (59, Kslices_Backward_int @slices_Backward_int n), (53, Kslices_Contains_int @slices_Contains_int n), (60, Kslices_Reverse_int @slices_Reverse_int n)] := ⟨okimpl_Follows n, ⟨okimpl_least n, ⟨okslices_Backward_int n, ⟨okslices_Contains_int n, ⟨okslices_Reverse_int n, trivial⟩⟩⟩⟩⟩
@[reducible] def Simpl_WhyOf_l7 : PkS := ⟨[.one (.fn 75 [((100000, 0), 0)]), .one (.box (100000, 1) 0), .one (.box (100000, 3) 0), .one (.box (100000, 5) 0), .one (.dead), .one (.dead), .one (.dead)], [((100000, 0), .box [.ro (.int .i64)]), ((100000, 1), .box [.ro (.pr (.int .i64) (.sl (.int .i64)))]), ((100000, 2), .arr (.int .i64)), ((100000, 3), .box [.whole (100000, 2)]), ((100000, 4), .arr (.int .i64)), ((100000, 5), .box [.whole (100000, 4)])]⟩
@[reducible] def Timpl_WhyOf_l7_0 : PkS := ⟨[.one (.dead), .one (.dead), .one (.dead), .one (.box (100000, 1) 0), .one (.dead), .one (.dead), .one (.dead)], [((100000, 0), .arr (.int .i64)), ((100000, 1), .box [.whole (100000, 0)])]⟩
def Dimpl_WhyOf_l7 : RangeD := ⟨58, 34, 75, (.int .i64), false, 35, 36, [3, 10, 11], [.box [(.ro (.pr (.int .i64) (.sl (.int .i64))))], .box [(.own (.int .i64))], .box [(.own (.int .i64))], .skip, .skip, .skip], fun x => match x with
  | .normal => some [.skip, .skip, .skip, .box [(.own (.int .i64))], .skip, .skip, .skip]
  | _ => none⟩
def Pimpl_WhyOf_l7 (g : ∀ {R : Type}, Nat → (List Int) → (List (Int × List Int)) → (List Int) → (List Int) → Int → ((List Int) → Option R) → Option R) (n : Nat) : RPs := fun R q j kk => match (PkS.un Simpl_WhyOf_l7 q : Option ((List Int) × (List (Int × List Int)) × (List Int) × (List Int) × Unit)) with
  | some (y7_0, y7_1, y7_2, y7_3, _) => g n y7_0 y7_1 y7_2 y7_3 j (fun r0 => kk (.normal) (PkS.pack Timpl_WhyOf_l7_0 (r0, ())))
  | none => none
theorem eimpl_WhyOf_l7 (impl_Follows : ∀ {R : Type}, Nat → (List (Int × List Int)) → (List Int) → Int → (Bool → Bool → Option R) → Option R) (impl_least : ∀ {R : Type}, Nat → (List (Int × List Int)) → (List Int) → (Int → (List Int) → (List Int) → Option R) → Option R) (slices_Backward_int : ∀ {R : Type}, Nat → (List Int) → ((List Int) → Option R) → Option R) (slices_Contains_int : ∀ {R : Type}, Nat → (List Int) → Int → (Bool → Option R) → Option R) (slices_Reverse_int : ∀ {R : Type}, Nat → (List Int) → ((List Int) → Option R) → Option R) (impl_WhyOf_l7 : ∀ {R : Type}, Nat → (List Int) → (List (Int × List Int)) → (List Int) → (List Int) → Int → ((List Int) → Option R) → Option R) {R : Type} (n : Nat) (y7_0 : List Int) (y7_1 : List (Int × List Int)) (y7_2 : List Int) (y7_3 : List Int) (i7_ : Int) (kk : Ex → Pk → Option R) : Dimpl_WhyOf_l7.step tt sig (mkK [(27, Kimpl_Follows @impl_Follows n), (57, Kimpl_least @impl_least n), (59, Kslices_Backward_int @slices_Backward_int n), (53, Kslices_Contains_int @slices_Contains_int n), (60, Kslices_Reverse_int @slices_Reverse_int n)] R) (mkL (mkK [(27, Kimpl_Follows @impl_Follows n), (57, Kimpl_least @impl_least n), (59, Kslices_Backward_int @slices_Backward_int n), (53, Kslices_Contains_int @slices_Contains_int n), (60, Kslices_Reverse_int @slices_Reverse_int n)]) [] R) (asgIn 7 (bodyOf Try.f33)) (loopIn 7 (bodyOf Try.f33)) (fun q' j => Pimpl_WhyOf_l7 @impl_WhyOf_l7 n R q' j kk) (PkS.pack Simpl_WhyOf_l7 (y7_0, y7_1, y7_2, y7_3, ())) i7_ kk = (fun (knormal : (List Int) → Option R) => (bif decide (i7_ ≥ 0) then (bif decide (i7_ < (y7_0.length : Int)) then (bif decide (0 ≤ (y7_0.getD (Int.toNat i7_) 0)) then (bif decide ((y7_0.getD (Int.toNat i7_) 0) < (y7_1.length : Int)) then (slices_Contains_int n y7_2 ((y7_1.getD (Int.toNat (y7_0.getD (Int.toNat i7_) 0)) (0, [])).1) fun r7 => (bif r7 then (bif decide (y7_3.length + ([(y7_0.getD (Int.toNat i7_) 0)]).length ≤ LIM) then (bif decide (0 ≤ (y7_0.getD (Int.toNat i7_) 0)) then (bif decide ((y7_0.getD (Int.toNat i7_) 0) < (y7_1.length : Int)) then (bif decide (y7_2.length + ((y7_1.getD (Int.toNat (y7_0.getD (Int.toNat i7_) 0)) (0, [])).2).length ≤ LIM) then impl_WhyOf_l7 n y7_0 y7_1 (y7_2 ++ (y7_1.getD (Int.toNat (y7_0.getD (Int.toNat i7_) 0)) (0, [])).2) (y7_3 ++ [(y7_0.getD (Int.toNat i7_) 0)]) (IntKind.wrap .i64 (i7_ - 1)) knormal else none) else none) else none) else none) else impl_WhyOf_l7 n y7_0 y7_1 y7_2 y7_3 (IntKind.wrap .i64 (i7_ - 1)) knormal)) else none) else none) else none) else knormal y7_3)) (fun r0 => kk (.normal) (PkS.pack Timpl_WhyOf_l7_0 (r0, ()))) := by kernel_rfl
theorem leimpl_WhyOf_l7 : RangeEq tt sig (fun n => mkK [(27, Kimpl_Follows @impl_Follows n), (57, Kimpl_least @impl_least n), (59, Kslices_Backward_int @slices_Backward_int n), (53, Kslices_Contains_int @slices_Contains_int n), (60, Kslices_Reverse_int @slices_Reverse_int n)]) (fun n => mkL (mkK [(27, Kimpl_Follows @impl_Follows n), (57, Kimpl_least @impl_least n), (59, Kslices_Backward_int @slices_Backward_int n), (53, Kslices_Contains_int @slices_Contains_int n), (60, Kslices_Reverse_int @slices_Reverse_int n)]) []) Dimpl_WhyOf_l7 Simpl_WhyOf_l7 (asgIn 7 (bodyOf Try.f33)) (loopIn 7 (bodyOf Try.f33)) (Pimpl_WhyOf_l7 @impl_WhyOf_l7) where
  zero R q j kk := by unfold Pimpl_WhyOf_l7; cases (PkS.un Simpl_WhyOf_l7 q) <;> rfl
  succ n R q j kk := by
    unfold Pimpl_WhyOf_l7
    cases h : (PkS.un Simpl_WhyOf_l7 q) with
    | none => rfl
    | some d =>
      obtain ⟨y7_0, y7_1, y7_2, y7_3, u⟩ := (d : (List Int) × (List (Int × List Int)) × (List Int) × (List Int) × Unit)
      have hp := PkS.un_pack h
      subst hp
      exact (eimpl_WhyOf_l7 @impl_Follows @impl_least @slices_Backward_int @slices_Contains_int @slices_Reverse_int @impl_WhyOf_l7 n y7_0 y7_1 y7_2 y7_3 j kk).symm
theorem nlimpl_WhyOf_l7 : ∀ n, NatRP (Pimpl_WhyOf_l7 @impl_WhyOf_l7 n) := leimpl_WhyOf_l7.nat (fun n => mkK_nat (cimpl_WhyOf n)) fun n => mkL_nat (mkK_nat (cimpl_WhyOf n)) (l := []) trivial
theorem inimpl_WhyOf_l7 (n : Nat) (R : Type) : LoopsOk Try.prog (mkL (mkK [(27, Kimpl_Follows @impl_Follows n), (57, Kimpl_least @impl_least n), (59, Kslices_Backward_int @slices_Backward_int n), (53, Kslices_Contains_int @slices_Contains_int n), (60, Kslices_Reverse_int @slices_Reverse_int n)]) [] R) (loopIn 7 (bodyOf Try.f33)) := .eq (l := []) (by kernel_rfl) trivial
theorem rkimpl_WhyOf_l7 (n : Nat) (R : Type) (L0 : LK R) (h0 : ∀ id, firstRegion (loopIn 7 (bodyOf Try.f33)) = some id → L0 id = Dimpl_WhyOf_l7.oracle (mkK [(27, Kimpl_Follows @impl_Follows n), (57, Kimpl_least @impl_least n), (59, Kslices_Backward_int @slices_Backward_int n), (53, Kslices_Contains_int @slices_Contains_int n), (60, Kslices_Reverse_int @slices_Reverse_int n)] R) (Pimpl_WhyOf_l7 @impl_WhyOf_l7 n R)) : RangeOk Try.prog L0 (.tmp 34) #[35, 36] (asgIn 7 (bodyOf Try.f33)) (loopIn 7 (bodyOf Try.f33)) :=
  leimpl_WhyOf_l7.ok mixed ttok (fun n => mkK_nat (cimpl_WhyOf n)) (fun n => mkK_ok (cimpl_WhyOf n)) (fun n => .eq (l := []) (by kernel_rfl) trivial) (fun n => inimpl_WhyOf_l7 n R) (by kernel_rfl) (by kernel_rfl) (by kernel_rfl) (by kernel_rfl) (ts := 29) (te := 3) (ti := 3) (tb := 4) (ty := 88) (by kernel_rfl) ⟨Try.f75, by kernel_rfl, by kernel_rfl, by kernel_rfl, by kernel_rfl, by kernel_rfl⟩ (mkK_nat (cimpl_WhyOf n)) h0
@[reducible] def Simpl_WhyOf : PkS := ⟨[.one (.ro (.pr (.int .i64) (.sl (.int .i64)))), .one (.ro (.int .i64)), .one (.int .i64)], []⟩
@[reducible] def Timpl_WhyOf : PkS := ⟨[.tup [(false, [.whole (300000, 0)]), (false, [.bool])], .one (.dead), .one (.dead), .one (.dead)], [((300000, 0), .arr (.int .i64))]⟩
def Himpl_WhyOf : List Sh := [.tup [(false, [(.own (.int .i64))]), (false, [.any])], .skip, .skip, .skip]
def Kimpl_WhyOf (g : ∀ {R : Type}, Nat → (List (Int × List Int)) → (List Int) → Int → (Bool → (List Int) → Option R) → Option R) (n : Nat) : KPs := fun R p k => match (PkS.un Simpl_WhyOf p : Option ((List (Int × List Int)) × (List Int) × Int × Unit)) with
  | some (x0, x1, x2, _) => g n x0 x1 x2 (fun r0 r1 => k (PkS.pack Timpl_WhyOf (r0, r1, ())))
  | none => none
theorem eimpl_WhyOf (impl_Follows : ∀ {R : Type}, Nat → (List (Int × List Int)) → (List Int) → Int → (Bool → Bool → Option R) → Option R) (impl_least : ∀ {R : Type}, Nat → (List (Int × List Int)) → (List Int) → (Int → (List Int) → (List Int) → Option R) → Option R) (slices_Backward_int : ∀ {R : Type}, Nat → (List Int) → ((List Int) → Option R) → Option R) (slices_Contains_int : ∀ {R : Type}, Nat → (List Int) → Int → (Bool → Option R) → Option R) (slices_Reverse_int : ∀ {R : Type}, Nat → (List Int) → ((List Int) → Option R) → Option R) (impl_WhyOf_l7 : ∀ {R : Type}, Nat → (List Int) → (List (Int × List Int)) → (List Int) → (List Int) → Int → ((List Int) → Option R) → Option R) {R : Type} (n : Nat) (x0 : List (Int × List Int)) (x1 : List Int) (x2 : Int) (k : Pk → Option R) : evF tt sig (mkK [(27, Kimpl_Follows @impl_Follows n), (57, Kimpl_least @impl_least n), (59, Kslices_Backward_int @slices_Backward_int n), (53, Kslices_Contains_int @slices_Contains_int n), (60, Kslices_Reverse_int @slices_Reverse_int n)] R) (addR (mkK [(27, Kimpl_Follows @impl_Follows n), (57, Kimpl_least @impl_least n), (59, Kslices_Backward_int @slices_Backward_int n), (53, Kslices_Contains_int @slices_Contains_int n), (60, Kslices_Reverse_int @slices_Reverse_int n)]) (mkL (mkK [(27, Kimpl_Follows @impl_Follows n), (57, Kimpl_least @impl_least n), (59, Kslices_Backward_int @slices_Backward_int n), (53, Kslices_Contains_int @slices_Contains_int n), (60, Kslices_Reverse_int @slices_Reverse_int n)]) []) 7 Dimpl_WhyOf_l7 (Pimpl_WhyOf_l7 @impl_WhyOf_l7 n) R) Try.f33 Himpl_WhyOf (PkS.pack Simpl_WhyOf (x0, x1, x2, ())) k = (fun (k : Bool → (List Int) → Option R) => (impl_Follows n x0 x1 x2 fun r1 r2 => (bif (!r2) then k false ([] : List Int) else (bif (!r1) then k false ([] : List Int) else (impl_least n x0 x1 fun r3 r4 r5 => (slices_Backward_int n r5 fun r6 => (impl_WhyOf_l7 n r6 x0 [x2] ([] : List Int) (IntKind.wrap .i64 ((r6.length : Int) - 1)) (fun r8 => (slices_Reverse_int n r8 fun r9 => k true r9))))))))) (fun r0 r1 => k (PkS.pack Timpl_WhyOf (r0, r1, ()))) := by kernel_rfl
theorem okimpl_WhyOf (n : Nat) : FnOk Try.prog 33 (Kimpl_WhyOf @impl_WhyOf n) := by
  refine fn_ok (sig := sig) mixed ttok (mkK_nat (cimpl_WhyOf n)) (mkK_ok (cimpl_WhyOf n)) (addR_nat (i := 7) (D := Dimpl_WhyOf_l7) (mkK_nat (cimpl_WhyOf n)) (mkL_nat (mkK_nat (cimpl_WhyOf n)) (l := []) trivial) (nlimpl_WhyOf_l7 n)) (fn := Try.f33) (c := bodyOf Try.f33) (by kernel_rfl) (by kernel_rfl) (by kernel_rfl) (.eq (l := [.ra (.tmp 34) #[35, 36] (asgIn 7 (bodyOf Try.f33)) (loopIn 7 (bodyOf Try.f33))]) (by kernel_rfl) ⟨(rkimpl_WhyOf_l7 n _ _ (at_id (i := 7) (by kernel_rfl) rfl)), trivial⟩) (shs := Himpl_WhyOf) (S := Simpl_WhyOf) (h1 := by kernel_rfl) fun R p k => ?_
  unfold Kimpl_WhyOf
  cases h : (PkS.un Simpl_WhyOf p) with
  | none => rfl
  | some d =>
    obtain ⟨x0, x1, x2, u⟩ := (d : (List (Int × List Int)) × (List Int) × Int × Unit)
    have hp := PkS.un_pack h
    subst hp
    exact (eimpl_WhyOf @impl_Follows @impl_least @slices_Backward_int @slices_Contains_int @slices_Reverse_int @impl_WhyOf_l7 n x0 x1 x2 k).symm

/-! ### loop.example/g00269/spec.l1In -/
theorem cspec_l1In (n : Nat) : AllOk Try.prog [] := trivial
@[reducible] def Sspec_l1In : PkS := ⟨[.one (.int .i64), .one (.int .i64), .one (.int .i64)], []⟩
@[reducible] def Tspec_l1In : PkS := ⟨[.one (.bool), .one (.dead), .one (.dead), .one (.dead)], []⟩
def Hspec_l1In : List Sh := [.one .any, .skip, .skip, .skip]
def Kspec_l1In (g : ∀ {R : Type}, Nat → Int → Int → Int → (Bool → Option R) → Option R) (n : Nat) : KPs := fun R p k => match (PkS.un Sspec_l1In p : Option (Int × Int × Int × Unit)) with
  | some (x0, x1, x2, _) => g n x0 x1 x2 (fun r0 => k (PkS.pack Tspec_l1In (r0, ())))
  | none => none
theorem espec_l1In  {R : Type} (n : Nat) (x0 : Int) (x1 : Int) (x2 : Int) (k : Pk → Option R) : evF tt sig (mkK [] R) (mkL (mkK []) [] R) Try.f40 Hspec_l1In (PkS.pack Sspec_l1In (x0, x1, x2, ())) k = (fun (k : Bool → Option R) => (bif (decide (x0 ≥ x1)) then k (decide (x0 ≤ x2)) else k false)) (fun r0 => k (PkS.pack Tspec_l1In (r0, ()))) := by kernel_rfl
theorem okspec_l1In (n : Nat) : FnOk Try.prog 40 (Kspec_l1In @spec_l1In n) := by
  refine fn_ok (sig := sig) mixed ttok (mkK_nat (cspec_l1In n)) (mkK_ok (cspec_l1In n)) (mkL_nat (mkK_nat (cspec_l1In n)) (l := []) trivial) (fn := Try.f40) (c := bodyOf Try.f40) (by kernel_rfl) (by kernel_rfl) (by kernel_rfl) (.eq (l := []) (by kernel_rfl) trivial) (shs := Hspec_l1In) (S := Sspec_l1In) (h1 := by kernel_rfl) fun R p k => ?_
  unfold Kspec_l1In
  cases h : (PkS.un Sspec_l1In p) with
  | none => rfl
  | some d =>
    obtain ⟨x0, x1, x2, u⟩ := (d : Int × Int × Int × Unit)
    have hp := PkS.un_pack h
    subst hp
    exact (espec_l1In  n x0 x1 x2 k).symm

/-! ### loop.example/g00269/spec.l8Set -/
theorem cspec_l8Set (n : Nat) : AllOk Try.prog [(40, Kspec_l1In @spec_l1In n)] := ⟨okspec_l1In n, trivial⟩
@[reducible] def Sspec_l8Set_l2 : PkS := ⟨[.one (.ro (.int .i64)), .one (.ro (.int .i64)), .one (.int .i64), .one (.int .i64), .one (.dead)], []⟩
@[reducible] def Tspec_l8Set_l2_0 : PkS := ⟨[.one (.bool), .one (.dead)], []⟩
@[reducible] def Tspec_l8Set_l2_1 : PkS := ⟨[.one (.dead)], []⟩
def Dspec_l8Set_l2 : LoopD := ⟨29, [0, 5, 6, 7], [.one (.ro (.int .i64)), .one (.ro (.int .i64)), .one .any, .one .any, .skip], fun x => match x with
  | .ret => some ([2], [.one .any, .skip])
  | .exit 0 => some ([], [.skip])
  | _ => none⟩
def Pspec_l8Set_l2 (g : ∀ {R : Type}, Nat → (List Int) → (List Int) → Int → Int → (Bool → Option R) → (Option R) → Option R) (n : Nat) : LPs := fun R q kk => match (PkS.un Sspec_l8Set_l2 q : Option ((List Int) × (List Int) × Int × Int × Unit)) with
  | some (y2_0, y2_1, y2_2, y2_3, _) => g n y2_0 y2_1 y2_2 y2_3 (fun r0 => kk .ret (PkS.pack Tspec_l8Set_l2_0 (r0, ()))) (kk (.exit 0) (PkS.pack Tspec_l8Set_l2_1 ()))
  | none => none
theorem espec_l8Set_l2 (spec_l1In : ∀ {R : Type}, Nat → Int → Int → Int → (Bool → Option R) → Option R) (spec_l8Set_l2 : ∀ {R : Type}, Nat → (List Int) → (List Int) → Int → Int → (Bool → Option R) → (Option R) → Option R) {R : Type} (n : Nat) (y2_0 : List Int) (y2_1 : List Int) (y2_2 : Int) (y2_3 : Int) (kk : Ex → Pk → Option R) : Dspec_l8Set_l2.step tt sig (mkK [(40, Kspec_l1In @spec_l1In n)] R) (mkL (mkK [(40, Kspec_l1In @spec_l1In n)]) [] R) (loopIn 2 (bodyOf Try.f41)) (fun q' => Pspec_l8Set_l2 @spec_l8Set_l2 n R q' kk) (PkS.pack Sspec_l8Set_l2 (y2_0, y2_1, y2_2, y2_3, ())) kk = (fun (kret : Bool → Option R) (kexit0 : Option R) => (bif (decide (y2_3 < y2_2)) then (bif decide (0 ≤ y2_3) then (bif decide (y2_3 < (y2_1.length : Int)) then (spec_l1In n (y2_1.getD (Int.toNat y2_3) 0) 0 39 fun r1 => (bif (!r1) then kret false else (bif (decide (y2_3 > 0)) then (bif decide (0 ≤ (IntKind.wrap .i64 (y2_3 - 1))) then (bif decide ((IntKind.wrap .i64 (y2_3 - 1)) < (y2_0.length : Int)) then (bif (decide ((y2_0.getD (Int.toNat (IntKind.wrap .i64 (y2_3 - 1))) 0) ≥ (y2_1.getD (Int.toNat y2_3) 0))) then kret false else spec_l8Set_l2 n y2_0 y2_1 y2_2 (IntKind.wrap .i64 (y2_3 + 1)) kret kexit0) else none) else none) else spec_l8Set_l2 n y2_0 y2_1 y2_2 (IntKind.wrap .i64 (y2_3 + 1)) kret kexit0))) else none) else none) else kexit0)) (fun r0 => kk .ret (PkS.pack Tspec_l8Set_l2_0 (r0, ()))) (kk (.exit 0) (PkS.pack Tspec_l8Set_l2_1 ())) := by kernel_rfl
theorem lespec_l8Set_l2 : LoopEq tt sig (fun n => mkK [(40, Kspec_l1In @spec_l1In n)]) (fun n => mkL (mkK [(40, Kspec_l1In @spec_l1In n)]) []) Dspec_l8Set_l2 Sspec_l8Set_l2 (loopIn 2 (bodyOf Try.f41)) (Pspec_l8Set_l2 @spec_l8Set_l2) where
  zero R q kk := by unfold Pspec_l8Set_l2; cases (PkS.un Sspec_l8Set_l2 q) <;> rfl
  succ n R q kk := by
    unfold Pspec_l8Set_l2
    cases h : (PkS.un Sspec_l8Set_l2 q) with
    | none => rfl
    | some d =>
      obtain ⟨y2_0, y2_1, y2_2, y2_3, u⟩ := (d : (List Int) × (List Int) × Int × Int × Unit)
      have hp := PkS.un_pack h
      subst hp
      exact (espec_l8Set_l2 @spec_l1In @spec_l8Set_l2 n y2_0 y2_1 y2_2 y2_3 kk).symm
theorem nlspec_l8Set_l2 : ∀ n, NatLP (Pspec_l8Set_l2 @spec_l8Set_l2 n) := lespec_l8Set_l2.nat (fun n => mkK_nat (cspec_l8Set n)) fun n => mkL_nat (mkK_nat (cspec_l8Set n)) (l := []) trivial
theorem inspec_l8Set_l2 (n : Nat) (R : Type) : LoopsOk Try.prog (mkL (mkK [(40, Kspec_l1In @spec_l1In n)]) [] R) (loopIn 2 (bodyOf Try.f41)) := .eq (l := []) (by kernel_rfl) trivial
theorem lkspec_l8Set_l2 (n : Nat) (R : Type) (L0 : LK R) (h0 : ∀ id, firstRegion (loopIn 2 (bodyOf Try.f41)) = some id → L0 id = Dspec_l8Set_l2.oracle (mkK [(40, Kspec_l1In @spec_l1In n)] R) (Pspec_l8Set_l2 @spec_l8Set_l2 n R)) : LoopOk Try.prog L0 (loopIn 2 (bodyOf Try.f41)) :=
  lespec_l8Set_l2.ok mixed ttok (fun n => mkK_nat (cspec_l8Set n)) (fun n => mkK_ok (cspec_l8Set n)) (fun n => inspec_l8Set_l2 n R) (mkK_nat (cspec_l8Set n)) h0
@[reducible] def Sspec_l8Set : PkS := ⟨[.one (.ro (.int .i64))], []⟩
@[reducible] def Tspec_l8Set : PkS := ⟨[.one (.bool), .one (.dead)], []⟩
def Hspec_l8Set : List Sh := [.one .any, .skip]
def Kspec_l8Set (g : ∀ {R : Type}, Nat → (List Int) → (Bool → Option R) → Option R) (n : Nat) : KPs := fun R p k => match (PkS.un Sspec_l8Set p : Option ((List Int) × Unit)) with
  | some (x0, _) => g n x0 (fun r0 => k (PkS.pack Tspec_l8Set (r0, ())))
  | none => none
theorem espec_l8Set (spec_l1In : ∀ {R : Type}, Nat → Int → Int → Int → (Bool → Option R) → Option R) (spec_l8Set_l2 : ∀ {R : Type}, Nat → (List Int) → (List Int) → Int → Int → (Bool → Option R) → (Option R) → Option R) {R : Type} (n : Nat) (x0 : List Int) (k : Pk → Option R) : evF tt sig (mkK [(40, Kspec_l1In @spec_l1In n)] R) (mkL (mkK [(40, Kspec_l1In @spec_l1In n)]) [(2, Dspec_l8Set_l2, Pspec_l8Set_l2 @spec_l8Set_l2 n)] R) Try.f41 Hspec_l8Set (PkS.pack Sspec_l8Set (x0, ())) k = (fun (k : Bool → Option R) => (spec_l8Set_l2 n x0 x0 (x0.length : Int) 0 (fun r2 => k r2) (k true))) (fun r0 => k (PkS.pack Tspec_l8Set (r0, ()))) := by kernel_rfl
theorem okspec_l8Set (n : Nat) : FnOk Try.prog 41 (Kspec_l8Set @spec_l8Set n) := by
  refine fn_ok (sig := sig) mixed ttok (mkK_nat (cspec_l8Set n)) (mkK_ok (cspec_l8Set n)) (mkL_nat (mkK_nat (cspec_l8Set n)) (l := [(2, Dspec_l8Set_l2, Pspec_l8Set_l2 @spec_l8Set_l2 n)]) ⟨nlspec_l8Set_l2 n, trivial⟩) (fn := Try.f41) (c := bodyOf Try.f41) (by kernel_rfl) (by kernel_rfl) (by kernel_rfl) (.eq (l := [.lo (loopIn 2 (bodyOf Try.f41))]) (by kernel_rfl) ⟨(lkspec_l8Set_l2 n _ _ (at_id (i := 2) (by kernel_rfl) rfl)), trivial⟩) (shs := Hspec_l8Set) (S := Sspec_l8Set) (h1 := by kernel_rfl) fun R p k => ?_
  unfold Kspec_l8Set
  cases h : (PkS.un Sspec_l8Set p) with
  | none => rfl
  | some d =>
    obtain ⟨x0, u⟩ := (d : (List Int) × Unit)
    have hp := PkS.un_pack h
    subst hp
    exact (espec_l8Set @spec_l1In @spec_l8Set_l2 n x0 k).symm

/-! ### loop.example/g00269/spec.GoodRules -/
theorem cspec_GoodRules (n : Nat) : AllOk Try.prog [(40, Kspec_l1In @spec_l1In n), (41, Kspec_l8Set @spec_l8Set n)] := ⟨okspec_l1In n, ⟨okspec_l8Set n, trivial⟩⟩
@[reducible] def Sspec_GoodRules_l2 : PkS := ⟨[.one (.ro (.pr (.int .i64) (.sl (.int .i64)))), .one (.ro (.pr (.int .i64) (.sl (.int .i64)))), .one (.int .i64), .one (.int .i64), .one (.dead)], []⟩
@[reducible] def Tspec_GoodRules_l2_0 : PkS := ⟨[.one (.bool), .one (.dead)], []⟩
@[reducible] def Tspec_GoodRules_l2_1 : PkS := ⟨[.one (.ro (.pr (.int .i64) (.sl (.int .i64)))), .one (.dead)], []⟩
def Dspec_GoodRules_l2 : LoopD := ⟨25, [0, 5, 6, 7], [.one (.ro (.pr (.int .i64) (.sl (.int .i64)))), .one (.ro (.pr (.int .i64) (.sl (.int .i64)))), .one .any, .one .any, .skip], fun x => match x with
  | .ret => some ([2], [.one .any, .skip])
  | .exit 0 => some ([0], [.one (.ro (.pr (.int .i64) (.sl (.int .i64)))), .skip])
  | _ => none⟩
def Pspec_GoodRules_l2 (g : ∀ {R : Type}, Nat → (List (Int × List Int)) → (List (Int × List Int)) → Int → Int → (Bool → Option R) → ((List (Int × List Int)) → Option R) → Option R) (n : Nat) : LPs := fun R q kk => match (PkS.un Sspec_GoodRules_l2 q : Option ((List (Int × List Int)) × (List (Int × List Int)) × Int × Int × Unit)) with
  | some (y2_0, y2_1, y2_2, y2_3, _) => g n y2_0 y2_1 y2_2 y2_3 (fun r0 => kk .ret (PkS.pack Tspec_GoodRules_l2_0 (r0, ()))) (fun r0 => kk (.exit 0) (PkS.pack Tspec_GoodRules_l2_1 (r0, ())))
  | none => none
theorem espec_GoodRules_l2 (spec_l1In : ∀ {R : Type}, Nat → Int → Int → Int → (Bool → Option R) → Option R) (spec_l8Set : ∀ {R : Type}, Nat → (List Int) → (Bool → Option R) → Option R) (spec_GoodRules_l2 : ∀ {R : Type}, Nat → (List (Int × List Int)) → (List (Int × List Int)) → Int → Int → (Bool → Option R) → ((List (Int × List Int)) → Option R) → Option R) {R : Type} (n : Nat) (y2_0 : List (Int × List Int)) (y2_1 : List (Int × List Int)) (y2_2 : Int) (y2_3 : Int) (kk : Ex → Pk → Option R) : Dspec_GoodRules_l2.step tt sig (mkK [(40, Kspec_l1In @spec_l1In n), (41, Kspec_l8Set @spec_l8Set n)] R) (mkL (mkK [(40, Kspec_l1In @spec_l1In n), (41, Kspec_l8Set @spec_l8Set n)]) [] R) (loopIn 2 (bodyOf Try.f13)) (fun q' => Pspec_GoodRules_l2 @spec_GoodRules_l2 n R q' kk) (PkS.pack Sspec_GoodRules_l2 (y2_0, y2_1, y2_2, y2_3, ())) kk = (fun (kret : Bool → Option R) (kexit0 : (List (Int × List Int)) → Option R) => (bif (decide (y2_3 < y2_2)) then (bif decide (0 ≤ y2_3) then (bif decide (y2_3 < (y2_1.length : Int)) then (spec_l1In n ((y2_1.getD (Int.toNat y2_3) (0, [])).1) 0 39 fun r1 => (bif (!r1) then kret false else (spec_l8Set n ((y2_1.getD (Int.toNat y2_3) (0, [])).2) fun r2 => (bif (!r2) then kret false else spec_GoodRules_l2 n y2_0 y2_1 y2_2 (IntKind.wrap .i64 (y2_3 + 1)) kret kexit0)))) else none) else none) else kexit0 y2_0)) (fun r0 => kk .ret (PkS.pack Tspec_GoodRules_l2_0 (r0, ()))) (fun r0 => kk (.exit 0) (PkS.pack Tspec_GoodRules_l2_1 (r0, ()))) := by kernel_rfl
theorem lespec_GoodRules_l2 : LoopEq tt sig (fun n => mkK [(40, Kspec_l1In @spec_l1In n), (41, Kspec_l8Set @spec_l8Set n)]) (fun n => mkL (mkK [(40, Kspec_l1In @spec_l1In n), (41, Kspec_l8Set @spec_l8Set n)]) []) Dspec_GoodRules_l2 Sspec_GoodRules_l2 (loopIn 2 (bodyOf Try.f13)) (Pspec_GoodRules_l2 @spec_GoodRules_l2) where
  zero R q kk := by unfold Pspec_GoodRules_l2; cases (PkS.un Sspec_GoodRules_l2 q) <;> rfl
  succ n R q kk := by
    unfold Pspec_GoodRules_l2
    cases h : (PkS.un Sspec_GoodRules_l2 q) with
    | none => rfl
    | some d =>
      obtain ⟨y2_0, y2_1, y2_2, y2_3, u⟩ := (d : (List (Int × List Int)) × (List (Int × List Int)) × Int × Int × Unit)
      have hp := PkS.un_pack h
      subst hp
      exact (espec_GoodRules_l2 @spec_l1In @spec_l8Set @spec_GoodRules_l2 n y2_0 y2_1 y2_2 y2_3 kk).symm
theorem nlspec_GoodRules_l2 : ∀ n, NatLP (Pspec_GoodRules_l2 @spec_GoodRules_l2 n) := lespec_GoodRules_l2.nat (fun n => mkK_nat (cspec_GoodRules n)) fun n => mkL_nat (mkK_nat (cspec_GoodRules n)) (l := []) trivial
theorem inspec_GoodRules_l2 (n : Nat) (R : Type) : LoopsOk Try.prog (mkL (mkK [(40, Kspec_l1In @spec_l1In n), (41, Kspec_l8Set @spec_l8Set n)]) [] R) (loopIn 2 (bodyOf Try.f13)) := .eq (l := []) (by kernel_rfl) trivial
theorem lkspec_GoodRules_l2 (n : Nat) (R : Type) (L0 : LK R) (h0 : ∀ id, firstRegion (loopIn 2 (bodyOf Try.f13)) = some id → L0 id = Dspec_GoodRules_l2.oracle (mkK [(40, Kspec_l1In @spec_l1In n), (41, Kspec_l8Set @spec_l8Set n)] R) (Pspec_GoodRules_l2 @spec_GoodRules_l2 n R)) : LoopOk Try.prog L0 (loopIn 2 (bodyOf Try.f13)) :=
  lespec_GoodRules_l2.ok mixed ttok (fun n => mkK_nat (cspec_GoodRules n)) (fun n => mkK_ok (cspec_GoodRules n)) (fun n => inspec_GoodRules_l2 n R) (mkK_nat (cspec_GoodRules n)) h0
@[reducible] def Sspec_GoodRules : PkS := ⟨[.one (.ro (.pr (.int .i64) (.sl (.int .i64))))], []⟩
@[reducible] def Tspec_GoodRules : PkS := ⟨[.one (.bool), .one (.dead)], []⟩
def Hspec_GoodRules : List Sh := [.one .any, .skip]
def Kspec_GoodRules (g : ∀ {R : Type}, Nat → (List (Int × List Int)) → (Bool → Option R) → Option R) (n : Nat) : KPs := fun R p k => match (PkS.un Sspec_GoodRules p : Option ((List (Int × List Int)) × Unit)) with
  | some (x0, _) => g n x0 (fun r0 => k (PkS.pack Tspec_GoodRules (r0, ())))
  | none => none
theorem espec_GoodRules (spec_l1In : ∀ {R : Type}, Nat → Int → Int → Int → (Bool → Option R) → Option R) (spec_l8Set : ∀ {R : Type}, Nat → (List Int) → (Bool → Option R) → Option R) (spec_GoodRules_l2 : ∀ {R : Type}, Nat → (List (Int × List Int)) → (List (Int × List Int)) → Int → Int → (Bool → Option R) → ((List (Int × List Int)) → Option R) → Option R) {R : Type} (n : Nat) (x0 : List (Int × List Int)) (k : Pk → Option R) : evF tt sig (mkK [(40, Kspec_l1In @spec_l1In n), (41, Kspec_l8Set @spec_l8Set n)] R) (mkL (mkK [(40, Kspec_l1In @spec_l1In n), (41, Kspec_l8Set @spec_l8Set n)]) [(2, Dspec_GoodRules_l2, Pspec_GoodRules_l2 @spec_GoodRules_l2 n)] R) Try.f13 Hspec_GoodRules (PkS.pack Sspec_GoodRules (x0, ())) k = (fun (k : Bool → Option R) => (spec_GoodRules_l2 n x0 x0 (x0.length : Int) 0 (fun r3 => k r3) (fun r4 => k (decide ((r4.length : Int) ≤ 60))))) (fun r0 => k (PkS.pack Tspec_GoodRules (r0, ()))) := by kernel_rfl
theorem okspec_GoodRules (n : Nat) : FnOk Try.prog 13 (Kspec_GoodRules @spec_GoodRules n) := by
  refine fn_ok (sig := sig) mixed ttok (mkK_nat (cspec_GoodRules n)) (mkK_ok (cspec_GoodRules n)) (mkL_nat (mkK_nat (cspec_GoodRules n)) (l := [(2, Dspec_GoodRules_l2, Pspec_GoodRules_l2 @spec_GoodRules_l2 n)]) ⟨nlspec_GoodRules_l2 n, trivial⟩) (fn := Try.f13) (c := bodyOf Try.f13) (by kernel_rfl) (by kernel_rfl) (by kernel_rfl) (.eq (l := [.lo (loopIn 2 (bodyOf Try.f13))]) (by kernel_rfl) ⟨(lkspec_GoodRules_l2 n _ _ (at_id (i := 2) (by kernel_rfl) rfl)), trivial⟩) (shs := Hspec_GoodRules) (S := Sspec_GoodRules) (h1 := by kernel_rfl) fun R p k => ?_
  unfold Kspec_GoodRules
  cases h : (PkS.un Sspec_GoodRules p) with
  | none => rfl
  | some d =>
    obtain ⟨x0, u⟩ := (d : (List (Int × List Int)) × Unit)
    have hp := PkS.un_pack h
    subst hp
    exact (espec_GoodRules @spec_l1In @spec_l8Set @spec_GoodRules_l2 n x0 k).symm

/-! ### loop.example/g00269/spec.l1Has -/
theorem cspec_l1Has (n : Nat) : AllOk Try.prog [] := trivial
@[reducible] def Sspec_l1Has_l2 : PkS := ⟨[.one (.int .i64), .one (.ro (.int .i64)), .one (.int .i64), .one (.int .i64), .one (.dead), .one (.dead)], []⟩
@[reducible] def Tspec_l1Has_l2_0 : PkS := ⟨[.one (.bool), .one (.dead), .one (.dead)], []⟩
@[reducible] def Tspec_l1Has_l2_1 : PkS := ⟨[.one (.dead), .one (.dead)], []⟩
def Dspec_l1Has_l2 : LoopD := ⟨17, [1, 7, 8, 9], [.one .any, .one (.ro (.int .i64)), .one .any, .one .any, .skip, .skip], fun x => match x with
  | .ret => some ([4], [.one .any, .skip, .skip])
  | .exit 0 => some ([], [.skip, .skip])
  | _ => none⟩
def Pspec_l1Has_l2 (g : ∀ {R : Type}, Nat → Int → (List Int) → Int → Int → (Bool → Option R) → (Option R) → Option R) (n : Nat) : LPs := fun R q kk => match (PkS.un Sspec_l1Has_l2 q : Option (Int × (List Int) × Int × Int × Unit)) with
  | some (y2_0, y2_1, y2_2, y2_3, _) => g n y2_0 y2_1 y2_2 y2_3 (fun r0 => kk .ret (PkS.pack Tspec_l1Has_l2_0 (r0, ()))) (kk (.exit 0) (PkS.pack Tspec_l1Has_l2_1 ()))
  | none => none
theorem espec_l1Has_l2 (spec_l1Has_l2 : ∀ {R : Type}, Nat → Int → (List Int) → Int → Int → (Bool → Option R) → (Option R) → Option R) {R : Type} (n : Nat) (y2_0 : Int) (y2_1 : List Int) (y2_2 : Int) (y2_3 : Int) (kk : Ex → Pk → Option R) : Dspec_l1Has_l2.step tt sig (mkK [] R) (mkL (mkK []) [] R) (loopIn 2 (bodyOf Try.f73)) (fun q' => Pspec_l1Has_l2 @spec_l1Has_l2 n R q' kk) (PkS.pack Sspec_l1Has_l2 (y2_0, y2_1, y2_2, y2_3, ())) kk = (fun (kret : Bool → Option R) (kexit0 : Option R) => (bif (decide (y2_3 < y2_2)) then (bif decide (0 ≤ y2_3) then (bif decide (y2_3 < (y2_1.length : Int)) then (bif ((y2_1.getD (Int.toNat y2_3) 0) == y2_0) then kret true else spec_l1Has_l2 n y2_0 y2_1 y2_2 (IntKind.wrap .i64 (y2_3 + 1)) kret kexit0) else none) else none) else kexit0)) (fun r0 => kk .ret (PkS.pack Tspec_l1Has_l2_0 (r0, ()))) (kk (.exit 0) (PkS.pack Tspec_l1Has_l2_1 ())) := by kernel_rfl
theorem lespec_l1Has_l2 : LoopEq tt sig (fun n => mkK []) (fun n => mkL (mkK []) []) Dspec_l1Has_l2 Sspec_l1Has_l2 (loopIn 2 (bodyOf Try.f73)) (Pspec_l1Has_l2 @spec_l1Has_l2) where
  zero R q kk := by unfold Pspec_l1Has_l2; cases (PkS.un Sspec_l1Has_l2 q) <;> rfl
  succ n R q kk := by
    unfold Pspec_l1Has_l2
    cases h : (PkS.un Sspec_l1Has_l2 q) with
    | none => rfl
    | some d =>
      obtain ⟨y2_0, y2_1, y2_2, y2_3, u⟩ := (d : Int × (List Int) × Int × Int × Unit)
      have hp := PkS.un_pack h
      subst hp
      exact (espec_l1Has_l2 @spec_l1Has_l2 n y2_0 y2_1 y2_2 y2_3 kk).symm
theorem nlspec_l1Has_l2 : ∀ n, NatLP (Pspec_l1Has_l2 @spec_l1Has_l2 n) := lespec_l1Has_l2.nat (fun n => mkK_nat (cspec_l1Has n)) fun n => mkL_nat (mkK_nat (cspec_l1Has n)) (l := []) trivial
theorem inspec_l1Has_l2 (n : Nat) (R : Type) : LoopsOk Try.prog (mkL (mkK []) [] R) (loopIn 2 (bodyOf Try.f73)) := .eq (l := []) (by kernel_rfl) trivial
theorem lkspec_l1Has_l2 (n : Nat) (R : Type) (L0 : LK R) (h0 : ∀ id, firstRegion (loopIn 2 (bodyOf Try.f73)) = some id → L0 id = Dspec_l1Has_l2.oracle (mkK [] R) (Pspec_l1Has_l2 @spec_l1Has_l2 n R)) : LoopOk Try.prog L0 (loopIn 2 (bodyOf Try.f73)) :=
  lespec_l1Has_l2.ok mixed ttok (fun n => mkK_nat (cspec_l1Has n)) (fun n => mkK_ok (cspec_l1Has n)) (fun n => inspec_l1Has_l2 n R) (mkK_nat (cspec_l1Has n)) h0
@[reducible] def Sspec_l1Has : PkS := ⟨[.one (.ro (.int .i64)), .one (.int .i64)], []⟩
@[reducible] def Tspec_l1Has : PkS := ⟨[.one (.bool), .one (.dead), .one (.dead)], []⟩
def Hspec_l1Has : List Sh := [.one .any, .skip, .skip]
def Kspec_l1Has (g : ∀ {R : Type}, Nat → (List Int) → Int → (Bool → Option R) → Option R) (n : Nat) : KPs := fun R p k => match (PkS.un Sspec_l1Has p : Option ((List Int) × Int × Unit)) with
  | some (x0, x1, _) => g n x0 x1 (fun r0 => k (PkS.pack Tspec_l1Has (r0, ())))
  | none => none
theorem espec_l1Has (spec_l1Has_l2 : ∀ {R : Type}, Nat → Int → (List Int) → Int → Int → (Bool → Option R) → (Option R) → Option R) {R : Type} (n : Nat) (x0 : List Int) (x1 : Int) (k : Pk → Option R) : evF tt sig (mkK [] R) (mkL (mkK []) [(2, Dspec_l1Has_l2, Pspec_l1Has_l2 @spec_l1Has_l2 n)] R) Try.f73 Hspec_l1Has (PkS.pack Sspec_l1Has (x0, x1, ())) k = (fun (k : Bool → Option R) => (spec_l1Has_l2 n x1 x0 (x0.length : Int) 0 (fun r1 => k r1) (k false))) (fun r0 => k (PkS.pack Tspec_l1Has (r0, ()))) := by kernel_rfl
theorem okspec_l1Has (n : Nat) : FnOk Try.prog 73 (Kspec_l1Has @spec_l1Has n) := by
  refine fn_ok (sig := sig) mixed ttok (mkK_nat (cspec_l1Has n)) (mkK_ok (cspec_l1Has n)) (mkL_nat (mkK_nat (cspec_l1Has n)) (l := [(2, Dspec_l1Has_l2, Pspec_l1Has_l2 @spec_l1Has_l2 n)]) ⟨nlspec_l1Has_l2 n, trivial⟩) (fn := Try.f73) (c := bodyOf Try.f73) (by kernel_rfl) (by kernel_rfl) (by kernel_rfl) (.eq (l := [.lo (loopIn 2 (bodyOf Try.f73))]) (by kernel_rfl) ⟨(lkspec_l1Has_l2 n _ _ (at_id (i := 2) (by kernel_rfl) rfl)), trivial⟩) (shs := Hspec_l1Has) (S := Sspec_l1Has) (h1 := by kernel_rfl) fun R p k => ?_
  unfold Kspec_l1Has
  cases h : (PkS.un Sspec_l1Has p) with
  | none => rfl
  | some d =>
    obtain ⟨x0, x1, u⟩ := (d : (List Int) × Int × Unit)
    have hp := PkS.un_pack h
    subst hp
    exact (espec_l1Has @spec_l1Has_l2 n x0 x1 k).symm

/-! ### loop.example/g00269/spec.l8Run -/
theorem cspec_l8Run (n : Nat) : AllOk Try.prog [(73, Kspec_l1Has @spec_l1Has n)] := ⟨okspec_l1Has n, trivial⟩
@[reducible] def Sspec_l8Run_l6 : PkS := ⟨[.one (.ro (.pr (.int .i64) (.sl (.int .i64)))), .one (.ro (.int .i64)), .one (.whole (100000, 0)), .one (.whole (100000, 1)), .one (.whole (100000, 2)), .one (.whole (100000, 3)), .one (.ro (.pr (.int .i64) (.sl (.int .i64)))), .one (.int .i64), .one (.int .i64), .one (.dead), .one (.dead)], [((100000, 0), .arr .bool), ((100000, 1), .arr (.int .i64)), ((100000, 2), .arr (.int .i64)), ((100000, 3), .arr (.int .i64))]⟩
@[reducible] def Tspec_l8Run_l6_0 : PkS := ⟨[.one (.ro (.pr (.int .i64) (.sl (.int .i64)))), .one (.ro (.int .i64)), .one (.whole (100000, 0)), .one (.whole (100000, 1)), .one (.whole (100000, 2)), .one (.whole (100000, 3)), .one (.dead), .one (.dead)], [((100000, 0), .arr .bool), ((100000, 1), .arr (.int .i64)), ((100000, 2), .arr (.int .i64)), ((100000, 3), .arr (.int .i64))]⟩
def Dspec_l8Run_l6 : LoopD := ⟨149, [0, 1, 8, 9, 10, 11, 25, 26, 27], [.one (.ro (.pr (.int .i64) (.sl (.int .i64)))), .one (.ro (.int .i64)), .one (.own .bool), .one (.own (.int .i64)), .one (.own (.int .i64)), .one (.own (.int .i64)), .one (.ro (.pr (.int .i64) (.sl (.int .i64)))), .one .any, .one .any, .skip, .skip], fun x => match x with
  | .exit 0 => some ([0, 1, 8, 9, 10, 11], [.one (.ro (.pr (.int .i64) (.sl (.int .i64)))), .one (.ro (.int .i64)), .one (.own .bool), .one (.own (.int .i64)), .one (.own (.int .i64)), .one (.own (.int .i64)), .skip, .skip])
  | _ => none⟩
def Pspec_l8Run_l6 (g : ∀ {R : Type}, Nat → (List (Int × List Int)) → (List Int) → (List (Int × List Int)) → Int → Int → (List Bool) → (List Int) → (List Int) → (List Int) → ((List (Int × List Int)) → (List Int) → (List Bool) → (List Int) → (List Int) → (List Int) → Option R) → Option R) (n : Nat) : LPs := fun R q kk => match (PkS.un Sspec_l8Run_l6 q : Option ((List (Int × List Int)) × (List Int) × (List (Int × List Int)) × Int × Int × (List Bool) × (List Int) × (List Int) × (List Int) × Unit)) with
  | some (y6_0, y6_1, y6_2, y6_3, y6_4, y6_5, y6_6, y6_7, y6_8, _) => g n y6_0 y6_1 y6_2 y6_3 y6_4 y6_5 y6_6 y6_7 y6_8 (fun r0 r1 r2 r3 r4 r5 => kk (.exit 0) (PkS.pack Tspec_l8Run_l6_0 (r0, r1, r2, r3, r4, r5, ())))
  | none => none
theorem espec_l8Run_l6 (spec_l1Has : ∀ {R : Type}, Nat → (List Int) → Int → (Bool → Option R) → Option R) (spec_l8Run_l6 : ∀ {R : Type}, Nat → (List (Int × List Int)) → (List Int) → (List (Int × List Int)) → Int → Int → (List Bool) → (List Int) → (List Int) → (List Int) → ((List (Int × List Int)) → (List Int) → (List Bool) → (List Int) → (List Int) → (List Int) → Option R) → Option R) {R : Type} (n : Nat) (y6_0 : List (Int × List Int)) (y6_1 : List Int) (y6_2 : List (Int × List Int)) (y6_3 : Int) (y6_4 : Int) (y6_5 : List Bool) (y6_6 : List Int) (y6_7 : List Int) (y6_8 : List Int) (kk : Ex → Pk → Option R) : Dspec_l8Run_l6.step tt sig (mkK [(73, Kspec_l1Has @spec_l1Has n)] R) (mkL (mkK [(73, Kspec_l1Has @spec_l1Has n)]) [] R) (loopIn 6 (bodyOf Try.f56)) (fun q' => Pspec_l8Run_l6 @spec_l8Run_l6 n R q' kk) (PkS.pack Sspec_l8Run_l6 (y6_0, y6_1, y6_2, y6_3, y6_4, y6_5, y6_6, y6_7, y6_8, ())) kk = (fun (kexit0 : (List (Int × List Int)) → (List Int) → (List Bool) → (List Int) → (List Int) → (List Int) → Option R) => (bif (decide (y6_4 < y6_3)) then (bif decide (0 ≤ y6_4) then (bif decide (y6_4 < (y6_2.length : Int)) then (bif decide (0 ≤ y6_4) then (bif decide (y6_4 < (y6_8.length : Int)) then (bif decide (0 ≤ y6_4) then (bif decide (y6_4 < ((y6_8.set (Int.toNat y6_4) (((y6_2.getD (Int.toNat y6_4) (0, [])).2).length : Int)).length : Int)) then (bif (((y6_8.set (Int.toNat y6_4) (((y6_2.getD (Int.toNat y6_4) (0, [])).2).length : Int)).getD (Int.toNat y6_4) 0) == 0) then (bif decide (0 ≤ (y6_2.getD (Int.toNat y6_4) (0, [])).1) then (bif decide ((y6_2.getD (Int.toNat y6_4) (0, [])).1 < (y6_5.length : Int)) then (bif (!(y6_5.getD (Int.toNat ((y6_2.getD (Int.toNat y6_4) (0, [])).1)) false)) then (bif decide (0 ≤ (y6_2.getD (Int.toNat y6_4) (0, [])).1) then (bif decide ((y6_2.getD (Int.toNat y6_4) (0, [])).1 < (y6_5.length : Int)) then (bif decide (0 ≤ (y6_2.getD (Int.toNat y6_4) (0, [])).1) then (bif decide ((y6_2.getD (Int.toNat y6_4) (0, [])).1 < (y6_6.length : Int)) then (bif decide (y6_7.length + ([(y6_2.getD (Int.toNat y6_4) (0, [])).1]).length ≤ LIM) then spec_l8Run_l6 n y6_0 y6_1 y6_2 y6_3 (IntKind.wrap .i64 (y6_4 + 1)) (y6_5.set (Int.toNat ((y6_2.getD (Int.toNat y6_4) (0, [])).1)) true) (y6_6.set (Int.toNat ((y6_2.getD (Int.toNat y6_4) (0, [])).1)) y6_4) (y6_7 ++ [(y6_2.getD (Int.toNat y6_4) (0, [])).1]) (y6_8.set (Int.toNat y6_4) (((y6_2.getD (Int.toNat y6_4) (0, [])).2).length : Int)) kexit0 else none) else none) else none) else none) else none) else spec_l8Run_l6 n y6_0 y6_1 y6_2 y6_3 (IntKind.wrap .i64 (y6_4 + 1)) y6_5 y6_6 y6_7 (y6_8.set (Int.toNat y6_4) (((y6_2.getD (Int.toNat y6_4) (0, [])).2).length : Int)) kexit0) else none) else none) else spec_l8Run_l6 n y6_0 y6_1 y6_2 y6_3 (IntKind.wrap .i64 (y6_4 + 1)) y6_5 y6_6 y6_7 (y6_8.set (Int.toNat y6_4) (((y6_2.getD (Int.toNat y6_4) (0, [])).2).length : Int)) kexit0) else none) else none) else none) else none) else none) else none) else kexit0 y6_0 y6_1 y6_5 y6_6 y6_7 y6_8)) (fun r0 r1 r2 r3 r4 r5 => kk (.exit 0) (PkS.pack Tspec_l8Run_l6_0 (r0, r1, r2, r3, r4, r5, ()))) := by kernel_rfl
theorem lespec_l8Run_l6 : LoopEq tt sig (fun n => mkK [(73, Kspec_l1Has @spec_l1Has n)]) (fun n => mkL (mkK [(73, Kspec_l1Has @spec_l1Has n)]) []) Dspec_l8Run_l6 Sspec_l8Run_l6 (loopIn 6 (bodyOf Try.f56)) (Pspec_l8Run_l6 @spec_l8Run_l6) where
  zero R q kk := by unfold Pspec_l8Run_l6; cases (PkS.un Sspec_l8Run_l6 q) <;> rfl
  succ n R q kk := by
    unfold Pspec_l8Run_l6
    cases h : (PkS.un Sspec_l8Run_l6 q) with
    | none => rfl
    | some d =>
      obtain ⟨y6_0, y6_1, y6_2, y6_3, y6_4, y6_5, y6_6, y6_7, y6_8, u⟩ := (d : (List (Int × List Int)) × (List Int) × (List (Int × List Int)) × Int × Int × (List Bool) × (List Int) × (List Int) × (List Int) × Unit)
      have hp := PkS.un_pack h
      subst hp
      exact (espec_l8Run_l6 @spec_l1Has @spec_l8Run_l6 n y6_0 y6_1 y6_2 y6_3 y6_4 y6_5 y6_6 y6_7 y6_8 kk).symm
theorem nlspec_l8Run_l6 : ∀ n, NatLP (Pspec_l8Run_l6 @spec_l8Run_l6 n) := lespec_l8Run_l6.nat (fun n => mkK_nat (cspec_l8Run n)) fun n => mkL_nat (mkK_nat (cspec_l8Run n)) (l := []) trivial
theorem inspec_l8Run_l6 (n : Nat) (R : Type) : LoopsOk Try.prog (mkL (mkK [(73, Kspec_l1Has @spec_l1Has n)]) [] R) (loopIn 6 (bodyOf Try.f56)) := .eq (l := []) (by kernel_rfl) trivial
theorem lkspec_l8Run_l6 (n : Nat) (R : Type) (L0 : LK R) (h0 : ∀ id, firstRegion (loopIn 6 (bodyOf Try.f56)) = some id → L0 id = Dspec_l8Run_l6.oracle (mkK [(73, Kspec_l1Has @spec_l1Has n)] R) (Pspec_l8Run_l6 @spec_l8Run_l6 n R)) : LoopOk Try.prog L0 (loopIn 6 (bodyOf Try.f56)) :=
  lespec_l8Run_l6.ok mixed ttok (fun n => mkK_nat (cspec_l8Run n)) (fun n => mkK_ok (cspec_l8Run n)) (fun n => inspec_l8Run_l6 n R) (mkK_nat (cspec_l8Run n)) h0
@[reducible] def Sspec_l8Run_l15 : PkS := ⟨[.one (.ro (.pr (.int .i64) (.sl (.int .i64)))), .one (.whole (100000, 0)), .one (.whole (100000, 1)), .one (.whole (100000, 2)), .one (.whole (100000, 3)), .one (.ro (.int .i64)), .one (.int .i64), .one (.int .i64), .one (.dead), .one (.dead)], [((100000, 0), .arr .bool), ((100000, 1), .arr (.int .i64)), ((100000, 2), .arr (.int .i64)), ((100000, 3), .arr (.int .i64))]⟩
@[reducible] def Tspec_l8Run_l15_0 : PkS := ⟨[.one (.ro (.pr (.int .i64) (.sl (.int .i64)))), .one (.whole (100000, 0)), .one (.whole (100000, 1)), .one (.whole (100000, 2)), .one (.whole (100000, 3)), .one (.dead), .one (.dead)], [((100000, 0), .arr .bool), ((100000, 1), .arr (.int .i64)), ((100000, 2), .arr (.int .i64)), ((100000, 3), .arr (.int .i64))]⟩
def Dspec_l8Run_l15 : LoopD := ⟨149, [0, 8, 9, 10, 11, 66, 67, 68], [.one (.ro (.pr (.int .i64) (.sl (.int .i64)))), .one (.own .bool), .one (.own (.int .i64)), .one (.own (.int .i64)), .one (.own (.int .i64)), .one (.ro (.int .i64)), .one .any, .one .any, .skip, .skip], fun x => match x with
  | .exit 2 => some ([0, 8, 9, 10, 11], [.one (.ro (.pr (.int .i64) (.sl (.int .i64)))), .one (.own .bool), .one (.own (.int .i64)), .one (.own (.int .i64)), .one (.own (.int .i64)), .skip, .skip])
  | _ => none⟩
def Pspec_l8Run_l15 (g : ∀ {R : Type}, Nat → (List (Int × List Int)) → (List Int) → Int → Int → (List Bool) → (List Int) → (List Int) → (List Int) → ((List (Int × List Int)) → (List Bool) → (List Int) → (List Int) → (List Int) → Option R) → Option R) (n : Nat) : LPs := fun R q kk => match (PkS.un Sspec_l8Run_l15 q : Option ((List (Int × List Int)) × (List Int) × Int × Int × (List Bool) × (List Int) × (List Int) × (List Int) × Unit)) with
  | some (y15_0, y15_1, y15_2, y15_3, y15_4, y15_5, y15_6, y15_7, _) => g n y15_0 y15_1 y15_2 y15_3 y15_4 y15_5 y15_6 y15_7 (fun r0 r1 r2 r3 r4 => kk (.exit 2) (PkS.pack Tspec_l8Run_l15_0 (r0, r1, r2, r3, r4, ())))
  | none => none
theorem espec_l8Run_l15 (spec_l1Has : ∀ {R : Type}, Nat → (List Int) → Int → (Bool → Option R) → Option R) (spec_l8Run_l6 : ∀ {R : Type}, Nat → (List (Int × List Int)) → (List Int) → (List (Int × List Int)) → Int → Int → (List Bool) → (List Int) → (List Int) → (List Int) → ((List (Int × List Int)) → (List Int) → (List Bool) → (List Int) → (List Int) → (List Int) → Option R) → Option R) (spec_l8Run_l15 : ∀ {R : Type}, Nat → (List (Int × List Int)) → (List Int) → Int → Int → (List Bool) → (List Int) → (List Int) → (List Int) → ((List (Int × List Int)) → (List Bool) → (List Int) → (List Int) → (List Int) → Option R) → Option R) {R : Type} (n : Nat) (y15_0 : List (Int × List Int)) (y15_1 : List Int) (y15_2 : Int) (y15_3 : Int) (y15_4 : List Bool) (y15_5 : List Int) (y15_6 : List Int) (y15_7 : List Int) (kk : Ex → Pk → Option R) : Dspec_l8Run_l15.step tt sig (mkK [(73, Kspec_l1Has @spec_l1Has n)] R) (mkL (mkK [(73, Kspec_l1Has @spec_l1Has n)]) [(6, Dspec_l8Run_l6, Pspec_l8Run_l6 @spec_l8Run_l6 n)] R) (loopIn 15 (bodyOf Try.f56)) (fun q' => Pspec_l8Run_l15 @spec_l8Run_l15 n R q' kk) (PkS.pack Sspec_l8Run_l15 (y15_0, y15_1, y15_2, y15_3, y15_4, y15_5, y15_6, y15_7, ())) kk = (fun (kexit2 : (List (Int × List Int)) → (List Bool) → (List Int) → (List Int) → (List Int) → Option R) => (bif (decide (y15_3 < y15_2)) then (bif decide (0 ≤ y15_3) then (bif decide (y15_3 < (y15_1.length : Int)) then (bif decide (0 ≤ (y15_1.getD (Int.toNat y15_3) 0)) then (bif decide ((y15_1.getD (Int.toNat y15_3) 0) < (y15_4.length : Int)) then (bif (!(y15_4.getD (Int.toNat (y15_1.getD (Int.toNat y15_3) 0)) false)) then (bif decide (0 ≤ (y15_1.getD (Int.toNat y15_3) 0)) then (bif decide ((y15_1.getD (Int.toNat y15_3) 0) < (y15_4.length : Int)) then (bif decide (y15_6.length + ([(y15_1.getD (Int.toNat y15_3) 0)]).length ≤ LIM) then (bif decide (0 ≤ (y15_1.getD (Int.toNat y15_3) 0)) then (bif decide ((y15_1.getD (Int.toNat y15_3) 0) < (y15_5.length : Int)) then spec_l8Run_l15 n y15_0 y15_1 y15_2 (IntKind.wrap .i64 (y15_3 + 1)) (y15_4.set (Int.toNat (y15_1.getD (Int.toNat y15_3) 0)) true) (y15_5.set (Int.toNat (y15_1.getD (Int.toNat y15_3) 0)) (-1)) (y15_6 ++ [(y15_1.getD (Int.toNat y15_3) 0)]) y15_7 kexit2 else none) else none) else none) else none) else none) else (bif decide (0 ≤ (y15_1.getD (Int.toNat y15_3) 0)) then (bif decide ((y15_1.getD (Int.toNat y15_3) 0) < (y15_5.length : Int)) then spec_l8Run_l15 n y15_0 y15_1 y15_2 (IntKind.wrap .i64 (y15_3 + 1)) y15_4 (y15_5.set (Int.toNat (y15_1.getD (Int.toNat y15_3) 0)) (-1)) y15_6 y15_7 kexit2 else none) else none)) else none) else none) else none) else none) else kexit2 y15_0 y15_4 y15_5 y15_6 y15_7)) (fun r0 r1 r2 r3 r4 => kk (.exit 2) (PkS.pack Tspec_l8Run_l15_0 (r0, r1, r2, r3, r4, ()))) := by kernel_rfl
theorem lespec_l8Run_l15 : LoopEq tt sig (fun n => mkK [(73, Kspec_l1Has @spec_l1Has n)]) (fun n => mkL (mkK [(73, Kspec_l1Has @spec_l1Has n)]) [(6, Dspec_l8Run_l6, Pspec_l8Run_l6 @spec_l8Run_l6 n)]) Dspec_l8Run_l15 Sspec_l8Run_l15 (loopIn 15 (bodyOf Try.f56)) (Pspec_l8Run_l15 @spec_l8Run_l15) where
  zero R q kk := by unfold Pspec_l8Run_l15; cases (PkS.un Sspec_l8Run_l15 q) <;> rfl
  succ n R q kk := by
    unfold Pspec_l8Run_l15
    cases h : (PkS.un Sspec_l8Run_l15 q) with
    | none => rfl
    | some d =>
      obtain ⟨y15_0, y15_1, y15_2, y15_3, y15_4, y15_5, y15_6, y15_7, u⟩ := (d : (List (Int × List Int)) × (List Int) × Int × Int × (List Bool) × (List Int) × (List Int) × (List Int) × Unit)
      have hp := PkS.un_pack h
      subst hp
      exact (espec_l8Run_l15 @spec_l1Has @spec_l8Run_l6 @spec_l8Run_l15 n y15_0 y15_1 y15_2 y15_3 y15_4 y15_5 y15_6 y15_7 kk).symm
theorem nlspec_l8Run_l15 : ∀ n, NatLP (Pspec_l8Run_l15 @spec_l8Run_l15 n) := lespec_l8Run_l15.nat (fun n => mkK_nat (cspec_l8Run n)) fun n => mkL_nat (mkK_nat (cspec_l8Run n)) (l := [(6, Dspec_l8Run_l6, Pspec_l8Run_l6 @spec_l8Run_l6 n)]) ⟨nlspec_l8Run_l6 n, trivial⟩
theorem inspec_l8Run_l15 (n : Nat) (R : Type) : LoopsOk Try.prog (mkL (mkK [(73, Kspec_l1Has @spec_l1Has n)]) [(6, Dspec_l8Run_l6, Pspec_l8Run_l6 @spec_l8Run_l6 n)] R) (loopIn 15 (bodyOf Try.f56)) := .eq (l := []) (by kernel_rfl) trivial
theorem lkspec_l8Run_l15 (n : Nat) (R : Type) (L0 : LK R) (h0 : ∀ id, firstRegion (loopIn 15 (bodyOf Try.f56)) = some id → L0 id = Dspec_l8Run_l15.oracle (mkK [(73, Kspec_l1Has @spec_l1Has n)] R) (Pspec_l8Run_l15 @spec_l8Run_l15 n R)) : LoopOk Try.prog L0 (loopIn 15 (bodyOf Try.f56)) :=
  lespec_l8Run_l15.ok mixed ttok (fun n => mkK_nat (cspec_l8Run n)) (fun n => mkK_ok (cspec_l8Run n)) (fun n => inspec_l8Run_l15 n R) (mkK_nat (cspec_l8Run n)) h0
@[reducible] def Sspec_l8Run_l27 : PkS := ⟨[.one (.ro (.pr (.int .i64) (.sl (.int .i64)))), .one (.whole (100000, 0)), .one (.whole (100000, 1)), .one (.whole (100000, 2)), .one (.whole (100000, 3)), .one (.int .i64), .one (.int .i64), .one (.ro (.pr (.int .i64) (.sl (.int .i64)))), .one (.int .i64), .one (.int .i64), .one (.dead), .one (.dead)], [((100000, 0), .arr .bool), ((100000, 1), .arr (.int .i64)), ((100000, 2), .arr (.int .i64)), ((100000, 3), .arr (.int .i64))]⟩
@[reducible] def Tspec_l8Run_l27_0 : PkS := ⟨[.one (.ro (.pr (.int .i64) (.sl (.int .i64)))), .one (.whole (100000, 0)), .one (.whole (100000, 1)), .one (.whole (100000, 2)), .one (.whole (100000, 3)), .one (.int .i64), .one (.int .i64), .one (.dead), .one (.dead)], [((100000, 0), .arr .bool), ((100000, 1), .arr (.int .i64)), ((100000, 2), .arr (.int .i64)), ((100000, 3), .arr (.int .i64))]⟩
def Dspec_l8Run_l27 : LoopD := ⟨149, [0, 8, 9, 10, 11, 16, 17, 94, 95, 96], [.one (.ro (.pr (.int .i64) (.sl (.int .i64)))), .one (.own .bool), .one (.own (.int .i64)), .one (.own (.int .i64)), .one (.own (.int .i64)), .one .any, .one .any, .one (.ro (.pr (.int .i64) (.sl (.int .i64)))), .one .any, .one .any, .skip, .skip], fun x => match x with
  | .exit 6 => some ([0, 8, 9, 10, 11, 16, 17], [.one (.ro (.pr (.int .i64) (.sl (.int .i64)))), .one (.own .bool), .one (.own (.int .i64)), .one (.own (.int .i64)), .one (.own (.int .i64)), .one .any, .one .any, .skip, .skip])
  | _ => none⟩
def Pspec_l8Run_l27 (g : ∀ {R : Type}, Nat → (List (Int × List Int)) → Int → Int → (List (Int × List Int)) → Int → Int → (List Bool) → (List Int) → (List Int) → (List Int) → ((List (Int × List Int)) → Int → Int → (List Bool) → (List Int) → (List Int) → (List Int) → Option R) → Option R) (n : Nat) : LPs := fun R q kk => match (PkS.un Sspec_l8Run_l27 q : Option ((List (Int × List Int)) × Int × Int × (List (Int × List Int)) × Int × Int × (List Bool) × (List Int) × (List Int) × (List Int) × Unit)) with
  | some (y27_0, y27_1, y27_2, y27_3, y27_4, y27_5, y27_6, y27_7, y27_8, y27_9, _) => g n y27_0 y27_1 y27_2 y27_3 y27_4 y27_5 y27_6 y27_7 y27_8 y27_9 (fun r0 r1 r2 r3 r4 r5 r6 => kk (.exit 6) (PkS.pack Tspec_l8Run_l27_0 (r0, r1, r2, r3, r4, r5, r6, ())))
  | none => none
theorem espec_l8Run_l27 (spec_l1Has : ∀ {R : Type}, Nat → (List Int) → Int → (Bool → Option R) → Option R) (spec_l8Run_l6 : ∀ {R : Type}, Nat → (List (Int × List Int)) → (List Int) → (List (Int × List Int)) → Int → Int → (List Bool) → (List Int) → (List Int) → (List Int) → ((List (Int × List Int)) → (List Int) → (List Bool) → (List Int) → (List Int) → (List Int) → Option R) → Option R) (spec_l8Run_l15 : ∀ {R : Type}, Nat → (List (Int × List Int)) → (List Int) → Int → Int → (List Bool) → (List Int) → (List Int) → (List Int) → ((List (Int × List Int)) → (List Bool) → (List Int) → (List Int) → (List Int) → Option R) → Option R) (spec_l8Run_l27 : ∀ {R : Type}, Nat → (List (Int × List Int)) → Int → Int → (List (Int × List Int)) → Int → Int → (List Bool) → (List Int) → (List Int) → (List Int) → ((List (Int × List Int)) → Int → Int → (List Bool) → (List Int) → (List Int) → (List Int) → Option R) → Option R) {R : Type} (n : Nat) (y27_0 : List (Int × List Int)) (y27_1 : Int) (y27_2 : Int) (y27_3 : List (Int × List Int)) (y27_4 : Int) (y27_5 : Int) (y27_6 : List Bool) (y27_7 : List Int) (y27_8 : List Int) (y27_9 : List Int) (kk : Ex → Pk → Option R) : Dspec_l8Run_l27.step tt sig (mkK [(73, Kspec_l1Has @spec_l1Has n)] R) (mkL (mkK [(73, Kspec_l1Has @spec_l1Has n)]) [(6, Dspec_l8Run_l6, Pspec_l8Run_l6 @spec_l8Run_l6 n), (15, Dspec_l8Run_l15, Pspec_l8Run_l15 @spec_l8Run_l15 n)] R) (loopIn 27 (bodyOf Try.f56)) (fun q' => Pspec_l8Run_l27 @spec_l8Run_l27 n R q' kk) (PkS.pack Sspec_l8Run_l27 (y27_0, y27_1, y27_2, y27_3, y27_4, y27_5, y27_6, y27_7, y27_8, y27_9, ())) kk = (fun (kexit6 : (List (Int × List Int)) → Int → Int → (List Bool) → (List Int) → (List Int) → (List Int) → Option R) => (bif (decide (y27_5 < y27_4)) then (bif decide (0 ≤ y27_5) then (bif decide (y27_5 < (y27_3.length : Int)) then (bif decide (0 ≤ y27_2) then (bif decide (y27_2 < (y27_8.length : Int)) then (spec_l1Has n ((y27_3.getD (Int.toNat y27_5) (0, [])).2) (y27_8.getD (Int.toNat y27_2) 0) fun r12 => (bif (!r12) then spec_l8Run_l27 n y27_0 y27_1 y27_2 y27_3 y27_4 (IntKind.wrap .i64 (y27_5 + 1)) y27_6 y27_7 y27_8 y27_9 kexit6 else (bif decide (0 ≤ y27_5) then (bif decide (y27_5 < (y27_9.length : Int)) then (bif decide (0 ≤ y27_5) then (bif decide (y27_5 < (y27_9.length : Int)) then (bif decide (0 ≤ y27_5) then (bif decide (y27_5 < ((y27_9.set (Int.toNat y27_5) (IntKind.wrap .i64 ((y27_9.getD (Int.toNat y27_5) 0) - 1))).length : Int)) then (bif (((y27_9.set (Int.toNat y27_5) (IntKind.wrap .i64 ((y27_9.getD (Int.toNat y27_5) 0) - 1))).getD (Int.toNat y27_5) 0) == 0) then (bif decide (0 ≤ (y27_3.getD (Int.toNat y27_5) (0, [])).1) then (bif decide ((y27_3.getD (Int.toNat y27_5) (0, [])).1 < (y27_6.length : Int)) then (bif (!(y27_6.getD (Int.toNat ((y27_3.getD (Int.toNat y27_5) (0, [])).1)) false)) then (bif decide (0 ≤ (y27_3.getD (Int.toNat y27_5) (0, [])).1) then (bif decide ((y27_3.getD (Int.toNat y27_5) (0, [])).1 < (y27_6.length : Int)) then (bif decide (0 ≤ (y27_3.getD (Int.toNat y27_5) (0, [])).1) then (bif decide ((y27_3.getD (Int.toNat y27_5) (0, [])).1 < (y27_7.length : Int)) then (bif decide (y27_8.length + ([(y27_3.getD (Int.toNat y27_5) (0, [])).1]).length ≤ LIM) then spec_l8Run_l27 n y27_0 (IntKind.wrap .i64 (y27_1 + 1)) y27_2 y27_3 y27_4 (IntKind.wrap .i64 (y27_5 + 1)) (y27_6.set (Int.toNat ((y27_3.getD (Int.toNat y27_5) (0, [])).1)) true) (y27_7.set (Int.toNat ((y27_3.getD (Int.toNat y27_5) (0, [])).1)) y27_5) (y27_8 ++ [(y27_3.getD (Int.toNat y27_5) (0, [])).1]) (y27_9.set (Int.toNat y27_5) (IntKind.wrap .i64 ((y27_9.getD (Int.toNat y27_5) 0) - 1))) kexit6 else none) else none) else none) else none) else none) else spec_l8Run_l27 n y27_0 (IntKind.wrap .i64 (y27_1 + 1)) y27_2 y27_3 y27_4 (IntKind.wrap .i64 (y27_5 + 1)) y27_6 y27_7 y27_8 (y27_9.set (Int.toNat y27_5) (IntKind.wrap .i64 ((y27_9.getD (Int.toNat y27_5) 0) - 1))) kexit6) else none) else none) else spec_l8Run_l27 n y27_0 (IntKind.wrap .i64 (y27_1 + 1)) y27_2 y27_3 y27_4 (IntKind.wrap .i64 (y27_5 + 1)) y27_6 y27_7 y27_8 (y27_9.set (Int.toNat y27_5) (IntKind.wrap .i64 ((y27_9.getD (Int.toNat y27_5) 0) - 1))) kexit6) else none) else none) else none) else none) else none) else none))) else none) else none) else none) else none) else kexit6 y27_0 y27_1 y27_2 y27_6 y27_7 y27_8 y27_9)) (fun r0 r1 r2 r3 r4 r5 r6 => kk (.exit 6) (PkS.pack Tspec_l8Run_l27_0 (r0, r1, r2, r3, r4, r5, r6, ()))) := by kernel_rfl
theorem lespec_l8Run_l27 : LoopEq tt sig (fun n => mkK [(73, Kspec_l1Has @spec_l1Has n)]) (fun n => mkL (mkK [(73, Kspec_l1Has @spec_l1Has n)]) [(6, Dspec_l8Run_l6, Pspec_l8Run_l6 @spec_l8Run_l6 n), (15, Dspec_l8Run_l15, Pspec_l8Run_l15 @spec_l8Run_l15 n)]) Dspec_l8Run_l27 Sspec_l8Run_l27 (loopIn 27 (bodyOf Try.f56)) (Pspec_l8Run_l27 @spec_l8Run_l27) where
  zero R q kk := by unfold Pspec_l8Run_l27; cases (PkS.un Sspec_l8Run_l27 q) <;> rfl
  succ n R q kk := by
    unfold Pspec_l8Run_l27
    cases h : (PkS.un Sspec_l8Run_l27 q) with
    | none => rfl
    | some d =>
      obtain ⟨y27_0, y27_1, y27_2, y27_3, y27_4, y27_5, y27_6, y27_7, y27_8, y27_9, u⟩ := (d : (List (Int × List Int)) × Int × Int × (List (Int × List Int)) × Int × Int × (List Bool) × (List Int) × (List Int) × (List Int) × Unit)
      have hp := PkS.un_pack h
      subst hp
      exact (espec_l8Run_l27 @spec_l1Has @spec_l8Run_l6 @spec_l8Run_l15 @spec_l8Run_l27 n y27_0 y27_1 y27_2 y27_3 y27_4 y27_5 y27_6 y27_7 y27_8 y27_9 kk).symm
theorem nlspec_l8Run_l27 : ∀ n, NatLP (Pspec_l8Run_l27 @spec_l8Run_l27 n) := lespec_l8Run_l27.nat (fun n => mkK_nat (cspec_l8Run n)) fun n => mkL_nat (mkK_nat (cspec_l8Run n)) (l := [(6, Dspec_l8Run_l6, Pspec_l8Run_l6 @spec_l8Run_l6 n), (15, Dspec_l8Run_l15, Pspec_l8Run_l15 @spec_l8Run_l15 n)]) ⟨nlspec_l8Run_l6 n, ⟨nlspec_l8Run_l15 n, trivial⟩⟩
theorem inspec_l8Run_l27 (n : Nat) (R : Type) : LoopsOk Try.prog (mkL (mkK [(73, Kspec_l1Has @spec_l1Has n)]) [(6, Dspec_l8Run_l6, Pspec_l8Run_l6 @spec_l8Run_l6 n), (15, Dspec_l8Run_l15, Pspec_l8Run_l15 @spec_l8Run_l15 n)] R) (loopIn 27 (bodyOf Try.f56)) := .eq (l := []) (by kernel_rfl) trivial
theorem lkspec_l8Run_l27 (n : Nat) (R : Type) (L0 : LK R) (h0 : ∀ id, firstRegion (loopIn 27 (bodyOf Try.f56)) = some id → L0 id = Dspec_l8Run_l27.oracle (mkK [(73, Kspec_l1Has @spec_l1Has n)] R) (Pspec_l8Run_l27 @spec_l8Run_l27 n R)) : LoopOk Try.prog L0 (loopIn 27 (bodyOf Try.f56)) :=
  lespec_l8Run_l27.ok mixed ttok (fun n => mkK_nat (cspec_l8Run n)) (fun n => mkK_ok (cspec_l8Run n)) (fun n => inspec_l8Run_l27 n R) (mkK_nat (cspec_l8Run n)) h0
@[reducible] def Sspec_l8Run_l24 : PkS := ⟨[.one (.ro (.pr (.int .i64) (.sl (.int .i64)))), .one (.whole (100000, 0)), .one (.whole (100000, 1)), .one (.whole (100000, 2)), .one (.whole (100000, 3)), .one (.int .i64), .one (.int .i64), .one (.dead), .one (.dead)], [((100000, 0), .arr .bool), ((100000, 1), .arr (.int .i64)), ((100000, 2), .arr (.int .i64)), ((100000, 3), .arr (.int .i64))]⟩
@[reducible] def Tspec_l8Run_l24_0 : PkS := ⟨[.one (.whole (100000, 0)), .one (.whole (100000, 1)), .one (.whole (100000, 2)), .one (.int .i64), .one (.dead), .one (.dead)], [((100000, 0), .arr .bool), ((100000, 1), .arr (.int .i64)), ((100000, 2), .arr (.int .i64))]⟩
def Dspec_l8Run_l24 : LoopD := ⟨149, [0, 8, 9, 10, 11, 16, 17], [.one (.ro (.pr (.int .i64) (.sl (.int .i64)))), .one (.own .bool), .one (.own (.int .i64)), .one (.own (.int .i64)), .one (.own (.int .i64)), .one .any, .one .any, .skip, .skip], fun x => match x with
  | .exit 4 => some ([8, 9, 10, 16], [.one (.own .bool), .one (.own (.int .i64)), .one (.own (.int .i64)), .one .any, .skip, .skip])
  | _ => none⟩
def Pspec_l8Run_l24 (g : ∀ {R : Type}, Nat → (List (Int × List Int)) → Int → Int → (List Bool) → (List Int) → (List Int) → (List Int) → (Int → (List Bool) → (List Int) → (List Int) → Option R) → Option R) (n : Nat) : LPs := fun R q kk => match (PkS.un Sspec_l8Run_l24 q : Option ((List (Int × List Int)) × Int × Int × (List Bool) × (List Int) × (List Int) × (List Int) × Unit)) with
  | some (y24_0, y24_1, y24_2, y24_3, y24_4, y24_5, y24_6, _) => g n y24_0 y24_1 y24_2 y24_3 y24_4 y24_5 y24_6 (fun r0 r1 r2 r3 => kk (.exit 4) (PkS.pack Tspec_l8Run_l24_0 (r0, r1, r2, r3, ())))
  | none => none
theorem espec_l8Run_l24 (spec_l1Has : ∀ {R : Type}, Nat → (List Int) → Int → (Bool → Option R) → Option R) (spec_l8Run_l6 : ∀ {R : Type}, Nat → (List (Int × List Int)) → (List Int) → (List (Int × List Int)) → Int → Int → (List Bool) → (List Int) → (List Int) → (List Int) → ((List (Int × List Int)) → (List Int) → (List Bool) → (List Int) → (List Int) → (List Int) → Option R) → Option R) (spec_l8Run_l15 : ∀ {R : Type}, Nat → (List (Int × List Int)) → (List Int) → Int → Int → (List Bool) → (List Int) → (List Int) → (List Int) → ((List (Int × List Int)) → (List Bool) → (List Int) → (List Int) → (List Int) → Option R) → Option R) (spec_l8Run_l27 : ∀ {R : Type}, Nat → (List (Int × List Int)) → Int → Int → (List (Int × List Int)) → Int → Int → (List Bool) → (List Int) → (List Int) → (List Int) → ((List (Int × List Int)) → Int → Int → (List Bool) → (List Int) → (List Int) → (List Int) → Option R) → Option R) (spec_l8Run_l24 : ∀ {R : Type}, Nat → (List (Int × List Int)) → Int → Int → (List Bool) → (List Int) → (List Int) → (List Int) → (Int → (List Bool) → (List Int) → (List Int) → Option R) → Option R) {R : Type} (n : Nat) (y24_0 : List (Int × List Int)) (y24_1 : Int) (y24_2 : Int) (y24_3 : List Bool) (y24_4 : List Int) (y24_5 : List Int) (y24_6 : List Int) (kk : Ex → Pk → Option R) : Dspec_l8Run_l24.step tt sig (mkK [(73, Kspec_l1Has @spec_l1Has n)] R) (mkL (mkK [(73, Kspec_l1Has @spec_l1Has n)]) [(6, Dspec_l8Run_l6, Pspec_l8Run_l6 @spec_l8Run_l6 n), (15, Dspec_l8Run_l15, Pspec_l8Run_l15 @spec_l8Run_l15 n), (27, Dspec_l8Run_l27, Pspec_l8Run_l27 @spec_l8Run_l27 n)] R) (loopIn 24 (bodyOf Try.f56)) (fun q' => Pspec_l8Run_l24 @spec_l8Run_l24 n R q' kk) (PkS.pack Sspec_l8Run_l24 (y24_0, y24_1, y24_2, y24_3, y24_4, y24_5, y24_6, ())) kk = (fun (kexit4 : Int → (List Bool) → (List Int) → (List Int) → Option R) => (bif (decide (y24_2 < (y24_5.length : Int))) then (spec_l8Run_l27 n y24_0 y24_1 y24_2 y24_0 (y24_0.length : Int) 0 y24_3 y24_4 y24_5 y24_6 (fun r13 r14 r15 r16 r17 r18 r19 => spec_l8Run_l24 n r13 r14 (IntKind.wrap .i64 (r15 + 1)) r16 r17 r18 r19 kexit4)) else kexit4 y24_1 y24_3 y24_4 y24_5)) (fun r0 r1 r2 r3 => kk (.exit 4) (PkS.pack Tspec_l8Run_l24_0 (r0, r1, r2, r3, ()))) := by kernel_rfl
theorem lespec_l8Run_l24 : LoopEq tt sig (fun n => mkK [(73, Kspec_l1Has @spec_l1Has n)]) (fun n => mkL (mkK [(73, Kspec_l1Has @spec_l1Has n)]) [(6, Dspec_l8Run_l6, Pspec_l8Run_l6 @spec_l8Run_l6 n), (15, Dspec_l8Run_l15, Pspec_l8Run_l15 @spec_l8Run_l15 n), (27, Dspec_l8Run_l27, Pspec_l8Run_l27 @spec_l8Run_l27 n)]) Dspec_l8Run_l24 Sspec_l8Run_l24 (loopIn 24 (bodyOf Try.f56)) (Pspec_l8Run_l24 @spec_l8Run_l24) where
  zero R q kk := by unfold Pspec_l8Run_l24; cases (PkS.un Sspec_l8Run_l24 q) <;> rfl
  succ n R q kk := by
    unfold Pspec_l8Run_l24
    cases h : (PkS.un Sspec_l8Run_l24 q) with
    | none => rfl
    | some d =>
      obtain ⟨y24_0, y24_1, y24_2, y24_3, y24_4, y24_5, y24_6, u⟩ := (d : (List (Int × List Int)) × Int × Int × (List Bool) × (List Int) × (List Int) × (List Int) × Unit)
      have hp := PkS.un_pack h
      subst hp
      exact (espec_l8Run_l24 @spec_l1Has @spec_l8Run_l6 @spec_l8Run_l15 @spec_l8Run_l27 @spec_l8Run_l24 n y24_0 y24_1 y24_2 y24_3 y24_4 y24_5 y24_6 kk).symm
theorem nlspec_l8Run_l24 : ∀ n, NatLP (Pspec_l8Run_l24 @spec_l8Run_l24 n) := lespec_l8Run_l24.nat (fun n => mkK_nat (cspec_l8Run n)) fun n => mkL_nat (mkK_nat (cspec_l8Run n)) (l := [(6, Dspec_l8Run_l6, Pspec_l8Run_l6 @spec_l8Run_l6 n), (15, Dspec_l8Run_l15, Pspec_l8Run_l15 @spec_l8Run_l15 n), (27, Dspec_l8Run_l27, Pspec_l8Run_l27 @spec_l8Run_l27 n)]) ⟨nlspec_l8Run_l6 n, ⟨nlspec_l8Run_l15 n, ⟨nlspec_l8Run_l27 n, trivial⟩⟩⟩
theorem inspec_l8Run_l24 (n : Nat) (R : Type) : LoopsOk Try.prog (mkL (mkK [(73, Kspec_l1Has @spec_l1Has n)]) [(6, Dspec_l8Run_l6, Pspec_l8Run_l6 @spec_l8Run_l6 n), (15, Dspec_l8Run_l15, Pspec_l8Run_l15 @spec_l8Run_l15 n), (27, Dspec_l8Run_l27, Pspec_l8Run_l27 @spec_l8Run_l27 n)] R) (loopIn 24 (bodyOf Try.f56)) := .eq (l := [.lo (loopIn 27 (bodyOf Try.f56))]) (by kernel_rfl) ⟨(lkspec_l8Run_l27 n R _ (at_id (i := 27) (by kernel_rfl) rfl)), trivial⟩
theorem lkspec_l8Run_l24 (n : Nat) (R : Type) (L0 : LK R) (h0 : ∀ id, firstRegion (loopIn 24 (bodyOf Try.f56)) = some id → L0 id = Dspec_l8Run_l24.oracle (mkK [(73, Kspec_l1Has @spec_l1Has n)] R) (Pspec_l8Run_l24 @spec_l8Run_l24 n R)) : LoopOk Try.prog L0 (loopIn 24 (bodyOf Try.f56)) :=
  lespec_l8Run_l24.ok mixed ttok (fun n => mkK_nat (cspec_l8Run n)) (fun n => mkK_ok (cspec_l8Run n)) (fun n => inspec_l8Run_l24 n R) (mkK_nat (cspec_l8Run n)) h0
@[reducible] def Sspec_l8Run : PkS := ⟨[.one (.ro (.pr (.int .i64) (.sl (.int .i64)))), .one (.ro (.int .i64))], []⟩
@[reducible] def Tspec_l8Run : PkS := ⟨[.tup [(false, [.whole (300000, 0)]), (false, [.whole (300000, 1)]), (false, [.whole (300000, 2)]), (false, [.int .i64])], .one (.dead), .one (.dead)], [((300000, 0), .arr .bool), ((300000, 1), .arr (.int .i64)), ((300000, 2), .arr (.int .i64))]⟩
def Hspec_l8Run : List Sh := [.tup [(false, [(.own .bool)]), (false, [(.own (.int .i64))]), (false, [(.own (.int .i64))]), (false, [.any])], .skip, .skip]
def Kspec_l8Run (g : ∀ {R : Type}, Nat → (List (Int × List Int)) → (List Int) → (Int → (List Bool) → (List Int) → (List Int) → Option R) → Option R) (n : Nat) : KPs := fun R p k => match (PkS.un Sspec_l8Run p : Option ((List (Int × List Int)) × (List Int) × Unit)) with
  | some (x0, x1, _) => g n x0 x1 (fun r0 r1 r2 r3 => k (PkS.pack Tspec_l8Run (r0, r1, r2, r3, ())))
  | none => none
theorem espec_l8Run (spec_l1Has : ∀ {R : Type}, Nat → (List Int) → Int → (Bool → Option R) → Option R) (spec_l8Run_l6 : ∀ {R : Type}, Nat → (List (Int × List Int)) → (List Int) → (List (Int × List Int)) → Int → Int → (List Bool) → (List Int) → (List Int) → (List Int) → ((List (Int × List Int)) → (List Int) → (List Bool) → (List Int) → (List Int) → (List Int) → Option R) → Option R) (spec_l8Run_l15 : ∀ {R : Type}, Nat → (List (Int × List Int)) → (List Int) → Int → Int → (List Bool) → (List Int) → (List Int) → (List Int) → ((List (Int × List Int)) → (List Bool) → (List Int) → (List Int) → (List Int) → Option R) → Option R) (spec_l8Run_l27 : ∀ {R : Type}, Nat → (List (Int × List Int)) → Int → Int → (List (Int × List Int)) → Int → Int → (List Bool) → (List Int) → (List Int) → (List Int) → ((List (Int × List Int)) → Int → Int → (List Bool) → (List Int) → (List Int) → (List Int) → Option R) → Option R) (spec_l8Run_l24 : ∀ {R : Type}, Nat → (List (Int × List Int)) → Int → Int → (List Bool) → (List Int) → (List Int) → (List Int) → (Int → (List Bool) → (List Int) → (List Int) → Option R) → Option R) {R : Type} (n : Nat) (x0 : List (Int × List Int)) (x1 : List Int) (k : Pk → Option R) : evF tt sig (mkK [(73, Kspec_l1Has @spec_l1Has n)] R) (mkL (mkK [(73, Kspec_l1Has @spec_l1Has n)]) [(6, Dspec_l8Run_l6, Pspec_l8Run_l6 @spec_l8Run_l6 n), (15, Dspec_l8Run_l15, Pspec_l8Run_l15 @spec_l8Run_l15 n), (27, Dspec_l8Run_l27, Pspec_l8Run_l27 @spec_l8Run_l27 n), (24, Dspec_l8Run_l24, Pspec_l8Run_l24 @spec_l8Run_l24 n)] R) Try.f56 Hspec_l8Run (PkS.pack Sspec_l8Run (x0, x1, ())) k = (fun (k : Int → (List Bool) → (List Int) → (List Int) → Option R) => (bif decide (0 ≤ (x0.length : Int)) then (bif decide ((x0.length : Int) ≤ (x0.length : Int)) then (bif decide ((x0.length : Int) ≤ 1099511627776) then (spec_l8Run_l6 n x0 x1 x0 (x0.length : Int) 0 (List.replicate 40 false) (List.replicate 40 (0 : Int)) ([] : List Int) (List.replicate (Int.toNat (x0.length : Int)) (0 : Int)) (fun r1 r2 r3 r4 r5 r6 => (spec_l8Run_l15 n r1 r2 (r2.length : Int) 0 r3 r4 r5 r6 (fun r7 r8 r9 r10 r11 => (spec_l8Run_l24 n r7 0 0 r8 r9 r10 r11 (fun r20 r21 r22 r23 => k r20 r21 r22 r23)))))) else none) else none) else none)) (fun r0 r1 r2 r3 => k (PkS.pack Tspec_l8Run (r0, r1, r2, r3, ()))) := by kernel_rfl
theorem okspec_l8Run (n : Nat) : FnOk Try.prog 56 (Kspec_l8Run @spec_l8Run n) := by
  refine fn_ok (sig := sig) mixed ttok (mkK_nat (cspec_l8Run n)) (mkK_ok (cspec_l8Run n)) (mkL_nat (mkK_nat (cspec_l8Run n)) (l := [(6, Dspec_l8Run_l6, Pspec_l8Run_l6 @spec_l8Run_l6 n), (15, Dspec_l8Run_l15, Pspec_l8Run_l15 @spec_l8Run_l15 n), (27, Dspec_l8Run_l27, Pspec_l8Run_l27 @spec_l8Run_l27 n), (24, Dspec_l8Run_l24, Pspec_l8Run_l24 @spec_l8Run_l24 n)]) ⟨nlspec_l8Run_l6 n, ⟨nlspec_l8Run_l15 n, ⟨nlspec_l8Run_l27 n, ⟨nlspec_l8Run_l24 n, trivial⟩⟩⟩⟩) (fn := Try.f56) (c := bodyOf Try.f56) (by kernel_rfl) (by kernel_rfl) (by kernel_rfl) (.eq (l := [.lo (loopIn 6 (bodyOf Try.f56)), .lo (loopIn 15 (bodyOf Try.f56)), .lo (loopIn 24 (bodyOf Try.f56))]) (by kernel_rfl) ⟨(lkspec_l8Run_l6 n _ _ (at_id (i := 6) (by kernel_rfl) rfl)), ⟨(lkspec_l8Run_l15 n _ _ (at_id (i := 15) (by kernel_rfl) rfl)), ⟨(lkspec_l8Run_l24 n _ _ (at_id (i := 24) (by kernel_rfl) rfl)), trivial⟩⟩⟩) (shs := Hspec_l8Run) (S := Sspec_l8Run) (h1 := by kernel_rfl) fun R p k => ?_
  unfold Kspec_l8Run
  cases h : (PkS.un Sspec_l8Run p) with
  | none => rfl
  | some d =>
    obtain ⟨x0, x1, u⟩ := (d : (List (Int × List Int)) × (List Int) × Unit)
    have hp := PkS.un_pack h
    subst hp
    exact (espec_l8Run @spec_l1Has @spec_l8Run_l6 @spec_l8Run_l15 @spec_l8Run_l27 @spec_l8Run_l24 n x0 x1 k).symm

/-! ### loop.example/g00269/spec.WhyOf -/
theorem cspec_WhyOf (n : Nat) : AllOk Try.prog [(13, Kspec_GoodRules @spec_GoodRules n), (41, Kspec_l8Set @spec_l8Set n), (40, Kspec_l1In @spec_l1In n), (56, Kspec_l8Run @spec_l8Run n)] := ⟨okspec_GoodRules n, ⟨okspec_l8Set n, ⟨okspec_l1In n, ⟨okspec_l8Run n, trivial⟩⟩⟩⟩
@[reducible] def Sspec_WhyOf_l14 : PkS := ⟨[.one (.ro (.pr (.int .i64) (.sl (.int .i64)))), .one (.whole (100000, 0)), .one (.whole (100000, 1)), .one (.whole (100000, 2)), .one (.int .i64), .one (.ro (.int .i64)), .one (.int .i64), .one (.int .i64), .one (.dead), .one (.dead), .one (.dead)], [((100000, 0), .arr (.int .i64)), ((100000, 1), .arr (.int .i64)), ((100000, 2), .arr .bool)]⟩
@[reducible] def Tspec_WhyOf_l14_0 : PkS := ⟨[.one (.ro (.pr (.int .i64) (.sl (.int .i64)))), .one (.whole (100000, 0)), .one (.whole (100000, 1)), .one (.whole (100000, 2)), .one (.int .i64), .one (.dead), .one (.dead), .one (.dead)], [((100000, 0), .arr (.int .i64)), ((100000, 1), .arr (.int .i64)), ((100000, 2), .arr .bool)]⟩
def Dspec_WhyOf_l14 : LoopD := ⟨115, [0, 9, 10, 12, 13, 79, 80, 81], [.one (.ro (.pr (.int .i64) (.sl (.int .i64)))), .one (.own (.int .i64)), .one (.own (.int .i64)), .one (.own .bool), .one .any, .one (.ro (.int .i64)), .one .any, .one .any, .skip, .skip, .skip], fun x => match x with
  | .exit 2 => some ([0, 9, 10, 12, 13], [.one (.ro (.pr (.int .i64) (.sl (.int .i64)))), .one (.own (.int .i64)), .one (.own (.int .i64)), .one (.own .bool), .one .any, .skip, .skip, .skip])
  | _ => none⟩
def Pspec_WhyOf_l14 (g : ∀ {R : Type}, Nat → (List (Int × List Int)) → Int → (List Int) → Int → Int → (List Int) → (List Int) → (List Bool) → ((List (Int × List Int)) → Int → (List Int) → (List Int) → (List Bool) → Option R) → Option R) (n : Nat) : LPs := fun R q kk => match (PkS.un Sspec_WhyOf_l14 q : Option ((List (Int × List Int)) × Int × (List Int) × Int × Int × (List Int) × (List Int) × (List Bool) × Unit)) with
  | some (y14_0, y14_1, y14_2, y14_3, y14_4, y14_5, y14_6, y14_7, _) => g n y14_0 y14_1 y14_2 y14_3 y14_4 y14_5 y14_6 y14_7 (fun r0 r1 r2 r3 r4 => kk (.exit 2) (PkS.pack Tspec_WhyOf_l14_0 (r0, r1, r2, r3, r4, ())))
  | none => none
theorem espec_WhyOf_l14 (spec_GoodRules : ∀ {R : Type}, Nat → (List (Int × List Int)) → (Bool → Option R) → Option R) (spec_l8Set : ∀ {R : Type}, Nat → (List Int) → (Bool → Option R) → Option R) (spec_l1In : ∀ {R : Type}, Nat → Int → Int → Int → (Bool → Option R) → Option R) (spec_l8Run : ∀ {R : Type}, Nat → (List (Int × List Int)) → (List Int) → (Int → (List Bool) → (List Int) → (List Int) → Option R) → Option R) (spec_WhyOf_l14 : ∀ {R : Type}, Nat → (List (Int × List Int)) → Int → (List Int) → Int → Int → (List Int) → (List Int) → (List Bool) → ((List (Int × List Int)) → Int → (List Int) → (List Int) → (List Bool) → Option R) → Option R) {R : Type} (n : Nat) (y14_0 : List (Int × List Int)) (y14_1 : Int) (y14_2 : List Int) (y14_3 : Int) (y14_4 : Int) (y14_5 : List Int) (y14_6 : List Int) (y14_7 : List Bool) (kk : Ex → Pk → Option R) : Dspec_WhyOf_l14.step tt sig (mkK [(13, Kspec_GoodRules @spec_GoodRules n), (41, Kspec_l8Set @spec_l8Set n), (40, Kspec_l1In @spec_l1In n), (56, Kspec_l8Run @spec_l8Run n)] R) (mkL (mkK [(13, Kspec_GoodRules @spec_GoodRules n), (41, Kspec_l8Set @spec_l8Set n), (40, Kspec_l1In @spec_l1In n), (56, Kspec_l8Run @spec_l8Run n)]) [] R) (loopIn 14 (bodyOf Try.f32)) (fun q' => Pspec_WhyOf_l14 @spec_WhyOf_l14 n R q' kk) (PkS.pack Sspec_WhyOf_l14 (y14_0, y14_1, y14_2, y14_3, y14_4, y14_5, y14_6, y14_7, ())) kk = (fun (kexit2 : (List (Int × List Int)) → Int → (List Int) → (List Int) → (List Bool) → Option R) => (bif (decide (y14_4 < y14_3)) then (bif decide (0 ≤ y14_4) then (bif decide (y14_4 < (y14_2.length : Int)) then (bif decide (0 ≤ (y14_2.getD (Int.toNat y14_4) 0)) then (bif decide ((y14_2.getD (Int.toNat y14_4) 0) < (y14_7.length : Int)) then spec_WhyOf_l14 n y14_0 y14_1 y14_2 y14_3 (IntKind.wrap .i64 (y14_4 + 1)) y14_5 y14_6 (y14_7.set (Int.toNat (y14_2.getD (Int.toNat y14_4) 0)) true) kexit2 else none) else none) else none) else none) else kexit2 y14_0 y14_1 y14_5 y14_6 y14_7)) (fun r0 r1 r2 r3 r4 => kk (.exit 2) (PkS.pack Tspec_WhyOf_l14_0 (r0, r1, r2, r3, r4, ()))) := by kernel_rfl
theorem lespec_WhyOf_l14 : LoopEq tt sig (fun n => mkK [(13, Kspec_GoodRules @spec_GoodRules n), (41, Kspec_l8Set @spec_l8Set n), (40, Kspec_l1In @spec_l1In n), (56, Kspec_l8Run @spec_l8Run n)]) (fun n => mkL (mkK [(13, Kspec_GoodRules @spec_GoodRules n), (41, Kspec_l8Set @spec_l8Set n), (40, Kspec_l1In @spec_l1In n), (56, Kspec_l8Run @spec_l8Run n)]) []) Dspec_WhyOf_l14 Sspec_WhyOf_l14 (loopIn 14 (bodyOf Try.f32)) (Pspec_WhyOf_l14 @spec_WhyOf_l14) where
  zero R q kk := by unfold Pspec_WhyOf_l14; cases (PkS.un Sspec_WhyOf_l14 q) <;> rfl
  succ n R q kk := by
    unfold Pspec_WhyOf_l14
    cases h : (PkS.un Sspec_WhyOf_l14 q) with
    | none => rfl
    | some d =>
      obtain ⟨y14_0, y14_1, y14_2, y14_3, y14_4, y14_5, y14_6, y14_7, u⟩ := (d : (List (Int × List Int)) × Int × (List Int) × Int × Int × (List Int) × (List Int) × (List Bool) × Unit)
      have hp := PkS.un_pack h
      subst hp
      exact (espec_WhyOf_l14 @spec_GoodRules @spec_l8Set @spec_l1In @spec_l8Run @spec_WhyOf_l14 n y14_0 y14_1 y14_2 y14_3 y14_4 y14_5 y14_6 y14_7 kk).symm
theorem nlspec_WhyOf_l14 : ∀ n, NatLP (Pspec_WhyOf_l14 @spec_WhyOf_l14 n) := lespec_WhyOf_l14.nat (fun n => mkK_nat (cspec_WhyOf n)) fun n => mkL_nat (mkK_nat (cspec_WhyOf n)) (l := []) trivial
theorem inspec_WhyOf_l14 (n : Nat) (R : Type) : LoopsOk Try.prog (mkL (mkK [(13, Kspec_GoodRules @spec_GoodRules n), (41, Kspec_l8Set @spec_l8Set n), (40, Kspec_l1In @spec_l1In n), (56, Kspec_l8Run @spec_l8Run n)]) [] R) (loopIn 14 (bodyOf Try.f32)) := .eq (l := []) (by kernel_rfl) trivial
theorem lkspec_WhyOf_l14 (n : Nat) (R : Type) (L0 : LK R) (h0 : ∀ id, firstRegion (loopIn 14 (bodyOf Try.f32)) = some id → L0 id = Dspec_WhyOf_l14.oracle (mkK [(13, Kspec_GoodRules @spec_GoodRules n), (41, Kspec_l8Set @spec_l8Set n), (40, Kspec_l1In @spec_l1In n), (56, Kspec_l8Run @spec_l8Run n)] R) (Pspec_WhyOf_l14 @spec_WhyOf_l14 n R)) : LoopOk Try.prog L0 (loopIn 14 (bodyOf Try.f32)) :=
  lespec_WhyOf_l14.ok mixed ttok (fun n => mkK_nat (cspec_WhyOf n)) (fun n => mkK_ok (cspec_WhyOf n)) (fun n => inspec_WhyOf_l14 n R) (mkK_nat (cspec_WhyOf n)) h0
@[reducible] def Sspec_WhyOf_l9 : PkS := ⟨[.one (.ro (.pr (.int .i64) (.sl (.int .i64)))), .one (.whole (100000, 0)), .one (.whole (100000, 1)), .one (.whole (100000, 2)), .one (.int .i64), .one (.dead), .one (.dead), .one (.dead)], [((100000, 0), .arr (.int .i64)), ((100000, 1), .arr (.int .i64)), ((100000, 2), .arr .bool)]⟩
@[reducible] def Tspec_WhyOf_l9_0 : PkS := ⟨[.one (.whole (100000, 0)), .one (.whole (100000, 1)), .one (.whole (100000, 2)), .one (.dead), .one (.dead), .one (.dead)], [((100000, 0), .arr (.int .i64)), ((100000, 1), .arr (.int .i64)), ((100000, 2), .arr .bool)]⟩
def Dspec_WhyOf_l9 : LoopD := ⟨115, [0, 9, 10, 12, 13], [.one (.ro (.pr (.int .i64) (.sl (.int .i64)))), .one (.own (.int .i64)), .one (.own (.int .i64)), .one (.own .bool), .one .any, .skip, .skip, .skip], fun x => match x with
  | .exit 0 => some ([9, 10, 12], [.one (.own (.int .i64)), .one (.own (.int .i64)), .one (.own .bool), .skip, .skip, .skip])
  | _ => none⟩
def Pspec_WhyOf_l9 (g : ∀ {R : Type}, Nat → (List (Int × List Int)) → Int → (List Int) → (List Int) → (List Bool) → ((List Int) → (List Int) → (List Bool) → Option R) → Option R) (n : Nat) : LPs := fun R q kk => match (PkS.un Sspec_WhyOf_l9 q : Option ((List (Int × List Int)) × Int × (List Int) × (List Int) × (List Bool) × Unit)) with
  | some (y9_0, y9_1, y9_2, y9_3, y9_4, _) => g n y9_0 y9_1 y9_2 y9_3 y9_4 (fun r0 r1 r2 => kk (.exit 0) (PkS.pack Tspec_WhyOf_l9_0 (r0, r1, r2, ())))
  | none => none
theorem espec_WhyOf_l9 (spec_GoodRules : ∀ {R : Type}, Nat → (List (Int × List Int)) → (Bool → Option R) → Option R) (spec_l8Set : ∀ {R : Type}, Nat → (List Int) → (Bool → Option R) → Option R) (spec_l1In : ∀ {R : Type}, Nat → Int → Int → Int → (Bool → Option R) → Option R) (spec_l8Run : ∀ {R : Type}, Nat → (List (Int × List Int)) → (List Int) → (Int → (List Bool) → (List Int) → (List Int) → Option R) → Option R) (spec_WhyOf_l14 : ∀ {R : Type}, Nat → (List (Int × List Int)) → Int → (List Int) → Int → Int → (List Int) → (List Int) → (List Bool) → ((List (Int × List Int)) → Int → (List Int) → (List Int) → (List Bool) → Option R) → Option R) (spec_WhyOf_l9 : ∀ {R : Type}, Nat → (List (Int × List Int)) → Int → (List Int) → (List Int) → (List Bool) → ((List Int) → (List Int) → (List Bool) → Option R) → Option R) {R : Type} (n : Nat) (y9_0 : List (Int × List Int)) (y9_1 : Int) (y9_2 : List Int) (y9_3 : List Int) (y9_4 : List Bool) (kk : Ex → Pk → Option R) : Dspec_WhyOf_l9.step tt sig (mkK [(13, Kspec_GoodRules @spec_GoodRules n), (41, Kspec_l8Set @spec_l8Set n), (40, Kspec_l1In @spec_l1In n), (56, Kspec_l8Run @spec_l8Run n)] R) (mkL (mkK [(13, Kspec_GoodRules @spec_GoodRules n), (41, Kspec_l8Set @spec_l8Set n), (40, Kspec_l1In @spec_l1In n), (56, Kspec_l8Run @spec_l8Run n)]) [(14, Dspec_WhyOf_l14, Pspec_WhyOf_l14 @spec_WhyOf_l14 n)] R) (loopIn 9 (bodyOf Try.f32)) (fun q' => Pspec_WhyOf_l9 @spec_WhyOf_l9 n R q' kk) (PkS.pack Sspec_WhyOf_l9 (y9_0, y9_1, y9_2, y9_3, y9_4, ())) kk = (fun (kexit0 : (List Int) → (List Int) → (List Bool) → Option R) => (bif (decide (y9_1 ≥ 0)) then (bif decide (0 ≤ y9_1) then (bif decide (y9_1 < (y9_3.length : Int)) then (bif decide (0 ≤ (y9_3.getD (Int.toNat y9_1) 0)) then (bif decide ((y9_3.getD (Int.toNat y9_1) 0) < (y9_4.length : Int)) then (bif (y9_4.getD (Int.toNat (y9_3.getD (Int.toNat y9_1) 0)) false) then (bif decide (0 ≤ (y9_3.getD (Int.toNat y9_1) 0)) then (bif decide ((y9_3.getD (Int.toNat y9_1) 0) < (y9_2.length : Int)) then (bif (decide ((y9_2.getD (Int.toNat (y9_3.getD (Int.toNat y9_1) 0)) 0) ≥ 0)) then (bif decide (0 ≤ (y9_3.getD (Int.toNat y9_1) 0)) then (bif decide ((y9_3.getD (Int.toNat y9_1) 0) < (y9_2.length : Int)) then (bif decide (0 ≤ (y9_2.getD (Int.toNat (y9_3.getD (Int.toNat y9_1) 0)) 0)) then (bif decide ((y9_2.getD (Int.toNat (y9_3.getD (Int.toNat y9_1) 0)) 0) < (y9_0.length : Int)) then (spec_WhyOf_l14 n y9_0 y9_1 ((y9_0.getD (Int.toNat (y9_2.getD (Int.toNat (y9_3.getD (Int.toNat y9_1) 0)) 0)) (0, [])).2) (((y9_0.getD (Int.toNat (y9_2.getD (Int.toNat (y9_3.getD (Int.toNat y9_1) 0)) 0)) (0, [])).2).length : Int) 0 y9_2 y9_3 y9_4 (fun r8 r9 r10 r11 r12 => spec_WhyOf_l9 n r8 (IntKind.wrap .i64 (r9 - 1)) r10 r11 r12 kexit0)) else none) else none) else none) else none) else spec_WhyOf_l9 n y9_0 (IntKind.wrap .i64 (y9_1 - 1)) y9_2 y9_3 y9_4 kexit0) else none) else none) else spec_WhyOf_l9 n y9_0 (IntKind.wrap .i64 (y9_1 - 1)) y9_2 y9_3 y9_4 kexit0) else none) else none) else none) else none) else kexit0 y9_2 y9_3 y9_4)) (fun r0 r1 r2 => kk (.exit 0) (PkS.pack Tspec_WhyOf_l9_0 (r0, r1, r2, ()))) := by kernel_rfl
theorem lespec_WhyOf_l9 : LoopEq tt sig (fun n => mkK [(13, Kspec_GoodRules @spec_GoodRules n), (41, Kspec_l8Set @spec_l8Set n), (40, Kspec_l1In @spec_l1In n), (56, Kspec_l8Run @spec_l8Run n)]) (fun n => mkL (mkK [(13, Kspec_GoodRules @spec_GoodRules n), (41, Kspec_l8Set @spec_l8Set n), (40, Kspec_l1In @spec_l1In n), (56, Kspec_l8Run @spec_l8Run n)]) [(14, Dspec_WhyOf_l14, Pspec_WhyOf_l14 @spec_WhyOf_l14 n)]) Dspec_WhyOf_l9 Sspec_WhyOf_l9 (loopIn 9 (bodyOf Try.f32)) (Pspec_WhyOf_l9 @spec_WhyOf_l9) where
  zero R q kk := by unfold Pspec_WhyOf_l9; cases (PkS.un Sspec_WhyOf_l9 q) <;> rfl
  succ n R q kk := by
    unfold Pspec_WhyOf_l9
    cases h : (PkS.un Sspec_WhyOf_l9 q) with
    | none => rfl
    | some d =>
      obtain ⟨y9_0, y9_1, y9_2, y9_3, y9_4, u⟩ := (d : (List (Int × List Int)) × Int × (List Int) × (List Int) × (List Bool) × Unit)
      have hp := PkS.un_pack h
      subst hp
      exact (espec_WhyOf_l9 @spec_GoodRules @spec_l8Set @spec_l1In @spec_l8Run @spec_WhyOf_l14 @spec_WhyOf_l9 n y9_0 y9_1 y9_2 y9_3 y9_4 kk).symm
theorem nlspec_WhyOf_l9 : ∀ n, NatLP (Pspec_WhyOf_l9 @spec_WhyOf_l9 n) := lespec_WhyOf_l9.nat (fun n => mkK_nat (cspec_WhyOf n)) fun n => mkL_nat (mkK_nat (cspec_WhyOf n)) (l := [(14, Dspec_WhyOf_l14, Pspec_WhyOf_l14 @spec_WhyOf_l14 n)]) ⟨nlspec_WhyOf_l14 n, trivial⟩
theorem inspec_WhyOf_l9 (n : Nat) (R : Type) : LoopsOk Try.prog (mkL (mkK [(13, Kspec_GoodRules @spec_GoodRules n), (41, Kspec_l8Set @spec_l8Set n), (40, Kspec_l1In @spec_l1In n), (56, Kspec_l8Run @spec_l8Run n)]) [(14, Dspec_WhyOf_l14, Pspec_WhyOf_l14 @spec_WhyOf_l14 n)] R) (loopIn 9 (bodyOf Try.f32)) := .eq (l := [.lo (loopIn 14 (bodyOf Try.f32))]) (by kernel_rfl) ⟨(lkspec_WhyOf_l14 n R _ (at_id (i := 14) (by kernel_rfl) rfl)), trivial⟩
theorem lkspec_WhyOf_l9 (n : Nat) (R : Type) (L0 : LK R) (h0 : ∀ id, firstRegion (loopIn 9 (bodyOf Try.f32)) = some id → L0 id = Dspec_WhyOf_l9.oracle (mkK [(13, Kspec_GoodRules @spec_GoodRules n), (41, Kspec_l8Set @spec_l8Set n), (40, Kspec_l1In @spec_l1In n), (56, Kspec_l8Run @spec_l8Run n)] R) (Pspec_WhyOf_l9 @spec_WhyOf_l9 n R)) : LoopOk Try.prog L0 (loopIn 9 (bodyOf Try.f32)) :=
  lespec_WhyOf_l9.ok mixed ttok (fun n => mkK_nat (cspec_WhyOf n)) (fun n => mkK_ok (cspec_WhyOf n)) (fun n => inspec_WhyOf_l9 n R) (mkK_nat (cspec_WhyOf n)) h0
@[reducible] def Sspec_WhyOf_l20 : PkS := ⟨[.one (.whole (100000, 0)), .one (.whole (100000, 1)), .one (.whole (100000, 2)), .one (.whole (100000, 3)), .one (.int .i64), .one (.int .i64), .one (.dead), .one (.dead), .one (.dead)], [((100000, 0), .arr (.int .i64)), ((100000, 1), .arr .bool), ((100000, 2), .arr (.int .i64)), ((100000, 3), .arr (.int .i64))]⟩
@[reducible] def Tspec_WhyOf_l20_0 : PkS := ⟨[.one (.whole (100000, 0)), .one (.dead), .one (.dead), .one (.dead)], [((100000, 0), .arr (.int .i64))]⟩
def Dspec_WhyOf_l20 : LoopD := ⟨115, [9, 12, 17, 89, 90, 91], [.one (.own (.int .i64)), .one (.own .bool), .one (.own (.int .i64)), .one (.own (.int .i64)), .one .any, .one .any, .skip, .skip, .skip], fun x => match x with
  | .exit 4 => some ([17], [.one (.own (.int .i64)), .skip, .skip, .skip])
  | _ => none⟩
def Pspec_WhyOf_l20 (g : ∀ {R : Type}, Nat → Int → Int → (List Int) → (List Bool) → (List Int) → (List Int) → ((List Int) → Option R) → Option R) (n : Nat) : LPs := fun R q kk => match (PkS.un Sspec_WhyOf_l20 q : Option (Int × Int × (List Int) × (List Bool) × (List Int) × (List Int) × Unit)) with
  | some (y20_0, y20_1, y20_2, y20_3, y20_4, y20_5, _) => g n y20_0 y20_1 y20_2 y20_3 y20_4 y20_5 (fun r0 => kk (.exit 4) (PkS.pack Tspec_WhyOf_l20_0 (r0, ())))
  | none => none
theorem espec_WhyOf_l20 (spec_GoodRules : ∀ {R : Type}, Nat → (List (Int × List Int)) → (Bool → Option R) → Option R) (spec_l8Set : ∀ {R : Type}, Nat → (List Int) → (Bool → Option R) → Option R) (spec_l1In : ∀ {R : Type}, Nat → Int → Int → Int → (Bool → Option R) → Option R) (spec_l8Run : ∀ {R : Type}, Nat → (List (Int × List Int)) → (List Int) → (Int → (List Bool) → (List Int) → (List Int) → Option R) → Option R) (spec_WhyOf_l14 : ∀ {R : Type}, Nat → (List (Int × List Int)) → Int → (List Int) → Int → Int → (List Int) → (List Int) → (List Bool) → ((List (Int × List Int)) → Int → (List Int) → (List Int) → (List Bool) → Option R) → Option R) (spec_WhyOf_l9 : ∀ {R : Type}, Nat → (List (Int × List Int)) → Int → (List Int) → (List Int) → (List Bool) → ((List Int) → (List Int) → (List Bool) → Option R) → Option R) (spec_WhyOf_l20 : ∀ {R : Type}, Nat → Int → Int → (List Int) → (List Bool) → (List Int) → (List Int) → ((List Int) → Option R) → Option R) {R : Type} (n : Nat) (y20_0 : Int) (y20_1 : Int) (y20_2 : List Int) (y20_3 : List Bool) (y20_4 : List Int) (y20_5 : List Int) (kk : Ex → Pk → Option R) : Dspec_WhyOf_l20.step tt sig (mkK [(13, Kspec_GoodRules @spec_GoodRules n), (41, Kspec_l8Set @spec_l8Set n), (40, Kspec_l1In @spec_l1In n), (56, Kspec_l8Run @spec_l8Run n)] R) (mkL (mkK [(13, Kspec_GoodRules @spec_GoodRules n), (41, Kspec_l8Set @spec_l8Set n), (40, Kspec_l1In @spec_l1In n), (56, Kspec_l8Run @spec_l8Run n)]) [(14, Dspec_WhyOf_l14, Pspec_WhyOf_l14 @spec_WhyOf_l14 n), (9, Dspec_WhyOf_l9, Pspec_WhyOf_l9 @spec_WhyOf_l9 n)] R) (loopIn 20 (bodyOf Try.f32)) (fun q' => Pspec_WhyOf_l20 @spec_WhyOf_l20 n R q' kk) (PkS.pack Sspec_WhyOf_l20 (y20_0, y20_1, y20_2, y20_3, y20_4, y20_5, ())) kk = (fun (kexit4 : (List Int) → Option R) => (bif (decide (y20_1 < y20_0)) then (bif decide (0 ≤ y20_1) then (bif decide (y20_1 < (y20_5.length : Int)) then (bif decide (0 ≤ (y20_5.getD (Int.toNat y20_1) 0)) then (bif decide ((y20_5.getD (Int.toNat y20_1) 0) < (y20_3.length : Int)) then (bif (y20_3.getD (Int.toNat (y20_5.getD (Int.toNat y20_1) 0)) false) then (bif decide (0 ≤ (y20_5.getD (Int.toNat y20_1) 0)) then (bif decide ((y20_5.getD (Int.toNat y20_1) 0) < (y20_2.length : Int)) then (bif (decide ((y20_2.getD (Int.toNat (y20_5.getD (Int.toNat y20_1) 0)) 0) ≥ 0)) then (bif decide (0 ≤ (y20_5.getD (Int.toNat y20_1) 0)) then (bif decide ((y20_5.getD (Int.toNat y20_1) 0) < (y20_2.length : Int)) then (bif decide (y20_4.length + ([(y20_2.getD (Int.toNat (y20_5.getD (Int.toNat y20_1) 0)) 0)]).length ≤ LIM) then spec_WhyOf_l20 n y20_0 (IntKind.wrap .i64 (y20_1 + 1)) y20_2 y20_3 (y20_4 ++ [(y20_2.getD (Int.toNat (y20_5.getD (Int.toNat y20_1) 0)) 0)]) y20_5 kexit4 else none) else none) else none) else spec_WhyOf_l20 n y20_0 (IntKind.wrap .i64 (y20_1 + 1)) y20_2 y20_3 y20_4 y20_5 kexit4) else none) else none) else spec_WhyOf_l20 n y20_0 (IntKind.wrap .i64 (y20_1 + 1)) y20_2 y20_3 y20_4 y20_5 kexit4) else none) else none) else none) else none) else kexit4 y20_4)) (fun r0 => kk (.exit 4) (PkS.pack Tspec_WhyOf_l20_0 (r0, ()))) := by kernel_rfl
theorem lespec_WhyOf_l20 : LoopEq tt sig (fun n => mkK [(13, Kspec_GoodRules @spec_GoodRules n), (41, Kspec_l8Set @spec_l8Set n), (40, Kspec_l1In @spec_l1In n), (56, Kspec_l8Run @spec_l8Run n)]) (fun n => mkL (mkK [(13, Kspec_GoodRules @spec_GoodRules n), (41, Kspec_l8Set @spec_l8Set n), (40, Kspec_l1In @spec_l1In n), (56, Kspec_l8Run @spec_l8Run n)]) [(14, Dspec_WhyOf_l14, Pspec_WhyOf_l14 @spec_WhyOf_l14 n), (9, Dspec_WhyOf_l9, Pspec_WhyOf_l9 @spec_WhyOf_l9 n)]) Dspec_WhyOf_l20 Sspec_WhyOf_l20 (loopIn 20 (bodyOf Try.f32)) (Pspec_WhyOf_l20 @spec_WhyOf_l20) where
  zero R q kk := by unfold Pspec_WhyOf_l20; cases (PkS.un Sspec_WhyOf_l20 q) <;> rfl
  succ n R q kk := by
    unfold Pspec_WhyOf_l20
    cases h : (PkS.un Sspec_WhyOf_l20 q) with
    | none => rfl
    | some d =>
      obtain ⟨y20_0, y20_1, y20_2, y20_3, y20_4, y20_5, u⟩ := (d : Int × Int × (List Int) × (List Bool) × (List Int) × (List Int) × Unit)
      have hp := PkS.un_pack h
      subst hp
      exact (espec_WhyOf_l20 @spec_GoodRules @spec_l8Set @spec_l1In @spec_l8Run @spec_WhyOf_l14 @spec_WhyOf_l9 @spec_WhyOf_l20 n y20_0 y20_1 y20_2 y20_3 y20_4 y20_5 kk).symm
theorem nlspec_WhyOf_l20 : ∀ n, NatLP (Pspec_WhyOf_l20 @spec_WhyOf_l20 n) := lespec_WhyOf_l20.nat (fun n => mkK_nat (cspec_WhyOf n)) fun n => mkL_nat (mkK_nat (cspec_WhyOf n)) (l := [(14, Dspec_WhyOf_l14, Pspec_WhyOf_l14 @spec_WhyOf_l14 n), (9, Dspec_WhyOf_l9, Pspec_WhyOf_l9 @spec_WhyOf_l9 n)]) ⟨nlspec_WhyOf_l14 n, ⟨nlspec_WhyOf_l9 n, trivial⟩⟩
theorem inspec_WhyOf_l20 (n : Nat) (R : Type) : LoopsOk Try.prog (mkL (mkK [(13, Kspec_GoodRules @spec_GoodRules n), (41, Kspec_l8Set @spec_l8Set n), (40, Kspec_l1In @spec_l1In n), (56, Kspec_l8Run @spec_l8Run n)]) [(14, Dspec_WhyOf_l14, Pspec_WhyOf_l14 @spec_WhyOf_l14 n), (9, Dspec_WhyOf_l9, Pspec_WhyOf_l9 @spec_WhyOf_l9 n)] R) (loopIn 20 (bodyOf Try.f32)) := .eq (l := []) (by kernel_rfl) trivial
theorem lkspec_WhyOf_l20 (n : Nat) (R : Type) (L0 : LK R) (h0 : ∀ id, firstRegion (loopIn 20 (bodyOf Try.f32)) = some id → L0 id = Dspec_WhyOf_l20.oracle (mkK [(13, Kspec_GoodRules @spec_GoodRules n), (41, Kspec_l8Set @spec_l8Set n), (40, Kspec_l1In @spec_l1In n), (56, Kspec_l8Run @spec_l8Run n)] R) (Pspec_WhyOf_l20 @spec_WhyOf_l20 n R)) : LoopOk Try.prog L0 (loopIn 20 (bodyOf Try.f32)) :=
  lespec_WhyOf_l20.ok mixed ttok (fun n => mkK_nat (cspec_WhyOf n)) (fun n => mkK_ok (cspec_WhyOf n)) (fun n => inspec_WhyOf_l20 n R) (mkK_nat (cspec_WhyOf n)) h0
@[reducible] def Sspec_WhyOf : PkS := ⟨[.one (.ro (.pr (.int .i64) (.sl (.int .i64)))), .one (.ro (.int .i64)), .one (.int .i64)], []⟩
@[reducible] def Tspec_WhyOf : PkS := ⟨[.tup [(false, [.whole (300000, 0)]), (false, [.bool])], .one (.dead), .one (.dead), .one (.dead)], [((300000, 0), .arr (.int .i64))]⟩
def Hspec_WhyOf : List Sh := [.tup [(false, [(.own (.int .i64))]), (false, [.any])], .skip, .skip, .skip]
def Kspec_WhyOf (g : ∀ {R : Type}, Nat → (List (Int × List Int)) → (List Int) → Int → (Bool → (List Int) → Option R) → Option R) (n : Nat) : KPs := fun R p k => match (PkS.un Sspec_WhyOf p : Option ((List (Int × List Int)) × (List Int) × Int × Unit)) with
  | some (x0, x1, x2, _) => g n x0 x1 x2 (fun r0 r1 => k (PkS.pack Tspec_WhyOf (r0, r1, ())))
  | none => none
theorem espec_WhyOf (spec_GoodRules : ∀ {R : Type}, Nat → (List (Int × List Int)) → (Bool → Option R) → Option R) (spec_l8Set : ∀ {R : Type}, Nat → (List Int) → (Bool → Option R) → Option R) (spec_l1In : ∀ {R : Type}, Nat → Int → Int → Int → (Bool → Option R) → Option R) (spec_l8Run : ∀ {R : Type}, Nat → (List (Int × List Int)) → (List Int) → (Int → (List Bool) → (List Int) → (List Int) → Option R) → Option R) (spec_WhyOf_l14 : ∀ {R : Type}, Nat → (List (Int × List Int)) → Int → (List Int) → Int → Int → (List Int) → (List Int) → (List Bool) → ((List (Int × List Int)) → Int → (List Int) → (List Int) → (List Bool) → Option R) → Option R) (spec_WhyOf_l9 : ∀ {R : Type}, Nat → (List (Int × List Int)) → Int → (List Int) → (List Int) → (List Bool) → ((List Int) → (List Int) → (List Bool) → Option R) → Option R) (spec_WhyOf_l20 : ∀ {R : Type}, Nat → Int → Int → (List Int) → (List Bool) → (List Int) → (List Int) → ((List Int) → Option R) → Option R) {R : Type} (n : Nat) (x0 : List (Int × List Int)) (x1 : List Int) (x2 : Int) (k : Pk → Option R) : evF tt sig (mkK [(13, Kspec_GoodRules @spec_GoodRules n), (41, Kspec_l8Set @spec_l8Set n), (40, Kspec_l1In @spec_l1In n), (56, Kspec_l8Run @spec_l8Run n)] R) (mkL (mkK [(13, Kspec_GoodRules @spec_GoodRules n), (41, Kspec_l8Set @spec_l8Set n), (40, Kspec_l1In @spec_l1In n), (56, Kspec_l8Run @spec_l8Run n)]) [(14, Dspec_WhyOf_l14, Pspec_WhyOf_l14 @spec_WhyOf_l14 n), (9, Dspec_WhyOf_l9, Pspec_WhyOf_l9 @spec_WhyOf_l9 n), (20, Dspec_WhyOf_l20, Pspec_WhyOf_l20 @spec_WhyOf_l20 n)] R) Try.f32 Hspec_WhyOf (PkS.pack Sspec_WhyOf (x0, x1, x2, ())) k = (fun (k : Bool → (List Int) → Option R) => (spec_GoodRules n x0 fun r1 => (bif (!r1) then k false ([] : List Int) else (spec_l8Set n x1 fun r2 => (bif (!r2) then k false ([] : List Int) else (spec_l1In n x2 0 39 fun r3 => (bif (!r3) then k false ([] : List Int) else (spec_l8Run n x0 x1 fun r4 r5 r6 r7 => (bif decide (0 ≤ x2) then (bif decide (x2 < (r5.length : Int)) then (bif (!(r5.getD (Int.toNat x2) false)) then k false ([] : List Int) else (bif decide (0 ≤ x2) then (bif decide (x2 < ((List.replicate 40 false).length : Int)) then (spec_WhyOf_l9 n x0 (IntKind.wrap .i64 ((r7.length : Int) - 1)) r6 r7 ((List.replicate 40 false).set (Int.toNat x2) true) (fun r13 r14 r15 => (spec_WhyOf_l20 n (r14.length : Int) 0 r13 r15 ([] : List Int) r14 (fun r16 => k true r16)))) else none) else none)) else none) else none))))))))) (fun r0 r1 => k (PkS.pack Tspec_WhyOf (r0, r1, ()))) := by kernel_rfl
theorem okspec_WhyOf (n : Nat) : FnOk Try.prog 32 (Kspec_WhyOf @spec_WhyOf n) := by
  refine fn_ok (sig := sig) mixed ttok (mkK_nat (cspec_WhyOf n)) (mkK_ok (cspec_WhyOf n)) (mkL_nat (mkK_nat (cspec_WhyOf n)) (l := [(14, Dspec_WhyOf_l14, Pspec_WhyOf_l14 @spec_WhyOf_l14 n), (9, Dspec_WhyOf_l9, Pspec_WhyOf_l9 @spec_WhyOf_l9 n), (20, Dspec_WhyOf_l20, Pspec_WhyOf_l20 @spec_WhyOf_l20 n)]) ⟨nlspec_WhyOf_l14 n, ⟨nlspec_WhyOf_l9 n, ⟨nlspec_WhyOf_l20 n, trivial⟩⟩⟩) (fn := Try.f32) (c := bodyOf Try.f32) (by kernel_rfl) (by kernel_rfl) (by kernel_rfl) (.eq (l := [.lo (loopIn 9 (bodyOf Try.f32)), .lo (loopIn 20 (bodyOf Try.f32))]) (by kernel_rfl) ⟨(lkspec_WhyOf_l9 n _ _ (at_id (i := 9) (by kernel_rfl) rfl)), ⟨(lkspec_WhyOf_l20 n _ _ (at_id (i := 20) (by kernel_rfl) rfl)), trivial⟩⟩) (shs := Hspec_WhyOf) (S := Sspec_WhyOf) (h1 := by kernel_rfl) fun R p k => ?_
  unfold Kspec_WhyOf
  cases h : (PkS.un Sspec_WhyOf p) with
  | none => rfl
  | some d =>
    obtain ⟨x0, x1, x2, u⟩ := (d : (List (Int × List Int)) × (List Int) × Int × Unit)
    have hp := PkS.un_pack h
    subst hp
    exact (espec_WhyOf @spec_GoodRules @spec_l8Set @spec_l1In @spec_l8Run @spec_WhyOf_l14 @spec_WhyOf_l9 @spec_WhyOf_l20 n x0 x1 x2 k).symm

/-! ### loop.example/g00269/spec.Follows -/
theorem cspec_Follows (n : Nat) : AllOk Try.prog [(13, Kspec_GoodRules @spec_GoodRules n), (41, Kspec_l8Set @spec_l8Set n), (40, Kspec_l1In @spec_l1In n), (56, Kspec_l8Run @spec_l8Run n)] := ⟨okspec_GoodRules n, ⟨okspec_l8Set n, ⟨okspec_l1In n, ⟨okspec_l8Run n, trivial⟩⟩⟩⟩
@[reducible] def Sspec_Follows : PkS := ⟨[.one (.ro (.pr (.int .i64) (.sl (.int .i64)))), .one (.ro (.int .i64)), .one (.int .i64)], []⟩
@[reducible] def Tspec_Follows : PkS := ⟨[.tup [(false, [.bool]), (false, [.bool])], .one (.dead), .one (.dead), .one (.dead)], []⟩
def Hspec_Follows : List Sh := [.tup [(false, [.any]), (false, [.any])], .skip, .skip, .skip]
def Kspec_Follows (g : ∀ {R : Type}, Nat → (List (Int × List Int)) → (List Int) → Int → (Bool → Bool → Option R) → Option R) (n : Nat) : KPs := fun R p k => match (PkS.un Sspec_Follows p : Option ((List (Int × List Int)) × (List Int) × Int × Unit)) with
  | some (x0, x1, x2, _) => g n x0 x1 x2 (fun r0 r1 => k (PkS.pack Tspec_Follows (r0, r1, ())))
  | none => none
theorem espec_Follows (spec_GoodRules : ∀ {R : Type}, Nat → (List (Int × List Int)) → (Bool → Option R) → Option R) (spec_l8Set : ∀ {R : Type}, Nat → (List Int) → (Bool → Option R) → Option R) (spec_l1In : ∀ {R : Type}, Nat → Int → Int → Int → (Bool → Option R) → Option R) (spec_l8Run : ∀ {R : Type}, Nat → (List (Int × List Int)) → (List Int) → (Int → (List Bool) → (List Int) → (List Int) → Option R) → Option R) {R : Type} (n : Nat) (x0 : List (Int × List Int)) (x1 : List Int) (x2 : Int) (k : Pk → Option R) : evF tt sig (mkK [(13, Kspec_GoodRules @spec_GoodRules n), (41, Kspec_l8Set @spec_l8Set n), (40, Kspec_l1In @spec_l1In n), (56, Kspec_l8Run @spec_l8Run n)] R) (mkL (mkK [(13, Kspec_GoodRules @spec_GoodRules n), (41, Kspec_l8Set @spec_l8Set n), (40, Kspec_l1In @spec_l1In n), (56, Kspec_l8Run @spec_l8Run n)]) [] R) Try.f26 Hspec_Follows (PkS.pack Sspec_Follows (x0, x1, x2, ())) k = (fun (k : Bool → Bool → Option R) => (spec_GoodRules n x0 fun r1 => (bif (!r1) then k false false else (spec_l8Set n x1 fun r2 => (bif (!r2) then k false false else (spec_l1In n x2 0 39 fun r3 => (bif (!r3) then k false false else (spec_l8Run n x0 x1 fun r4 r5 r6 r7 => (bif decide (0 ≤ x2) then (bif decide (x2 < (r5.length : Int)) then k (r5.getD (Int.toNat x2) false) true else none) else none))))))))) (fun r0 r1 => k (PkS.pack Tspec_Follows (r0, r1, ()))) := by kernel_rfl
theorem okspec_Follows (n : Nat) : FnOk Try.prog 26 (Kspec_Follows @spec_Follows n) := by
  refine fn_ok (sig := sig) mixed ttok (mkK_nat (cspec_Follows n)) (mkK_ok (cspec_Follows n)) (mkL_nat (mkK_nat (cspec_Follows n)) (l := []) trivial) (fn := Try.f26) (c := bodyOf Try.f26) (by kernel_rfl) (by kernel_rfl) (by kernel_rfl) (.eq (l := []) (by kernel_rfl) trivial) (shs := Hspec_Follows) (S := Sspec_Follows) (h1 := by kernel_rfl) fun R p k => ?_
  unfold Kspec_Follows
  cases h : (PkS.un Sspec_Follows p) with
  | none => rfl
  | some d =>
    obtain ⟨x0, x1, x2, u⟩ := (d : (List (Int × List Int)) × (List Int) × Int × Unit)
    have hp := PkS.un_pack h
    subst hp
    exact (espec_Follows @spec_GoodRules @spec_l8Set @spec_l1In @spec_l8Run n x0 x1 x2 k).symm

/-! ### loop.example/g00269/laws.sameInts -/
theorem claws_sameInts (n : Nat) : AllOk Try.prog [] := trivial
@[reducible] def Slaws_sameInts_l4 : PkS := ⟨[.one (.ro (.int .i64)), .one (.ro (.int .i64)), .one (.int .i64), .one (.int .i64), .one (.dead), .one (.dead)], []⟩
@[reducible] def Tlaws_sameInts_l4_0 : PkS := ⟨[.one (.bool), .one (.dead), .one (.dead)], []⟩
@[reducible] def Tlaws_sameInts_l4_1 : PkS := ⟨[.one (.dead), .one (.dead)], []⟩
def Dlaws_sameInts_l4 : LoopD := ⟨26, [0, 1, 12, 13], [.one (.ro (.int .i64)), .one (.ro (.int .i64)), .one .any, .one .any, .skip, .skip], fun x => match x with
  | .ret => some ([4], [.one .any, .skip, .skip])
  | .exit 0 => some ([], [.skip, .skip])
  | _ => none⟩
def Plaws_sameInts_l4 (g : ∀ {R : Type}, Nat → (List Int) → (List Int) → Int → Int → (Bool → Option R) → (Option R) → Option R) (n : Nat) : LPs := fun R q kk => match (PkS.un Slaws_sameInts_l4 q : Option ((List Int) × (List Int) × Int × Int × Unit)) with
  | some (y4_0, y4_1, y4_2, y4_3, _) => g n y4_0 y4_1 y4_2 y4_3 (fun r0 => kk .ret (PkS.pack Tlaws_sameInts_l4_0 (r0, ()))) (kk (.exit 0) (PkS.pack Tlaws_sameInts_l4_1 ()))
  | none => none
theorem elaws_sameInts_l4 (laws_sameInts_l4 : ∀ {R : Type}, Nat → (List Int) → (List Int) → Int → Int → (Bool → Option R) → (Option R) → Option R) {R : Type} (n : Nat) (y4_0 : List Int) (y4_1 : List Int) (y4_2 : Int) (y4_3 : Int) (kk : Ex → Pk → Option R) : Dlaws_sameInts_l4.step tt sig (mkK [] R) (mkL (mkK []) [] R) (loopIn 4 (bodyOf Try.f35)) (fun q' => Plaws_sameInts_l4 @laws_sameInts_l4 n R q' kk) (PkS.pack Slaws_sameInts_l4 (y4_0, y4_1, y4_2, y4_3, ())) kk = (fun (kret : Bool → Option R) (kexit0 : Option R) => (bif (decide (y4_3 < y4_2)) then (bif decide (0 ≤ y4_3) then (bif decide (y4_3 < (y4_0.length : Int)) then (bif decide (0 ≤ y4_3) then (bif decide (y4_3 < (y4_1.length : Int)) then (bif ((y4_0.getD (Int.toNat y4_3) 0) != (y4_1.getD (Int.toNat y4_3) 0)) then kret false else laws_sameInts_l4 n y4_0 y4_1 y4_2 (IntKind.wrap .i64 (y4_3 + 1)) kret kexit0) else none) else none) else none) else none) else kexit0)) (fun r0 => kk .ret (PkS.pack Tlaws_sameInts_l4_0 (r0, ()))) (kk (.exit 0) (PkS.pack Tlaws_sameInts_l4_1 ())) := by kernel_rfl
theorem lelaws_sameInts_l4 : LoopEq tt sig (fun n => mkK []) (fun n => mkL (mkK []) []) Dlaws_sameInts_l4 Slaws_sameInts_l4 (loopIn 4 (bodyOf Try.f35)) (Plaws_sameInts_l4 @laws_sameInts_l4) where
  zero R q kk := by unfold Plaws_sameInts_l4; cases (PkS.un Slaws_sameInts_l4 q) <;> rfl
  succ n R q kk := by
    unfold Plaws_sameInts_l4
    cases h : (PkS.un Slaws_sameInts_l4 q) with
    | none => rfl
    | some d =>
      obtain ⟨y4_0, y4_1, y4_2, y4_3, u⟩ := (d : (List Int) × (List Int) × Int × Int × Unit)
      have hp := PkS.un_pack h
      subst hp
      exact (elaws_sameInts_l4 @laws_sameInts_l4 n y4_0 y4_1 y4_2 y4_3 kk).symm
theorem nllaws_sameInts_l4 : ∀ n, NatLP (Plaws_sameInts_l4 @laws_sameInts_l4 n) := lelaws_sameInts_l4.nat (fun n => mkK_nat (claws_sameInts n)) fun n => mkL_nat (mkK_nat (claws_sameInts n)) (l := []) trivial
theorem inlaws_sameInts_l4 (n : Nat) (R : Type) : LoopsOk Try.prog (mkL (mkK []) [] R) (loopIn 4 (bodyOf Try.f35)) := .eq (l := []) (by kernel_rfl) trivial
theorem lklaws_sameInts_l4 (n : Nat) (R : Type) (L0 : LK R) (h0 : ∀ id, firstRegion (loopIn 4 (bodyOf Try.f35)) = some id → L0 id = Dlaws_sameInts_l4.oracle (mkK [] R) (Plaws_sameInts_l4 @laws_sameInts_l4 n R)) : LoopOk Try.prog L0 (loopIn 4 (bodyOf Try.f35)) :=
  lelaws_sameInts_l4.ok mixed ttok (fun n => mkK_nat (claws_sameInts n)) (fun n => mkK_ok (claws_sameInts n)) (fun n => inlaws_sameInts_l4 n R) (mkK_nat (claws_sameInts n)) h0
@[reducible] def Slaws_sameInts : PkS := ⟨[.one (.ro (.int .i64)), .one (.ro (.int .i64))], []⟩
@[reducible] def Tlaws_sameInts : PkS := ⟨[.one (.bool), .one (.dead), .one (.dead)], []⟩
def Hlaws_sameInts : List Sh := [.one .any, .skip, .skip]
def Klaws_sameInts (g : ∀ {R : Type}, Nat → (List Int) → (List Int) → (Bool → Option R) → Option R) (n : Nat) : KPs := fun R p k => match (PkS.un Slaws_sameInts p : Option ((List Int) × (List Int) × Unit)) with
  | some (x0, x1, _) => g n x0 x1 (fun r0 => k (PkS.pack Tlaws_sameInts (r0, ())))
  | none => none
theorem elaws_sameInts (laws_sameInts_l4 : ∀ {R : Type}, Nat → (List Int) → (List Int) → Int → Int → (Bool → Option R) → (Option R) → Option R) {R : Type} (n : Nat) (x0 : List Int) (x1 : List Int) (k : Pk → Option R) : evF tt sig (mkK [] R) (mkL (mkK []) [(4, Dlaws_sameInts_l4, Plaws_sameInts_l4 @laws_sameInts_l4 n)] R) Try.f35 Hlaws_sameInts (PkS.pack Slaws_sameInts (x0, x1, ())) k = (fun (k : Bool → Option R) => (bif ((x0.length : Int) != (x1.length : Int)) then k false else (laws_sameInts_l4 n x0 x1 (x0.length : Int) 0 (fun r1 => k r1) (k true)))) (fun r0 => k (PkS.pack Tlaws_sameInts (r0, ()))) := by kernel_rfl
theorem oklaws_sameInts (n : Nat) : FnOk Try.prog 35 (Klaws_sameInts @laws_sameInts n) := by
  refine fn_ok (sig := sig) mixed ttok (mkK_nat (claws_sameInts n)) (mkK_ok (claws_sameInts n)) (mkL_nat (mkK_nat (claws_sameInts n)) (l := [(4, Dlaws_sameInts_l4, Plaws_sameInts_l4 @laws_sameInts_l4 n)]) ⟨nllaws_sameInts_l4 n, trivial⟩) (fn := Try.f35) (c := bodyOf Try.f35) (by kernel_rfl) (by kernel_rfl) (by kernel_rfl) (.eq (l := [.lo (loopIn 4 (bodyOf Try.f35))]) (by kernel_rfl) ⟨(lklaws_sameInts_l4 n _ _ (at_id (i := 4) (by kernel_rfl) rfl)), trivial⟩) (shs := Hlaws_sameInts) (S := Slaws_sameInts) (h1 := by kernel_rfl) fun R p k => ?_
  unfold Klaws_sameInts
  cases h : (PkS.un Slaws_sameInts p) with
  | none => rfl
  | some d =>
    obtain ⟨x0, x1, u⟩ := (d : (List Int) × (List Int) × Unit)
    have hp := PkS.un_pack h
    subst hp
    exact (elaws_sameInts @laws_sameInts_l4 n x0 x1 k).symm

/-! ### loop.example/g00269/laws.has -/
theorem claws_has (n : Nat) : AllOk Try.prog [] := trivial
@[reducible] def Slaws_has_l2 : PkS := ⟨[.one (.int .i64), .one (.ro (.int .i64)), .one (.int .i64), .one (.int .i64), .one (.dead), .one (.dead)], []⟩
@[reducible] def Tlaws_has_l2_0 : PkS := ⟨[.one (.bool), .one (.dead), .one (.dead)], []⟩
@[reducible] def Tlaws_has_l2_1 : PkS := ⟨[.one (.dead), .one (.dead)], []⟩
def Dlaws_has_l2 : LoopD := ⟨17, [1, 7, 8, 9], [.one .any, .one (.ro (.int .i64)), .one .any, .one .any, .skip, .skip], fun x => match x with
  | .ret => some ([4], [.one .any, .skip, .skip])
  | .exit 0 => some ([], [.skip, .skip])
  | _ => none⟩
def Plaws_has_l2 (g : ∀ {R : Type}, Nat → Int → (List Int) → Int → Int → (Bool → Option R) → (Option R) → Option R) (n : Nat) : LPs := fun R q kk => match (PkS.un Slaws_has_l2 q : Option (Int × (List Int) × Int × Int × Unit)) with
  | some (y2_0, y2_1, y2_2, y2_3, _) => g n y2_0 y2_1 y2_2 y2_3 (fun r0 => kk .ret (PkS.pack Tlaws_has_l2_0 (r0, ()))) (kk (.exit 0) (PkS.pack Tlaws_has_l2_1 ()))
  | none => none
theorem elaws_has_l2 (laws_has_l2 : ∀ {R : Type}, Nat → Int → (List Int) → Int → Int → (Bool → Option R) → (Option R) → Option R) {R : Type} (n : Nat) (y2_0 : Int) (y2_1 : List Int) (y2_2 : Int) (y2_3 : Int) (kk : Ex → Pk → Option R) : Dlaws_has_l2.step tt sig (mkK [] R) (mkL (mkK []) [] R) (loopIn 2 (bodyOf Try.f37)) (fun q' => Plaws_has_l2 @laws_has_l2 n R q' kk) (PkS.pack Slaws_has_l2 (y2_0, y2_1, y2_2, y2_3, ())) kk = (fun (kret : Bool → Option R) (kexit0 : Option R) => (bif (decide (y2_3 < y2_2)) then (bif decide (0 ≤ y2_3) then (bif decide (y2_3 < (y2_1.length : Int)) then (bif ((y2_1.getD (Int.toNat y2_3) 0) == y2_0) then kret true else laws_has_l2 n y2_0 y2_1 y2_2 (IntKind.wrap .i64 (y2_3 + 1)) kret kexit0) else none) else none) else kexit0)) (fun r0 => kk .ret (PkS.pack Tlaws_has_l2_0 (r0, ()))) (kk (.exit 0) (PkS.pack Tlaws_has_l2_1 ())) := by kernel_rfl
theorem lelaws_has_l2 : LoopEq tt sig (fun n => mkK []) (fun n => mkL (mkK []) []) Dlaws_has_l2 Slaws_has_l2 (loopIn 2 (bodyOf Try.f37)) (Plaws_has_l2 @laws_has_l2) where
  zero R q kk := by unfold Plaws_has_l2; cases (PkS.un Slaws_has_l2 q) <;> rfl
  succ n R q kk := by
    unfold Plaws_has_l2
    cases h : (PkS.un Slaws_has_l2 q) with
    | none => rfl
    | some d =>
      obtain ⟨y2_0, y2_1, y2_2, y2_3, u⟩ := (d : Int × (List Int) × Int × Int × Unit)
      have hp := PkS.un_pack h
      subst hp
      exact (elaws_has_l2 @laws_has_l2 n y2_0 y2_1 y2_2 y2_3 kk).symm
theorem nllaws_has_l2 : ∀ n, NatLP (Plaws_has_l2 @laws_has_l2 n) := lelaws_has_l2.nat (fun n => mkK_nat (claws_has n)) fun n => mkL_nat (mkK_nat (claws_has n)) (l := []) trivial
theorem inlaws_has_l2 (n : Nat) (R : Type) : LoopsOk Try.prog (mkL (mkK []) [] R) (loopIn 2 (bodyOf Try.f37)) := .eq (l := []) (by kernel_rfl) trivial
theorem lklaws_has_l2 (n : Nat) (R : Type) (L0 : LK R) (h0 : ∀ id, firstRegion (loopIn 2 (bodyOf Try.f37)) = some id → L0 id = Dlaws_has_l2.oracle (mkK [] R) (Plaws_has_l2 @laws_has_l2 n R)) : LoopOk Try.prog L0 (loopIn 2 (bodyOf Try.f37)) :=
  lelaws_has_l2.ok mixed ttok (fun n => mkK_nat (claws_has n)) (fun n => mkK_ok (claws_has n)) (fun n => inlaws_has_l2 n R) (mkK_nat (claws_has n)) h0
@[reducible] def Slaws_has : PkS := ⟨[.one (.ro (.int .i64)), .one (.int .i64)], []⟩
@[reducible] def Tlaws_has : PkS := ⟨[.one (.bool), .one (.dead), .one (.dead)], []⟩
def Hlaws_has : List Sh := [.one .any, .skip, .skip]
def Klaws_has (g : ∀ {R : Type}, Nat → (List Int) → Int → (Bool → Option R) → Option R) (n : Nat) : KPs := fun R p k => match (PkS.un Slaws_has p : Option ((List Int) × Int × Unit)) with
  | some (x0, x1, _) => g n x0 x1 (fun r0 => k (PkS.pack Tlaws_has (r0, ())))
  | none => none
theorem elaws_has (laws_has_l2 : ∀ {R : Type}, Nat → Int → (List Int) → Int → Int → (Bool → Option R) → (Option R) → Option R) {R : Type} (n : Nat) (x0 : List Int) (x1 : Int) (k : Pk → Option R) : evF tt sig (mkK [] R) (mkL (mkK []) [(2, Dlaws_has_l2, Plaws_has_l2 @laws_has_l2 n)] R) Try.f37 Hlaws_has (PkS.pack Slaws_has (x0, x1, ())) k = (fun (k : Bool → Option R) => (laws_has_l2 n x1 x0 (x0.length : Int) 0 (fun r1 => k r1) (k false))) (fun r0 => k (PkS.pack Tlaws_has (r0, ()))) := by kernel_rfl
theorem oklaws_has (n : Nat) : FnOk Try.prog 37 (Klaws_has @laws_has n) := by
  refine fn_ok (sig := sig) mixed ttok (mkK_nat (claws_has n)) (mkK_ok (claws_has n)) (mkL_nat (mkK_nat (claws_has n)) (l := [(2, Dlaws_has_l2, Plaws_has_l2 @laws_has_l2 n)]) ⟨nllaws_has_l2 n, trivial⟩) (fn := Try.f37) (c := bodyOf Try.f37) (by kernel_rfl) (by kernel_rfl) (by kernel_rfl) (.eq (l := [.lo (loopIn 2 (bodyOf Try.f37))]) (by kernel_rfl) ⟨(lklaws_has_l2 n _ _ (at_id (i := 2) (by kernel_rfl) rfl)), trivial⟩) (shs := Hlaws_has) (S := Slaws_has) (h1 := by kernel_rfl) fun R p k => ?_
  unfold Klaws_has
  cases h : (PkS.un Slaws_has p) with
  | none => rfl
  | some d =>
    obtain ⟨x0, x1, u⟩ := (d : (List Int) × Int × Unit)
    have hp := PkS.un_pack h
    subst hp
    exact (elaws_has @laws_has_l2 n x0 x1 k).symm

/-! ### loop.example/g00269/laws.within -/
theorem claws_within (n : Nat) : AllOk Try.prog [(37, Klaws_has @laws_has n)] := ⟨oklaws_has n, trivial⟩
@[reducible] def Slaws_within_l2 : PkS := ⟨[.one (.ro (.int .i64)), .one (.ro (.int .i64)), .one (.int .i64), .one (.int .i64), .one (.dead), .one (.dead)], []⟩
@[reducible] def Tlaws_within_l2_0 : PkS := ⟨[.one (.bool), .one (.dead), .one (.dead)], []⟩
@[reducible] def Tlaws_within_l2_1 : PkS := ⟨[.one (.dead), .one (.dead)], []⟩
def Dlaws_within_l2 : LoopD := ⟨18, [1, 7, 8, 9], [.one (.ro (.int .i64)), .one (.ro (.int .i64)), .one .any, .one .any, .skip, .skip], fun x => match x with
  | .ret => some ([4], [.one .any, .skip, .skip])
  | .exit 0 => some ([], [.skip, .skip])
  | _ => none⟩
def Plaws_within_l2 (g : ∀ {R : Type}, Nat → (List Int) → (List Int) → Int → Int → (Bool → Option R) → (Option R) → Option R) (n : Nat) : LPs := fun R q kk => match (PkS.un Slaws_within_l2 q : Option ((List Int) × (List Int) × Int × Int × Unit)) with
  | some (y2_0, y2_1, y2_2, y2_3, _) => g n y2_0 y2_1 y2_2 y2_3 (fun r0 => kk .ret (PkS.pack Tlaws_within_l2_0 (r0, ()))) (kk (.exit 0) (PkS.pack Tlaws_within_l2_1 ()))
  | none => none
theorem elaws_within_l2 (laws_has : ∀ {R : Type}, Nat → (List Int) → Int → (Bool → Option R) → Option R) (laws_within_l2 : ∀ {R : Type}, Nat → (List Int) → (List Int) → Int → Int → (Bool → Option R) → (Option R) → Option R) {R : Type} (n : Nat) (y2_0 : List Int) (y2_1 : List Int) (y2_2 : Int) (y2_3 : Int) (kk : Ex → Pk → Option R) : Dlaws_within_l2.step tt sig (mkK [(37, Klaws_has @laws_has n)] R) (mkL (mkK [(37, Klaws_has @laws_has n)]) [] R) (loopIn 2 (bodyOf Try.f36)) (fun q' => Plaws_within_l2 @laws_within_l2 n R q' kk) (PkS.pack Slaws_within_l2 (y2_0, y2_1, y2_2, y2_3, ())) kk = (fun (kret : Bool → Option R) (kexit0 : Option R) => (bif (decide (y2_3 < y2_2)) then (bif decide (0 ≤ y2_3) then (bif decide (y2_3 < (y2_1.length : Int)) then (laws_has n y2_0 (y2_1.getD (Int.toNat y2_3) 0) fun r1 => (bif (!r1) then kret false else laws_within_l2 n y2_0 y2_1 y2_2 (IntKind.wrap .i64 (y2_3 + 1)) kret kexit0)) else none) else none) else kexit0)) (fun r0 => kk .ret (PkS.pack Tlaws_within_l2_0 (r0, ()))) (kk (.exit 0) (PkS.pack Tlaws_within_l2_1 ())) := by kernel_rfl
theorem lelaws_within_l2 : LoopEq tt sig (fun n => mkK [(37, Klaws_has @laws_has n)]) (fun n => mkL (mkK [(37, Klaws_has @laws_has n)]) []) Dlaws_within_l2 Slaws_within_l2 (loopIn 2 (bodyOf Try.f36)) (Plaws_within_l2 @laws_within_l2) where
  zero R q kk := by unfold Plaws_within_l2; cases (PkS.un Slaws_within_l2 q) <;> rfl
  succ n R q kk := by
    unfold Plaws_within_l2
    cases h : (PkS.un Slaws_within_l2 q) with
    | none => rfl
    | some d =>
      obtain ⟨y2_0, y2_1, y2_2, y2_3, u⟩ := (d : (List Int) × (List Int) × Int × Int × Unit)
      have hp := PkS.un_pack h
      subst hp
      exact (elaws_within_l2 @laws_has @laws_within_l2 n y2_0 y2_1 y2_2 y2_3 kk).symm
theorem nllaws_within_l2 : ∀ n, NatLP (Plaws_within_l2 @laws_within_l2 n) := lelaws_within_l2.nat (fun n => mkK_nat (claws_within n)) fun n => mkL_nat (mkK_nat (claws_within n)) (l := []) trivial
theorem inlaws_within_l2 (n : Nat) (R : Type) : LoopsOk Try.prog (mkL (mkK [(37, Klaws_has @laws_has n)]) [] R) (loopIn 2 (bodyOf Try.f36)) := .eq (l := []) (by kernel_rfl) trivial
theorem lklaws_within_l2 (n : Nat) (R : Type) (L0 : LK R) (h0 : ∀ id, firstRegion (loopIn 2 (bodyOf Try.f36)) = some id → L0 id = Dlaws_within_l2.oracle (mkK [(37, Klaws_has @laws_has n)] R) (Plaws_within_l2 @laws_within_l2 n R)) : LoopOk Try.prog L0 (loopIn 2 (bodyOf Try.f36)) :=
  lelaws_within_l2.ok mixed ttok (fun n => mkK_nat (claws_within n)) (fun n => mkK_ok (claws_within n)) (fun n => inlaws_within_l2 n R) (mkK_nat (claws_within n)) h0
@[reducible] def Slaws_within : PkS := ⟨[.one (.ro (.int .i64)), .one (.ro (.int .i64))], []⟩
@[reducible] def Tlaws_within : PkS := ⟨[.one (.bool), .one (.dead), .one (.dead)], []⟩
def Hlaws_within : List Sh := [.one .any, .skip, .skip]
def Klaws_within (g : ∀ {R : Type}, Nat → (List Int) → (List Int) → (Bool → Option R) → Option R) (n : Nat) : KPs := fun R p k => match (PkS.un Slaws_within p : Option ((List Int) × (List Int) × Unit)) with
  | some (x0, x1, _) => g n x0 x1 (fun r0 => k (PkS.pack Tlaws_within (r0, ())))
  | none => none
theorem elaws_within (laws_has : ∀ {R : Type}, Nat → (List Int) → Int → (Bool → Option R) → Option R) (laws_within_l2 : ∀ {R : Type}, Nat → (List Int) → (List Int) → Int → Int → (Bool → Option R) → (Option R) → Option R) {R : Type} (n : Nat) (x0 : List Int) (x1 : List Int) (k : Pk → Option R) : evF tt sig (mkK [(37, Klaws_has @laws_has n)] R) (mkL (mkK [(37, Klaws_has @laws_has n)]) [(2, Dlaws_within_l2, Plaws_within_l2 @laws_within_l2 n)] R) Try.f36 Hlaws_within (PkS.pack Slaws_within (x0, x1, ())) k = (fun (k : Bool → Option R) => (laws_within_l2 n x1 x0 (x0.length : Int) 0 (fun r2 => k r2) (k true))) (fun r0 => k (PkS.pack Tlaws_within (r0, ()))) := by kernel_rfl
theorem oklaws_within (n : Nat) : FnOk Try.prog 36 (Klaws_within @laws_within n) := by
  refine fn_ok (sig := sig) mixed ttok (mkK_nat (claws_within n)) (mkK_ok (claws_within n)) (mkL_nat (mkK_nat (claws_within n)) (l := [(2, Dlaws_within_l2, Plaws_within_l2 @laws_within_l2 n)]) ⟨nllaws_within_l2 n, trivial⟩) (fn := Try.f36) (c := bodyOf Try.f36) (by kernel_rfl) (by kernel_rfl) (by kernel_rfl) (.eq (l := [.lo (loopIn 2 (bodyOf Try.f36))]) (by kernel_rfl) ⟨(lklaws_within_l2 n _ _ (at_id (i := 2) (by kernel_rfl) rfl)), trivial⟩) (shs := Hlaws_within) (S := Slaws_within) (h1 := by kernel_rfl) fun R p k => ?_
  unfold Klaws_within
  cases h : (PkS.un Slaws_within p) with
  | none => rfl
  | some d =>
    obtain ⟨x0, x1, u⟩ := (d : (List Int) × (List Int) × Unit)
    have hp := PkS.un_pack h
    subst hp
    exact (elaws_within @laws_has @laws_within_l2 n x0 x1 k).symm
end Go.Am.G
