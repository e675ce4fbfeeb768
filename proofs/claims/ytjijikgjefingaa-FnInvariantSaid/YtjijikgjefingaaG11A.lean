/- The code of the functions that the law reaches does what the plain functions say. -/
import Derived.Test.YtjijikgjefingaaF11
import Derived.Test.YtjijikgjefingaaAmB
import Derived.KernelRfl
import Derived.Test.YtjijikgjefingaaProg
set_option linter.unusedVariables false
set_option maxRecDepth 100000
namespace Go.Am.G
open Go Go.Am
open Go.Proofs
def tt : TT := [(3, ⟨1, false, (.int .i64), 0, [], [.int .i64 0], 8, true, false, []⟩), (4, ⟨1, false, .bool, 0, [], [.bool false], 1, true, false, []⟩), (5, ⟨1, false, (.int .u8), 0, [], [.int .u8 0], 1, true, false, []⟩), (22, ⟨1, false, (.sl (.int .i64)), 3, [], [.nil], 24, true, true, []⟩), (50, ⟨1, false, (.sl (.int .u8)), 5, [], [.nil], 24, true, true, []⟩), (74, ⟨1, false, (.sl (.pr (.sl (.int .i64)) (.sl (.int .i64)))), 131, [], [.nil], 24, true, true, []⟩), (76, ⟨2, true, (.pr (.int .i64) (.sl (.pr (.sl (.int .i64)) (.sl (.int .i64))))), 0, [(0, 1, false), (1, 1, false)], [.int .i64 0, .nil], 32, true, false, []⟩), (112, ⟨1, false, (.int .u64), 0, [], [.int .u64 0], 8, true, false, []⟩), (114, ⟨3, true, (.pr (.sl (.int .u8)) (.pr (.int .i64) (.int .u64))), 0, [(0, 1, false), (1, 1, false), (2, 1, false)], [.nil, .int .i64 0, .int .u64 0], 40, true, false, []⟩), (131, ⟨2, true, (.pr (.sl (.int .i64)) (.sl (.int .i64))), 0, [(0, 1, false), (1, 1, false)], [.nil, .nil], 48, true, false, []⟩)]
def sig : Sig := sigOf [(11, [.one (.ro (.int .u8)), .one (.ro (.int .u8))]), (38, [.one (.ro (.int .i64)), .one (.ro (.int .i64))]), (56, [.one (.ro (.int .u8))]), (57, [.agg [.any, (.ro (.pr (.sl (.int .i64)) (.sl (.int .i64))))], .one (.ro (.int .i64))]), (58, [.agg [.any, (.ro (.pr (.sl (.int .i64)) (.sl (.int .i64))))], .one (.ro (.int .i64))]), (59, [.agg [.any, (.ro (.pr (.sl (.int .i64)) (.sl (.int .i64))))]]), (60, [.agg [.any, (.ro (.pr (.sl (.int .i64)) (.sl (.int .i64))))]]), (61, [.agg [.any, (.ro (.pr (.sl (.int .i64)) (.sl (.int .i64))))], .one (.ro (.int .i64)), .one (.ro (.int .i64))]), (62, [.agg [.any, (.ro (.pr (.sl (.int .i64)) (.sl (.int .i64))))], .one (.ro (.int .i64)), .one (.ro (.int .i64))]), (63, [.one (.ro (.int .i64)), .one (.ro (.int .i64))]), (72, [.one .any, .one .any, .one .any]), (80, [.one .any, .one .any, .one .any]), (99, [.box [(.ro (.int .u8)), .any, .any], .one .any]), (106, [.one (.ro (.int .i64)), .one .any]), (112, [.box [(.ro (.int .u8)), .any, .any], .one .any]), (113, [.box [(.ro (.int .u8)), .any, .any]]), (114, [.box [(.ro (.int .u8)), .any, .any], .one .any]), (115, [.one (.ro (.int .i64)), .one .any]), (116, [.one (.ro (.int .i64)), .one .any]), (117, [.one (.ro (.pr (.sl (.int .i64)) (.sl (.int .i64)))), .fn 118 [[.any, (.ro (.pr (.sl (.int .i64)) (.sl (.int .i64))))]]]), (118, [.agg [(.ro (.int .i64)), (.ro (.int .i64))], .box [.any, (.ro (.pr (.sl (.int .i64)) (.sl (.int .i64))))]]), (119, [.one (.ro (.int .i64)), .one .any]), (120, [.one (.ro (.int .i64)), .fn 121 [[.any, (.ro (.pr (.sl (.int .i64)) (.sl (.int .i64))))]]]), (120, [.one (.ro (.int .i64)), .fn 155 []]), (120, [.one (.ro (.int .i64)), .fn 159 []]), (121, [.one .any, .box [.any, (.ro (.pr (.sl (.int .i64)) (.sl (.int .i64))))]]), (122, [.agg [.any, (.ro (.pr (.sl (.int .i64)) (.sl (.int .i64))))], .one (.ro (.int .i64))]), (123, [.one (.ro (.int .i64))]), (124, [.box [.any, (.ro (.pr (.sl (.int .i64)) (.sl (.int .i64))))], .one (.ro (.int .i64)), .one .any]), (125, [.agg [.any, (.ro (.pr (.sl (.int .i64)) (.sl (.int .i64))))], .one (.ro (.int .i64))]), (126, [.agg [(.ro (.int .i64)), (.ro (.int .i64))], .one (.ro (.int .i64))]), (127, [.one (.ro (.int .i64)), .one .any]), (149, [.box [(.ro (.int .u8)), .any, .any]]), (154, [.box [(.ro (.int .u8)), .any, .any], .one .any]), (155, [.one .any]), (156, [.one (.ro (.pr (.sl (.int .i64)) (.sl (.int .i64)))), .fn 118 [[.any, (.ro (.pr (.sl (.int .i64)) (.sl (.int .i64))))]]]), (157, [.one (.ro (.int .i64)), .fn 121 [[.any, (.ro (.pr (.sl (.int .i64)) (.sl (.int .i64))))]]]), (157, [.one (.ro (.int .i64)), .fn 155 []]), (157, [.one (.ro (.int .i64)), .fn 159 []]), (158, [.one (.ro (.int .i64))]), (159, [.one .any])]
theorem ttok : TTok Try.prog tt := .of_chk (by kernel_rfl)
theorem mixed : Try.prog.follows .mixedOrders = true := by kernel_rfl

/-! ### (*loop.example/g00269/spec.l1Cur).next -/
theorem cspec_l1Cur_next (n : Nat) : AllOk Try.prog [] := trivial
@[reducible] def Sspec_l1Cur_next : PkS := ⟨[.one (.box (200000, 0) 0)], [((200000, 0), .box [.ro (.int .u8), .int .i64, .int .u64])]⟩
@[reducible] def Tspec_l1Cur_next : PkS := ⟨[.one (.int .i64), .one (.box (300000, 0) 0)], [((300000, 0), .box [.ro (.int .u8), .int .i64, .int .u64])]⟩
def Hspec_l1Cur_next : List Sh := [.one .any, .box [(.ro (.int .u8)), .any, .any]]
def Kspec_l1Cur_next (g : ∀ {R : Type}, Nat → (List Int) → Int → Int → (Int → (List Int) → Int → Int → Option R) → Option R) (n : Nat) : KPs := fun R p k => match (PkS.un Sspec_l1Cur_next p : Option ((List Int) × Int × Int × Unit)) with
  | some (x0, x1, x2, _) => g n x0 x1 x2 (fun r0 r1 r2 r3 => k (PkS.pack Tspec_l1Cur_next (r0, r1, r2, r3, ())))
  | none => none
theorem espec_l1Cur_next  {R : Type} (n : Nat) (x0 : List Int) (x1 : Int) (x2 : Int) (k : Pk → Option R) : evF tt sig (mkK [] R) (mkL (mkK []) [] R) Try.f149 Hspec_l1Cur_next (PkS.pack Sspec_l1Cur_next (x0, x1, x2, ())) k = (fun (k : Int → (List Int) → Int → Int → Option R) => (bif (decide (x1 < (x0.length : Int))) then (bif decide (0 ≤ x1) then (bif decide (x1 < (x0.length : Int)) then (bif (decide ((IntKind.wrap .i64 (x1 + 1)) ≤ (x0.length : Int))) then k (IntKind.wrap .i64 ((x0.getD (Int.toNat x1) 0))) x0 (IntKind.wrap .i64 (x1 + 1)) (IntKind.wrap .u64 ((IntKind.wrap .u64 ((IntKind.wrap .u64 (x2 * 6364136223846793005)) + (IntKind.wrap .u64 ((IntKind.wrap .i64 ((x0.getD (Int.toNat x1) 0))))))) + 1442695040888963407)) else k (IntKind.wrap .i64 ((IntKind.wrap .u64 (Int.ofNat (BitVec.toNat (BitVec.ofInt (IntKind.bits .u64) (Int.fdiv (IntKind.wrap .u64 ((IntKind.wrap .u64 ((IntKind.wrap .u64 (x2 * 6364136223846793005)) + (IntKind.wrap .u64 ((IntKind.wrap .i64 ((x0.getD (Int.toNat x1) 0))))))) + 1442695040888963407)) (2 ^ (min (Int.toNat 40) (IntKind.bits .u64)))) &&& BitVec.ofInt (IntKind.bits .u64) 255)))))) x0 (IntKind.wrap .i64 (x1 + 1)) (IntKind.wrap .u64 ((IntKind.wrap .u64 ((IntKind.wrap .u64 (x2 * 6364136223846793005)) + (IntKind.wrap .u64 ((IntKind.wrap .i64 ((x0.getD (Int.toNat x1) 0))))))) + 1442695040888963407))) else none) else none) else (bif (decide ((IntKind.wrap .i64 (x1 + 1)) ≤ (x0.length : Int))) then k 0 x0 (IntKind.wrap .i64 (x1 + 1)) (IntKind.wrap .u64 ((IntKind.wrap .u64 ((IntKind.wrap .u64 (x2 * 6364136223846793005)) + 0)) + 1442695040888963407)) else k (IntKind.wrap .i64 ((IntKind.wrap .u64 (Int.ofNat (BitVec.toNat (BitVec.ofInt (IntKind.bits .u64) (Int.fdiv (IntKind.wrap .u64 ((IntKind.wrap .u64 ((IntKind.wrap .u64 (x2 * 6364136223846793005)) + 0)) + 1442695040888963407)) (2 ^ (min (Int.toNat 40) (IntKind.bits .u64)))) &&& BitVec.ofInt (IntKind.bits .u64) 255)))))) x0 (IntKind.wrap .i64 (x1 + 1)) (IntKind.wrap .u64 ((IntKind.wrap .u64 ((IntKind.wrap .u64 (x2 * 6364136223846793005)) + 0)) + 1442695040888963407))))) (fun r0 r1 r2 r3 => k (PkS.pack Tspec_l1Cur_next (r0, r1, r2, r3, ()))) := by kernel_rfl
theorem okspec_l1Cur_next (n : Nat) : FnOk Try.prog 149 (Kspec_l1Cur_next @spec_l1Cur_next n) := by
  refine fn_ok (sig := sig) mixed ttok (mkK_nat (cspec_l1Cur_next n)) (mkK_ok (cspec_l1Cur_next n)) (mkL_nat (mkK_nat (cspec_l1Cur_next n)) (l := []) trivial) (fn := Try.f149) (c := bodyOf Try.f149) (by kernel_rfl) (by kernel_rfl) (by kernel_rfl) (.eq (l := []) (by kernel_rfl) trivial) (shs := Hspec_l1Cur_next) (S := Sspec_l1Cur_next) (h1 := by kernel_rfl) fun R p k => ?_
  unfold Kspec_l1Cur_next
  cases h : (PkS.un Sspec_l1Cur_next p) with
  | none => rfl
  | some d =>
    obtain ⟨x0, x1, x2, u⟩ := (d : (List Int) × Int × Int × Unit)
    have hp := PkS.un_pack h
    subst hp
    exact (espec_l1Cur_next  n x0 x1 x2 k).symm

/-! ### (*loop.example/g00269/spec.l1Cur).pick -/
theorem cspec_l1Cur_pick (n : Nat) : AllOk Try.prog [(149, Kspec_l1Cur_next @spec_l1Cur_next n)] := ⟨okspec_l1Cur_next n, trivial⟩
@[reducible] def Sspec_l1Cur_pick : PkS := ⟨[.one (.box (200000, 0) 0), .one (.int .i64)], [((200000, 0), .box [.ro (.int .u8), .int .i64, .int .u64])]⟩
@[reducible] def Tspec_l1Cur_pick : PkS := ⟨[.one (.int .i64), .one (.box (300000, 0) 0), .one (.dead)], [((300000, 0), .box [.ro (.int .u8), .int .i64, .int .u64])]⟩
def Hspec_l1Cur_pick : List Sh := [.one .any, .box [(.ro (.int .u8)), .any, .any], .skip]
def Kspec_l1Cur_pick (g : ∀ {R : Type}, Nat → Int → (List Int) → Int → Int → (Int → (List Int) → Int → Int → Option R) → Option R) (n : Nat) : KPs := fun R p k => match (PkS.un Sspec_l1Cur_pick p : Option (Int × (List Int) × Int × Int × Unit)) with
  | some (x0, x1, x2, x3, _) => g n x0 x1 x2 x3 (fun r0 r1 r2 r3 => k (PkS.pack Tspec_l1Cur_pick (r0, r1, r2, r3, ())))
  | none => none
theorem espec_l1Cur_pick (spec_l1Cur_next : ∀ {R : Type}, Nat → (List Int) → Int → Int → (Int → (List Int) → Int → Int → Option R) → Option R) {R : Type} (n : Nat) (x0 : Int) (x1 : List Int) (x2 : Int) (x3 : Int) (k : Pk → Option R) : evF tt sig (mkK [(149, Kspec_l1Cur_next @spec_l1Cur_next n)] R) (mkL (mkK [(149, Kspec_l1Cur_next @spec_l1Cur_next n)]) [] R) Try.f99 Hspec_l1Cur_pick (PkS.pack Sspec_l1Cur_pick (x0, x1, x2, x3, ())) k = (fun (k : Int → (List Int) → Int → Int → Option R) => (bif (decide (x0 ≤ 1)) then k 0 x1 x2 x3 else (spec_l1Cur_next n x1 x2 x3 fun r1 r2 r3 r4 => (bif (decide (x0 > 200)) then (spec_l1Cur_next n r2 r3 r4 fun r5 r6 r7 r8 => (bif decide (x0 ≠ 0) then k (Int.tmod (IntKind.wrap .i64 ((IntKind.wrap .i64 (r1 * 256)) + r5)) x0) r6 r7 r8 else none)) else (bif decide (x0 ≠ 0) then k (Int.tmod r1 x0) r2 r3 r4 else none))))) (fun r0 r1 r2 r3 => k (PkS.pack Tspec_l1Cur_pick (r0, r1, r2, r3, ()))) := by kernel_rfl
theorem okspec_l1Cur_pick (n : Nat) : FnOk Try.prog 99 (Kspec_l1Cur_pick @spec_l1Cur_pick n) := by
  refine fn_ok (sig := sig) mixed ttok (mkK_nat (cspec_l1Cur_pick n)) (mkK_ok (cspec_l1Cur_pick n)) (mkL_nat (mkK_nat (cspec_l1Cur_pick n)) (l := []) trivial) (fn := Try.f99) (c := bodyOf Try.f99) (by kernel_rfl) (by kernel_rfl) (by kernel_rfl) (.eq (l := []) (by kernel_rfl) trivial) (shs := Hspec_l1Cur_pick) (S := Sspec_l1Cur_pick) (h1 := by kernel_rfl) fun R p k => ?_
  unfold Kspec_l1Cur_pick
  cases h : (PkS.un Sspec_l1Cur_pick p) with
  | none => rfl
  | some d =>
    obtain ⟨x0, x1, x2, x3, u⟩ := (d : Int × (List Int) × Int × Int × Unit)
    have hp := PkS.un_pack h
    subst hp
    exact (espec_l1Cur_pick @spec_l1Cur_next n x0 x1 x2 x3 k).symm

/-! ### (*loop.example/g00269/spec.l1Cur).one -/
theorem cspec_l1Cur_one (n : Nat) : AllOk Try.prog [(99, Kspec_l1Cur_pick @spec_l1Cur_pick n)] := ⟨okspec_l1Cur_pick n, trivial⟩
@[reducible] def Sspec_l1Cur_one : PkS := ⟨[.one (.box (200000, 0) 0), .one (.int .i64)], [((200000, 0), .box [.ro (.int .u8), .int .i64, .int .u64])]⟩
@[reducible] def Tspec_l1Cur_one : PkS := ⟨[.one (.bool), .one (.box (300000, 0) 0), .one (.dead)], [((300000, 0), .box [.ro (.int .u8), .int .i64, .int .u64])]⟩
def Hspec_l1Cur_one : List Sh := [.one .any, .box [(.ro (.int .u8)), .any, .any], .skip]
def Kspec_l1Cur_one (g : ∀ {R : Type}, Nat → Int → (List Int) → Int → Int → (Bool → (List Int) → Int → Int → Option R) → Option R) (n : Nat) : KPs := fun R p k => match (PkS.un Sspec_l1Cur_one p : Option (Int × (List Int) × Int × Int × Unit)) with
  | some (x0, x1, x2, x3, _) => g n x0 x1 x2 x3 (fun r0 r1 r2 r3 => k (PkS.pack Tspec_l1Cur_one (r0, r1, r2, r3, ())))
  | none => none
theorem espec_l1Cur_one (spec_l1Cur_pick : ∀ {R : Type}, Nat → Int → (List Int) → Int → Int → (Int → (List Int) → Int → Int → Option R) → Option R) {R : Type} (n : Nat) (x0 : Int) (x1 : List Int) (x2 : Int) (x3 : Int) (k : Pk → Option R) : evF tt sig (mkK [(99, Kspec_l1Cur_pick @spec_l1Cur_pick n)] R) (mkL (mkK [(99, Kspec_l1Cur_pick @spec_l1Cur_pick n)]) [] R) Try.f112 Hspec_l1Cur_one (PkS.pack Sspec_l1Cur_one (x0, x1, x2, x3, ())) k = (fun (k : Bool → (List Int) → Int → Int → Option R) => (spec_l1Cur_pick n x0 x1 x2 x3 fun r1 r2 r3 r4 => k (r1 == 0) r2 r3 r4)) (fun r0 r1 r2 r3 => k (PkS.pack Tspec_l1Cur_one (r0, r1, r2, r3, ()))) := by kernel_rfl
theorem okspec_l1Cur_one (n : Nat) : FnOk Try.prog 112 (Kspec_l1Cur_one @spec_l1Cur_one n) := by
  refine fn_ok (sig := sig) mixed ttok (mkK_nat (cspec_l1Cur_one n)) (mkK_ok (cspec_l1Cur_one n)) (mkL_nat (mkK_nat (cspec_l1Cur_one n)) (l := []) trivial) (fn := Try.f112) (c := bodyOf Try.f112) (by kernel_rfl) (by kernel_rfl) (by kernel_rfl) (.eq (l := []) (by kernel_rfl) trivial) (shs := Hspec_l1Cur_one) (S := Sspec_l1Cur_one) (h1 := by kernel_rfl) fun R p k => ?_
  unfold Kspec_l1Cur_one
  cases h : (PkS.un Sspec_l1Cur_one p) with
  | none => rfl
  | some d =>
    obtain ⟨x0, x1, x2, x3, u⟩ := (d : Int × (List Int) × Int × Int × Unit)
    have hp := PkS.un_pack h
    subst hp
    exact (espec_l1Cur_one @spec_l1Cur_pick n x0 x1 x2 x3 k).symm

/-! ### (*loop.example/g00269/spec.l1Cur).places -/
theorem cspec_l1Cur_places (n : Nat) : AllOk Try.prog [(99, Kspec_l1Cur_pick @spec_l1Cur_pick n)] := ⟨okspec_l1Cur_pick n, trivial⟩
@[reducible] def Sspec_l1Cur_places_l3 : PkS := ⟨[.one (.box (100000, 0) 0), .one (.int .i64), .one (.whole (100000, 1)), .one (.int .i64), .one (.box (100000, 0) 0), .one (.dead)], [((100000, 0), .box [.ro (.int .u8), .int .i64, .int .u64]), ((100000, 1), .arr (.int .i64))]⟩
@[reducible] def Tspec_l1Cur_places_l3_0 : PkS := ⟨[.one (.whole (100000, 0)), .one (.box (100000, 1) 0), .one (.dead)], [((100000, 0), .arr (.int .i64)), ((100000, 1), .box [.ro (.int .u8), .int .i64, .int .u64])]⟩
def Dspec_l1Cur_places_l3 : LoopD := ⟨27, [0, 1, 5, 6], [.box [(.ro (.int .u8)), .any, .any], .one .any, .one (.own (.int .i64)), .one .any, .box [(.ro (.int .u8)), .any, .any], .skip], fun x => match x with
  | .exit 0 => some ([5], [.one (.own (.int .i64)), .box [(.ro (.int .u8)), .any, .any], .skip])
  | _ => none⟩
def Pspec_l1Cur_places_l3 (g : ∀ {R : Type}, Nat → Int → Int → (List Int) → Int → Int → (List Int) → ((List Int) → (List Int) → Int → Int → Option R) → Option R) (n : Nat) : LPs := fun R q kk => match (PkS.un Sspec_l1Cur_places_l3 q : Option (Int × Int × (List Int) × Int × Int × (List Int) × Unit)) with
  | some (y3_0, y3_1, y3_2, y3_3, y3_4, y3_5, _) => g n y3_0 y3_1 y3_2 y3_3 y3_4 y3_5 (fun r0 r1 r2 r3 => kk (.exit 0) (PkS.pack Tspec_l1Cur_places_l3_0 (r0, r1, r2, r3, ())))
  | none => none
theorem espec_l1Cur_places_l3 (spec_l1Cur_pick : ∀ {R : Type}, Nat → Int → (List Int) → Int → Int → (Int → (List Int) → Int → Int → Option R) → Option R) (spec_l1Cur_places_l3 : ∀ {R : Type}, Nat → Int → Int → (List Int) → Int → Int → (List Int) → ((List Int) → (List Int) → Int → Int → Option R) → Option R) {R : Type} (n : Nat) (y3_0 : Int) (y3_1 : Int) (y3_2 : List Int) (y3_3 : Int) (y3_4 : Int) (y3_5 : List Int) (kk : Ex → Pk → Option R) : Dspec_l1Cur_places_l3.step tt sig (mkK [(99, Kspec_l1Cur_pick @spec_l1Cur_pick n)] R) (mkL (mkK [(99, Kspec_l1Cur_pick @spec_l1Cur_pick n)]) [] R) (loopIn 3 (bodyOf Try.f154)) (fun q' => Pspec_l1Cur_places_l3 @spec_l1Cur_places_l3 n R q' kk) (PkS.pack Sspec_l1Cur_places_l3 (y3_0, y3_1, y3_2, y3_3, y3_4, y3_5, ())) kk = (fun (kexit0 : (List Int) → (List Int) → Int → Int → Option R) => (bif (decide (y3_1 < y3_0)) then (bif (decide ((y3_5.length : Int) < 2)) then (bif decide (y3_5.length + [y3_1].length ≤ LIM) then (spec_l1Cur_pick n 3 y3_2 y3_3 y3_4 fun r5 r6 r7 r8 => spec_l1Cur_places_l3 n y3_0 (IntKind.wrap .i64 (y3_1 + (IntKind.wrap .i64 (1 + r5)))) r6 r7 r8 (y3_5 ++ [y3_1]) kexit0) else none) else kexit0 y3_5 y3_2 y3_3 y3_4) else kexit0 y3_5 y3_2 y3_3 y3_4)) (fun r0 r1 r2 r3 => kk (.exit 0) (PkS.pack Tspec_l1Cur_places_l3_0 (r0, r1, r2, r3, ()))) := by kernel_rfl
theorem lespec_l1Cur_places_l3 : LoopEq tt sig (fun n => mkK [(99, Kspec_l1Cur_pick @spec_l1Cur_pick n)]) (fun n => mkL (mkK [(99, Kspec_l1Cur_pick @spec_l1Cur_pick n)]) []) Dspec_l1Cur_places_l3 Sspec_l1Cur_places_l3 (loopIn 3 (bodyOf Try.f154)) (Pspec_l1Cur_places_l3 @spec_l1Cur_places_l3) where
  zero R q kk := by unfold Pspec_l1Cur_places_l3; cases (PkS.un Sspec_l1Cur_places_l3 q) <;> rfl
  succ n R q kk := by
    unfold Pspec_l1Cur_places_l3
    cases h : (PkS.un Sspec_l1Cur_places_l3 q) with
    | none => rfl
    | some d =>
      obtain ⟨y3_0, y3_1, y3_2, y3_3, y3_4, y3_5, u⟩ := (d : Int × Int × (List Int) × Int × Int × (List Int) × Unit)
      have hp := PkS.un_pack h
      subst hp
      exact (espec_l1Cur_places_l3 @spec_l1Cur_pick @spec_l1Cur_places_l3 n y3_0 y3_1 y3_2 y3_3 y3_4 y3_5 kk).symm
theorem nlspec_l1Cur_places_l3 : ∀ n, NatLP (Pspec_l1Cur_places_l3 @spec_l1Cur_places_l3 n) := lespec_l1Cur_places_l3.nat (fun n => mkK_nat (cspec_l1Cur_places n)) fun n => mkL_nat (mkK_nat (cspec_l1Cur_places n)) (l := []) trivial
theorem inspec_l1Cur_places_l3 (n : Nat) (R : Type) : LoopsOk Try.prog (mkL (mkK [(99, Kspec_l1Cur_pick @spec_l1Cur_pick n)]) [] R) (loopIn 3 (bodyOf Try.f154)) := .eq (l := []) (by kernel_rfl) trivial
theorem lkspec_l1Cur_places_l3 (n : Nat) (R : Type) (L0 : LK R) (h0 : ∀ id, firstRegion (loopIn 3 (bodyOf Try.f154)) = some id → L0 id = Dspec_l1Cur_places_l3.oracle (mkK [(99, Kspec_l1Cur_pick @spec_l1Cur_pick n)] R) (Pspec_l1Cur_places_l3 @spec_l1Cur_places_l3 n R)) : LoopOk Try.prog L0 (loopIn 3 (bodyOf Try.f154)) :=
  lespec_l1Cur_places_l3.ok mixed ttok (fun n => mkK_nat (cspec_l1Cur_places n)) (fun n => mkK_ok (cspec_l1Cur_places n)) (fun n => inspec_l1Cur_places_l3 n R) (mkK_nat (cspec_l1Cur_places n)) h0
@[reducible] def Sspec_l1Cur_places : PkS := ⟨[.one (.box (200000, 0) 0), .one (.int .i64)], [((200000, 0), .box [.ro (.int .u8), .int .i64, .int .u64])]⟩
@[reducible] def Tspec_l1Cur_places : PkS := ⟨[.one (.whole (300000, 0)), .one (.box (300000, 1) 0), .one (.dead)], [((300000, 0), .arr (.int .i64)), ((300000, 1), .box [.ro (.int .u8), .int .i64, .int .u64])]⟩
def Hspec_l1Cur_places : List Sh := [.one (.own (.int .i64)), .box [(.ro (.int .u8)), .any, .any], .skip]
def Kspec_l1Cur_places (g : ∀ {R : Type}, Nat → Int → (List Int) → Int → Int → ((List Int) → (List Int) → Int → Int → Option R) → Option R) (n : Nat) : KPs := fun R p k => match (PkS.un Sspec_l1Cur_places p : Option (Int × (List Int) × Int × Int × Unit)) with
  | some (x0, x1, x2, x3, _) => g n x0 x1 x2 x3 (fun r0 r1 r2 r3 => k (PkS.pack Tspec_l1Cur_places (r0, r1, r2, r3, ())))
  | none => none
theorem espec_l1Cur_places (spec_l1Cur_pick : ∀ {R : Type}, Nat → Int → (List Int) → Int → Int → (Int → (List Int) → Int → Int → Option R) → Option R) (spec_l1Cur_places_l3 : ∀ {R : Type}, Nat → Int → Int → (List Int) → Int → Int → (List Int) → ((List Int) → (List Int) → Int → Int → Option R) → Option R) {R : Type} (n : Nat) (x0 : Int) (x1 : List Int) (x2 : Int) (x3 : Int) (k : Pk → Option R) : evF tt sig (mkK [(99, Kspec_l1Cur_pick @spec_l1Cur_pick n)] R) (mkL (mkK [(99, Kspec_l1Cur_pick @spec_l1Cur_pick n)]) [(3, Dspec_l1Cur_places_l3, Pspec_l1Cur_places_l3 @spec_l1Cur_places_l3 n)] R) Try.f154 Hspec_l1Cur_places (PkS.pack Sspec_l1Cur_places (x0, x1, x2, x3, ())) k = (fun (k : (List Int) → (List Int) → Int → Int → Option R) => (spec_l1Cur_pick n 3 x1 x2 x3 fun r1 r2 r3 r4 => (spec_l1Cur_places_l3 n x0 r1 r2 r3 r4 ([] : List Int) (fun r9 r10 r11 r12 => k r9 r10 r11 r12)))) (fun r0 r1 r2 r3 => k (PkS.pack Tspec_l1Cur_places (r0, r1, r2, r3, ()))) := by kernel_rfl
theorem okspec_l1Cur_places (n : Nat) : FnOk Try.prog 154 (Kspec_l1Cur_places @spec_l1Cur_places n) := by
  refine fn_ok (sig := sig) mixed ttok (mkK_nat (cspec_l1Cur_places n)) (mkK_ok (cspec_l1Cur_places n)) (mkL_nat (mkK_nat (cspec_l1Cur_places n)) (l := [(3, Dspec_l1Cur_places_l3, Pspec_l1Cur_places_l3 @spec_l1Cur_places_l3 n)]) ⟨nlspec_l1Cur_places_l3 n, trivial⟩) (fn := Try.f154) (c := bodyOf Try.f154) (by kernel_rfl) (by kernel_rfl) (by kernel_rfl) (.eq (l := [.lo (loopIn 3 (bodyOf Try.f154))]) (by kernel_rfl) ⟨(lkspec_l1Cur_places_l3 n _ _ (at_id (i := 3) (by kernel_rfl) rfl)), trivial⟩) (shs := Hspec_l1Cur_places) (S := Sspec_l1Cur_places) (h1 := by kernel_rfl) fun R p k => ?_
  unfold Kspec_l1Cur_places
  cases h : (PkS.un Sspec_l1Cur_places p) with
  | none => rfl
  | some d =>
    obtain ⟨x0, x1, x2, x3, u⟩ := (d : Int × (List Int) × Int × Int × Unit)
    have hp := PkS.un_pack h
    subst hp
    exact (espec_l1Cur_places @spec_l1Cur_pick @spec_l1Cur_places_l3 n x0 x1 x2 x3 k).symm

/-! ### (*loop.example/g00269/spec.l1Cur).net -/
theorem cspec_l1Cur_net (n : Nat) : AllOk Try.prog [(99, Kspec_l1Cur_pick @spec_l1Cur_pick n), (112, Kspec_l1Cur_one @spec_l1Cur_one n), (154, Kspec_l1Cur_places @spec_l1Cur_places n)] := ⟨okspec_l1Cur_pick n, ⟨okspec_l1Cur_one n, ⟨okspec_l1Cur_places n, trivial⟩⟩⟩
@[reducible] def Sspec_l1Cur_net_l5 : PkS := ⟨[.one (.box (100000, 0) 0), .one (.box (100000, 2) 0), .one (.box (100000, 4) 0), .one (.int .i64), .one (.box (100000, 0) 0)], [((100000, 0), .box [.ro (.int .u8), .int .i64, .int .u64]), ((100000, 1), .arr (.pr (.sl (.int .i64)) (.sl (.int .i64)))), ((100000, 2), .box [.int .i64, .whole (100000, 1)]), ((100000, 3), .arr (.pr (.sl (.int .i64)) (.sl (.int .i64)))), ((100000, 4), .box [.int .i64, .whole (100000, 3)])]⟩
@[reducible] def Tspec_l1Cur_net_l5_0 : PkS := ⟨[.one (.box (100000, 0) 0), .one (.box (100000, 2) 0), .one (.box (100000, 4) 0), .one (.box (100000, 0) 0)], [((100000, 0), .box [.ro (.int .u8), .int .i64, .int .u64]), ((100000, 1), .arr (.pr (.sl (.int .i64)) (.sl (.int .i64)))), ((100000, 2), .box [.int .i64, .whole (100000, 1)]), ((100000, 3), .arr (.pr (.sl (.int .i64)) (.sl (.int .i64)))), ((100000, 4), .box [.int .i64, .whole (100000, 3)])]⟩
def Dspec_l1Cur_net_l5 : LoopD := ⟨121, [0, 2, 3, 4], [.box [(.ro (.int .u8)), .any, .any], .box [.any, (.own (.pr (.sl (.int .i64)) (.sl (.int .i64))))], .box [.any, (.own (.pr (.sl (.int .i64)) (.sl (.int .i64))))], .one .any, .box [(.ro (.int .u8)), .any, .any]], fun x => match x with
  | .exit 1 => some ([0, 2, 3], [.box [(.ro (.int .u8)), .any, .any], .box [.any, (.own (.pr (.sl (.int .i64)) (.sl (.int .i64))))], .box [.any, (.own (.pr (.sl (.int .i64)) (.sl (.int .i64))))], .box [(.ro (.int .u8)), .any, .any]])
  | _ => none⟩
def Pspec_l1Cur_net_l5 (g : ∀ {R : Type}, Nat → Int → (List Int) → Int → Int → (List (List Int × List Int)) → Int → (List (List Int × List Int)) → Int → ((List Int) → Int → Int → (List (List Int × List Int)) → Int → (List (List Int × List Int)) → Int → Option R) → Option R) (n : Nat) : LPs := fun R q kk => match (PkS.un Sspec_l1Cur_net_l5 q : Option (Int × (List Int) × Int × Int × (List (List Int × List Int)) × Int × (List (List Int × List Int)) × Int × Unit)) with
  | some (y5_0, y5_1, y5_2, y5_3, y5_4, y5_5, y5_6, y5_7, _) => g n y5_0 y5_1 y5_2 y5_3 y5_4 y5_5 y5_6 y5_7 (fun r0 r1 r2 r3 r4 r5 r6 => kk (.exit 1) (PkS.pack Tspec_l1Cur_net_l5_0 (r0, r1, r2, r3, r4, r5, r6, ())))
  | none => none
theorem espec_l1Cur_net_l5 (spec_l1Cur_pick : ∀ {R : Type}, Nat → Int → (List Int) → Int → Int → (Int → (List Int) → Int → Int → Option R) → Option R) (spec_l1Cur_one : ∀ {R : Type}, Nat → Int → (List Int) → Int → Int → (Bool → (List Int) → Int → Int → Option R) → Option R) (spec_l1Cur_places : ∀ {R : Type}, Nat → Int → (List Int) → Int → Int → ((List Int) → (List Int) → Int → Int → Option R) → Option R) (spec_l1Cur_net_l5 : ∀ {R : Type}, Nat → Int → (List Int) → Int → Int → (List (List Int × List Int)) → Int → (List (List Int × List Int)) → Int → ((List Int) → Int → Int → (List (List Int × List Int)) → Int → (List (List Int × List Int)) → Int → Option R) → Option R) {R : Type} (n : Nat) (y5_0 : Int) (y5_1 : List Int) (y5_2 : Int) (y5_3 : Int) (y5_4 : List (List Int × List Int)) (y5_5 : Int) (y5_6 : List (List Int × List Int)) (y5_7 : Int) (kk : Ex → Pk → Option R) : Dspec_l1Cur_net_l5.step tt sig (mkK [(99, Kspec_l1Cur_pick @spec_l1Cur_pick n), (112, Kspec_l1Cur_one @spec_l1Cur_one n), (154, Kspec_l1Cur_places @spec_l1Cur_places n)] R) (mkL (mkK [(99, Kspec_l1Cur_pick @spec_l1Cur_pick n), (112, Kspec_l1Cur_one @spec_l1Cur_one n), (154, Kspec_l1Cur_places @spec_l1Cur_places n)]) [] R) (loopIn 5 (bodyOf Try.f113)) (fun q' => Pspec_l1Cur_net_l5 @spec_l1Cur_net_l5 n R q' kk) (PkS.pack Sspec_l1Cur_net_l5 (y5_0, y5_1, y5_2, y5_3, y5_4, y5_5, y5_6, y5_7, ())) kk = (fun (kexit1 : (List Int) → Int → Int → (List (List Int × List Int)) → Int → (List (List Int × List Int)) → Int → Option R) => (bif (decide (y5_0 < y5_7)) then (bif decide (y5_6.length + ([([(IntKind.wrap .i64 (y5_0 - 1))], [y5_0])]).length ≤ LIM) then spec_l1Cur_net_l5 n (IntKind.wrap .i64 (y5_0 + 1)) y5_1 y5_2 y5_3 y5_4 y5_5 (y5_6 ++ [([(IntKind.wrap .i64 (y5_0 - 1))], [y5_0])]) y5_7 kexit1 else none) else kexit1 y5_1 y5_2 y5_3 y5_4 y5_5 y5_6 y5_7)) (fun r0 r1 r2 r3 r4 r5 r6 => kk (.exit 1) (PkS.pack Tspec_l1Cur_net_l5_0 (r0, r1, r2, r3, r4, r5, r6, ()))) := by kernel_rfl
theorem lespec_l1Cur_net_l5 : LoopEq tt sig (fun n => mkK [(99, Kspec_l1Cur_pick @spec_l1Cur_pick n), (112, Kspec_l1Cur_one @spec_l1Cur_one n), (154, Kspec_l1Cur_places @spec_l1Cur_places n)]) (fun n => mkL (mkK [(99, Kspec_l1Cur_pick @spec_l1Cur_pick n), (112, Kspec_l1Cur_one @spec_l1Cur_one n), (154, Kspec_l1Cur_places @spec_l1Cur_places n)]) []) Dspec_l1Cur_net_l5 Sspec_l1Cur_net_l5 (loopIn 5 (bodyOf Try.f113)) (Pspec_l1Cur_net_l5 @spec_l1Cur_net_l5) where
  zero R q kk := by unfold Pspec_l1Cur_net_l5; cases (PkS.un Sspec_l1Cur_net_l5 q) <;> rfl
  succ n R q kk := by
    unfold Pspec_l1Cur_net_l5
    cases h : (PkS.un Sspec_l1Cur_net_l5 q) with
    | none => rfl
    | some d =>
      obtain ⟨y5_0, y5_1, y5_2, y5_3, y5_4, y5_5, y5_6, y5_7, u⟩ := (d : Int × (List Int) × Int × Int × (List (List Int × List Int)) × Int × (List (List Int × List Int)) × Int × Unit)
      have hp := PkS.un_pack h
      subst hp
      exact (espec_l1Cur_net_l5 @spec_l1Cur_pick @spec_l1Cur_one @spec_l1Cur_places @spec_l1Cur_net_l5 n y5_0 y5_1 y5_2 y5_3 y5_4 y5_5 y5_6 y5_7 kk).symm
theorem nlspec_l1Cur_net_l5 : ∀ n, NatLP (Pspec_l1Cur_net_l5 @spec_l1Cur_net_l5 n) := lespec_l1Cur_net_l5.nat (fun n => mkK_nat (cspec_l1Cur_net n)) fun n => mkL_nat (mkK_nat (cspec_l1Cur_net n)) (l := []) trivial
theorem inspec_l1Cur_net_l5 (n : Nat) (R : Type) : LoopsOk Try.prog (mkL (mkK [(99, Kspec_l1Cur_pick @spec_l1Cur_pick n), (112, Kspec_l1Cur_one @spec_l1Cur_one n), (154, Kspec_l1Cur_places @spec_l1Cur_places n)]) [] R) (loopIn 5 (bodyOf Try.f113)) := .eq (l := []) (by kernel_rfl) trivial
theorem lkspec_l1Cur_net_l5 (n : Nat) (R : Type) (L0 : LK R) (h0 : ∀ id, firstRegion (loopIn 5 (bodyOf Try.f113)) = some id → L0 id = Dspec_l1Cur_net_l5.oracle (mkK [(99, Kspec_l1Cur_pick @spec_l1Cur_pick n), (112, Kspec_l1Cur_one @spec_l1Cur_one n), (154, Kspec_l1Cur_places @spec_l1Cur_places n)] R) (Pspec_l1Cur_net_l5 @spec_l1Cur_net_l5 n R)) : LoopOk Try.prog L0 (loopIn 5 (bodyOf Try.f113)) :=
  lespec_l1Cur_net_l5.ok mixed ttok (fun n => mkK_nat (cspec_l1Cur_net n)) (fun n => mkK_ok (cspec_l1Cur_net n)) (fun n => inspec_l1Cur_net_l5 n R) (mkK_nat (cspec_l1Cur_net n)) h0
@[reducible] def Sspec_l1Cur_net_l18 : PkS := ⟨[.one (.box (100000, 0) 0), .one (.box (100000, 2) 0), .one (.box (100000, 4) 0), .one (.int .i64), .one (.box (100000, 0) 0)], [((100000, 0), .box [.ro (.int .u8), .int .i64, .int .u64]), ((100000, 1), .arr (.pr (.sl (.int .i64)) (.sl (.int .i64)))), ((100000, 2), .box [.int .i64, .whole (100000, 1)]), ((100000, 3), .arr (.pr (.sl (.int .i64)) (.sl (.int .i64)))), ((100000, 4), .box [.int .i64, .whole (100000, 3)])]⟩
@[reducible] def Tspec_l1Cur_net_l18_0 : PkS := ⟨[.one (.box (100000, 0) 0), .one (.box (100000, 2) 0), .one (.box (100000, 4) 0), .one (.box (100000, 0) 0)], [((100000, 0), .box [.ro (.int .u8), .int .i64, .int .u64]), ((100000, 1), .arr (.pr (.sl (.int .i64)) (.sl (.int .i64)))), ((100000, 2), .box [.int .i64, .whole (100000, 1)]), ((100000, 3), .arr (.pr (.sl (.int .i64)) (.sl (.int .i64)))), ((100000, 4), .box [.int .i64, .whole (100000, 3)])]⟩
def Dspec_l1Cur_net_l18 : LoopD := ⟨121, [0, 2, 6, 7], [.box [(.ro (.int .u8)), .any, .any], .box [.any, (.own (.pr (.sl (.int .i64)) (.sl (.int .i64))))], .box [.any, (.own (.pr (.sl (.int .i64)) (.sl (.int .i64))))], .one .any, .box [(.ro (.int .u8)), .any, .any]], fun x => match x with
  | .exit 3 => some ([0, 2, 6], [.box [(.ro (.int .u8)), .any, .any], .box [.any, (.own (.pr (.sl (.int .i64)) (.sl (.int .i64))))], .box [.any, (.own (.pr (.sl (.int .i64)) (.sl (.int .i64))))], .box [(.ro (.int .u8)), .any, .any]])
  | _ => none⟩
def Pspec_l1Cur_net_l18 (g : ∀ {R : Type}, Nat → Int → (List Int) → Int → Int → (List (List Int × List Int)) → Int → (List (List Int × List Int)) → Int → ((List Int) → Int → Int → (List (List Int × List Int)) → Int → (List (List Int × List Int)) → Int → Option R) → Option R) (n : Nat) : LPs := fun R q kk => match (PkS.un Sspec_l1Cur_net_l18 q : Option (Int × (List Int) × Int × Int × (List (List Int × List Int)) × Int × (List (List Int × List Int)) × Int × Unit)) with
  | some (y18_0, y18_1, y18_2, y18_3, y18_4, y18_5, y18_6, y18_7, _) => g n y18_0 y18_1 y18_2 y18_3 y18_4 y18_5 y18_6 y18_7 (fun r0 r1 r2 r3 r4 r5 r6 => kk (.exit 3) (PkS.pack Tspec_l1Cur_net_l18_0 (r0, r1, r2, r3, r4, r5, r6, ())))
  | none => none
theorem espec_l1Cur_net_l18 (spec_l1Cur_pick : ∀ {R : Type}, Nat → Int → (List Int) → Int → Int → (Int → (List Int) → Int → Int → Option R) → Option R) (spec_l1Cur_one : ∀ {R : Type}, Nat → Int → (List Int) → Int → Int → (Bool → (List Int) → Int → Int → Option R) → Option R) (spec_l1Cur_places : ∀ {R : Type}, Nat → Int → (List Int) → Int → Int → ((List Int) → (List Int) → Int → Int → Option R) → Option R) (spec_l1Cur_net_l5 : ∀ {R : Type}, Nat → Int → (List Int) → Int → Int → (List (List Int × List Int)) → Int → (List (List Int × List Int)) → Int → ((List Int) → Int → Int → (List (List Int × List Int)) → Int → (List (List Int × List Int)) → Int → Option R) → Option R) (spec_l1Cur_net_l18 : ∀ {R : Type}, Nat → Int → (List Int) → Int → Int → (List (List Int × List Int)) → Int → (List (List Int × List Int)) → Int → ((List Int) → Int → Int → (List (List Int × List Int)) → Int → (List (List Int × List Int)) → Int → Option R) → Option R) {R : Type} (n : Nat) (y18_0 : Int) (y18_1 : List Int) (y18_2 : Int) (y18_3 : Int) (y18_4 : List (List Int × List Int)) (y18_5 : Int) (y18_6 : List (List Int × List Int)) (y18_7 : Int) (kk : Ex → Pk → Option R) : Dspec_l1Cur_net_l18.step tt sig (mkK [(99, Kspec_l1Cur_pick @spec_l1Cur_pick n), (112, Kspec_l1Cur_one @spec_l1Cur_one n), (154, Kspec_l1Cur_places @spec_l1Cur_places n)] R) (mkL (mkK [(99, Kspec_l1Cur_pick @spec_l1Cur_pick n), (112, Kspec_l1Cur_one @spec_l1Cur_one n), (154, Kspec_l1Cur_places @spec_l1Cur_places n)]) [(5, Dspec_l1Cur_net_l5, Pspec_l1Cur_net_l5 @spec_l1Cur_net_l5 n)] R) (loopIn 18 (bodyOf Try.f113)) (fun q' => Pspec_l1Cur_net_l18 @spec_l1Cur_net_l18 n R q' kk) (PkS.pack Sspec_l1Cur_net_l18 (y18_0, y18_1, y18_2, y18_3, y18_4, y18_5, y18_6, y18_7, ())) kk = (fun (kexit3 : (List Int) → Int → Int → (List (List Int × List Int)) → Int → (List (List Int × List Int)) → Int → Option R) => (bif (decide (y18_0 > 0)) then (spec_l1Cur_places n y18_7 y18_1 y18_2 y18_3 fun r44 r45 r46 r47 => (spec_l1Cur_places n y18_7 r45 r46 r47 fun r48 r49 r50 r51 => (bif decide (y18_6.length + ([(r44, r48)]).length ≤ LIM) then spec_l1Cur_net_l18 n (IntKind.wrap .i64 (y18_0 - 1)) r49 r50 r51 y18_4 y18_5 (y18_6 ++ [(r44, r48)]) y18_7 kexit3 else none))) else kexit3 y18_1 y18_2 y18_3 y18_4 y18_5 y18_6 y18_7)) (fun r0 r1 r2 r3 r4 r5 r6 => kk (.exit 3) (PkS.pack Tspec_l1Cur_net_l18_0 (r0, r1, r2, r3, r4, r5, r6, ()))) := by kernel_rfl
theorem lespec_l1Cur_net_l18 : LoopEq tt sig (fun n => mkK [(99, Kspec_l1Cur_pick @spec_l1Cur_pick n), (112, Kspec_l1Cur_one @spec_l1Cur_one n), (154, Kspec_l1Cur_places @spec_l1Cur_places n)]) (fun n => mkL (mkK [(99, Kspec_l1Cur_pick @spec_l1Cur_pick n), (112, Kspec_l1Cur_one @spec_l1Cur_one n), (154, Kspec_l1Cur_places @spec_l1Cur_places n)]) [(5, Dspec_l1Cur_net_l5, Pspec_l1Cur_net_l5 @spec_l1Cur_net_l5 n)]) Dspec_l1Cur_net_l18 Sspec_l1Cur_net_l18 (loopIn 18 (bodyOf Try.f113)) (Pspec_l1Cur_net_l18 @spec_l1Cur_net_l18) where
  zero R q kk := by unfold Pspec_l1Cur_net_l18; cases (PkS.un Sspec_l1Cur_net_l18 q) <;> rfl
  succ n R q kk := by
    unfold Pspec_l1Cur_net_l18
    cases h : (PkS.un Sspec_l1Cur_net_l18 q) with
    | none => rfl
    | some d =>
      obtain ⟨y18_0, y18_1, y18_2, y18_3, y18_4, y18_5, y18_6, y18_7, u⟩ := (d : Int × (List Int) × Int × Int × (List (List Int × List Int)) × Int × (List (List Int × List Int)) × Int × Unit)
      have hp := PkS.un_pack h
      subst hp
      exact (espec_l1Cur_net_l18 @spec_l1Cur_pick @spec_l1Cur_one @spec_l1Cur_places @spec_l1Cur_net_l5 @spec_l1Cur_net_l18 n y18_0 y18_1 y18_2 y18_3 y18_4 y18_5 y18_6 y18_7 kk).symm
theorem nlspec_l1Cur_net_l18 : ∀ n, NatLP (Pspec_l1Cur_net_l18 @spec_l1Cur_net_l18 n) := lespec_l1Cur_net_l18.nat (fun n => mkK_nat (cspec_l1Cur_net n)) fun n => mkL_nat (mkK_nat (cspec_l1Cur_net n)) (l := [(5, Dspec_l1Cur_net_l5, Pspec_l1Cur_net_l5 @spec_l1Cur_net_l5 n)]) ⟨nlspec_l1Cur_net_l5 n, trivial⟩
theorem inspec_l1Cur_net_l18 (n : Nat) (R : Type) : LoopsOk Try.prog (mkL (mkK [(99, Kspec_l1Cur_pick @spec_l1Cur_pick n), (112, Kspec_l1Cur_one @spec_l1Cur_one n), (154, Kspec_l1Cur_places @spec_l1Cur_places n)]) [(5, Dspec_l1Cur_net_l5, Pspec_l1Cur_net_l5 @spec_l1Cur_net_l5 n)] R) (loopIn 18 (bodyOf Try.f113)) := .eq (l := []) (by kernel_rfl) trivial
theorem lkspec_l1Cur_net_l18 (n : Nat) (R : Type) (L0 : LK R) (h0 : ∀ id, firstRegion (loopIn 18 (bodyOf Try.f113)) = some id → L0 id = Dspec_l1Cur_net_l18.oracle (mkK [(99, Kspec_l1Cur_pick @spec_l1Cur_pick n), (112, Kspec_l1Cur_one @spec_l1Cur_one n), (154, Kspec_l1Cur_places @spec_l1Cur_places n)] R) (Pspec_l1Cur_net_l18 @spec_l1Cur_net_l18 n R)) : LoopOk Try.prog L0 (loopIn 18 (bodyOf Try.f113)) :=
  lespec_l1Cur_net_l18.ok mixed ttok (fun n => mkK_nat (cspec_l1Cur_net n)) (fun n => mkK_ok (cspec_l1Cur_net n)) (fun n => inspec_l1Cur_net_l18 n R) (mkK_nat (cspec_l1Cur_net n)) h0
@[reducible] def Sspec_l1Cur_net : PkS := ⟨[.one (.box (200000, 0) 0)], [((200000, 0), .box [.ro (.int .u8), .int .i64, .int .u64])]⟩
@[reducible] def Tspec_l1Cur_net : PkS := ⟨[.agg [.int .i64, .whole (300000, 0)], .one (.box (300000, 1) 0)], [((300000, 0), .arr (.pr (.sl (.int .i64)) (.sl (.int .i64)))), ((300000, 1), .box [.ro (.int .u8), .int .i64, .int .u64])]⟩
def Hspec_l1Cur_net : List Sh := [.agg [.any, (.own (.pr (.sl (.int .i64)) (.sl (.int .i64))))], .box [(.ro (.int .u8)), .any, .any]]
def Kspec_l1Cur_net (g : ∀ {R : Type}, Nat → (List Int) → Int → Int → (Int → (List (List Int × List Int)) → (List Int) → Int → Int → Option R) → Option R) (n : Nat) : KPs := fun R p k => match (PkS.un Sspec_l1Cur_net p : Option ((List Int) × Int × Int × Unit)) with
  | some (x0, x1, x2, _) => g n x0 x1 x2 (fun r0 r1 r2 r3 r4 => k (PkS.pack Tspec_l1Cur_net (r0, r1, r2, r3, r4, ())))
  | none => none
theorem espec_l1Cur_net (spec_l1Cur_pick : ∀ {R : Type}, Nat → Int → (List Int) → Int → Int → (Int → (List Int) → Int → Int → Option R) → Option R) (spec_l1Cur_one : ∀ {R : Type}, Nat → Int → (List Int) → Int → Int → (Bool → (List Int) → Int → Int → Option R) → Option R) (spec_l1Cur_places : ∀ {R : Type}, Nat → Int → (List Int) → Int → Int → ((List Int) → (List Int) → Int → Int → Option R) → Option R) (spec_l1Cur_net_l5 : ∀ {R : Type}, Nat → Int → (List Int) → Int → Int → (List (List Int × List Int)) → Int → (List (List Int × List Int)) → Int → ((List Int) → Int → Int → (List (List Int × List Int)) → Int → (List (List Int × List Int)) → Int → Option R) → Option R) (spec_l1Cur_net_l18 : ∀ {R : Type}, Nat → Int → (List Int) → Int → Int → (List (List Int × List Int)) → Int → (List (List Int × List Int)) → Int → ((List Int) → Int → Int → (List (List Int × List Int)) → Int → (List (List Int × List Int)) → Int → Option R) → Option R) {R : Type} (n : Nat) (x0 : List Int) (x1 : Int) (x2 : Int) (k : Pk → Option R) : evF tt sig (mkK [(99, Kspec_l1Cur_pick @spec_l1Cur_pick n), (112, Kspec_l1Cur_one @spec_l1Cur_one n), (154, Kspec_l1Cur_places @spec_l1Cur_places n)] R) (mkL (mkK [(99, Kspec_l1Cur_pick @spec_l1Cur_pick n), (112, Kspec_l1Cur_one @spec_l1Cur_one n), (154, Kspec_l1Cur_places @spec_l1Cur_places n)]) [(5, Dspec_l1Cur_net_l5, Pspec_l1Cur_net_l5 @spec_l1Cur_net_l5 n), (18, Dspec_l1Cur_net_l18, Pspec_l1Cur_net_l18 @spec_l1Cur_net_l18 n)] R) Try.f113 Hspec_l1Cur_net (PkS.pack Sspec_l1Cur_net (x0, x1, x2, ())) k = (fun (k : Int → (List (List Int × List Int)) → (List Int) → Int → Int → Option R) => (spec_l1Cur_pick n 4 x0 x1 x2 fun r1 r2 r3 r4 => (bif (r1 == 0) then (spec_l1Cur_pick n 4 r2 r3 r4 fun r5 r6 r7 r8 => (spec_l1Cur_net_l5 n 1 r6 r7 r8 ([] : List (List Int × List Int)) 0 ([] : List (List Int × List Int)) (IntKind.wrap .i64 (2 + r5)) (fun r9 r10 r11 r12 r13 r14 r15 => (spec_l1Cur_one n 3 r9 r10 r11 fun r16 r17 r18 r19 => (bif r16 then (spec_l1Cur_pick n (IntKind.wrap .i64 (r15 - 1)) r17 r18 r19 fun r20 r21 r22 r23 => (spec_l1Cur_pick n (IntKind.wrap .i64 (r15 - 1)) r21 r22 r23 fun r24 r25 r26 r27 => (bif decide (r14.length + ([([r20], [r24])]).length ≤ LIM) then k r15 (r14 ++ [([r20], [r24])]) r25 r26 r27 else none))) else k r15 r14 r17 r18 r19))))) else (bif (r1 == 1) then (spec_l1Cur_one n 3 r2 r3 r4 fun r28 r29 r30 r31 => (bif r28 then (spec_l1Cur_pick n 2 r29 r30 r31 fun r32 r33 r34 r35 => (bif decide (3 < (([([0], [1, 2]), ([1], [3]), ([2], [4]), ([3, 4], [5])]).length : Int)) then k 6 (([([0], [1, 2]), ([1], [3]), ([2], [4]), ([3, 4], [5])]).set 3 ([(IntKind.wrap .i64 (3 + r32))], (([([0], [1, 2]), ([1], [3]), ([2], [4]), ([3, 4], [5])]).getD 3 ([], [])).2)) r33 r34 r35 else none)) else k 6 ([([0], [1, 2]), ([1], [3]), ([2], [4]), ([3, 4], [5])]) r29 r30 r31)) else (spec_l1Cur_pick n 5 r2 r3 r4 fun r36 r37 r38 r39 => (spec_l1Cur_pick n 5 r37 r38 r39 fun r40 r41 r42 r43 => (spec_l1Cur_net_l18 n r40 r41 r42 r43 ([] : List (List Int × List Int)) 0 ([] : List (List Int × List Int)) (IntKind.wrap .i64 (1 + r36)) (fun r52 r53 r54 r55 r56 r57 r58 => (spec_l1Cur_one n 30 r52 r53 r54 fun r59 r60 r61 r62 => (bif r59 then (bif (decide ((r57.length : Int) > 0)) then (bif decide (0 < (r57.length : Int)) then k r58 (r57.set 0 ([r58], (r57.getD 0 ([], [])).2)) r60 r61 r62 else none) else k r58 r57 r60 r61 r62) else k r58 r57 r60 r61 r62)))))))))) (fun r0 r1 r2 r3 r4 => k (PkS.pack Tspec_l1Cur_net (r0, r1, r2, r3, r4, ()))) := by kernel_rfl
theorem okspec_l1Cur_net (n : Nat) : FnOk Try.prog 113 (Kspec_l1Cur_net @spec_l1Cur_net n) := by
  refine fn_ok (sig := sig) mixed ttok (mkK_nat (cspec_l1Cur_net n)) (mkK_ok (cspec_l1Cur_net n)) (mkL_nat (mkK_nat (cspec_l1Cur_net n)) (l := [(5, Dspec_l1Cur_net_l5, Pspec_l1Cur_net_l5 @spec_l1Cur_net_l5 n), (18, Dspec_l1Cur_net_l18, Pspec_l1Cur_net_l18 @spec_l1Cur_net_l18 n)]) ⟨nlspec_l1Cur_net_l5 n, ⟨nlspec_l1Cur_net_l18 n, trivial⟩⟩) (fn := Try.f113) (c := bodyOf Try.f113) (by kernel_rfl) (by kernel_rfl) (by kernel_rfl) (.eq (l := [.lo (loopIn 5 (bodyOf Try.f113)), .lo (loopIn 18 (bodyOf Try.f113))]) (by kernel_rfl) ⟨(lkspec_l1Cur_net_l5 n _ _ (at_id (i := 5) (by kernel_rfl) rfl)), ⟨(lkspec_l1Cur_net_l18 n _ _ (at_id (i := 18) (by kernel_rfl) rfl)), trivial⟩⟩) (shs := Hspec_l1Cur_net) (S := Sspec_l1Cur_net) (h1 := by kernel_rfl) fun R p k => ?_
  unfold Kspec_l1Cur_net
  cases h : (PkS.un Sspec_l1Cur_net p) with
  | none => rfl
  | some d =>
    obtain ⟨x0, x1, x2, u⟩ := (d : (List Int) × Int × Int × Unit)
    have hp := PkS.un_pack h
    subst hp
    exact (espec_l1Cur_net @spec_l1Cur_pick @spec_l1Cur_one @spec_l1Cur_places @spec_l1Cur_net_l5 @spec_l1Cur_net_l18 n x0 x1 x2 k).symm

/-! ### (*loop.example/g00269/spec.l1Cur).weights -/
theorem cspec_l1Cur_weights (n : Nat) : AllOk Try.prog [(112, Kspec_l1Cur_one @spec_l1Cur_one n), (99, Kspec_l1Cur_pick @spec_l1Cur_pick n)] := ⟨okspec_l1Cur_one n, ⟨okspec_l1Cur_pick n, trivial⟩⟩
@[reducible] def Sspec_l1Cur_weights_l3 : PkS := ⟨[.one (.box (100000, 0) 0), .one (.int .i64), .one (.whole (100000, 1)), .one (.bool), .one (.box (100000, 0) 0), .one (.dead)], [((100000, 0), .box [.ro (.int .u8), .int .i64, .int .u64]), ((100000, 1), .arr (.int .i64))]⟩
@[reducible] def Tspec_l1Cur_weights_l3_0 : PkS := ⟨[.one (.whole (100000, 0)), .one (.box (100000, 1) 0), .one (.dead)], [((100000, 0), .arr (.int .i64)), ((100000, 1), .box [.ro (.int .u8), .int .i64, .int .u64])]⟩
def Dspec_l1Cur_weights_l3 : LoopD := ⟨24, [0, 1, 5, 6], [.box [(.ro (.int .u8)), .any, .any], .one .any, .one (.own (.int .i64)), .one .any, .box [(.ro (.int .u8)), .any, .any], .skip], fun x => match x with
  | .exit 0 => some ([5], [.one (.own (.int .i64)), .box [(.ro (.int .u8)), .any, .any], .skip])
  | _ => none⟩
def Pspec_l1Cur_weights_l3 (g : ∀ {R : Type}, Nat → Int → Bool → (List Int) → Int → Int → (List Int) → ((List Int) → (List Int) → Int → Int → Option R) → Option R) (n : Nat) : LPs := fun R q kk => match (PkS.un Sspec_l1Cur_weights_l3 q : Option (Int × Bool × (List Int) × Int × Int × (List Int) × Unit)) with
  | some (y3_0, y3_1, y3_2, y3_3, y3_4, y3_5, _) => g n y3_0 y3_1 y3_2 y3_3 y3_4 y3_5 (fun r0 r1 r2 r3 => kk (.exit 0) (PkS.pack Tspec_l1Cur_weights_l3_0 (r0, r1, r2, r3, ())))
  | none => none
theorem espec_l1Cur_weights_l3 (spec_l1Cur_one : ∀ {R : Type}, Nat → Int → (List Int) → Int → Int → (Bool → (List Int) → Int → Int → Option R) → Option R) (spec_l1Cur_pick : ∀ {R : Type}, Nat → Int → (List Int) → Int → Int → (Int → (List Int) → Int → Int → Option R) → Option R) (spec_l1Cur_weights_l3 : ∀ {R : Type}, Nat → Int → Bool → (List Int) → Int → Int → (List Int) → ((List Int) → (List Int) → Int → Int → Option R) → Option R) {R : Type} (n : Nat) (y3_0 : Int) (y3_1 : Bool) (y3_2 : List Int) (y3_3 : Int) (y3_4 : Int) (y3_5 : List Int) (kk : Ex → Pk → Option R) : Dspec_l1Cur_weights_l3.step tt sig (mkK [(112, Kspec_l1Cur_one @spec_l1Cur_one n), (99, Kspec_l1Cur_pick @spec_l1Cur_pick n)] R) (mkL (mkK [(112, Kspec_l1Cur_one @spec_l1Cur_one n), (99, Kspec_l1Cur_pick @spec_l1Cur_pick n)]) [] R) (loopIn 3 (bodyOf Try.f114)) (fun q' => Pspec_l1Cur_weights_l3 @spec_l1Cur_weights_l3 n R q' kk) (PkS.pack Sspec_l1Cur_weights_l3 (y3_0, y3_1, y3_2, y3_3, y3_4, y3_5, ())) kk = (fun (kexit0 : (List Int) → (List Int) → Int → Int → Option R) => (bif (decide (y3_0 > 0)) then (bif y3_1 then (bif decide (y3_5.length + [1].length ≤ LIM) then spec_l1Cur_weights_l3 n (IntKind.wrap .i64 (y3_0 - 1)) y3_1 y3_2 y3_3 y3_4 (y3_5 ++ [1]) kexit0 else none) else (spec_l1Cur_pick n 5 y3_2 y3_3 y3_4 fun r5 r6 r7 r8 => (bif decide (y3_5.length + ([(IntKind.wrap .i64 (r5 - 2))]).length ≤ LIM) then spec_l1Cur_weights_l3 n (IntKind.wrap .i64 (y3_0 - 1)) y3_1 r6 r7 r8 (y3_5 ++ [(IntKind.wrap .i64 (r5 - 2))]) kexit0 else none))) else kexit0 y3_5 y3_2 y3_3 y3_4)) (fun r0 r1 r2 r3 => kk (.exit 0) (PkS.pack Tspec_l1Cur_weights_l3_0 (r0, r1, r2, r3, ()))) := by kernel_rfl
theorem lespec_l1Cur_weights_l3 : LoopEq tt sig (fun n => mkK [(112, Kspec_l1Cur_one @spec_l1Cur_one n), (99, Kspec_l1Cur_pick @spec_l1Cur_pick n)]) (fun n => mkL (mkK [(112, Kspec_l1Cur_one @spec_l1Cur_one n), (99, Kspec_l1Cur_pick @spec_l1Cur_pick n)]) []) Dspec_l1Cur_weights_l3 Sspec_l1Cur_weights_l3 (loopIn 3 (bodyOf Try.f114)) (Pspec_l1Cur_weights_l3 @spec_l1Cur_weights_l3) where
  zero R q kk := by unfold Pspec_l1Cur_weights_l3; cases (PkS.un Sspec_l1Cur_weights_l3 q) <;> rfl
  succ n R q kk := by
    unfold Pspec_l1Cur_weights_l3
    cases h : (PkS.un Sspec_l1Cur_weights_l3 q) with
    | none => rfl
    | some d =>
      obtain ⟨y3_0, y3_1, y3_2, y3_3, y3_4, y3_5, u⟩ := (d : Int × Bool × (List Int) × Int × Int × (List Int) × Unit)
      have hp := PkS.un_pack h
      subst hp
      exact (espec_l1Cur_weights_l3 @spec_l1Cur_one @spec_l1Cur_pick @spec_l1Cur_weights_l3 n y3_0 y3_1 y3_2 y3_3 y3_4 y3_5 kk).symm
theorem nlspec_l1Cur_weights_l3 : ∀ n, NatLP (Pspec_l1Cur_weights_l3 @spec_l1Cur_weights_l3 n) := lespec_l1Cur_weights_l3.nat (fun n => mkK_nat (cspec_l1Cur_weights n)) fun n => mkL_nat (mkK_nat (cspec_l1Cur_weights n)) (l := []) trivial
theorem inspec_l1Cur_weights_l3 (n : Nat) (R : Type) : LoopsOk Try.prog (mkL (mkK [(112, Kspec_l1Cur_one @spec_l1Cur_one n), (99, Kspec_l1Cur_pick @spec_l1Cur_pick n)]) [] R) (loopIn 3 (bodyOf Try.f114)) := .eq (l := []) (by kernel_rfl) trivial
theorem lkspec_l1Cur_weights_l3 (n : Nat) (R : Type) (L0 : LK R) (h0 : ∀ id, firstRegion (loopIn 3 (bodyOf Try.f114)) = some id → L0 id = Dspec_l1Cur_weights_l3.oracle (mkK [(112, Kspec_l1Cur_one @spec_l1Cur_one n), (99, Kspec_l1Cur_pick @spec_l1Cur_pick n)] R) (Pspec_l1Cur_weights_l3 @spec_l1Cur_weights_l3 n R)) : LoopOk Try.prog L0 (loopIn 3 (bodyOf Try.f114)) :=
  lespec_l1Cur_weights_l3.ok mixed ttok (fun n => mkK_nat (cspec_l1Cur_weights n)) (fun n => mkK_ok (cspec_l1Cur_weights n)) (fun n => inspec_l1Cur_weights_l3 n R) (mkK_nat (cspec_l1Cur_weights n)) h0
@[reducible] def Sspec_l1Cur_weights : PkS := ⟨[.one (.box (200000, 0) 0), .one (.int .i64)], [((200000, 0), .box [.ro (.int .u8), .int .i64, .int .u64])]⟩
@[reducible] def Tspec_l1Cur_weights : PkS := ⟨[.one (.whole (300000, 0)), .one (.box (300000, 1) 0), .one (.dead)], [((300000, 0), .arr (.int .i64)), ((300000, 1), .box [.ro (.int .u8), .int .i64, .int .u64])]⟩
def Hspec_l1Cur_weights : List Sh := [.one (.own (.int .i64)), .box [(.ro (.int .u8)), .any, .any], .skip]
def Kspec_l1Cur_weights (g : ∀ {R : Type}, Nat → Int → (List Int) → Int → Int → ((List Int) → (List Int) → Int → Int → Option R) → Option R) (n : Nat) : KPs := fun R p k => match (PkS.un Sspec_l1Cur_weights p : Option (Int × (List Int) × Int × Int × Unit)) with
  | some (x0, x1, x2, x3, _) => g n x0 x1 x2 x3 (fun r0 r1 r2 r3 => k (PkS.pack Tspec_l1Cur_weights (r0, r1, r2, r3, ())))
  | none => none
theorem espec_l1Cur_weights (spec_l1Cur_one : ∀ {R : Type}, Nat → Int → (List Int) → Int → Int → (Bool → (List Int) → Int → Int → Option R) → Option R) (spec_l1Cur_pick : ∀ {R : Type}, Nat → Int → (List Int) → Int → Int → (Int → (List Int) → Int → Int → Option R) → Option R) (spec_l1Cur_weights_l3 : ∀ {R : Type}, Nat → Int → Bool → (List Int) → Int → Int → (List Int) → ((List Int) → (List Int) → Int → Int → Option R) → Option R) {R : Type} (n : Nat) (x0 : Int) (x1 : List Int) (x2 : Int) (x3 : Int) (k : Pk → Option R) : evF tt sig (mkK [(112, Kspec_l1Cur_one @spec_l1Cur_one n), (99, Kspec_l1Cur_pick @spec_l1Cur_pick n)] R) (mkL (mkK [(112, Kspec_l1Cur_one @spec_l1Cur_one n), (99, Kspec_l1Cur_pick @spec_l1Cur_pick n)]) [(3, Dspec_l1Cur_weights_l3, Pspec_l1Cur_weights_l3 @spec_l1Cur_weights_l3 n)] R) Try.f114 Hspec_l1Cur_weights (PkS.pack Sspec_l1Cur_weights (x0, x1, x2, x3, ())) k = (fun (k : (List Int) → (List Int) → Int → Int → Option R) => (spec_l1Cur_one n 3 x1 x2 x3 fun r1 r2 r3 r4 => (spec_l1Cur_weights_l3 n x0 r1 r2 r3 r4 ([] : List Int) (fun r9 r10 r11 r12 => k r9 r10 r11 r12)))) (fun r0 r1 r2 r3 => k (PkS.pack Tspec_l1Cur_weights (r0, r1, r2, r3, ()))) := by kernel_rfl
theorem okspec_l1Cur_weights (n : Nat) : FnOk Try.prog 114 (Kspec_l1Cur_weights @spec_l1Cur_weights n) := by
  refine fn_ok (sig := sig) mixed ttok (mkK_nat (cspec_l1Cur_weights n)) (mkK_ok (cspec_l1Cur_weights n)) (mkL_nat (mkK_nat (cspec_l1Cur_weights n)) (l := [(3, Dspec_l1Cur_weights_l3, Pspec_l1Cur_weights_l3 @spec_l1Cur_weights_l3 n)]) ⟨nlspec_l1Cur_weights_l3 n, trivial⟩) (fn := Try.f114) (c := bodyOf Try.f114) (by kernel_rfl) (by kernel_rfl) (by kernel_rfl) (.eq (l := [.lo (loopIn 3 (bodyOf Try.f114))]) (by kernel_rfl) ⟨(lkspec_l1Cur_weights_l3 n _ _ (at_id (i := 3) (by kernel_rfl) rfl)), trivial⟩) (shs := Hspec_l1Cur_weights) (S := Sspec_l1Cur_weights) (h1 := by kernel_rfl) fun R p k => ?_
  unfold Kspec_l1Cur_weights
  cases h : (PkS.un Sspec_l1Cur_weights p) with
  | none => rfl
  | some d =>
    obtain ⟨x0, x1, x2, x3, u⟩ := (d : Int × (List Int) × Int × Int × Unit)
    have hp := PkS.un_pack h
    subst hp
    exact (espec_l1Cur_weights @spec_l1Cur_one @spec_l1Cur_pick @spec_l1Cur_weights_l3 n x0 x1 x2 x3 k).symm

/-! ### loop.example/g00269/spec.DrawIsInvariant -/
theorem cspec_DrawIsInvariant (n : Nat) : AllOk Try.prog [(113, Kspec_l1Cur_net @spec_l1Cur_net n), (112, Kspec_l1Cur_one @spec_l1Cur_one n), (114, Kspec_l1Cur_weights @spec_l1Cur_weights n)] := ⟨okspec_l1Cur_net n, ⟨okspec_l1Cur_one n, ⟨okspec_l1Cur_weights n, trivial⟩⟩⟩
@[reducible] def Sspec_DrawIsInvariant : PkS := ⟨[.one (.ro (.int .u8))], []⟩
@[reducible] def Tspec_DrawIsInvariant : PkS := ⟨[.tup [(true, [.int .i64, .whole (300000, 0)]), (false, [.whole (300000, 1)])], .one (.dead)], [((300000, 0), .arr (.pr (.sl (.int .i64)) (.sl (.int .i64)))), ((300000, 1), .arr (.int .i64))]⟩
def Hspec_DrawIsInvariant : List Sh := [.tup [(true, [.any, (.own (.pr (.sl (.int .i64)) (.sl (.int .i64))))]), (false, [(.own (.int .i64))])], .skip]
def Kspec_DrawIsInvariant (g : ∀ {R : Type}, Nat → (List Int) → (Int → (List (List Int × List Int)) → (List Int) → Option R) → Option R) (n : Nat) : KPs := fun R p k => match (PkS.un Sspec_DrawIsInvariant p : Option ((List Int) × Unit)) with
  | some (x0, _) => g n x0 (fun r0 r1 r2 => k (PkS.pack Tspec_DrawIsInvariant (r0, r1, r2, ())))
  | none => none
theorem espec_DrawIsInvariant (spec_l1Cur_net : ∀ {R : Type}, Nat → (List Int) → Int → Int → (Int → (List (List Int × List Int)) → (List Int) → Int → Int → Option R) → Option R) (spec_l1Cur_one : ∀ {R : Type}, Nat → Int → (List Int) → Int → Int → (Bool → (List Int) → Int → Int → Option R) → Option R) (spec_l1Cur_weights : ∀ {R : Type}, Nat → Int → (List Int) → Int → Int → ((List Int) → (List Int) → Int → Int → Option R) → Option R) {R : Type} (n : Nat) (x0 : List Int) (k : Pk → Option R) : evF tt sig (mkK [(113, Kspec_l1Cur_net @spec_l1Cur_net n), (112, Kspec_l1Cur_one @spec_l1Cur_one n), (114, Kspec_l1Cur_weights @spec_l1Cur_weights n)] R) (mkL (mkK [(113, Kspec_l1Cur_net @spec_l1Cur_net n), (112, Kspec_l1Cur_one @spec_l1Cur_one n), (114, Kspec_l1Cur_weights @spec_l1Cur_weights n)]) [] R) Try.f56 Hspec_DrawIsInvariant (PkS.pack Sspec_DrawIsInvariant (x0, ())) k = (fun (k : Int → (List (List Int × List Int)) → (List Int) → Option R) => (spec_l1Cur_net n x0 0 0 fun r1 r2 r3 r4 r5 => (bif (r1 == 6) then (spec_l1Cur_one n 2 r3 r4 r5 fun r6 r7 r8 r9 => (bif r6 then k r1 r2 ([2, 1, 1, 1, 1, 2]) else (spec_l1Cur_weights n r1 r7 r8 r9 fun r10 r11 r12 r13 => k r1 r2 r10))) else (spec_l1Cur_weights n r1 r3 r4 r5 fun r14 r15 r16 r17 => k r1 r2 r14)))) (fun r0 r1 r2 => k (PkS.pack Tspec_DrawIsInvariant (r0, r1, r2, ()))) := by kernel_rfl
theorem okspec_DrawIsInvariant (n : Nat) : FnOk Try.prog 56 (Kspec_DrawIsInvariant @spec_DrawIsInvariant n) := by
  refine fn_ok (sig := sig) mixed ttok (mkK_nat (cspec_DrawIsInvariant n)) (mkK_ok (cspec_DrawIsInvariant n)) (mkL_nat (mkK_nat (cspec_DrawIsInvariant n)) (l := []) trivial) (fn := Try.f56) (c := bodyOf Try.f56) (by kernel_rfl) (by kernel_rfl) (by kernel_rfl) (.eq (l := []) (by kernel_rfl) trivial) (shs := Hspec_DrawIsInvariant) (S := Sspec_DrawIsInvariant) (h1 := by kernel_rfl) fun R p k => ?_
  unfold Kspec_DrawIsInvariant
  cases h : (PkS.un Sspec_DrawIsInvariant p) with
  | none => rfl
  | some d =>
    obtain ⟨x0, u⟩ := (d : (List Int) × Unit)
    have hp := PkS.un_pack h
    subst hp
    exact (espec_DrawIsInvariant @spec_l1Cur_net @spec_l1Cur_one @spec_l1Cur_weights n x0 k).symm

/-! ### loop.example/g00269/impl.in -/
theorem cimpl_in (n : Nat) : AllOk Try.prog [] := trivial
@[reducible] def Simpl_in : PkS := ⟨[.one (.int .i64), .one (.int .i64), .one (.int .i64)], []⟩
@[reducible] def Timpl_in : PkS := ⟨[.one (.bool), .one (.dead), .one (.dead), .one (.dead)], []⟩
def Himpl_in : List Sh := [.one .any, .skip, .skip, .skip]
def Kimpl_in (g : ∀ {R : Type}, Nat → Int → Int → Int → (Bool → Option R) → Option R) (n : Nat) : KPs := fun R p k => match (PkS.un Simpl_in p : Option (Int × Int × Int × Unit)) with
  | some (x0, x1, x2, _) => g n x0 x1 x2 (fun r0 => k (PkS.pack Timpl_in (r0, ())))
  | none => none
theorem eimpl_in  {R : Type} (n : Nat) (x0 : Int) (x1 : Int) (x2 : Int) (k : Pk → Option R) : evF tt sig (mkK [] R) (mkL (mkK []) [] R) Try.f80 Himpl_in (PkS.pack Simpl_in (x0, x1, x2, ())) k = (fun (k : Bool → Option R) => (bif (decide (x0 ≥ x1)) then k (decide (x0 ≤ x2)) else k false)) (fun r0 => k (PkS.pack Timpl_in (r0, ()))) := by kernel_rfl
theorem okimpl_in (n : Nat) : FnOk Try.prog 80 (Kimpl_in @impl_in n) := by
  refine fn_ok (sig := sig) mixed ttok (mkK_nat (cimpl_in n)) (mkK_ok (cimpl_in n)) (mkL_nat (mkK_nat (cimpl_in n)) (l := []) trivial) (fn := Try.f80) (c := bodyOf Try.f80) (by kernel_rfl) (by kernel_rfl) (by kernel_rfl) (.eq (l := []) (by kernel_rfl) trivial) (shs := Himpl_in) (S := Simpl_in) (h1 := by kernel_rfl) fun R p k => ?_
  unfold Kimpl_in
  cases h : (PkS.un Simpl_in p) with
  | none => rfl
  | some d =>
    obtain ⟨x0, x1, x2, u⟩ := (d : Int × Int × Int × Unit)
    have hp := PkS.un_pack h
    subst hp
    exact (eimpl_in  n x0 x1 x2 k).symm

/-! ### loop.example/g00269/impl.rising -/
theorem cimpl_rising (n : Nat) : AllOk Try.prog [(80, Kimpl_in @impl_in n)] := ⟨okimpl_in n, trivial⟩
@[reducible] def Simpl_rising_l2 : PkS := ⟨[.one (.ro (.int .i64)), .one (.int .i64), .one (.ro (.int .i64)), .one (.int .i64), .one (.int .i64), .one (.dead), .one (.dead)], []⟩
@[reducible] def Timpl_rising_l2_0 : PkS := ⟨[.one (.bool), .one (.dead), .one (.dead)], []⟩
@[reducible] def Timpl_rising_l2_1 : PkS := ⟨[.one (.dead), .one (.dead)], []⟩
def Dimpl_rising_l2 : LoopD := ⟨33, [0, 1, 7, 8, 9], [.one (.ro (.int .i64)), .one .any, .one (.ro (.int .i64)), .one .any, .one .any, .skip, .skip], fun x => match x with
  | .ret => some ([4], [.one .any, .skip, .skip])
  | .exit 0 => some ([], [.skip, .skip])
  | _ => none⟩
def Pimpl_rising_l2 (g : ∀ {R : Type}, Nat → (List Int) → Int → (List Int) → Int → Int → (Bool → Option R) → (Option R) → Option R) (n : Nat) : LPs := fun R q kk => match (PkS.un Simpl_rising_l2 q : Option ((List Int) × Int × (List Int) × Int × Int × Unit)) with
  | some (y2_0, y2_1, y2_2, y2_3, y2_4, _) => g n y2_0 y2_1 y2_2 y2_3 y2_4 (fun r0 => kk .ret (PkS.pack Timpl_rising_l2_0 (r0, ()))) (kk (.exit 0) (PkS.pack Timpl_rising_l2_1 ()))
  | none => none
theorem eimpl_rising_l2 (impl_in : ∀ {R : Type}, Nat → Int → Int → Int → (Bool → Option R) → Option R) (impl_rising_l2 : ∀ {R : Type}, Nat → (List Int) → Int → (List Int) → Int → Int → (Bool → Option R) → (Option R) → Option R) {R : Type} (n : Nat) (y2_0 : List Int) (y2_1 : Int) (y2_2 : List Int) (y2_3 : Int) (y2_4 : Int) (kk : Ex → Pk → Option R) : Dimpl_rising_l2.step tt sig (mkK [(80, Kimpl_in @impl_in n)] R) (mkL (mkK [(80, Kimpl_in @impl_in n)]) [] R) (loopIn 2 (bodyOf Try.f106)) (fun q' => Pimpl_rising_l2 @impl_rising_l2 n R q' kk) (PkS.pack Simpl_rising_l2 (y2_0, y2_1, y2_2, y2_3, y2_4, ())) kk = (fun (kret : Bool → Option R) (kexit0 : Option R) => (bif (decide (y2_4 < y2_3)) then (bif decide (0 ≤ y2_4) then (bif decide (y2_4 < (y2_2.length : Int)) then (impl_in n (y2_2.getD (Int.toNat y2_4) 0) 0 (IntKind.wrap .i64 (y2_1 - 1)) fun r1 => (bif (!r1) then kret false else (bif (decide (y2_4 > 0)) then (bif decide (0 ≤ (IntKind.wrap .i64 (y2_4 - 1))) then (bif decide ((IntKind.wrap .i64 (y2_4 - 1)) < (y2_0.length : Int)) then (bif (decide ((y2_0.getD (Int.toNat (IntKind.wrap .i64 (y2_4 - 1))) 0) ≥ (y2_2.getD (Int.toNat y2_4) 0))) then kret false else impl_rising_l2 n y2_0 y2_1 y2_2 y2_3 (IntKind.wrap .i64 (y2_4 + 1)) kret kexit0) else none) else none) else impl_rising_l2 n y2_0 y2_1 y2_2 y2_3 (IntKind.wrap .i64 (y2_4 + 1)) kret kexit0))) else none) else none) else kexit0)) (fun r0 => kk .ret (PkS.pack Timpl_rising_l2_0 (r0, ()))) (kk (.exit 0) (PkS.pack Timpl_rising_l2_1 ())) := by kernel_rfl
theorem leimpl_rising_l2 : LoopEq tt sig (fun n => mkK [(80, Kimpl_in @impl_in n)]) (fun n => mkL (mkK [(80, Kimpl_in @impl_in n)]) []) Dimpl_rising_l2 Simpl_rising_l2 (loopIn 2 (bodyOf Try.f106)) (Pimpl_rising_l2 @impl_rising_l2) where
  zero R q kk := by unfold Pimpl_rising_l2; cases (PkS.un Simpl_rising_l2 q) <;> rfl
  succ n R q kk := by
    unfold Pimpl_rising_l2
    cases h : (PkS.un Simpl_rising_l2 q) with
    | none => rfl
    | some d =>
      obtain ⟨y2_0, y2_1, y2_2, y2_3, y2_4, u⟩ := (d : (List Int) × Int × (List Int) × Int × Int × Unit)
      have hp := PkS.un_pack h
      subst hp
      exact (eimpl_rising_l2 @impl_in @impl_rising_l2 n y2_0 y2_1 y2_2 y2_3 y2_4 kk).symm
theorem nlimpl_rising_l2 : ∀ n, NatLP (Pimpl_rising_l2 @impl_rising_l2 n) := leimpl_rising_l2.nat (fun n => mkK_nat (cimpl_rising n)) fun n => mkL_nat (mkK_nat (cimpl_rising n)) (l := []) trivial
theorem inimpl_rising_l2 (n : Nat) (R : Type) : LoopsOk Try.prog (mkL (mkK [(80, Kimpl_in @impl_in n)]) [] R) (loopIn 2 (bodyOf Try.f106)) := .eq (l := []) (by kernel_rfl) trivial
theorem lkimpl_rising_l2 (n : Nat) (R : Type) (L0 : LK R) (h0 : ∀ id, firstRegion (loopIn 2 (bodyOf Try.f106)) = some id → L0 id = Dimpl_rising_l2.oracle (mkK [(80, Kimpl_in @impl_in n)] R) (Pimpl_rising_l2 @impl_rising_l2 n R)) : LoopOk Try.prog L0 (loopIn 2 (bodyOf Try.f106)) :=
  leimpl_rising_l2.ok mixed ttok (fun n => mkK_nat (cimpl_rising n)) (fun n => mkK_ok (cimpl_rising n)) (fun n => inimpl_rising_l2 n R) (mkK_nat (cimpl_rising n)) h0
@[reducible] def Simpl_rising : PkS := ⟨[.one (.ro (.int .i64)), .one (.int .i64)], []⟩
@[reducible] def Timpl_rising : PkS := ⟨[.one (.bool), .one (.dead), .one (.dead)], []⟩
def Himpl_rising : List Sh := [.one .any, .skip, .skip]
def Kimpl_rising (g : ∀ {R : Type}, Nat → (List Int) → Int → (Bool → Option R) → Option R) (n : Nat) : KPs := fun R p k => match (PkS.un Simpl_rising p : Option ((List Int) × Int × Unit)) with
  | some (x0, x1, _) => g n x0 x1 (fun r0 => k (PkS.pack Timpl_rising (r0, ())))
  | none => none
theorem eimpl_rising (impl_in : ∀ {R : Type}, Nat → Int → Int → Int → (Bool → Option R) → Option R) (impl_rising_l2 : ∀ {R : Type}, Nat → (List Int) → Int → (List Int) → Int → Int → (Bool → Option R) → (Option R) → Option R) {R : Type} (n : Nat) (x0 : List Int) (x1 : Int) (k : Pk → Option R) : evF tt sig (mkK [(80, Kimpl_in @impl_in n)] R) (mkL (mkK [(80, Kimpl_in @impl_in n)]) [(2, Dimpl_rising_l2, Pimpl_rising_l2 @impl_rising_l2 n)] R) Try.f106 Himpl_rising (PkS.pack Simpl_rising (x0, x1, ())) k = (fun (k : Bool → Option R) => (impl_rising_l2 n x0 x1 x0 (x0.length : Int) 0 (fun r2 => k r2) (k true))) (fun r0 => k (PkS.pack Timpl_rising (r0, ()))) := by kernel_rfl
theorem okimpl_rising (n : Nat) : FnOk Try.prog 106 (Kimpl_rising @impl_rising n) := by
  refine fn_ok (sig := sig) mixed ttok (mkK_nat (cimpl_rising n)) (mkK_ok (cimpl_rising n)) (mkL_nat (mkK_nat (cimpl_rising n)) (l := [(2, Dimpl_rising_l2, Pimpl_rising_l2 @impl_rising_l2 n)]) ⟨nlimpl_rising_l2 n, trivial⟩) (fn := Try.f106) (c := bodyOf Try.f106) (by kernel_rfl) (by kernel_rfl) (by kernel_rfl) (.eq (l := [.lo (loopIn 2 (bodyOf Try.f106))]) (by kernel_rfl) ⟨(lkimpl_rising_l2 n _ _ (at_id (i := 2) (by kernel_rfl) rfl)), trivial⟩) (shs := Himpl_rising) (S := Simpl_rising) (h1 := by kernel_rfl) fun R p k => ?_
  unfold Kimpl_rising
  cases h : (PkS.un Simpl_rising p) with
  | none => rfl
  | some d =>
    obtain ⟨x0, x1, u⟩ := (d : (List Int) × Int × Unit)
    have hp := PkS.un_pack h
    subst hp
    exact (eimpl_rising @impl_in @impl_rising_l2 n x0 x1 k).symm

/-! ### loop.example/g00269/impl.GoodNet$1 -/
theorem cimpl_GoodNet_c1 (n : Nat) : AllOk Try.prog [(106, Kimpl_rising @impl_rising n)] := ⟨okimpl_rising n, trivial⟩
@[reducible] def Simpl_GoodNet_c1 : PkS := ⟨[.agg [.ro (.int .i64), .ro (.int .i64)], .one (.box (200000, 0) 0)], [((200000, 0), .box [.int .i64, .ro (.pr (.sl (.int .i64)) (.sl (.int .i64)))])]⟩
@[reducible] def Timpl_GoodNet_c1 : PkS := ⟨[.one (.bool), .one (.dead), .one (.box (300000, 0) 0)], [((300000, 0), .box [.int .i64, .ro (.pr (.sl (.int .i64)) (.sl (.int .i64)))])]⟩
def Himpl_GoodNet_c1 : List Sh := [.one .any, .skip, .box [.any, (.ro (.pr (.sl (.int .i64)) (.sl (.int .i64))))]]
def Kimpl_GoodNet_c1 (g : ∀ {R : Type}, Nat → (List Int) → (List Int) → Int → (List (List Int × List Int)) → (Bool → Int → (List (List Int × List Int)) → Option R) → Option R) (n : Nat) : KPs := fun R p k => match (PkS.un Simpl_GoodNet_c1 p : Option ((List Int) × (List Int) × Int × (List (List Int × List Int)) × Unit)) with
  | some (x0, x1, x2, x3, _) => g n x0 x1 x2 x3 (fun r0 r1 r2 => k (PkS.pack Timpl_GoodNet_c1 (r0, r1, r2, ())))
  | none => none
theorem eimpl_GoodNet_c1 (impl_rising : ∀ {R : Type}, Nat → (List Int) → Int → (Bool → Option R) → Option R) {R : Type} (n : Nat) (x0 : List Int) (x1 : List Int) (x2 : Int) (x3 : List (List Int × List Int)) (k : Pk → Option R) : evF tt sig (mkK [(106, Kimpl_rising @impl_rising n)] R) (mkL (mkK [(106, Kimpl_rising @impl_rising n)]) [] R) Try.f118 Himpl_GoodNet_c1 (PkS.pack Simpl_GoodNet_c1 (x0, x1, x2, x3, ())) k = (fun (k : Bool → Int → (List (List Int × List Int)) → Option R) => (impl_rising n x0 x2 fun r1 => (bif (!r1) then k true x2 x3 else (impl_rising n x1 x2 fun r2 => k (!r2) x2 x3)))) (fun r0 r1 r2 => k (PkS.pack Timpl_GoodNet_c1 (r0, r1, r2, ()))) := by kernel_rfl
theorem okimpl_GoodNet_c1 (n : Nat) : FnOk Try.prog 118 (Kimpl_GoodNet_c1 @impl_GoodNet_c1 n) := by
  refine fn_ok (sig := sig) mixed ttok (mkK_nat (cimpl_GoodNet_c1 n)) (mkK_ok (cimpl_GoodNet_c1 n)) (mkL_nat (mkK_nat (cimpl_GoodNet_c1 n)) (l := []) trivial) (fn := Try.f118) (c := bodyOf Try.f118) (by kernel_rfl) (by kernel_rfl) (by kernel_rfl) (.eq (l := []) (by kernel_rfl) trivial) (shs := Himpl_GoodNet_c1) (S := Simpl_GoodNet_c1) (h1 := by kernel_rfl) fun R p k => ?_
  unfold Kimpl_GoodNet_c1
  cases h : (PkS.un Simpl_GoodNet_c1 p) with
  | none => rfl
  | some d =>
    obtain ⟨x0, x1, x2, x3, u⟩ := (d : (List Int) × (List Int) × Int × (List (List Int × List Int)) × Unit)
    have hp := PkS.un_pack h
    subst hp
    exact (eimpl_GoodNet_c1 @impl_rising n x0 x1 x2 x3 k).symm

/-! ### slices.IndexFunc[[]loop.example/g00269/impl.Step,loop.example/g00269/impl.Step] -/
theorem cslices_IndexFunc_impl_Step_impl_GoodNet_c1 (n : Nat) : AllOk Try.prog [(118, Kimpl_GoodNet_c1 @impl_GoodNet_c1 n)] := ⟨okimpl_GoodNet_c1 n, trivial⟩
@[reducible] def Sslices_IndexFunc_impl_Step_impl_GoodNet_c1_l2 : PkS := ⟨[.one (.ro (.pr (.sl (.int .i64)) (.sl (.int .i64)))), .one (.fn 118 [((100000, 0), 0)]), .one (.int .i64), .one (.int .i64), .one (.dead), .one (.fn 118 [((100000, 0), 0)])], [((100000, 0), .box [.int .i64, .ro (.pr (.sl (.int .i64)) (.sl (.int .i64)))])]⟩
@[reducible] def Tslices_IndexFunc_impl_Step_impl_GoodNet_c1_l2_0 : PkS := ⟨[.one (.int .i64), .one (.dead), .one (.fn 118 [((100000, 0), 0)])], [((100000, 0), .box [.int .i64, .ro (.pr (.sl (.int .i64)) (.sl (.int .i64)))])]⟩
@[reducible] def Tslices_IndexFunc_impl_Step_impl_GoodNet_c1_l2_1 : PkS := ⟨[.one (.dead), .one (.fn 118 [((100000, 0), 0)])], [((100000, 0), .box [.int .i64, .ro (.pr (.sl (.int .i64)) (.sl (.int .i64)))])]⟩
def Dslices_IndexFunc_impl_Step_impl_GoodNet_c1_l2 : LoopD := ⟨19, [0, 1, 7, 8], [.one (.ro (.pr (.sl (.int .i64)) (.sl (.int .i64)))), .fn 118 [[.any, (.ro (.pr (.sl (.int .i64)) (.sl (.int .i64))))]], .one .any, .one .any, .skip, .fn 118 [[.any, (.ro (.pr (.sl (.int .i64)) (.sl (.int .i64))))]]], fun x => match x with
  | .ret => some ([4], [.one .any, .skip, .fn 118 [[.any, (.ro (.pr (.sl (.int .i64)) (.sl (.int .i64))))]]])
  | .exit 0 => some ([], [.skip, .fn 118 [[.any, (.ro (.pr (.sl (.int .i64)) (.sl (.int .i64))))]]])
  | _ => none⟩
def Pslices_IndexFunc_impl_Step_impl_GoodNet_c1_l2 (g : ∀ {R : Type}, Nat → (List (List Int × List Int)) → Int → Int → Int → (List (List Int × List Int)) → (Int → Int → (List (List Int × List Int)) → Option R) → (Int → (List (List Int × List Int)) → Option R) → Option R) (n : Nat) : LPs := fun R q kk => match (PkS.un Sslices_IndexFunc_impl_Step_impl_GoodNet_c1_l2 q : Option ((List (List Int × List Int)) × Int × Int × Int × (List (List Int × List Int)) × Unit)) with
  | some (y2_0, y2_1, y2_2, y2_3, y2_4, _) => g n y2_0 y2_1 y2_2 y2_3 y2_4 (fun r0 r1 r2 => kk .ret (PkS.pack Tslices_IndexFunc_impl_Step_impl_GoodNet_c1_l2_0 (r0, r1, r2, ()))) (fun r0 r1 => kk (.exit 0) (PkS.pack Tslices_IndexFunc_impl_Step_impl_GoodNet_c1_l2_1 (r0, r1, ())))
  | none => none
theorem eslices_IndexFunc_impl_Step_impl_GoodNet_c1_l2 (impl_GoodNet_c1 : ∀ {R : Type}, Nat → (List Int) → (List Int) → Int → (List (List Int × List Int)) → (Bool → Int → (List (List Int × List Int)) → Option R) → Option R) (slices_IndexFunc_impl_Step_impl_GoodNet_c1_l2 : ∀ {R : Type}, Nat → (List (List Int × List Int)) → Int → Int → Int → (List (List Int × List Int)) → (Int → Int → (List (List Int × List Int)) → Option R) → (Int → (List (List Int × List Int)) → Option R) → Option R) {R : Type} (n : Nat) (y2_0 : List (List Int × List Int)) (y2_1 : Int) (y2_2 : Int) (y2_3 : Int) (y2_4 : List (List Int × List Int)) (kk : Ex → Pk → Option R) : Dslices_IndexFunc_impl_Step_impl_GoodNet_c1_l2.step tt sig (mkK [(118, Kimpl_GoodNet_c1 @impl_GoodNet_c1 n)] R) (mkL (mkK [(118, Kimpl_GoodNet_c1 @impl_GoodNet_c1 n)]) [] R) (loopIn 2 (bodyOf Try.f156)) (fun q' => Pslices_IndexFunc_impl_Step_impl_GoodNet_c1_l2 @slices_IndexFunc_impl_Step_impl_GoodNet_c1_l2 n R q' kk) (PkS.pack Sslices_IndexFunc_impl_Step_impl_GoodNet_c1_l2 (y2_0, y2_1, y2_2, y2_3, y2_4, ())) kk = (fun (kret : Int → Int → (List (List Int × List Int)) → Option R) (kexit0 : Int → (List (List Int × List Int)) → Option R) => (bif (decide (y2_2 < y2_1)) then (bif decide (0 ≤ y2_2) then (bif decide (y2_2 < (y2_0.length : Int)) then (impl_GoodNet_c1 n ((y2_0.getD (Int.toNat y2_2) ([], [])).1) ((y2_0.getD (Int.toNat y2_2) ([], [])).2) y2_3 y2_4 fun r1 r2 r3 => (bif r1 then kret y2_2 r2 r3 else slices_IndexFunc_impl_Step_impl_GoodNet_c1_l2 n y2_0 y2_1 (IntKind.wrap .i64 (y2_2 + 1)) r2 r3 kret kexit0)) else none) else none) else kexit0 y2_3 y2_4)) (fun r0 r1 r2 => kk .ret (PkS.pack Tslices_IndexFunc_impl_Step_impl_GoodNet_c1_l2_0 (r0, r1, r2, ()))) (fun r0 r1 => kk (.exit 0) (PkS.pack Tslices_IndexFunc_impl_Step_impl_GoodNet_c1_l2_1 (r0, r1, ()))) := by kernel_rfl
theorem leslices_IndexFunc_impl_Step_impl_GoodNet_c1_l2 : LoopEq tt sig (fun n => mkK [(118, Kimpl_GoodNet_c1 @impl_GoodNet_c1 n)]) (fun n => mkL (mkK [(118, Kimpl_GoodNet_c1 @impl_GoodNet_c1 n)]) []) Dslices_IndexFunc_impl_Step_impl_GoodNet_c1_l2 Sslices_IndexFunc_impl_Step_impl_GoodNet_c1_l2 (loopIn 2 (bodyOf Try.f156)) (Pslices_IndexFunc_impl_Step_impl_GoodNet_c1_l2 @slices_IndexFunc_impl_Step_impl_GoodNet_c1_l2) where
  zero R q kk := by unfold Pslices_IndexFunc_impl_Step_impl_GoodNet_c1_l2; cases (PkS.un Sslices_IndexFunc_impl_Step_impl_GoodNet_c1_l2 q) <;> rfl
  succ n R q kk := by
    unfold Pslices_IndexFunc_impl_Step_impl_GoodNet_c1_l2
    cases h : (PkS.un Sslices_IndexFunc_impl_Step_impl_GoodNet_c1_l2 q) with
    | none => rfl
    | some d =>
      obtain ⟨y2_0, y2_1, y2_2, y2_3, y2_4, u⟩ := (d : (List (List Int × List Int)) × Int × Int × Int × (List (List Int × List Int)) × Unit)
      have hp := PkS.un_pack h
      subst hp
      exact (eslices_IndexFunc_impl_Step_impl_GoodNet_c1_l2 @impl_GoodNet_c1 @slices_IndexFunc_impl_Step_impl_GoodNet_c1_l2 n y2_0 y2_1 y2_2 y2_3 y2_4 kk).symm
theorem nlslices_IndexFunc_impl_Step_impl_GoodNet_c1_l2 : ∀ n, NatLP (Pslices_IndexFunc_impl_Step_impl_GoodNet_c1_l2 @slices_IndexFunc_impl_Step_impl_GoodNet_c1_l2 n) := leslices_IndexFunc_impl_Step_impl_GoodNet_c1_l2.nat (fun n => mkK_nat (cslices_IndexFunc_impl_Step_impl_GoodNet_c1 n)) fun n => mkL_nat (mkK_nat (cslices_IndexFunc_impl_Step_impl_GoodNet_c1 n)) (l := []) trivial
theorem inslices_IndexFunc_impl_Step_impl_GoodNet_c1_l2 (n : Nat) (R : Type) : LoopsOk Try.prog (mkL (mkK [(118, Kimpl_GoodNet_c1 @impl_GoodNet_c1 n)]) [] R) (loopIn 2 (bodyOf Try.f156)) := .eq (l := []) (by kernel_rfl) trivial
theorem lkslices_IndexFunc_impl_Step_impl_GoodNet_c1_l2 (n : Nat) (R : Type) (L0 : LK R) (h0 : ∀ id, firstRegion (loopIn 2 (bodyOf Try.f156)) = some id → L0 id = Dslices_IndexFunc_impl_Step_impl_GoodNet_c1_l2.oracle (mkK [(118, Kimpl_GoodNet_c1 @impl_GoodNet_c1 n)] R) (Pslices_IndexFunc_impl_Step_impl_GoodNet_c1_l2 @slices_IndexFunc_impl_Step_impl_GoodNet_c1_l2 n R)) : LoopOk Try.prog L0 (loopIn 2 (bodyOf Try.f156)) :=
  leslices_IndexFunc_impl_Step_impl_GoodNet_c1_l2.ok mixed ttok (fun n => mkK_nat (cslices_IndexFunc_impl_Step_impl_GoodNet_c1 n)) (fun n => mkK_ok (cslices_IndexFunc_impl_Step_impl_GoodNet_c1 n)) (fun n => inslices_IndexFunc_impl_Step_impl_GoodNet_c1_l2 n R) (mkK_nat (cslices_IndexFunc_impl_Step_impl_GoodNet_c1 n)) h0
@[reducible] def Sslices_IndexFunc_impl_Step_impl_GoodNet_c1 : PkS := ⟨[.one (.ro (.pr (.sl (.int .i64)) (.sl (.int .i64)))), .one (.fn 118 [((200000, 0), 0)])], [((200000, 0), .box [.int .i64, .ro (.pr (.sl (.int .i64)) (.sl (.int .i64)))])]⟩
@[reducible] def Tslices_IndexFunc_impl_Step_impl_GoodNet_c1 : PkS := ⟨[.one (.int .i64), .one (.dead), .one (.fn 118 [((300000, 0), 0)])], [((300000, 0), .box [.int .i64, .ro (.pr (.sl (.int .i64)) (.sl (.int .i64)))])]⟩
def Hslices_IndexFunc_impl_Step_impl_GoodNet_c1 : List Sh := [.one .any, .skip, .fn 118 [[.any, (.ro (.pr (.sl (.int .i64)) (.sl (.int .i64))))]]]
def Kslices_IndexFunc_impl_Step_impl_GoodNet_c1 (g : ∀ {R : Type}, Nat → (List (List Int × List Int)) → Int → (List (List Int × List Int)) → (Int → Int → (List (List Int × List Int)) → Option R) → Option R) (n : Nat) : KPs := fun R p k => match (PkS.un Sslices_IndexFunc_impl_Step_impl_GoodNet_c1 p : Option ((List (List Int × List Int)) × Int × (List (List Int × List Int)) × Unit)) with
  | some (x0, x1, x2, _) => g n x0 x1 x2 (fun r0 r1 r2 => k (PkS.pack Tslices_IndexFunc_impl_Step_impl_GoodNet_c1 (r0, r1, r2, ())))
  | none => none
theorem eslices_IndexFunc_impl_Step_impl_GoodNet_c1 (impl_GoodNet_c1 : ∀ {R : Type}, Nat → (List Int) → (List Int) → Int → (List (List Int × List Int)) → (Bool → Int → (List (List Int × List Int)) → Option R) → Option R) (slices_IndexFunc_impl_Step_impl_GoodNet_c1_l2 : ∀ {R : Type}, Nat → (List (List Int × List Int)) → Int → Int → Int → (List (List Int × List Int)) → (Int → Int → (List (List Int × List Int)) → Option R) → (Int → (List (List Int × List Int)) → Option R) → Option R) {R : Type} (n : Nat) (x0 : List (List Int × List Int)) (x1 : Int) (x2 : List (List Int × List Int)) (k : Pk → Option R) : evF tt sig (mkK [(118, Kimpl_GoodNet_c1 @impl_GoodNet_c1 n)] R) (mkL (mkK [(118, Kimpl_GoodNet_c1 @impl_GoodNet_c1 n)]) [(2, Dslices_IndexFunc_impl_Step_impl_GoodNet_c1_l2, Pslices_IndexFunc_impl_Step_impl_GoodNet_c1_l2 @slices_IndexFunc_impl_Step_impl_GoodNet_c1_l2 n)] R) Try.f156 Hslices_IndexFunc_impl_Step_impl_GoodNet_c1 (PkS.pack Sslices_IndexFunc_impl_Step_impl_GoodNet_c1 (x0, x1, x2, ())) k = (fun (k : Int → Int → (List (List Int × List Int)) → Option R) => (slices_IndexFunc_impl_Step_impl_GoodNet_c1_l2 n x0 (x0.length : Int) 0 x1 x2 (fun r4 r5 r6 => k r4 r5 r6) (fun r7 r8 => k (-1) r7 r8))) (fun r0 r1 r2 => k (PkS.pack Tslices_IndexFunc_impl_Step_impl_GoodNet_c1 (r0, r1, r2, ()))) := by kernel_rfl
theorem okslices_IndexFunc_impl_Step_impl_GoodNet_c1 (n : Nat) : FnOk Try.prog 156 (Kslices_IndexFunc_impl_Step_impl_GoodNet_c1 @slices_IndexFunc_impl_Step_impl_GoodNet_c1 n) := by
  refine fn_ok (sig := sig) mixed ttok (mkK_nat (cslices_IndexFunc_impl_Step_impl_GoodNet_c1 n)) (mkK_ok (cslices_IndexFunc_impl_Step_impl_GoodNet_c1 n)) (mkL_nat (mkK_nat (cslices_IndexFunc_impl_Step_impl_GoodNet_c1 n)) (l := [(2, Dslices_IndexFunc_impl_Step_impl_GoodNet_c1_l2, Pslices_IndexFunc_impl_Step_impl_GoodNet_c1_l2 @slices_IndexFunc_impl_Step_impl_GoodNet_c1_l2 n)]) ⟨nlslices_IndexFunc_impl_Step_impl_GoodNet_c1_l2 n, trivial⟩) (fn := Try.f156) (c := bodyOf Try.f156) (by kernel_rfl) (by kernel_rfl) (by kernel_rfl) (.eq (l := [.lo (loopIn 2 (bodyOf Try.f156))]) (by kernel_rfl) ⟨(lkslices_IndexFunc_impl_Step_impl_GoodNet_c1_l2 n _ _ (at_id (i := 2) (by kernel_rfl) rfl)), trivial⟩) (shs := Hslices_IndexFunc_impl_Step_impl_GoodNet_c1) (S := Sslices_IndexFunc_impl_Step_impl_GoodNet_c1) (h1 := by kernel_rfl) fun R p k => ?_
  unfold Kslices_IndexFunc_impl_Step_impl_GoodNet_c1
  cases h : (PkS.un Sslices_IndexFunc_impl_Step_impl_GoodNet_c1 p) with
  | none => rfl
  | some d =>
    obtain ⟨x0, x1, x2, u⟩ := (d : (List (List Int × List Int)) × Int × (List (List Int × List Int)) × Unit)
    have hp := PkS.un_pack h
    subst hp
    exact (eslices_IndexFunc_impl_Step_impl_GoodNet_c1 @impl_GoodNet_c1 @slices_IndexFunc_impl_Step_impl_GoodNet_c1_l2 n x0 x1 x2 k).symm

/-! ### slices.ContainsFunc[[]loop.example/g00269/impl.Step,loop.example/g00269/impl.Step] -/
theorem cslices_ContainsFunc_impl_Step_impl_GoodNet_c1 (n : Nat) : AllOk Try.prog [(156, Kslices_IndexFunc_impl_Step_impl_GoodNet_c1 @slices_IndexFunc_impl_Step_impl_GoodNet_c1 n)] := ⟨okslices_IndexFunc_impl_Step_impl_GoodNet_c1 n, trivial⟩
@[reducible] def Sslices_ContainsFunc_impl_Step_impl_GoodNet_c1 : PkS := ⟨[.one (.ro (.pr (.sl (.int .i64)) (.sl (.int .i64)))), .one (.fn 118 [((200000, 0), 0)])], [((200000, 0), .box [.int .i64, .ro (.pr (.sl (.int .i64)) (.sl (.int .i64)))])]⟩
@[reducible] def Tslices_ContainsFunc_impl_Step_impl_GoodNet_c1 : PkS := ⟨[.one (.bool), .one (.dead), .one (.fn 118 [((300000, 0), 0)])], [((300000, 0), .box [.int .i64, .ro (.pr (.sl (.int .i64)) (.sl (.int .i64)))])]⟩
def Hslices_ContainsFunc_impl_Step_impl_GoodNet_c1 : List Sh := [.one .any, .skip, .fn 118 [[.any, (.ro (.pr (.sl (.int .i64)) (.sl (.int .i64))))]]]
def Kslices_ContainsFunc_impl_Step_impl_GoodNet_c1 (g : ∀ {R : Type}, Nat → (List (List Int × List Int)) → Int → (List (List Int × List Int)) → (Bool → Int → (List (List Int × List Int)) → Option R) → Option R) (n : Nat) : KPs := fun R p k => match (PkS.un Sslices_ContainsFunc_impl_Step_impl_GoodNet_c1 p : Option ((List (List Int × List Int)) × Int × (List (List Int × List Int)) × Unit)) with
  | some (x0, x1, x2, _) => g n x0 x1 x2 (fun r0 r1 r2 => k (PkS.pack Tslices_ContainsFunc_impl_Step_impl_GoodNet_c1 (r0, r1, r2, ())))
  | none => none
theorem eslices_ContainsFunc_impl_Step_impl_GoodNet_c1 (slices_IndexFunc_impl_Step_impl_GoodNet_c1 : ∀ {R : Type}, Nat → (List (List Int × List Int)) → Int → (List (List Int × List Int)) → (Int → Int → (List (List Int × List Int)) → Option R) → Option R) {R : Type} (n : Nat) (x0 : List (List Int × List Int)) (x1 : Int) (x2 : List (List Int × List Int)) (k : Pk → Option R) : evF tt sig (mkK [(156, Kslices_IndexFunc_impl_Step_impl_GoodNet_c1 @slices_IndexFunc_impl_Step_impl_GoodNet_c1 n)] R) (mkL (mkK [(156, Kslices_IndexFunc_impl_Step_impl_GoodNet_c1 @slices_IndexFunc_impl_Step_impl_GoodNet_c1 n)]) [] R) Try.f117 Hslices_ContainsFunc_impl_Step_impl_GoodNet_c1 (PkS.pack Sslices_ContainsFunc_impl_Step_impl_GoodNet_c1 (x0, x1, x2, ())) k = (fun (k : Bool → Int → (List (List Int × List Int)) → Option R) => (slices_IndexFunc_impl_Step_impl_GoodNet_c1 n x0 x1 x2 fun r1 r2 r3 => k (decide (r1 ≥ 0)) r2 r3)) (fun r0 r1 r2 => k (PkS.pack Tslices_ContainsFunc_impl_Step_impl_GoodNet_c1 (r0, r1, r2, ()))) := by kernel_rfl
theorem okslices_ContainsFunc_impl_Step_impl_GoodNet_c1 (n : Nat) : FnOk Try.prog 117 (Kslices_ContainsFunc_impl_Step_impl_GoodNet_c1 @slices_ContainsFunc_impl_Step_impl_GoodNet_c1 n) := by
  refine fn_ok (sig := sig) mixed ttok (mkK_nat (cslices_ContainsFunc_impl_Step_impl_GoodNet_c1 n)) (mkK_ok (cslices_ContainsFunc_impl_Step_impl_GoodNet_c1 n)) (mkL_nat (mkK_nat (cslices_ContainsFunc_impl_Step_impl_GoodNet_c1 n)) (l := []) trivial) (fn := Try.f117) (c := bodyOf Try.f117) (by kernel_rfl) (by kernel_rfl) (by kernel_rfl) (.eq (l := []) (by kernel_rfl) trivial) (shs := Hslices_ContainsFunc_impl_Step_impl_GoodNet_c1) (S := Sslices_ContainsFunc_impl_Step_impl_GoodNet_c1) (h1 := by kernel_rfl) fun R p k => ?_
  unfold Kslices_ContainsFunc_impl_Step_impl_GoodNet_c1
  cases h : (PkS.un Sslices_ContainsFunc_impl_Step_impl_GoodNet_c1 p) with
  | none => rfl
  | some d =>
    obtain ⟨x0, x1, x2, u⟩ := (d : (List (List Int × List Int)) × Int × (List (List Int × List Int)) × Unit)
    have hp := PkS.un_pack h
    subst hp
    exact (eslices_ContainsFunc_impl_Step_impl_GoodNet_c1 @slices_IndexFunc_impl_Step_impl_GoodNet_c1 n x0 x1 x2 k).symm

/-! ### loop.example/g00269/impl.GoodNet -/
theorem cimpl_GoodNet (n : Nat) : AllOk Try.prog [(80, Kimpl_in @impl_in n), (117, Kslices_ContainsFunc_impl_Step_impl_GoodNet_c1 @slices_ContainsFunc_impl_Step_impl_GoodNet_c1 n)] := ⟨okimpl_in n, ⟨okslices_ContainsFunc_impl_Step_impl_GoodNet_c1 n, trivial⟩⟩
@[reducible] def Simpl_GoodNet : PkS := ⟨[.agg [.int .i64, .ro (.pr (.sl (.int .i64)) (.sl (.int .i64)))]], []⟩
@[reducible] def Timpl_GoodNet : PkS := ⟨[.one (.bool), .one (.dead)], []⟩
def Himpl_GoodNet : List Sh := [.one .any, .skip]
def Kimpl_GoodNet (g : ∀ {R : Type}, Nat → Int → (List (List Int × List Int)) → (Bool → Option R) → Option R) (n : Nat) : KPs := fun R p k => match (PkS.un Simpl_GoodNet p : Option (Int × (List (List Int × List Int)) × Unit)) with
  | some (x0, x1, _) => g n x0 x1 (fun r0 => k (PkS.pack Timpl_GoodNet (r0, ())))
  | none => none
theorem eimpl_GoodNet (impl_in : ∀ {R : Type}, Nat → Int → Int → Int → (Bool → Option R) → Option R) (slices_ContainsFunc_impl_Step_impl_GoodNet_c1 : ∀ {R : Type}, Nat → (List (List Int × List Int)) → Int → (List (List Int × List Int)) → (Bool → Int → (List (List Int × List Int)) → Option R) → Option R) {R : Type} (n : Nat) (x0 : Int) (x1 : List (List Int × List Int)) (k : Pk → Option R) : evF tt sig (mkK [(80, Kimpl_in @impl_in n), (117, Kslices_ContainsFunc_impl_Step_impl_GoodNet_c1 @slices_ContainsFunc_impl_Step_impl_GoodNet_c1 n)] R) (mkL (mkK [(80, Kimpl_in @impl_in n), (117, Kslices_ContainsFunc_impl_Step_impl_GoodNet_c1 @slices_ContainsFunc_impl_Step_impl_GoodNet_c1 n)]) [] R) Try.f59 Himpl_GoodNet (PkS.pack Simpl_GoodNet (x0, x1, ())) k = (fun (k : Bool → Option R) => (impl_in n x0 1 8 fun r1 => (bif (!r1) then k false else (bif (decide ((x1.length : Int) > 12)) then k false else (slices_ContainsFunc_impl_Step_impl_GoodNet_c1 n x1 x0 x1 fun r2 r3 r4 => k (!r2)))))) (fun r0 => k (PkS.pack Timpl_GoodNet (r0, ()))) := by kernel_rfl
theorem okimpl_GoodNet (n : Nat) : FnOk Try.prog 59 (Kimpl_GoodNet @impl_GoodNet n) := by
  refine fn_ok (sig := sig) mixed ttok (mkK_nat (cimpl_GoodNet n)) (mkK_ok (cimpl_GoodNet n)) (mkL_nat (mkK_nat (cimpl_GoodNet n)) (l := []) trivial) (fn := Try.f59) (c := bodyOf Try.f59) (by kernel_rfl) (by kernel_rfl) (by kernel_rfl) (.eq (l := []) (by kernel_rfl) trivial) (shs := Himpl_GoodNet) (S := Simpl_GoodNet) (h1 := by kernel_rfl) fun R p k => ?_
  unfold Kimpl_GoodNet
  cases h : (PkS.un Simpl_GoodNet p) with
  | none => rfl
  | some d =>
    obtain ⟨x0, x1, u⟩ := (d : Int × (List (List Int × List Int)) × Unit)
    have hp := PkS.un_pack h
    subst hp
    exact (eimpl_GoodNet @impl_in @slices_ContainsFunc_impl_Step_impl_GoodNet_c1 n x0 x1 k).symm

/-! ### loop.example/g00269/impl.weightsOk$1 -/
theorem cimpl_weightsOk_c1 (n : Nat) : AllOk Try.prog [(80, Kimpl_in @impl_in n)] := ⟨okimpl_in n, trivial⟩
@[reducible] def Simpl_weightsOk_c1 : PkS := ⟨[.one (.int .i64)], []⟩
@[reducible] def Timpl_weightsOk_c1 : PkS := ⟨[.one (.bool), .one (.dead)], []⟩
def Himpl_weightsOk_c1 : List Sh := [.one .any, .skip]
def Kimpl_weightsOk_c1 (g : ∀ {R : Type}, Nat → Int → (Bool → Option R) → Option R) (n : Nat) : KPs := fun R p k => match (PkS.un Simpl_weightsOk_c1 p : Option (Int × Unit)) with
  | some (x0, _) => g n x0 (fun r0 => k (PkS.pack Timpl_weightsOk_c1 (r0, ())))
  | none => none
theorem eimpl_weightsOk_c1 (impl_in : ∀ {R : Type}, Nat → Int → Int → Int → (Bool → Option R) → Option R) {R : Type} (n : Nat) (x0 : Int) (k : Pk → Option R) : evF tt sig (mkK [(80, Kimpl_in @impl_in n)] R) (mkL (mkK [(80, Kimpl_in @impl_in n)]) [] R) Try.f155 Himpl_weightsOk_c1 (PkS.pack Simpl_weightsOk_c1 (x0, ())) k = (fun (k : Bool → Option R) => (impl_in n x0 (-100) 100 fun r1 => k (!r1))) (fun r0 => k (PkS.pack Timpl_weightsOk_c1 (r0, ()))) := by kernel_rfl
theorem okimpl_weightsOk_c1 (n : Nat) : FnOk Try.prog 155 (Kimpl_weightsOk_c1 @impl_weightsOk_c1 n) := by
  refine fn_ok (sig := sig) mixed ttok (mkK_nat (cimpl_weightsOk_c1 n)) (mkK_ok (cimpl_weightsOk_c1 n)) (mkL_nat (mkK_nat (cimpl_weightsOk_c1 n)) (l := []) trivial) (fn := Try.f155) (c := bodyOf Try.f155) (by kernel_rfl) (by kernel_rfl) (by kernel_rfl) (.eq (l := []) (by kernel_rfl) trivial) (shs := Himpl_weightsOk_c1) (S := Simpl_weightsOk_c1) (h1 := by kernel_rfl) fun R p k => ?_
  unfold Kimpl_weightsOk_c1
  cases h : (PkS.un Simpl_weightsOk_c1 p) with
  | none => rfl
  | some d =>
    obtain ⟨x0, u⟩ := (d : Int × Unit)
    have hp := PkS.un_pack h
    subst hp
    exact (eimpl_weightsOk_c1 @impl_in n x0 k).symm

/-! ### slices.IndexFunc[[]int,int] -/
theorem cslices_IndexFunc_int_impl_weightsOk_c1 (n : Nat) : AllOk Try.prog [(155, Kimpl_weightsOk_c1 @impl_weightsOk_c1 n)] := ⟨okimpl_weightsOk_c1 n, trivial⟩
@[reducible] def Sslices_IndexFunc_int_impl_weightsOk_c1_l2 : PkS := ⟨[.one (.ro (.int .i64)), .one (.fn 155 []), .one (.int .i64), .one (.int .i64), .one (.dead), .one (.fn 155 [])], []⟩
@[reducible] def Tslices_IndexFunc_int_impl_weightsOk_c1_l2_0 : PkS := ⟨[.one (.int .i64), .one (.dead), .one (.fn 155 [])], []⟩
@[reducible] def Tslices_IndexFunc_int_impl_weightsOk_c1_l2_1 : PkS := ⟨[.one (.dead), .one (.fn 155 [])], []⟩
def Dslices_IndexFunc_int_impl_weightsOk_c1_l2 : LoopD := ⟨19, [0, 1, 7, 8], [.one (.ro (.int .i64)), .fn 155 [], .one .any, .one .any, .skip, .fn 155 []], fun x => match x with
  | .ret => some ([4], [.one .any, .skip, .fn 155 []])
  | .exit 0 => some ([], [.skip, .fn 155 []])
  | _ => none⟩
def Pslices_IndexFunc_int_impl_weightsOk_c1_l2 (g : ∀ {R : Type}, Nat → (List Int) → Int → Int → (Int → Option R) → (Option R) → Option R) (n : Nat) : LPs := fun R q kk => match (PkS.un Sslices_IndexFunc_int_impl_weightsOk_c1_l2 q : Option ((List Int) × Int × Int × Unit)) with
  | some (y2_0, y2_1, y2_2, _) => g n y2_0 y2_1 y2_2 (fun r0 => kk .ret (PkS.pack Tslices_IndexFunc_int_impl_weightsOk_c1_l2_0 (r0, ()))) (kk (.exit 0) (PkS.pack Tslices_IndexFunc_int_impl_weightsOk_c1_l2_1 ()))
  | none => none
theorem eslices_IndexFunc_int_impl_weightsOk_c1_l2 (impl_weightsOk_c1 : ∀ {R : Type}, Nat → Int → (Bool → Option R) → Option R) (slices_IndexFunc_int_impl_weightsOk_c1_l2 : ∀ {R : Type}, Nat → (List Int) → Int → Int → (Int → Option R) → (Option R) → Option R) {R : Type} (n : Nat) (y2_0 : List Int) (y2_1 : Int) (y2_2 : Int) (kk : Ex → Pk → Option R) : Dslices_IndexFunc_int_impl_weightsOk_c1_l2.step tt sig (mkK [(155, Kimpl_weightsOk_c1 @impl_weightsOk_c1 n)] R) (mkL (mkK [(155, Kimpl_weightsOk_c1 @impl_weightsOk_c1 n)]) [] R) (loopIn 2 (bodyOf Try.f157)) (fun q' => Pslices_IndexFunc_int_impl_weightsOk_c1_l2 @slices_IndexFunc_int_impl_weightsOk_c1_l2 n R q' kk) (PkS.pack Sslices_IndexFunc_int_impl_weightsOk_c1_l2 (y2_0, y2_1, y2_2, ())) kk = (fun (kret : Int → Option R) (kexit0 : Option R) => (bif (decide (y2_2 < y2_1)) then (bif decide (0 ≤ y2_2) then (bif decide (y2_2 < (y2_0.length : Int)) then (impl_weightsOk_c1 n (y2_0.getD (Int.toNat y2_2) 0) fun r1 => (bif r1 then kret y2_2 else slices_IndexFunc_int_impl_weightsOk_c1_l2 n y2_0 y2_1 (IntKind.wrap .i64 (y2_2 + 1)) kret kexit0)) else none) else none) else kexit0)) (fun r0 => kk .ret (PkS.pack Tslices_IndexFunc_int_impl_weightsOk_c1_l2_0 (r0, ()))) (kk (.exit 0) (PkS.pack Tslices_IndexFunc_int_impl_weightsOk_c1_l2_1 ())) := by kernel_rfl
theorem leslices_IndexFunc_int_impl_weightsOk_c1_l2 : LoopEq tt sig (fun n => mkK [(155, Kimpl_weightsOk_c1 @impl_weightsOk_c1 n)]) (fun n => mkL (mkK [(155, Kimpl_weightsOk_c1 @impl_weightsOk_c1 n)]) []) Dslices_IndexFunc_int_impl_weightsOk_c1_l2 Sslices_IndexFunc_int_impl_weightsOk_c1_l2 (loopIn 2 (bodyOf Try.f157)) (Pslices_IndexFunc_int_impl_weightsOk_c1_l2 @slices_IndexFunc_int_impl_weightsOk_c1_l2) where
  zero R q kk := by unfold Pslices_IndexFunc_int_impl_weightsOk_c1_l2; cases (PkS.un Sslices_IndexFunc_int_impl_weightsOk_c1_l2 q) <;> rfl
  succ n R q kk := by
    unfold Pslices_IndexFunc_int_impl_weightsOk_c1_l2
    cases h : (PkS.un Sslices_IndexFunc_int_impl_weightsOk_c1_l2 q) with
    | none => rfl
    | some d =>
      obtain ⟨y2_0, y2_1, y2_2, u⟩ := (d : (List Int) × Int × Int × Unit)
      have hp := PkS.un_pack h
      subst hp
      exact (eslices_IndexFunc_int_impl_weightsOk_c1_l2 @impl_weightsOk_c1 @slices_IndexFunc_int_impl_weightsOk_c1_l2 n y2_0 y2_1 y2_2 kk).symm
theorem nlslices_IndexFunc_int_impl_weightsOk_c1_l2 : ∀ n, NatLP (Pslices_IndexFunc_int_impl_weightsOk_c1_l2 @slices_IndexFunc_int_impl_weightsOk_c1_l2 n) := leslices_IndexFunc_int_impl_weightsOk_c1_l2.nat (fun n => mkK_nat (cslices_IndexFunc_int_impl_weightsOk_c1 n)) fun n => mkL_nat (mkK_nat (cslices_IndexFunc_int_impl_weightsOk_c1 n)) (l := []) trivial
theorem inslices_IndexFunc_int_impl_weightsOk_c1_l2 (n : Nat) (R : Type) : LoopsOk Try.prog (mkL (mkK [(155, Kimpl_weightsOk_c1 @impl_weightsOk_c1 n)]) [] R) (loopIn 2 (bodyOf Try.f157)) := .eq (l := []) (by kernel_rfl) trivial
theorem lkslices_IndexFunc_int_impl_weightsOk_c1_l2 (n : Nat) (R : Type) (L0 : LK R) (h0 : ∀ id, firstRegion (loopIn 2 (bodyOf Try.f157)) = some id → L0 id = Dslices_IndexFunc_int_impl_weightsOk_c1_l2.oracle (mkK [(155, Kimpl_weightsOk_c1 @impl_weightsOk_c1 n)] R) (Pslices_IndexFunc_int_impl_weightsOk_c1_l2 @slices_IndexFunc_int_impl_weightsOk_c1_l2 n R)) : LoopOk Try.prog L0 (loopIn 2 (bodyOf Try.f157)) :=
  leslices_IndexFunc_int_impl_weightsOk_c1_l2.ok mixed ttok (fun n => mkK_nat (cslices_IndexFunc_int_impl_weightsOk_c1 n)) (fun n => mkK_ok (cslices_IndexFunc_int_impl_weightsOk_c1 n)) (fun n => inslices_IndexFunc_int_impl_weightsOk_c1_l2 n R) (mkK_nat (cslices_IndexFunc_int_impl_weightsOk_c1 n)) h0
@[reducible] def Sslices_IndexFunc_int_impl_weightsOk_c1 : PkS := ⟨[.one (.ro (.int .i64)), .one (.fn 155 [])], []⟩
@[reducible] def Tslices_IndexFunc_int_impl_weightsOk_c1 : PkS := ⟨[.one (.int .i64), .one (.dead), .one (.fn 155 [])], []⟩
def Hslices_IndexFunc_int_impl_weightsOk_c1 : List Sh := [.one .any, .skip, .fn 155 []]
def Kslices_IndexFunc_int_impl_weightsOk_c1 (g : ∀ {R : Type}, Nat → (List Int) → (Int → Option R) → Option R) (n : Nat) : KPs := fun R p k => match (PkS.un Sslices_IndexFunc_int_impl_weightsOk_c1 p : Option ((List Int) × Unit)) with
  | some (x0, _) => g n x0 (fun r0 => k (PkS.pack Tslices_IndexFunc_int_impl_weightsOk_c1 (r0, ())))
  | none => none
theorem eslices_IndexFunc_int_impl_weightsOk_c1 (impl_weightsOk_c1 : ∀ {R : Type}, Nat → Int → (Bool → Option R) → Option R) (slices_IndexFunc_int_impl_weightsOk_c1_l2 : ∀ {R : Type}, Nat → (List Int) → Int → Int → (Int → Option R) → (Option R) → Option R) {R : Type} (n : Nat) (x0 : List Int) (k : Pk → Option R) : evF tt sig (mkK [(155, Kimpl_weightsOk_c1 @impl_weightsOk_c1 n)] R) (mkL (mkK [(155, Kimpl_weightsOk_c1 @impl_weightsOk_c1 n)]) [(2, Dslices_IndexFunc_int_impl_weightsOk_c1_l2, Pslices_IndexFunc_int_impl_weightsOk_c1_l2 @slices_IndexFunc_int_impl_weightsOk_c1_l2 n)] R) Try.f157 Hslices_IndexFunc_int_impl_weightsOk_c1 (PkS.pack Sslices_IndexFunc_int_impl_weightsOk_c1 (x0, ())) k = (fun (k : Int → Option R) => (slices_IndexFunc_int_impl_weightsOk_c1_l2 n x0 (x0.length : Int) 0 (fun r2 => k r2) (k (-1)))) (fun r0 => k (PkS.pack Tslices_IndexFunc_int_impl_weightsOk_c1 (r0, ()))) := by kernel_rfl
theorem okslices_IndexFunc_int_impl_weightsOk_c1 (n : Nat) : FnOk Try.prog 157 (Kslices_IndexFunc_int_impl_weightsOk_c1 @slices_IndexFunc_int_impl_weightsOk_c1 n) := by
  refine fn_ok (sig := sig) mixed ttok (mkK_nat (cslices_IndexFunc_int_impl_weightsOk_c1 n)) (mkK_ok (cslices_IndexFunc_int_impl_weightsOk_c1 n)) (mkL_nat (mkK_nat (cslices_IndexFunc_int_impl_weightsOk_c1 n)) (l := [(2, Dslices_IndexFunc_int_impl_weightsOk_c1_l2, Pslices_IndexFunc_int_impl_weightsOk_c1_l2 @slices_IndexFunc_int_impl_weightsOk_c1_l2 n)]) ⟨nlslices_IndexFunc_int_impl_weightsOk_c1_l2 n, trivial⟩) (fn := Try.f157) (c := bodyOf Try.f157) (by kernel_rfl) (by kernel_rfl) (by kernel_rfl) (.eq (l := [.lo (loopIn 2 (bodyOf Try.f157))]) (by kernel_rfl) ⟨(lkslices_IndexFunc_int_impl_weightsOk_c1_l2 n _ _ (at_id (i := 2) (by kernel_rfl) rfl)), trivial⟩) (shs := Hslices_IndexFunc_int_impl_weightsOk_c1) (S := Sslices_IndexFunc_int_impl_weightsOk_c1) (h1 := by kernel_rfl) fun R p k => ?_
  unfold Kslices_IndexFunc_int_impl_weightsOk_c1
  cases h : (PkS.un Sslices_IndexFunc_int_impl_weightsOk_c1 p) with
  | none => rfl
  | some d =>
    obtain ⟨x0, u⟩ := (d : (List Int) × Unit)
    have hp := PkS.un_pack h
    subst hp
    exact (eslices_IndexFunc_int_impl_weightsOk_c1 @impl_weightsOk_c1 @slices_IndexFunc_int_impl_weightsOk_c1_l2 n x0 k).symm

/-! ### slices.ContainsFunc[[]int,int] -/
theorem cslices_ContainsFunc_int_impl_weightsOk_c1 (n : Nat) : AllOk Try.prog [(157, Kslices_IndexFunc_int_impl_weightsOk_c1 @slices_IndexFunc_int_impl_weightsOk_c1 n)] := ⟨okslices_IndexFunc_int_impl_weightsOk_c1 n, trivial⟩
@[reducible] def Sslices_ContainsFunc_int_impl_weightsOk_c1 : PkS := ⟨[.one (.ro (.int .i64)), .one (.fn 155 [])], []⟩
@[reducible] def Tslices_ContainsFunc_int_impl_weightsOk_c1 : PkS := ⟨[.one (.bool), .one (.dead), .one (.fn 155 [])], []⟩
def Hslices_ContainsFunc_int_impl_weightsOk_c1 : List Sh := [.one .any, .skip, .fn 155 []]
def Kslices_ContainsFunc_int_impl_weightsOk_c1 (g : ∀ {R : Type}, Nat → (List Int) → (Bool → Option R) → Option R) (n : Nat) : KPs := fun R p k => match (PkS.un Sslices_ContainsFunc_int_impl_weightsOk_c1 p : Option ((List Int) × Unit)) with
  | some (x0, _) => g n x0 (fun r0 => k (PkS.pack Tslices_ContainsFunc_int_impl_weightsOk_c1 (r0, ())))
  | none => none
theorem eslices_ContainsFunc_int_impl_weightsOk_c1 (slices_IndexFunc_int_impl_weightsOk_c1 : ∀ {R : Type}, Nat → (List Int) → (Int → Option R) → Option R) {R : Type} (n : Nat) (x0 : List Int) (k : Pk → Option R) : evF tt sig (mkK [(157, Kslices_IndexFunc_int_impl_weightsOk_c1 @slices_IndexFunc_int_impl_weightsOk_c1 n)] R) (mkL (mkK [(157, Kslices_IndexFunc_int_impl_weightsOk_c1 @slices_IndexFunc_int_impl_weightsOk_c1 n)]) [] R) Try.f120 Hslices_ContainsFunc_int_impl_weightsOk_c1 (PkS.pack Sslices_ContainsFunc_int_impl_weightsOk_c1 (x0, ())) k = (fun (k : Bool → Option R) => (slices_IndexFunc_int_impl_weightsOk_c1 n x0 fun r1 => k (decide (r1 ≥ 0)))) (fun r0 => k (PkS.pack Tslices_ContainsFunc_int_impl_weightsOk_c1 (r0, ()))) := by kernel_rfl
theorem okslices_ContainsFunc_int_impl_weightsOk_c1 (n : Nat) : FnOk Try.prog 120 (Kslices_ContainsFunc_int_impl_weightsOk_c1 @slices_ContainsFunc_int_impl_weightsOk_c1 n) := by
  refine fn_ok (sig := sig) mixed ttok (mkK_nat (cslices_ContainsFunc_int_impl_weightsOk_c1 n)) (mkK_ok (cslices_ContainsFunc_int_impl_weightsOk_c1 n)) (mkL_nat (mkK_nat (cslices_ContainsFunc_int_impl_weightsOk_c1 n)) (l := []) trivial) (fn := Try.f120) (c := bodyOf Try.f120) (by kernel_rfl) (by kernel_rfl) (by kernel_rfl) (.eq (l := []) (by kernel_rfl) trivial) (shs := Hslices_ContainsFunc_int_impl_weightsOk_c1) (S := Sslices_ContainsFunc_int_impl_weightsOk_c1) (h1 := by kernel_rfl) fun R p k => ?_
  unfold Kslices_ContainsFunc_int_impl_weightsOk_c1
  cases h : (PkS.un Sslices_ContainsFunc_int_impl_weightsOk_c1 p) with
  | none => rfl
  | some d =>
    obtain ⟨x0, u⟩ := (d : (List Int) × Unit)
    have hp := PkS.un_pack h
    subst hp
    exact (eslices_ContainsFunc_int_impl_weightsOk_c1 @slices_IndexFunc_int_impl_weightsOk_c1 n x0 k).symm

/-! ### loop.example/g00269/impl.weightsOk -/
theorem cimpl_weightsOk (n : Nat) : AllOk Try.prog [(120, Kslices_ContainsFunc_int_impl_weightsOk_c1 @slices_ContainsFunc_int_impl_weightsOk_c1 n)] := ⟨okslices_ContainsFunc_int_impl_weightsOk_c1 n, trivial⟩
@[reducible] def Simpl_weightsOk : PkS := ⟨[.one (.ro (.int .i64)), .one (.int .i64)], []⟩
@[reducible] def Timpl_weightsOk : PkS := ⟨[.one (.bool), .one (.dead), .one (.dead)], []⟩
def Himpl_weightsOk : List Sh := [.one .any, .skip, .skip]
def Kimpl_weightsOk (g : ∀ {R : Type}, Nat → (List Int) → Int → (Bool → Option R) → Option R) (n : Nat) : KPs := fun R p k => match (PkS.un Simpl_weightsOk p : Option ((List Int) × Int × Unit)) with
  | some (x0, x1, _) => g n x0 x1 (fun r0 => k (PkS.pack Timpl_weightsOk (r0, ())))
  | none => none
theorem eimpl_weightsOk (slices_ContainsFunc_int_impl_weightsOk_c1 : ∀ {R : Type}, Nat → (List Int) → (Bool → Option R) → Option R) {R : Type} (n : Nat) (x0 : List Int) (x1 : Int) (k : Pk → Option R) : evF tt sig (mkK [(120, Kslices_ContainsFunc_int_impl_weightsOk_c1 @slices_ContainsFunc_int_impl_weightsOk_c1 n)] R) (mkL (mkK [(120, Kslices_ContainsFunc_int_impl_weightsOk_c1 @slices_ContainsFunc_int_impl_weightsOk_c1 n)]) [] R) Try.f115 Himpl_weightsOk (PkS.pack Simpl_weightsOk (x0, x1, ())) k = (fun (k : Bool → Option R) => (bif ((x0.length : Int) == x1) then (slices_ContainsFunc_int_impl_weightsOk_c1 n x0 fun r1 => k (!r1)) else k false)) (fun r0 => k (PkS.pack Timpl_weightsOk (r0, ()))) := by kernel_rfl
theorem okimpl_weightsOk (n : Nat) : FnOk Try.prog 115 (Kimpl_weightsOk @impl_weightsOk n) := by
  refine fn_ok (sig := sig) mixed ttok (mkK_nat (cimpl_weightsOk n)) (mkK_ok (cimpl_weightsOk n)) (mkL_nat (mkK_nat (cimpl_weightsOk n)) (l := []) trivial) (fn := Try.f115) (c := bodyOf Try.f115) (by kernel_rfl) (by kernel_rfl) (by kernel_rfl) (.eq (l := []) (by kernel_rfl) trivial) (shs := Himpl_weightsOk) (S := Simpl_weightsOk) (h1 := by kernel_rfl) fun R p k => ?_
  unfold Kimpl_weightsOk
  cases h : (PkS.un Simpl_weightsOk p) with
  | none => rfl
  | some d =>
    obtain ⟨x0, x1, u⟩ := (d : (List Int) × Int × Unit)
    have hp := PkS.un_pack h
    subst hp
    exact (eimpl_weightsOk @slices_ContainsFunc_int_impl_weightsOk_c1 n x0 x1 k).symm

/-! ### loop.example/g00269/impl.IsInvariant -/
theorem cimpl_IsInvariant (n : Nat) : AllOk Try.prog [(59, Kimpl_GoodNet @impl_GoodNet n), (115, Kimpl_weightsOk @impl_weightsOk n)] := ⟨okimpl_GoodNet n, ⟨okimpl_weightsOk n, trivial⟩⟩
@[reducible] def Simpl_IsInvariant_l8 : PkS := ⟨[.one (.ro (.int .i64)), .one (.box (100000, 0) 0), .one (.int .i64), .one (.ro (.pr (.sl (.int .i64)) (.sl (.int .i64)))), .one (.int .i64), .one (.int .i64), .one (.ro (.int .i64)), .one (.int .i64), .one (.int .i64), .one (.dead), .one (.dead)], [((100000, 0), .box [.ro (.int .i64), .ro (.int .i64)])]⟩
@[reducible] def Timpl_IsInvariant_l8_0 : PkS := ⟨[.one (.ro (.int .i64)), .one (.box (100000, 0) 0), .one (.int .i64), .one (.ro (.pr (.sl (.int .i64)) (.sl (.int .i64)))), .one (.int .i64), .one (.int .i64), .one (.dead), .one (.dead)], [((100000, 0), .box [.ro (.int .i64), .ro (.int .i64)])]⟩
def Dimpl_IsInvariant_l8 : LoopD := ⟨61, [1, 7, 8, 24, 25, 26, 31, 32, 33], [.one (.ro (.int .i64)), .box [(.ro (.int .i64)), (.ro (.int .i64))], .one .any, .one (.ro (.pr (.sl (.int .i64)) (.sl (.int .i64)))), .one .any, .one .any, .one (.ro (.int .i64)), .one .any, .one .any, .skip, .skip], fun x => match x with
  | .exit 2 => some ([1, 7, 8, 24, 25, 26], [.one (.ro (.int .i64)), .box [(.ro (.int .i64)), (.ro (.int .i64))], .one .any, .one (.ro (.pr (.sl (.int .i64)) (.sl (.int .i64)))), .one .any, .one .any, .skip, .skip])
  | _ => none⟩
def Pimpl_IsInvariant_l8 (g : ∀ {R : Type}, Nat → (List Int) → Int → (List (List Int × List Int)) → Int → Int → (List Int) → Int → Int → (List Int) → (List Int) → ((List Int) → Int → (List (List Int × List Int)) → Int → Int → (List Int) → (List Int) → Option R) → Option R) (n : Nat) : LPs := fun R q kk => match (PkS.un Simpl_IsInvariant_l8 q : Option ((List Int) × Int × (List (List Int × List Int)) × Int × Int × (List Int) × Int × Int × (List Int) × (List Int) × Unit)) with
  | some (y8_0, y8_1, y8_2, y8_3, y8_4, y8_5, y8_6, y8_7, y8_8, y8_9, _) => g n y8_0 y8_1 y8_2 y8_3 y8_4 y8_5 y8_6 y8_7 y8_8 y8_9 (fun r0 r1 r2 r3 r4 r5 r6 => kk (.exit 2) (PkS.pack Timpl_IsInvariant_l8_0 (r0, r1, r2, r3, r4, r5, r6, ())))
  | none => none
theorem eimpl_IsInvariant_l8 (impl_GoodNet : ∀ {R : Type}, Nat → Int → (List (List Int × List Int)) → (Bool → Option R) → Option R) (impl_weightsOk : ∀ {R : Type}, Nat → (List Int) → Int → (Bool → Option R) → Option R) (impl_IsInvariant_l8 : ∀ {R : Type}, Nat → (List Int) → Int → (List (List Int × List Int)) → Int → Int → (List Int) → Int → Int → (List Int) → (List Int) → ((List Int) → Int → (List (List Int × List Int)) → Int → Int → (List Int) → (List Int) → Option R) → Option R) {R : Type} (n : Nat) (y8_0 : List Int) (y8_1 : Int) (y8_2 : List (List Int × List Int)) (y8_3 : Int) (y8_4 : Int) (y8_5 : List Int) (y8_6 : Int) (y8_7 : Int) (y8_8 : List Int) (y8_9 : List Int) (kk : Ex → Pk → Option R) : Dimpl_IsInvariant_l8.step tt sig (mkK [(59, Kimpl_GoodNet @impl_GoodNet n), (115, Kimpl_weightsOk @impl_weightsOk n)] R) (mkL (mkK [(59, Kimpl_GoodNet @impl_GoodNet n), (115, Kimpl_weightsOk @impl_weightsOk n)]) [] R) (loopIn 8 (bodyOf Try.f57)) (fun q' => Pimpl_IsInvariant_l8 @impl_IsInvariant_l8 n R q' kk) (PkS.pack Simpl_IsInvariant_l8 (y8_0, y8_1, y8_2, y8_3, y8_4, y8_5, y8_6, y8_7, y8_8, y8_9, ())) kk = (fun (kexit2 : (List Int) → Int → (List (List Int × List Int)) → Int → Int → (List Int) → (List Int) → Option R) => (bif (decide (y8_7 < y8_6)) then (bif decide (0 ≤ y8_7) then (bif decide (y8_7 < (y8_5.length : Int)) then (bif decide (0 ≤ (y8_5.getD (Int.toNat y8_7) 0)) then (bif decide ((y8_5.getD (Int.toNat y8_7) 0) < (y8_0.length : Int)) then impl_IsInvariant_l8 n y8_0 (IntKind.wrap .i64 (y8_1 - (y8_0.getD (Int.toNat (y8_5.getD (Int.toNat y8_7) 0)) 0))) y8_2 y8_3 y8_4 y8_5 y8_6 (IntKind.wrap .i64 (y8_7 + 1)) y8_8 y8_9 kexit2 else none) else none) else none) else none) else kexit2 y8_0 y8_1 y8_2 y8_3 y8_4 y8_8 y8_9)) (fun r0 r1 r2 r3 r4 r5 r6 => kk (.exit 2) (PkS.pack Timpl_IsInvariant_l8_0 (r0, r1, r2, r3, r4, r5, r6, ()))) := by kernel_rfl
theorem leimpl_IsInvariant_l8 : LoopEq tt sig (fun n => mkK [(59, Kimpl_GoodNet @impl_GoodNet n), (115, Kimpl_weightsOk @impl_weightsOk n)]) (fun n => mkL (mkK [(59, Kimpl_GoodNet @impl_GoodNet n), (115, Kimpl_weightsOk @impl_weightsOk n)]) []) Dimpl_IsInvariant_l8 Simpl_IsInvariant_l8 (loopIn 8 (bodyOf Try.f57)) (Pimpl_IsInvariant_l8 @impl_IsInvariant_l8) where
  zero R q kk := by unfold Pimpl_IsInvariant_l8; cases (PkS.un Simpl_IsInvariant_l8 q) <;> rfl
  succ n R q kk := by
    unfold Pimpl_IsInvariant_l8
    cases h : (PkS.un Simpl_IsInvariant_l8 q) with
    | none => rfl
    | some d =>
      obtain ⟨y8_0, y8_1, y8_2, y8_3, y8_4, y8_5, y8_6, y8_7, y8_8, y8_9, u⟩ := (d : (List Int) × Int × (List (List Int × List Int)) × Int × Int × (List Int) × Int × Int × (List Int) × (List Int) × Unit)
      have hp := PkS.un_pack h
      subst hp
      exact (eimpl_IsInvariant_l8 @impl_GoodNet @impl_weightsOk @impl_IsInvariant_l8 n y8_0 y8_1 y8_2 y8_3 y8_4 y8_5 y8_6 y8_7 y8_8 y8_9 kk).symm
theorem nlimpl_IsInvariant_l8 : ∀ n, NatLP (Pimpl_IsInvariant_l8 @impl_IsInvariant_l8 n) := leimpl_IsInvariant_l8.nat (fun n => mkK_nat (cimpl_IsInvariant n)) fun n => mkL_nat (mkK_nat (cimpl_IsInvariant n)) (l := []) trivial
theorem inimpl_IsInvariant_l8 (n : Nat) (R : Type) : LoopsOk Try.prog (mkL (mkK [(59, Kimpl_GoodNet @impl_GoodNet n), (115, Kimpl_weightsOk @impl_weightsOk n)]) [] R) (loopIn 8 (bodyOf Try.f57)) := .eq (l := []) (by kernel_rfl) trivial
theorem lkimpl_IsInvariant_l8 (n : Nat) (R : Type) (L0 : LK R) (h0 : ∀ id, firstRegion (loopIn 8 (bodyOf Try.f57)) = some id → L0 id = Dimpl_IsInvariant_l8.oracle (mkK [(59, Kimpl_GoodNet @impl_GoodNet n), (115, Kimpl_weightsOk @impl_weightsOk n)] R) (Pimpl_IsInvariant_l8 @impl_IsInvariant_l8 n R)) : LoopOk Try.prog L0 (loopIn 8 (bodyOf Try.f57)) :=
  leimpl_IsInvariant_l8.ok mixed ttok (fun n => mkK_nat (cimpl_IsInvariant n)) (fun n => mkK_ok (cimpl_IsInvariant n)) (fun n => inimpl_IsInvariant_l8 n R) (mkK_nat (cimpl_IsInvariant n)) h0
@[reducible] def Simpl_IsInvariant_l13 : PkS := ⟨[.one (.ro (.int .i64)), .one (.int .i64), .one (.ro (.pr (.sl (.int .i64)) (.sl (.int .i64)))), .one (.int .i64), .one (.int .i64), .one (.ro (.int .i64)), .one (.int .i64), .one (.int .i64), .one (.dead), .one (.dead)], []⟩
@[reducible] def Timpl_IsInvariant_l13_0 : PkS := ⟨[.one (.ro (.int .i64)), .one (.int .i64), .one (.ro (.pr (.sl (.int .i64)) (.sl (.int .i64)))), .one (.int .i64), .one (.int .i64), .one (.dead), .one (.dead)], []⟩
def Dimpl_IsInvariant_l13 : LoopD := ⟨61, [1, 8, 24, 25, 26, 45, 46, 47], [.one (.ro (.int .i64)), .one .any, .one (.ro (.pr (.sl (.int .i64)) (.sl (.int .i64)))), .one .any, .one .any, .one (.ro (.int .i64)), .one .any, .one .any, .skip, .skip], fun x => match x with
  | .exit 4 => some ([1, 8, 24, 25, 26], [.one (.ro (.int .i64)), .one .any, .one (.ro (.pr (.sl (.int .i64)) (.sl (.int .i64)))), .one .any, .one .any, .skip, .skip])
  | _ => none⟩
def Pimpl_IsInvariant_l13 (g : ∀ {R : Type}, Nat → (List Int) → Int → (List (List Int × List Int)) → Int → Int → (List Int) → Int → Int → ((List Int) → Int → (List (List Int × List Int)) → Int → Int → Option R) → Option R) (n : Nat) : LPs := fun R q kk => match (PkS.un Simpl_IsInvariant_l13 q : Option ((List Int) × Int × (List (List Int × List Int)) × Int × Int × (List Int) × Int × Int × Unit)) with
  | some (y13_0, y13_1, y13_2, y13_3, y13_4, y13_5, y13_6, y13_7, _) => g n y13_0 y13_1 y13_2 y13_3 y13_4 y13_5 y13_6 y13_7 (fun r0 r1 r2 r3 r4 => kk (.exit 4) (PkS.pack Timpl_IsInvariant_l13_0 (r0, r1, r2, r3, r4, ())))
  | none => none
theorem eimpl_IsInvariant_l13 (impl_GoodNet : ∀ {R : Type}, Nat → Int → (List (List Int × List Int)) → (Bool → Option R) → Option R) (impl_weightsOk : ∀ {R : Type}, Nat → (List Int) → Int → (Bool → Option R) → Option R) (impl_IsInvariant_l8 : ∀ {R : Type}, Nat → (List Int) → Int → (List (List Int × List Int)) → Int → Int → (List Int) → Int → Int → (List Int) → (List Int) → ((List Int) → Int → (List (List Int × List Int)) → Int → Int → (List Int) → (List Int) → Option R) → Option R) (impl_IsInvariant_l13 : ∀ {R : Type}, Nat → (List Int) → Int → (List (List Int × List Int)) → Int → Int → (List Int) → Int → Int → ((List Int) → Int → (List (List Int × List Int)) → Int → Int → Option R) → Option R) {R : Type} (n : Nat) (y13_0 : List Int) (y13_1 : Int) (y13_2 : List (List Int × List Int)) (y13_3 : Int) (y13_4 : Int) (y13_5 : List Int) (y13_6 : Int) (y13_7 : Int) (kk : Ex → Pk → Option R) : Dimpl_IsInvariant_l13.step tt sig (mkK [(59, Kimpl_GoodNet @impl_GoodNet n), (115, Kimpl_weightsOk @impl_weightsOk n)] R) (mkL (mkK [(59, Kimpl_GoodNet @impl_GoodNet n), (115, Kimpl_weightsOk @impl_weightsOk n)]) [(8, Dimpl_IsInvariant_l8, Pimpl_IsInvariant_l8 @impl_IsInvariant_l8 n)] R) (loopIn 13 (bodyOf Try.f57)) (fun q' => Pimpl_IsInvariant_l13 @impl_IsInvariant_l13 n R q' kk) (PkS.pack Simpl_IsInvariant_l13 (y13_0, y13_1, y13_2, y13_3, y13_4, y13_5, y13_6, y13_7, ())) kk = (fun (kexit4 : (List Int) → Int → (List (List Int × List Int)) → Int → Int → Option R) => (bif (decide (y13_7 < y13_6)) then (bif decide (0 ≤ y13_7) then (bif decide (y13_7 < (y13_5.length : Int)) then (bif decide (0 ≤ (y13_5.getD (Int.toNat y13_7) 0)) then (bif decide ((y13_5.getD (Int.toNat y13_7) 0) < (y13_0.length : Int)) then impl_IsInvariant_l13 n y13_0 (IntKind.wrap .i64 (y13_1 + (y13_0.getD (Int.toNat (y13_5.getD (Int.toNat y13_7) 0)) 0))) y13_2 y13_3 y13_4 y13_5 y13_6 (IntKind.wrap .i64 (y13_7 + 1)) kexit4 else none) else none) else none) else none) else kexit4 y13_0 y13_1 y13_2 y13_3 y13_4)) (fun r0 r1 r2 r3 r4 => kk (.exit 4) (PkS.pack Timpl_IsInvariant_l13_0 (r0, r1, r2, r3, r4, ()))) := by kernel_rfl
theorem leimpl_IsInvariant_l13 : LoopEq tt sig (fun n => mkK [(59, Kimpl_GoodNet @impl_GoodNet n), (115, Kimpl_weightsOk @impl_weightsOk n)]) (fun n => mkL (mkK [(59, Kimpl_GoodNet @impl_GoodNet n), (115, Kimpl_weightsOk @impl_weightsOk n)]) [(8, Dimpl_IsInvariant_l8, Pimpl_IsInvariant_l8 @impl_IsInvariant_l8 n)]) Dimpl_IsInvariant_l13 Simpl_IsInvariant_l13 (loopIn 13 (bodyOf Try.f57)) (Pimpl_IsInvariant_l13 @impl_IsInvariant_l13) where
  zero R q kk := by unfold Pimpl_IsInvariant_l13; cases (PkS.un Simpl_IsInvariant_l13 q) <;> rfl
  succ n R q kk := by
    unfold Pimpl_IsInvariant_l13
    cases h : (PkS.un Simpl_IsInvariant_l13 q) with
    | none => rfl
    | some d =>
      obtain ⟨y13_0, y13_1, y13_2, y13_3, y13_4, y13_5, y13_6, y13_7, u⟩ := (d : (List Int) × Int × (List (List Int × List Int)) × Int × Int × (List Int) × Int × Int × Unit)
      have hp := PkS.un_pack h
      subst hp
      exact (eimpl_IsInvariant_l13 @impl_GoodNet @impl_weightsOk @impl_IsInvariant_l8 @impl_IsInvariant_l13 n y13_0 y13_1 y13_2 y13_3 y13_4 y13_5 y13_6 y13_7 kk).symm
theorem nlimpl_IsInvariant_l13 : ∀ n, NatLP (Pimpl_IsInvariant_l13 @impl_IsInvariant_l13 n) := leimpl_IsInvariant_l13.nat (fun n => mkK_nat (cimpl_IsInvariant n)) fun n => mkL_nat (mkK_nat (cimpl_IsInvariant n)) (l := [(8, Dimpl_IsInvariant_l8, Pimpl_IsInvariant_l8 @impl_IsInvariant_l8 n)]) ⟨nlimpl_IsInvariant_l8 n, trivial⟩
theorem inimpl_IsInvariant_l13 (n : Nat) (R : Type) : LoopsOk Try.prog (mkL (mkK [(59, Kimpl_GoodNet @impl_GoodNet n), (115, Kimpl_weightsOk @impl_weightsOk n)]) [(8, Dimpl_IsInvariant_l8, Pimpl_IsInvariant_l8 @impl_IsInvariant_l8 n)] R) (loopIn 13 (bodyOf Try.f57)) := .eq (l := []) (by kernel_rfl) trivial
theorem lkimpl_IsInvariant_l13 (n : Nat) (R : Type) (L0 : LK R) (h0 : ∀ id, firstRegion (loopIn 13 (bodyOf Try.f57)) = some id → L0 id = Dimpl_IsInvariant_l13.oracle (mkK [(59, Kimpl_GoodNet @impl_GoodNet n), (115, Kimpl_weightsOk @impl_weightsOk n)] R) (Pimpl_IsInvariant_l13 @impl_IsInvariant_l13 n R)) : LoopOk Try.prog L0 (loopIn 13 (bodyOf Try.f57)) :=
  leimpl_IsInvariant_l13.ok mixed ttok (fun n => mkK_nat (cimpl_IsInvariant n)) (fun n => mkK_ok (cimpl_IsInvariant n)) (fun n => inimpl_IsInvariant_l13 n R) (mkK_nat (cimpl_IsInvariant n)) h0
@[reducible] def Simpl_IsInvariant_l4 : PkS := ⟨[.one (.ro (.int .i64)), .one (.ro (.pr (.sl (.int .i64)) (.sl (.int .i64)))), .one (.int .i64), .one (.int .i64), .one (.dead), .one (.dead)], []⟩
@[reducible] def Timpl_IsInvariant_l4_0 : PkS := ⟨[.one (.bool), .one (.bool), .one (.dead), .one (.dead)], []⟩
@[reducible] def Timpl_IsInvariant_l4_1 : PkS := ⟨[.one (.dead), .one (.dead)], []⟩
def Dimpl_IsInvariant_l4 : LoopD := ⟨61, [1, 24, 25, 26], [.one (.ro (.int .i64)), .one (.ro (.pr (.sl (.int .i64)) (.sl (.int .i64)))), .one .any, .one .any, .skip, .skip], fun x => match x with
  | .ret => some ([4, 5], [.one .any, .one .any, .skip, .skip])
  | .exit 0 => some ([], [.skip, .skip])
  | _ => none⟩
def Pimpl_IsInvariant_l4 (g : ∀ {R : Type}, Nat → (List Int) → (List (List Int × List Int)) → Int → Int → (Bool → Bool → Option R) → (Option R) → Option R) (n : Nat) : LPs := fun R q kk => match (PkS.un Simpl_IsInvariant_l4 q : Option ((List Int) × (List (List Int × List Int)) × Int × Int × Unit)) with
  | some (y4_0, y4_1, y4_2, y4_3, _) => g n y4_0 y4_1 y4_2 y4_3 (fun r0 r1 => kk .ret (PkS.pack Timpl_IsInvariant_l4_0 (r0, r1, ()))) (kk (.exit 0) (PkS.pack Timpl_IsInvariant_l4_1 ()))
  | none => none
theorem eimpl_IsInvariant_l4 (impl_GoodNet : ∀ {R : Type}, Nat → Int → (List (List Int × List Int)) → (Bool → Option R) → Option R) (impl_weightsOk : ∀ {R : Type}, Nat → (List Int) → Int → (Bool → Option R) → Option R) (impl_IsInvariant_l8 : ∀ {R : Type}, Nat → (List Int) → Int → (List (List Int × List Int)) → Int → Int → (List Int) → Int → Int → (List Int) → (List Int) → ((List Int) → Int → (List (List Int × List Int)) → Int → Int → (List Int) → (List Int) → Option R) → Option R) (impl_IsInvariant_l13 : ∀ {R : Type}, Nat → (List Int) → Int → (List (List Int × List Int)) → Int → Int → (List Int) → Int → Int → ((List Int) → Int → (List (List Int × List Int)) → Int → Int → Option R) → Option R) (impl_IsInvariant_l4 : ∀ {R : Type}, Nat → (List Int) → (List (List Int × List Int)) → Int → Int → (Bool → Bool → Option R) → (Option R) → Option R) {R : Type} (n : Nat) (y4_0 : List Int) (y4_1 : List (List Int × List Int)) (y4_2 : Int) (y4_3 : Int) (kk : Ex → Pk → Option R) : Dimpl_IsInvariant_l4.step tt sig (mkK [(59, Kimpl_GoodNet @impl_GoodNet n), (115, Kimpl_weightsOk @impl_weightsOk n)] R) (mkL (mkK [(59, Kimpl_GoodNet @impl_GoodNet n), (115, Kimpl_weightsOk @impl_weightsOk n)]) [(8, Dimpl_IsInvariant_l8, Pimpl_IsInvariant_l8 @impl_IsInvariant_l8 n), (13, Dimpl_IsInvariant_l13, Pimpl_IsInvariant_l13 @impl_IsInvariant_l13 n)] R) (loopIn 4 (bodyOf Try.f57)) (fun q' => Pimpl_IsInvariant_l4 @impl_IsInvariant_l4 n R q' kk) (PkS.pack Simpl_IsInvariant_l4 (y4_0, y4_1, y4_2, y4_3, ())) kk = (fun (kret : Bool → Bool → Option R) (kexit0 : Option R) => (bif (decide (y4_3 < y4_2)) then (bif decide (0 ≤ y4_3) then (bif decide (y4_3 < (y4_1.length : Int)) then (impl_IsInvariant_l8 n y4_0 0 y4_1 y4_2 y4_3 ((y4_1.getD (Int.toNat y4_3) ([], [])).1) (((y4_1.getD (Int.toNat y4_3) ([], [])).1).length : Int) 0 ((y4_1.getD (Int.toNat y4_3) ([], [])).1) ((y4_1.getD (Int.toNat y4_3) ([], [])).2) (fun r3 r4 r5 r6 r7 r8 r9 => (impl_IsInvariant_l13 n r3 r4 r5 r6 r7 r9 (r9.length : Int) 0 (fun r10 r11 r12 r13 r14 => (bif (r11 != 0) then kret false true else impl_IsInvariant_l4 n r10 r12 r13 (IntKind.wrap .i64 (r14 + 1)) kret kexit0))))) else none) else none) else kexit0)) (fun r0 r1 => kk .ret (PkS.pack Timpl_IsInvariant_l4_0 (r0, r1, ()))) (kk (.exit 0) (PkS.pack Timpl_IsInvariant_l4_1 ())) := by kernel_rfl
theorem leimpl_IsInvariant_l4 : LoopEq tt sig (fun n => mkK [(59, Kimpl_GoodNet @impl_GoodNet n), (115, Kimpl_weightsOk @impl_weightsOk n)]) (fun n => mkL (mkK [(59, Kimpl_GoodNet @impl_GoodNet n), (115, Kimpl_weightsOk @impl_weightsOk n)]) [(8, Dimpl_IsInvariant_l8, Pimpl_IsInvariant_l8 @impl_IsInvariant_l8 n), (13, Dimpl_IsInvariant_l13, Pimpl_IsInvariant_l13 @impl_IsInvariant_l13 n)]) Dimpl_IsInvariant_l4 Simpl_IsInvariant_l4 (loopIn 4 (bodyOf Try.f57)) (Pimpl_IsInvariant_l4 @impl_IsInvariant_l4) where
  zero R q kk := by unfold Pimpl_IsInvariant_l4; cases (PkS.un Simpl_IsInvariant_l4 q) <;> rfl
  succ n R q kk := by
    unfold Pimpl_IsInvariant_l4
    cases h : (PkS.un Simpl_IsInvariant_l4 q) with
    | none => rfl
    | some d =>
      obtain ⟨y4_0, y4_1, y4_2, y4_3, u⟩ := (d : (List Int) × (List (List Int × List Int)) × Int × Int × Unit)
      have hp := PkS.un_pack h
      subst hp
      exact (eimpl_IsInvariant_l4 @impl_GoodNet @impl_weightsOk @impl_IsInvariant_l8 @impl_IsInvariant_l13 @impl_IsInvariant_l4 n y4_0 y4_1 y4_2 y4_3 kk).symm
theorem nlimpl_IsInvariant_l4 : ∀ n, NatLP (Pimpl_IsInvariant_l4 @impl_IsInvariant_l4 n) := leimpl_IsInvariant_l4.nat (fun n => mkK_nat (cimpl_IsInvariant n)) fun n => mkL_nat (mkK_nat (cimpl_IsInvariant n)) (l := [(8, Dimpl_IsInvariant_l8, Pimpl_IsInvariant_l8 @impl_IsInvariant_l8 n), (13, Dimpl_IsInvariant_l13, Pimpl_IsInvariant_l13 @impl_IsInvariant_l13 n)]) ⟨nlimpl_IsInvariant_l8 n, ⟨nlimpl_IsInvariant_l13 n, trivial⟩⟩
theorem inimpl_IsInvariant_l4 (n : Nat) (R : Type) : LoopsOk Try.prog (mkL (mkK [(59, Kimpl_GoodNet @impl_GoodNet n), (115, Kimpl_weightsOk @impl_weightsOk n)]) [(8, Dimpl_IsInvariant_l8, Pimpl_IsInvariant_l8 @impl_IsInvariant_l8 n), (13, Dimpl_IsInvariant_l13, Pimpl_IsInvariant_l13 @impl_IsInvariant_l13 n)] R) (loopIn 4 (bodyOf Try.f57)) := .eq (l := [.lo (loopIn 8 (bodyOf Try.f57)), .lo (loopIn 13 (bodyOf Try.f57))]) (by kernel_rfl) ⟨(lkimpl_IsInvariant_l8 n R _ (at_id (i := 8) (by kernel_rfl) rfl)), ⟨(lkimpl_IsInvariant_l13 n R _ (at_id (i := 13) (by kernel_rfl) rfl)), trivial⟩⟩
theorem lkimpl_IsInvariant_l4 (n : Nat) (R : Type) (L0 : LK R) (h0 : ∀ id, firstRegion (loopIn 4 (bodyOf Try.f57)) = some id → L0 id = Dimpl_IsInvariant_l4.oracle (mkK [(59, Kimpl_GoodNet @impl_GoodNet n), (115, Kimpl_weightsOk @impl_weightsOk n)] R) (Pimpl_IsInvariant_l4 @impl_IsInvariant_l4 n R)) : LoopOk Try.prog L0 (loopIn 4 (bodyOf Try.f57)) :=
  leimpl_IsInvariant_l4.ok mixed ttok (fun n => mkK_nat (cimpl_IsInvariant n)) (fun n => mkK_ok (cimpl_IsInvariant n)) (fun n => inimpl_IsInvariant_l4 n R) (mkK_nat (cimpl_IsInvariant n)) h0
@[reducible] def Simpl_IsInvariant : PkS := ⟨[.agg [.int .i64, .ro (.pr (.sl (.int .i64)) (.sl (.int .i64)))], .one (.ro (.int .i64))], []⟩
@[reducible] def Timpl_IsInvariant : PkS := ⟨[.tup [(false, [.bool]), (false, [.bool])], .one (.dead), .one (.dead)], []⟩
def Himpl_IsInvariant : List Sh := [.tup [(false, [.any]), (false, [.any])], .skip, .skip]
def Kimpl_IsInvariant (g : ∀ {R : Type}, Nat → Int → (List (List Int × List Int)) → (List Int) → (Bool → Bool → Option R) → Option R) (n : Nat) : KPs := fun R p k => match (PkS.un Simpl_IsInvariant p : Option (Int × (List (List Int × List Int)) × (List Int) × Unit)) with
  | some (x0, x1, x2, _) => g n x0 x1 x2 (fun r0 r1 => k (PkS.pack Timpl_IsInvariant (r0, r1, ())))
  | none => none
theorem eimpl_IsInvariant (impl_GoodNet : ∀ {R : Type}, Nat → Int → (List (List Int × List Int)) → (Bool → Option R) → Option R) (impl_weightsOk : ∀ {R : Type}, Nat → (List Int) → Int → (Bool → Option R) → Option R) (impl_IsInvariant_l8 : ∀ {R : Type}, Nat → (List Int) → Int → (List (List Int × List Int)) → Int → Int → (List Int) → Int → Int → (List Int) → (List Int) → ((List Int) → Int → (List (List Int × List Int)) → Int → Int → (List Int) → (List Int) → Option R) → Option R) (impl_IsInvariant_l13 : ∀ {R : Type}, Nat → (List Int) → Int → (List (List Int × List Int)) → Int → Int → (List Int) → Int → Int → ((List Int) → Int → (List (List Int × List Int)) → Int → Int → Option R) → Option R) (impl_IsInvariant_l4 : ∀ {R : Type}, Nat → (List Int) → (List (List Int × List Int)) → Int → Int → (Bool → Bool → Option R) → (Option R) → Option R) {R : Type} (n : Nat) (x0 : Int) (x1 : List (List Int × List Int)) (x2 : List Int) (k : Pk → Option R) : evF tt sig (mkK [(59, Kimpl_GoodNet @impl_GoodNet n), (115, Kimpl_weightsOk @impl_weightsOk n)] R) (mkL (mkK [(59, Kimpl_GoodNet @impl_GoodNet n), (115, Kimpl_weightsOk @impl_weightsOk n)]) [(8, Dimpl_IsInvariant_l8, Pimpl_IsInvariant_l8 @impl_IsInvariant_l8 n), (13, Dimpl_IsInvariant_l13, Pimpl_IsInvariant_l13 @impl_IsInvariant_l13 n), (4, Dimpl_IsInvariant_l4, Pimpl_IsInvariant_l4 @impl_IsInvariant_l4 n)] R) Try.f57 Himpl_IsInvariant (PkS.pack Simpl_IsInvariant (x0, x1, x2, ())) k = (fun (k : Bool → Bool → Option R) => (impl_GoodNet n x0 x1 fun r1 => (bif (!r1) then k false false else (impl_weightsOk n x2 x0 fun r2 => (bif (!r2) then k false false else (impl_IsInvariant_l4 n x2 x1 (x1.length : Int) 0 (fun r15 r16 => k r15 r16) (k true true))))))) (fun r0 r1 => k (PkS.pack Timpl_IsInvariant (r0, r1, ()))) := by kernel_rfl
theorem okimpl_IsInvariant (n : Nat) : FnOk Try.prog 57 (Kimpl_IsInvariant @impl_IsInvariant n) := by
  refine fn_ok (sig := sig) mixed ttok (mkK_nat (cimpl_IsInvariant n)) (mkK_ok (cimpl_IsInvariant n)) (mkL_nat (mkK_nat (cimpl_IsInvariant n)) (l := [(8, Dimpl_IsInvariant_l8, Pimpl_IsInvariant_l8 @impl_IsInvariant_l8 n), (13, Dimpl_IsInvariant_l13, Pimpl_IsInvariant_l13 @impl_IsInvariant_l13 n), (4, Dimpl_IsInvariant_l4, Pimpl_IsInvariant_l4 @impl_IsInvariant_l4 n)]) ⟨nlimpl_IsInvariant_l8 n, ⟨nlimpl_IsInvariant_l13 n, ⟨nlimpl_IsInvariant_l4 n, trivial⟩⟩⟩) (fn := Try.f57) (c := bodyOf Try.f57) (by kernel_rfl) (by kernel_rfl) (by kernel_rfl) (.eq (l := [.lo (loopIn 4 (bodyOf Try.f57))]) (by kernel_rfl) ⟨(lkimpl_IsInvariant_l4 n _ _ (at_id (i := 4) (by kernel_rfl) rfl)), trivial⟩) (shs := Himpl_IsInvariant) (S := Simpl_IsInvariant) (h1 := by kernel_rfl) fun R p k => ?_
  unfold Kimpl_IsInvariant
  cases h : (PkS.un Simpl_IsInvariant p) with
  | none => rfl
  | some d =>
    obtain ⟨x0, x1, x2, u⟩ := (d : Int × (List (List Int × List Int)) × (List Int) × Unit)
    have hp := PkS.un_pack h
    subst hp
    exact (eimpl_IsInvariant @impl_GoodNet @impl_weightsOk @impl_IsInvariant_l8 @impl_IsInvariant_l13 @impl_IsInvariant_l4 n x0 x1 x2 k).symm

/-! ### loop.example/g00269/spec.l1In -/
theorem cspec_l1In (n : Nat) : AllOk Try.prog [] := trivial
@[reducible] def Sspec_l1In : PkS := ⟨[.one (.int .i64), .one (.int .i64), .one (.int .i64)], []⟩
@[reducible] def Tspec_l1In : PkS := ⟨[.one (.bool), .one (.dead), .one (.dead), .one (.dead)], []⟩
def Hspec_l1In : List Sh := [.one .any, .skip, .skip, .skip]
def Kspec_l1In (g : ∀ {R : Type}, Nat → Int → Int → Int → (Bool → Option R) → Option R) (n : Nat) : KPs := fun R p k => match (PkS.un Sspec_l1In p : Option (Int × Int × Int × Unit)) with
  | some (x0, x1, x2, _) => g n x0 x1 x2 (fun r0 => k (PkS.pack Tspec_l1In (r0, ())))
  | none => none
theorem espec_l1In  {R : Type} (n : Nat) (x0 : Int) (x1 : Int) (x2 : Int) (k : Pk → Option R) : evF tt sig (mkK [] R) (mkL (mkK []) [] R) Try.f72 Hspec_l1In (PkS.pack Sspec_l1In (x0, x1, x2, ())) k = (fun (k : Bool → Option R) => (bif (decide (x0 ≥ x1)) then k (decide (x0 ≤ x2)) else k false)) (fun r0 => k (PkS.pack Tspec_l1In (r0, ()))) := by kernel_rfl
theorem okspec_l1In (n : Nat) : FnOk Try.prog 72 (Kspec_l1In @spec_l1In n) := by
  refine fn_ok (sig := sig) mixed ttok (mkK_nat (cspec_l1In n)) (mkK_ok (cspec_l1In n)) (mkL_nat (mkK_nat (cspec_l1In n)) (l := []) trivial) (fn := Try.f72) (c := bodyOf Try.f72) (by kernel_rfl) (by kernel_rfl) (by kernel_rfl) (.eq (l := []) (by kernel_rfl) trivial) (shs := Hspec_l1In) (S := Sspec_l1In) (h1 := by kernel_rfl) fun R p k => ?_
  unfold Kspec_l1In
  cases h : (PkS.un Sspec_l1In p) with
  | none => rfl
  | some d =>
    obtain ⟨x0, x1, x2, u⟩ := (d : Int × Int × Int × Unit)
    have hp := PkS.un_pack h
    subst hp
    exact (espec_l1In  n x0 x1 x2 k).symm

/-! ### loop.example/g00269/spec.l3List -/
theorem cspec_l3List (n : Nat) : AllOk Try.prog [(72, Kspec_l1In @spec_l1In n)] := ⟨okspec_l1In n, trivial⟩
@[reducible] def Sspec_l3List_l2 : PkS := ⟨[.one (.ro (.int .i64)), .one (.int .i64), .one (.ro (.int .i64)), .one (.int .i64), .one (.int .i64), .one (.dead), .one (.dead)], []⟩
@[reducible] def Tspec_l3List_l2_0 : PkS := ⟨[.one (.bool), .one (.dead), .one (.dead)], []⟩
@[reducible] def Tspec_l3List_l2_1 : PkS := ⟨[.one (.dead), .one (.dead)], []⟩
def Dspec_l3List_l2 : LoopD := ⟨33, [0, 1, 7, 8, 9], [.one (.ro (.int .i64)), .one .any, .one (.ro (.int .i64)), .one .any, .one .any, .skip, .skip], fun x => match x with
  | .ret => some ([4], [.one .any, .skip, .skip])
  | .exit 0 => some ([], [.skip, .skip])
  | _ => none⟩
def Pspec_l3List_l2 (g : ∀ {R : Type}, Nat → (List Int) → Int → (List Int) → Int → Int → (Bool → Option R) → (Option R) → Option R) (n : Nat) : LPs := fun R q kk => match (PkS.un Sspec_l3List_l2 q : Option ((List Int) × Int × (List Int) × Int × Int × Unit)) with
  | some (y2_0, y2_1, y2_2, y2_3, y2_4, _) => g n y2_0 y2_1 y2_2 y2_3 y2_4 (fun r0 => kk .ret (PkS.pack Tspec_l3List_l2_0 (r0, ()))) (kk (.exit 0) (PkS.pack Tspec_l3List_l2_1 ()))
  | none => none
theorem espec_l3List_l2 (spec_l1In : ∀ {R : Type}, Nat → Int → Int → Int → (Bool → Option R) → Option R) (spec_l3List_l2 : ∀ {R : Type}, Nat → (List Int) → Int → (List Int) → Int → Int → (Bool → Option R) → (Option R) → Option R) {R : Type} (n : Nat) (y2_0 : List Int) (y2_1 : Int) (y2_2 : List Int) (y2_3 : Int) (y2_4 : Int) (kk : Ex → Pk → Option R) : Dspec_l3List_l2.step tt sig (mkK [(72, Kspec_l1In @spec_l1In n)] R) (mkL (mkK [(72, Kspec_l1In @spec_l1In n)]) [] R) (loopIn 2 (bodyOf Try.f119)) (fun q' => Pspec_l3List_l2 @spec_l3List_l2 n R q' kk) (PkS.pack Sspec_l3List_l2 (y2_0, y2_1, y2_2, y2_3, y2_4, ())) kk = (fun (kret : Bool → Option R) (kexit0 : Option R) => (bif (decide (y2_4 < y2_3)) then (bif decide (0 ≤ y2_4) then (bif decide (y2_4 < (y2_2.length : Int)) then (spec_l1In n (y2_2.getD (Int.toNat y2_4) 0) 0 (IntKind.wrap .i64 (y2_1 - 1)) fun r1 => (bif (!r1) then kret false else (bif (decide (y2_4 > 0)) then (bif decide (0 ≤ (IntKind.wrap .i64 (y2_4 - 1))) then (bif decide ((IntKind.wrap .i64 (y2_4 - 1)) < (y2_0.length : Int)) then (bif (decide ((y2_0.getD (Int.toNat (IntKind.wrap .i64 (y2_4 - 1))) 0) ≥ (y2_2.getD (Int.toNat y2_4) 0))) then kret false else spec_l3List_l2 n y2_0 y2_1 y2_2 y2_3 (IntKind.wrap .i64 (y2_4 + 1)) kret kexit0) else none) else none) else spec_l3List_l2 n y2_0 y2_1 y2_2 y2_3 (IntKind.wrap .i64 (y2_4 + 1)) kret kexit0))) else none) else none) else kexit0)) (fun r0 => kk .ret (PkS.pack Tspec_l3List_l2_0 (r0, ()))) (kk (.exit 0) (PkS.pack Tspec_l3List_l2_1 ())) := by kernel_rfl
theorem lespec_l3List_l2 : LoopEq tt sig (fun n => mkK [(72, Kspec_l1In @spec_l1In n)]) (fun n => mkL (mkK [(72, Kspec_l1In @spec_l1In n)]) []) Dspec_l3List_l2 Sspec_l3List_l2 (loopIn 2 (bodyOf Try.f119)) (Pspec_l3List_l2 @spec_l3List_l2) where
  zero R q kk := by unfold Pspec_l3List_l2; cases (PkS.un Sspec_l3List_l2 q) <;> rfl
  succ n R q kk := by
    unfold Pspec_l3List_l2
    cases h : (PkS.un Sspec_l3List_l2 q) with
    | none => rfl
    | some d =>
      obtain ⟨y2_0, y2_1, y2_2, y2_3, y2_4, u⟩ := (d : (List Int) × Int × (List Int) × Int × Int × Unit)
      have hp := PkS.un_pack h
      subst hp
      exact (espec_l3List_l2 @spec_l1In @spec_l3List_l2 n y2_0 y2_1 y2_2 y2_3 y2_4 kk).symm
theorem nlspec_l3List_l2 : ∀ n, NatLP (Pspec_l3List_l2 @spec_l3List_l2 n) := lespec_l3List_l2.nat (fun n => mkK_nat (cspec_l3List n)) fun n => mkL_nat (mkK_nat (cspec_l3List n)) (l := []) trivial
theorem inspec_l3List_l2 (n : Nat) (R : Type) : LoopsOk Try.prog (mkL (mkK [(72, Kspec_l1In @spec_l1In n)]) [] R) (loopIn 2 (bodyOf Try.f119)) := .eq (l := []) (by kernel_rfl) trivial
theorem lkspec_l3List_l2 (n : Nat) (R : Type) (L0 : LK R) (h0 : ∀ id, firstRegion (loopIn 2 (bodyOf Try.f119)) = some id → L0 id = Dspec_l3List_l2.oracle (mkK [(72, Kspec_l1In @spec_l1In n)] R) (Pspec_l3List_l2 @spec_l3List_l2 n R)) : LoopOk Try.prog L0 (loopIn 2 (bodyOf Try.f119)) :=
  lespec_l3List_l2.ok mixed ttok (fun n => mkK_nat (cspec_l3List n)) (fun n => mkK_ok (cspec_l3List n)) (fun n => inspec_l3List_l2 n R) (mkK_nat (cspec_l3List n)) h0
@[reducible] def Sspec_l3List : PkS := ⟨[.one (.ro (.int .i64)), .one (.int .i64)], []⟩
@[reducible] def Tspec_l3List : PkS := ⟨[.one (.bool), .one (.dead), .one (.dead)], []⟩
def Hspec_l3List : List Sh := [.one .any, .skip, .skip]
def Kspec_l3List (g : ∀ {R : Type}, Nat → (List Int) → Int → (Bool → Option R) → Option R) (n : Nat) : KPs := fun R p k => match (PkS.un Sspec_l3List p : Option ((List Int) × Int × Unit)) with
  | some (x0, x1, _) => g n x0 x1 (fun r0 => k (PkS.pack Tspec_l3List (r0, ())))
  | none => none
theorem espec_l3List (spec_l1In : ∀ {R : Type}, Nat → Int → Int → Int → (Bool → Option R) → Option R) (spec_l3List_l2 : ∀ {R : Type}, Nat → (List Int) → Int → (List Int) → Int → Int → (Bool → Option R) → (Option R) → Option R) {R : Type} (n : Nat) (x0 : List Int) (x1 : Int) (k : Pk → Option R) : evF tt sig (mkK [(72, Kspec_l1In @spec_l1In n)] R) (mkL (mkK [(72, Kspec_l1In @spec_l1In n)]) [(2, Dspec_l3List_l2, Pspec_l3List_l2 @spec_l3List_l2 n)] R) Try.f119 Hspec_l3List (PkS.pack Sspec_l3List (x0, x1, ())) k = (fun (k : Bool → Option R) => (spec_l3List_l2 n x0 x1 x0 (x0.length : Int) 0 (fun r2 => k r2) (k true))) (fun r0 => k (PkS.pack Tspec_l3List (r0, ()))) := by kernel_rfl
theorem okspec_l3List (n : Nat) : FnOk Try.prog 119 (Kspec_l3List @spec_l3List n) := by
  refine fn_ok (sig := sig) mixed ttok (mkK_nat (cspec_l3List n)) (mkK_ok (cspec_l3List n)) (mkL_nat (mkK_nat (cspec_l3List n)) (l := [(2, Dspec_l3List_l2, Pspec_l3List_l2 @spec_l3List_l2 n)]) ⟨nlspec_l3List_l2 n, trivial⟩) (fn := Try.f119) (c := bodyOf Try.f119) (by kernel_rfl) (by kernel_rfl) (by kernel_rfl) (.eq (l := [.lo (loopIn 2 (bodyOf Try.f119))]) (by kernel_rfl) ⟨(lkspec_l3List_l2 n _ _ (at_id (i := 2) (by kernel_rfl) rfl)), trivial⟩) (shs := Hspec_l3List) (S := Sspec_l3List) (h1 := by kernel_rfl) fun R p k => ?_
  unfold Kspec_l3List
  cases h : (PkS.un Sspec_l3List p) with
  | none => rfl
  | some d =>
    obtain ⟨x0, x1, u⟩ := (d : (List Int) × Int × Unit)
    have hp := PkS.un_pack h
    subst hp
    exact (espec_l3List @spec_l1In @spec_l3List_l2 n x0 x1 k).symm

/-! ### loop.example/g00269/spec.GoodNet -/
theorem cspec_GoodNet (n : Nat) : AllOk Try.prog [(119, Kspec_l3List @spec_l3List n), (72, Kspec_l1In @spec_l1In n)] := ⟨okspec_l3List n, ⟨okspec_l1In n, trivial⟩⟩
@[reducible] def Sspec_GoodNet_l2 : PkS := ⟨[.one (.box (100000, 0) 0), .one (.ro (.pr (.sl (.int .i64)) (.sl (.int .i64)))), .one (.int .i64), .one (.int .i64), .one (.dead)], [((100000, 0), .box [.int .i64, .ro (.pr (.sl (.int .i64)) (.sl (.int .i64)))])]⟩
@[reducible] def Tspec_GoodNet_l2_0 : PkS := ⟨[.one (.bool), .one (.dead)], []⟩
@[reducible] def Tspec_GoodNet_l2_1 : PkS := ⟨[.one (.box (100000, 0) 0), .one (.dead)], [((100000, 0), .box [.int .i64, .ro (.pr (.sl (.int .i64)) (.sl (.int .i64)))])]⟩
def Dspec_GoodNet_l2 : LoopD := ⟨36, [1, 6, 7, 8], [.box [.any, (.ro (.pr (.sl (.int .i64)) (.sl (.int .i64))))], .one (.ro (.pr (.sl (.int .i64)) (.sl (.int .i64)))), .one .any, .one .any, .skip], fun x => match x with
  | .ret => some ([2], [.one .any, .skip])
  | .exit 0 => some ([1], [.box [.any, (.ro (.pr (.sl (.int .i64)) (.sl (.int .i64))))], .skip])
  | _ => none⟩
def Pspec_GoodNet_l2 (g : ∀ {R : Type}, Nat → (List (List Int × List Int)) → Int → Int → Int → (List (List Int × List Int)) → (Bool → Option R) → (Int → (List (List Int × List Int)) → Option R) → Option R) (n : Nat) : LPs := fun R q kk => match (PkS.un Sspec_GoodNet_l2 q : Option ((List (List Int × List Int)) × Int × Int × Int × (List (List Int × List Int)) × Unit)) with
  | some (y2_0, y2_1, y2_2, y2_3, y2_4, _) => g n y2_0 y2_1 y2_2 y2_3 y2_4 (fun r0 => kk .ret (PkS.pack Tspec_GoodNet_l2_0 (r0, ()))) (fun r0 r1 => kk (.exit 0) (PkS.pack Tspec_GoodNet_l2_1 (r0, r1, ())))
  | none => none
theorem espec_GoodNet_l2 (spec_l3List : ∀ {R : Type}, Nat → (List Int) → Int → (Bool → Option R) → Option R) (spec_l1In : ∀ {R : Type}, Nat → Int → Int → Int → (Bool → Option R) → Option R) (spec_GoodNet_l2 : ∀ {R : Type}, Nat → (List (List Int × List Int)) → Int → Int → Int → (List (List Int × List Int)) → (Bool → Option R) → (Int → (List (List Int × List Int)) → Option R) → Option R) {R : Type} (n : Nat) (y2_0 : List (List Int × List Int)) (y2_1 : Int) (y2_2 : Int) (y2_3 : Int) (y2_4 : List (List Int × List Int)) (kk : Ex → Pk → Option R) : Dspec_GoodNet_l2.step tt sig (mkK [(119, Kspec_l3List @spec_l3List n), (72, Kspec_l1In @spec_l1In n)] R) (mkL (mkK [(119, Kspec_l3List @spec_l3List n), (72, Kspec_l1In @spec_l1In n)]) [] R) (loopIn 2 (bodyOf Try.f60)) (fun q' => Pspec_GoodNet_l2 @spec_GoodNet_l2 n R q' kk) (PkS.pack Sspec_GoodNet_l2 (y2_0, y2_1, y2_2, y2_3, y2_4, ())) kk = (fun (kret : Bool → Option R) (kexit0 : Int → (List (List Int × List Int)) → Option R) => (bif (decide (y2_2 < y2_1)) then (bif decide (0 ≤ y2_2) then (bif decide (y2_2 < (y2_0.length : Int)) then (spec_l3List n ((y2_0.getD (Int.toNat y2_2) ([], [])).1) y2_3 fun r1 => (bif (!r1) then kret false else (spec_l3List n ((y2_0.getD (Int.toNat y2_2) ([], [])).2) y2_3 fun r2 => (bif (!r2) then kret false else spec_GoodNet_l2 n y2_0 y2_1 (IntKind.wrap .i64 (y2_2 + 1)) y2_3 y2_4 kret kexit0)))) else none) else none) else kexit0 y2_3 y2_4)) (fun r0 => kk .ret (PkS.pack Tspec_GoodNet_l2_0 (r0, ()))) (fun r0 r1 => kk (.exit 0) (PkS.pack Tspec_GoodNet_l2_1 (r0, r1, ()))) := by kernel_rfl
theorem lespec_GoodNet_l2 : LoopEq tt sig (fun n => mkK [(119, Kspec_l3List @spec_l3List n), (72, Kspec_l1In @spec_l1In n)]) (fun n => mkL (mkK [(119, Kspec_l3List @spec_l3List n), (72, Kspec_l1In @spec_l1In n)]) []) Dspec_GoodNet_l2 Sspec_GoodNet_l2 (loopIn 2 (bodyOf Try.f60)) (Pspec_GoodNet_l2 @spec_GoodNet_l2) where
  zero R q kk := by unfold Pspec_GoodNet_l2; cases (PkS.un Sspec_GoodNet_l2 q) <;> rfl
  succ n R q kk := by
    unfold Pspec_GoodNet_l2
    cases h : (PkS.un Sspec_GoodNet_l2 q) with
    | none => rfl
    | some d =>
      obtain ⟨y2_0, y2_1, y2_2, y2_3, y2_4, u⟩ := (d : (List (List Int × List Int)) × Int × Int × Int × (List (List Int × List Int)) × Unit)
      have hp := PkS.un_pack h
      subst hp
      exact (espec_GoodNet_l2 @spec_l3List @spec_l1In @spec_GoodNet_l2 n y2_0 y2_1 y2_2 y2_3 y2_4 kk).symm
theorem nlspec_GoodNet_l2 : ∀ n, NatLP (Pspec_GoodNet_l2 @spec_GoodNet_l2 n) := lespec_GoodNet_l2.nat (fun n => mkK_nat (cspec_GoodNet n)) fun n => mkL_nat (mkK_nat (cspec_GoodNet n)) (l := []) trivial
theorem inspec_GoodNet_l2 (n : Nat) (R : Type) : LoopsOk Try.prog (mkL (mkK [(119, Kspec_l3List @spec_l3List n), (72, Kspec_l1In @spec_l1In n)]) [] R) (loopIn 2 (bodyOf Try.f60)) := .eq (l := []) (by kernel_rfl) trivial
theorem lkspec_GoodNet_l2 (n : Nat) (R : Type) (L0 : LK R) (h0 : ∀ id, firstRegion (loopIn 2 (bodyOf Try.f60)) = some id → L0 id = Dspec_GoodNet_l2.oracle (mkK [(119, Kspec_l3List @spec_l3List n), (72, Kspec_l1In @spec_l1In n)] R) (Pspec_GoodNet_l2 @spec_GoodNet_l2 n R)) : LoopOk Try.prog L0 (loopIn 2 (bodyOf Try.f60)) :=
  lespec_GoodNet_l2.ok mixed ttok (fun n => mkK_nat (cspec_GoodNet n)) (fun n => mkK_ok (cspec_GoodNet n)) (fun n => inspec_GoodNet_l2 n R) (mkK_nat (cspec_GoodNet n)) h0
@[reducible] def Sspec_GoodNet : PkS := ⟨[.agg [.int .i64, .ro (.pr (.sl (.int .i64)) (.sl (.int .i64)))]], []⟩
@[reducible] def Tspec_GoodNet : PkS := ⟨[.one (.bool), .one (.dead)], []⟩
def Hspec_GoodNet : List Sh := [.one .any, .skip]
def Kspec_GoodNet (g : ∀ {R : Type}, Nat → Int → (List (List Int × List Int)) → (Bool → Option R) → Option R) (n : Nat) : KPs := fun R p k => match (PkS.un Sspec_GoodNet p : Option (Int × (List (List Int × List Int)) × Unit)) with
  | some (x0, x1, _) => g n x0 x1 (fun r0 => k (PkS.pack Tspec_GoodNet (r0, ())))
  | none => none
theorem espec_GoodNet (spec_l3List : ∀ {R : Type}, Nat → (List Int) → Int → (Bool → Option R) → Option R) (spec_l1In : ∀ {R : Type}, Nat → Int → Int → Int → (Bool → Option R) → Option R) (spec_GoodNet_l2 : ∀ {R : Type}, Nat → (List (List Int × List Int)) → Int → Int → Int → (List (List Int × List Int)) → (Bool → Option R) → (Int → (List (List Int × List Int)) → Option R) → Option R) {R : Type} (n : Nat) (x0 : Int) (x1 : List (List Int × List Int)) (k : Pk → Option R) : evF tt sig (mkK [(119, Kspec_l3List @spec_l3List n), (72, Kspec_l1In @spec_l1In n)] R) (mkL (mkK [(119, Kspec_l3List @spec_l3List n), (72, Kspec_l1In @spec_l1In n)]) [(2, Dspec_GoodNet_l2, Pspec_GoodNet_l2 @spec_GoodNet_l2 n)] R) Try.f60 Hspec_GoodNet (PkS.pack Sspec_GoodNet (x0, x1, ())) k = (fun (k : Bool → Option R) => (spec_GoodNet_l2 n x1 (x1.length : Int) 0 x0 x1 (fun r3 => k r3) (fun r4 r5 => (spec_l1In n r4 1 8 fun r6 => (bif r6 then k (decide ((r5.length : Int) ≤ 12)) else k false))))) (fun r0 => k (PkS.pack Tspec_GoodNet (r0, ()))) := by kernel_rfl
theorem okspec_GoodNet (n : Nat) : FnOk Try.prog 60 (Kspec_GoodNet @spec_GoodNet n) := by
  refine fn_ok (sig := sig) mixed ttok (mkK_nat (cspec_GoodNet n)) (mkK_ok (cspec_GoodNet n)) (mkL_nat (mkK_nat (cspec_GoodNet n)) (l := [(2, Dspec_GoodNet_l2, Pspec_GoodNet_l2 @spec_GoodNet_l2 n)]) ⟨nlspec_GoodNet_l2 n, trivial⟩) (fn := Try.f60) (c := bodyOf Try.f60) (by kernel_rfl) (by kernel_rfl) (by kernel_rfl) (.eq (l := [.lo (loopIn 2 (bodyOf Try.f60))]) (by kernel_rfl) ⟨(lkspec_GoodNet_l2 n _ _ (at_id (i := 2) (by kernel_rfl) rfl)), trivial⟩) (shs := Hspec_GoodNet) (S := Sspec_GoodNet) (h1 := by kernel_rfl) fun R p k => ?_
  unfold Kspec_GoodNet
  cases h : (PkS.un Sspec_GoodNet p) with
  | none => rfl
  | some d =>
    obtain ⟨x0, x1, u⟩ := (d : Int × (List (List Int × List Int)) × Unit)
    have hp := PkS.un_pack h
    subst hp
    exact (espec_GoodNet @spec_l3List @spec_l1In @spec_GoodNet_l2 n x0 x1 k).symm

/-! ### loop.example/g00269/spec.l3Weights -/
theorem cspec_l3Weights (n : Nat) : AllOk Try.prog [(72, Kspec_l1In @spec_l1In n)] := ⟨okspec_l1In n, trivial⟩
@[reducible] def Sspec_l3Weights_l2 : PkS := ⟨[.one (.ro (.int .i64)), .one (.int .i64), .one (.ro (.int .i64)), .one (.int .i64), .one (.int .i64), .one (.dead), .one (.dead)], []⟩
@[reducible] def Tspec_l3Weights_l2_0 : PkS := ⟨[.one (.bool), .one (.dead), .one (.dead)], []⟩
@[reducible] def Tspec_l3Weights_l2_1 : PkS := ⟨[.one (.ro (.int .i64)), .one (.int .i64), .one (.dead), .one (.dead)], []⟩
def Dspec_l3Weights_l2 : LoopD := ⟨21, [0, 1, 7, 8, 9], [.one (.ro (.int .i64)), .one .any, .one (.ro (.int .i64)), .one .any, .one .any, .skip, .skip], fun x => match x with
  | .ret => some ([4], [.one .any, .skip, .skip])
  | .exit 0 => some ([0, 1], [.one (.ro (.int .i64)), .one .any, .skip, .skip])
  | _ => none⟩
def Pspec_l3Weights_l2 (g : ∀ {R : Type}, Nat → (List Int) → Int → (List Int) → Int → Int → (Bool → Option R) → ((List Int) → Int → Option R) → Option R) (n : Nat) : LPs := fun R q kk => match (PkS.un Sspec_l3Weights_l2 q : Option ((List Int) × Int × (List Int) × Int × Int × Unit)) with
  | some (y2_0, y2_1, y2_2, y2_3, y2_4, _) => g n y2_0 y2_1 y2_2 y2_3 y2_4 (fun r0 => kk .ret (PkS.pack Tspec_l3Weights_l2_0 (r0, ()))) (fun r0 r1 => kk (.exit 0) (PkS.pack Tspec_l3Weights_l2_1 (r0, r1, ())))
  | none => none
theorem espec_l3Weights_l2 (spec_l1In : ∀ {R : Type}, Nat → Int → Int → Int → (Bool → Option R) → Option R) (spec_l3Weights_l2 : ∀ {R : Type}, Nat → (List Int) → Int → (List Int) → Int → Int → (Bool → Option R) → ((List Int) → Int → Option R) → Option R) {R : Type} (n : Nat) (y2_0 : List Int) (y2_1 : Int) (y2_2 : List Int) (y2_3 : Int) (y2_4 : Int) (kk : Ex → Pk → Option R) : Dspec_l3Weights_l2.step tt sig (mkK [(72, Kspec_l1In @spec_l1In n)] R) (mkL (mkK [(72, Kspec_l1In @spec_l1In n)]) [] R) (loopIn 2 (bodyOf Try.f116)) (fun q' => Pspec_l3Weights_l2 @spec_l3Weights_l2 n R q' kk) (PkS.pack Sspec_l3Weights_l2 (y2_0, y2_1, y2_2, y2_3, y2_4, ())) kk = (fun (kret : Bool → Option R) (kexit0 : (List Int) → Int → Option R) => (bif (decide (y2_4 < y2_3)) then (bif decide (0 ≤ y2_4) then (bif decide (y2_4 < (y2_2.length : Int)) then (spec_l1In n (y2_2.getD (Int.toNat y2_4) 0) (-100) 100 fun r1 => (bif (!r1) then kret false else spec_l3Weights_l2 n y2_0 y2_1 y2_2 y2_3 (IntKind.wrap .i64 (y2_4 + 1)) kret kexit0)) else none) else none) else kexit0 y2_0 y2_1)) (fun r0 => kk .ret (PkS.pack Tspec_l3Weights_l2_0 (r0, ()))) (fun r0 r1 => kk (.exit 0) (PkS.pack Tspec_l3Weights_l2_1 (r0, r1, ()))) := by kernel_rfl
theorem lespec_l3Weights_l2 : LoopEq tt sig (fun n => mkK [(72, Kspec_l1In @spec_l1In n)]) (fun n => mkL (mkK [(72, Kspec_l1In @spec_l1In n)]) []) Dspec_l3Weights_l2 Sspec_l3Weights_l2 (loopIn 2 (bodyOf Try.f116)) (Pspec_l3Weights_l2 @spec_l3Weights_l2) where
  zero R q kk := by unfold Pspec_l3Weights_l2; cases (PkS.un Sspec_l3Weights_l2 q) <;> rfl
  succ n R q kk := by
    unfold Pspec_l3Weights_l2
    cases h : (PkS.un Sspec_l3Weights_l2 q) with
    | none => rfl
    | some d =>
      obtain ⟨y2_0, y2_1, y2_2, y2_3, y2_4, u⟩ := (d : (List Int) × Int × (List Int) × Int × Int × Unit)
      have hp := PkS.un_pack h
      subst hp
      exact (espec_l3Weights_l2 @spec_l1In @spec_l3Weights_l2 n y2_0 y2_1 y2_2 y2_3 y2_4 kk).symm
theorem nlspec_l3Weights_l2 : ∀ n, NatLP (Pspec_l3Weights_l2 @spec_l3Weights_l2 n) := lespec_l3Weights_l2.nat (fun n => mkK_nat (cspec_l3Weights n)) fun n => mkL_nat (mkK_nat (cspec_l3Weights n)) (l := []) trivial
theorem inspec_l3Weights_l2 (n : Nat) (R : Type) : LoopsOk Try.prog (mkL (mkK [(72, Kspec_l1In @spec_l1In n)]) [] R) (loopIn 2 (bodyOf Try.f116)) := .eq (l := []) (by kernel_rfl) trivial
theorem lkspec_l3Weights_l2 (n : Nat) (R : Type) (L0 : LK R) (h0 : ∀ id, firstRegion (loopIn 2 (bodyOf Try.f116)) = some id → L0 id = Dspec_l3Weights_l2.oracle (mkK [(72, Kspec_l1In @spec_l1In n)] R) (Pspec_l3Weights_l2 @spec_l3Weights_l2 n R)) : LoopOk Try.prog L0 (loopIn 2 (bodyOf Try.f116)) :=
  lespec_l3Weights_l2.ok mixed ttok (fun n => mkK_nat (cspec_l3Weights n)) (fun n => mkK_ok (cspec_l3Weights n)) (fun n => inspec_l3Weights_l2 n R) (mkK_nat (cspec_l3Weights n)) h0
@[reducible] def Sspec_l3Weights : PkS := ⟨[.one (.ro (.int .i64)), .one (.int .i64)], []⟩
@[reducible] def Tspec_l3Weights : PkS := ⟨[.one (.bool), .one (.dead), .one (.dead)], []⟩
def Hspec_l3Weights : List Sh := [.one .any, .skip, .skip]
def Kspec_l3Weights (g : ∀ {R : Type}, Nat → (List Int) → Int → (Bool → Option R) → Option R) (n : Nat) : KPs := fun R p k => match (PkS.un Sspec_l3Weights p : Option ((List Int) × Int × Unit)) with
  | some (x0, x1, _) => g n x0 x1 (fun r0 => k (PkS.pack Tspec_l3Weights (r0, ())))
  | none => none
theorem espec_l3Weights (spec_l1In : ∀ {R : Type}, Nat → Int → Int → Int → (Bool → Option R) → Option R) (spec_l3Weights_l2 : ∀ {R : Type}, Nat → (List Int) → Int → (List Int) → Int → Int → (Bool → Option R) → ((List Int) → Int → Option R) → Option R) {R : Type} (n : Nat) (x0 : List Int) (x1 : Int) (k : Pk → Option R) : evF tt sig (mkK [(72, Kspec_l1In @spec_l1In n)] R) (mkL (mkK [(72, Kspec_l1In @spec_l1In n)]) [(2, Dspec_l3Weights_l2, Pspec_l3Weights_l2 @spec_l3Weights_l2 n)] R) Try.f116 Hspec_l3Weights (PkS.pack Sspec_l3Weights (x0, x1, ())) k = (fun (k : Bool → Option R) => (spec_l3Weights_l2 n x0 x1 x0 (x0.length : Int) 0 (fun r2 => k r2) (fun r3 r4 => k ((r3.length : Int) == r4)))) (fun r0 => k (PkS.pack Tspec_l3Weights (r0, ()))) := by kernel_rfl
theorem okspec_l3Weights (n : Nat) : FnOk Try.prog 116 (Kspec_l3Weights @spec_l3Weights n) := by
  refine fn_ok (sig := sig) mixed ttok (mkK_nat (cspec_l3Weights n)) (mkK_ok (cspec_l3Weights n)) (mkL_nat (mkK_nat (cspec_l3Weights n)) (l := [(2, Dspec_l3Weights_l2, Pspec_l3Weights_l2 @spec_l3Weights_l2 n)]) ⟨nlspec_l3Weights_l2 n, trivial⟩) (fn := Try.f116) (c := bodyOf Try.f116) (by kernel_rfl) (by kernel_rfl) (by kernel_rfl) (.eq (l := [.lo (loopIn 2 (bodyOf Try.f116))]) (by kernel_rfl) ⟨(lkspec_l3Weights_l2 n _ _ (at_id (i := 2) (by kernel_rfl) rfl)), trivial⟩) (shs := Hspec_l3Weights) (S := Sspec_l3Weights) (h1 := by kernel_rfl) fun R p k => ?_
  unfold Kspec_l3Weights
  cases h : (PkS.un Sspec_l3Weights p) with
  | none => rfl
  | some d =>
    obtain ⟨x0, x1, u⟩ := (d : (List Int) × Int × Unit)
    have hp := PkS.un_pack h
    subst hp
    exact (espec_l3Weights @spec_l1In @spec_l3Weights_l2 n x0 x1 k).symm

/-! ### loop.example/g00269/spec.IsInvariant -/
theorem cspec_IsInvariant (n : Nat) : AllOk Try.prog [(60, Kspec_GoodNet @spec_GoodNet n), (116, Kspec_l3Weights @spec_l3Weights n)] := ⟨okspec_GoodNet n, ⟨okspec_l3Weights n, trivial⟩⟩
@[reducible] def Sspec_IsInvariant_l8 : PkS := ⟨[.one (.ro (.int .i64)), .one (.box (100000, 0) 0), .one (.int .i64), .one (.ro (.pr (.sl (.int .i64)) (.sl (.int .i64)))), .one (.int .i64), .one (.int .i64), .one (.ro (.int .i64)), .one (.int .i64), .one (.int .i64), .one (.dead), .one (.dead)], [((100000, 0), .box [.ro (.int .i64), .ro (.int .i64)])]⟩
@[reducible] def Tspec_IsInvariant_l8_0 : PkS := ⟨[.one (.ro (.int .i64)), .one (.box (100000, 0) 0), .one (.int .i64), .one (.ro (.pr (.sl (.int .i64)) (.sl (.int .i64)))), .one (.int .i64), .one (.int .i64), .one (.dead), .one (.dead)], [((100000, 0), .box [.ro (.int .i64), .ro (.int .i64)])]⟩
def Dspec_IsInvariant_l8 : LoopD := ⟨61, [1, 7, 8, 24, 25, 26, 31, 32, 33], [.one (.ro (.int .i64)), .box [(.ro (.int .i64)), (.ro (.int .i64))], .one .any, .one (.ro (.pr (.sl (.int .i64)) (.sl (.int .i64)))), .one .any, .one .any, .one (.ro (.int .i64)), .one .any, .one .any, .skip, .skip], fun x => match x with
  | .exit 2 => some ([1, 7, 8, 24, 25, 26], [.one (.ro (.int .i64)), .box [(.ro (.int .i64)), (.ro (.int .i64))], .one .any, .one (.ro (.pr (.sl (.int .i64)) (.sl (.int .i64)))), .one .any, .one .any, .skip, .skip])
  | _ => none⟩
def Pspec_IsInvariant_l8 (g : ∀ {R : Type}, Nat → (List Int) → Int → (List (List Int × List Int)) → Int → Int → (List Int) → Int → Int → (List Int) → (List Int) → ((List Int) → Int → (List (List Int × List Int)) → Int → Int → (List Int) → (List Int) → Option R) → Option R) (n : Nat) : LPs := fun R q kk => match (PkS.un Sspec_IsInvariant_l8 q : Option ((List Int) × Int × (List (List Int × List Int)) × Int × Int × (List Int) × Int × Int × (List Int) × (List Int) × Unit)) with
  | some (y8_0, y8_1, y8_2, y8_3, y8_4, y8_5, y8_6, y8_7, y8_8, y8_9, _) => g n y8_0 y8_1 y8_2 y8_3 y8_4 y8_5 y8_6 y8_7 y8_8 y8_9 (fun r0 r1 r2 r3 r4 r5 r6 => kk (.exit 2) (PkS.pack Tspec_IsInvariant_l8_0 (r0, r1, r2, r3, r4, r5, r6, ())))
  | none => none
theorem espec_IsInvariant_l8 (spec_GoodNet : ∀ {R : Type}, Nat → Int → (List (List Int × List Int)) → (Bool → Option R) → Option R) (spec_l3Weights : ∀ {R : Type}, Nat → (List Int) → Int → (Bool → Option R) → Option R) (spec_IsInvariant_l8 : ∀ {R : Type}, Nat → (List Int) → Int → (List (List Int × List Int)) → Int → Int → (List Int) → Int → Int → (List Int) → (List Int) → ((List Int) → Int → (List (List Int × List Int)) → Int → Int → (List Int) → (List Int) → Option R) → Option R) {R : Type} (n : Nat) (y8_0 : List Int) (y8_1 : Int) (y8_2 : List (List Int × List Int)) (y8_3 : Int) (y8_4 : Int) (y8_5 : List Int) (y8_6 : Int) (y8_7 : Int) (y8_8 : List Int) (y8_9 : List Int) (kk : Ex → Pk → Option R) : Dspec_IsInvariant_l8.step tt sig (mkK [(60, Kspec_GoodNet @spec_GoodNet n), (116, Kspec_l3Weights @spec_l3Weights n)] R) (mkL (mkK [(60, Kspec_GoodNet @spec_GoodNet n), (116, Kspec_l3Weights @spec_l3Weights n)]) [] R) (loopIn 8 (bodyOf Try.f58)) (fun q' => Pspec_IsInvariant_l8 @spec_IsInvariant_l8 n R q' kk) (PkS.pack Sspec_IsInvariant_l8 (y8_0, y8_1, y8_2, y8_3, y8_4, y8_5, y8_6, y8_7, y8_8, y8_9, ())) kk = (fun (kexit2 : (List Int) → Int → (List (List Int × List Int)) → Int → Int → (List Int) → (List Int) → Option R) => (bif (decide (y8_7 < y8_6)) then (bif decide (0 ≤ y8_7) then (bif decide (y8_7 < (y8_5.length : Int)) then (bif decide (0 ≤ (y8_5.getD (Int.toNat y8_7) 0)) then (bif decide ((y8_5.getD (Int.toNat y8_7) 0) < (y8_0.length : Int)) then spec_IsInvariant_l8 n y8_0 (IntKind.wrap .i64 (y8_1 - (y8_0.getD (Int.toNat (y8_5.getD (Int.toNat y8_7) 0)) 0))) y8_2 y8_3 y8_4 y8_5 y8_6 (IntKind.wrap .i64 (y8_7 + 1)) y8_8 y8_9 kexit2 else none) else none) else none) else none) else kexit2 y8_0 y8_1 y8_2 y8_3 y8_4 y8_8 y8_9)) (fun r0 r1 r2 r3 r4 r5 r6 => kk (.exit 2) (PkS.pack Tspec_IsInvariant_l8_0 (r0, r1, r2, r3, r4, r5, r6, ()))) := by kernel_rfl
theorem lespec_IsInvariant_l8 : LoopEq tt sig (fun n => mkK [(60, Kspec_GoodNet @spec_GoodNet n), (116, Kspec_l3Weights @spec_l3Weights n)]) (fun n => mkL (mkK [(60, Kspec_GoodNet @spec_GoodNet n), (116, Kspec_l3Weights @spec_l3Weights n)]) []) Dspec_IsInvariant_l8 Sspec_IsInvariant_l8 (loopIn 8 (bodyOf Try.f58)) (Pspec_IsInvariant_l8 @spec_IsInvariant_l8) where
  zero R q kk := by unfold Pspec_IsInvariant_l8; cases (PkS.un Sspec_IsInvariant_l8 q) <;> rfl
  succ n R q kk := by
    unfold Pspec_IsInvariant_l8
    cases h : (PkS.un Sspec_IsInvariant_l8 q) with
    | none => rfl
    | some d =>
      obtain ⟨y8_0, y8_1, y8_2, y8_3, y8_4, y8_5, y8_6, y8_7, y8_8, y8_9, u⟩ := (d : (List Int) × Int × (List (List Int × List Int)) × Int × Int × (List Int) × Int × Int × (List Int) × (List Int) × Unit)
      have hp := PkS.un_pack h
      subst hp
      exact (espec_IsInvariant_l8 @spec_GoodNet @spec_l3Weights @spec_IsInvariant_l8 n y8_0 y8_1 y8_2 y8_3 y8_4 y8_5 y8_6 y8_7 y8_8 y8_9 kk).symm
theorem nlspec_IsInvariant_l8 : ∀ n, NatLP (Pspec_IsInvariant_l8 @spec_IsInvariant_l8 n) := lespec_IsInvariant_l8.nat (fun n => mkK_nat (cspec_IsInvariant n)) fun n => mkL_nat (mkK_nat (cspec_IsInvariant n)) (l := []) trivial
theorem inspec_IsInvariant_l8 (n : Nat) (R : Type) : LoopsOk Try.prog (mkL (mkK [(60, Kspec_GoodNet @spec_GoodNet n), (116, Kspec_l3Weights @spec_l3Weights n)]) [] R) (loopIn 8 (bodyOf Try.f58)) := .eq (l := []) (by kernel_rfl) trivial
theorem lkspec_IsInvariant_l8 (n : Nat) (R : Type) (L0 : LK R) (h0 : ∀ id, firstRegion (loopIn 8 (bodyOf Try.f58)) = some id → L0 id = Dspec_IsInvariant_l8.oracle (mkK [(60, Kspec_GoodNet @spec_GoodNet n), (116, Kspec_l3Weights @spec_l3Weights n)] R) (Pspec_IsInvariant_l8 @spec_IsInvariant_l8 n R)) : LoopOk Try.prog L0 (loopIn 8 (bodyOf Try.f58)) :=
  lespec_IsInvariant_l8.ok mixed ttok (fun n => mkK_nat (cspec_IsInvariant n)) (fun n => mkK_ok (cspec_IsInvariant n)) (fun n => inspec_IsInvariant_l8 n R) (mkK_nat (cspec_IsInvariant n)) h0
@[reducible] def Sspec_IsInvariant_l13 : PkS := ⟨[.one (.ro (.int .i64)), .one (.int .i64), .one (.ro (.pr (.sl (.int .i64)) (.sl (.int .i64)))), .one (.int .i64), .one (.int .i64), .one (.ro (.int .i64)), .one (.int .i64), .one (.int .i64), .one (.dead), .one (.dead)], []⟩
@[reducible] def Tspec_IsInvariant_l13_0 : PkS := ⟨[.one (.ro (.int .i64)), .one (.int .i64), .one (.ro (.pr (.sl (.int .i64)) (.sl (.int .i64)))), .one (.int .i64), .one (.int .i64), .one (.dead), .one (.dead)], []⟩
def Dspec_IsInvariant_l13 : LoopD := ⟨61, [1, 8, 24, 25, 26, 45, 46, 47], [.one (.ro (.int .i64)), .one .any, .one (.ro (.pr (.sl (.int .i64)) (.sl (.int .i64)))), .one .any, .one .any, .one (.ro (.int .i64)), .one .any, .one .any, .skip, .skip], fun x => match x with
  | .exit 4 => some ([1, 8, 24, 25, 26], [.one (.ro (.int .i64)), .one .any, .one (.ro (.pr (.sl (.int .i64)) (.sl (.int .i64)))), .one .any, .one .any, .skip, .skip])
  | _ => none⟩
def Pspec_IsInvariant_l13 (g : ∀ {R : Type}, Nat → (List Int) → Int → (List (List Int × List Int)) → Int → Int → (List Int) → Int → Int → ((List Int) → Int → (List (List Int × List Int)) → Int → Int → Option R) → Option R) (n : Nat) : LPs := fun R q kk => match (PkS.un Sspec_IsInvariant_l13 q : Option ((List Int) × Int × (List (List Int × List Int)) × Int × Int × (List Int) × Int × Int × Unit)) with
  | some (y13_0, y13_1, y13_2, y13_3, y13_4, y13_5, y13_6, y13_7, _) => g n y13_0 y13_1 y13_2 y13_3 y13_4 y13_5 y13_6 y13_7 (fun r0 r1 r2 r3 r4 => kk (.exit 4) (PkS.pack Tspec_IsInvariant_l13_0 (r0, r1, r2, r3, r4, ())))
  | none => none
theorem espec_IsInvariant_l13 (spec_GoodNet : ∀ {R : Type}, Nat → Int → (List (List Int × List Int)) → (Bool → Option R) → Option R) (spec_l3Weights : ∀ {R : Type}, Nat → (List Int) → Int → (Bool → Option R) → Option R) (spec_IsInvariant_l8 : ∀ {R : Type}, Nat → (List Int) → Int → (List (List Int × List Int)) → Int → Int → (List Int) → Int → Int → (List Int) → (List Int) → ((List Int) → Int → (List (List Int × List Int)) → Int → Int → (List Int) → (List Int) → Option R) → Option R) (spec_IsInvariant_l13 : ∀ {R : Type}, Nat → (List Int) → Int → (List (List Int × List Int)) → Int → Int → (List Int) → Int → Int → ((List Int) → Int → (List (List Int × List Int)) → Int → Int → Option R) → Option R) {R : Type} (n : Nat) (y13_0 : List Int) (y13_1 : Int) (y13_2 : List (List Int × List Int)) (y13_3 : Int) (y13_4 : Int) (y13_5 : List Int) (y13_6 : Int) (y13_7 : Int) (kk : Ex → Pk → Option R) : Dspec_IsInvariant_l13.step tt sig (mkK [(60, Kspec_GoodNet @spec_GoodNet n), (116, Kspec_l3Weights @spec_l3Weights n)] R) (mkL (mkK [(60, Kspec_GoodNet @spec_GoodNet n), (116, Kspec_l3Weights @spec_l3Weights n)]) [(8, Dspec_IsInvariant_l8, Pspec_IsInvariant_l8 @spec_IsInvariant_l8 n)] R) (loopIn 13 (bodyOf Try.f58)) (fun q' => Pspec_IsInvariant_l13 @spec_IsInvariant_l13 n R q' kk) (PkS.pack Sspec_IsInvariant_l13 (y13_0, y13_1, y13_2, y13_3, y13_4, y13_5, y13_6, y13_7, ())) kk = (fun (kexit4 : (List Int) → Int → (List (List Int × List Int)) → Int → Int → Option R) => (bif (decide (y13_7 < y13_6)) then (bif decide (0 ≤ y13_7) then (bif decide (y13_7 < (y13_5.length : Int)) then (bif decide (0 ≤ (y13_5.getD (Int.toNat y13_7) 0)) then (bif decide ((y13_5.getD (Int.toNat y13_7) 0) < (y13_0.length : Int)) then spec_IsInvariant_l13 n y13_0 (IntKind.wrap .i64 (y13_1 + (y13_0.getD (Int.toNat (y13_5.getD (Int.toNat y13_7) 0)) 0))) y13_2 y13_3 y13_4 y13_5 y13_6 (IntKind.wrap .i64 (y13_7 + 1)) kexit4 else none) else none) else none) else none) else kexit4 y13_0 y13_1 y13_2 y13_3 y13_4)) (fun r0 r1 r2 r3 r4 => kk (.exit 4) (PkS.pack Tspec_IsInvariant_l13_0 (r0, r1, r2, r3, r4, ()))) := by kernel_rfl
theorem lespec_IsInvariant_l13 : LoopEq tt sig (fun n => mkK [(60, Kspec_GoodNet @spec_GoodNet n), (116, Kspec_l3Weights @spec_l3Weights n)]) (fun n => mkL (mkK [(60, Kspec_GoodNet @spec_GoodNet n), (116, Kspec_l3Weights @spec_l3Weights n)]) [(8, Dspec_IsInvariant_l8, Pspec_IsInvariant_l8 @spec_IsInvariant_l8 n)]) Dspec_IsInvariant_l13 Sspec_IsInvariant_l13 (loopIn 13 (bodyOf Try.f58)) (Pspec_IsInvariant_l13 @spec_IsInvariant_l13) where
  zero R q kk := by unfold Pspec_IsInvariant_l13; cases (PkS.un Sspec_IsInvariant_l13 q) <;> rfl
  succ n R q kk := by
    unfold Pspec_IsInvariant_l13
    cases h : (PkS.un Sspec_IsInvariant_l13 q) with
    | none => rfl
    | some d =>
      obtain ⟨y13_0, y13_1, y13_2, y13_3, y13_4, y13_5, y13_6, y13_7, u⟩ := (d : (List Int) × Int × (List (List Int × List Int)) × Int × Int × (List Int) × Int × Int × Unit)
      have hp := PkS.un_pack h
      subst hp
      exact (espec_IsInvariant_l13 @spec_GoodNet @spec_l3Weights @spec_IsInvariant_l8 @spec_IsInvariant_l13 n y13_0 y13_1 y13_2 y13_3 y13_4 y13_5 y13_6 y13_7 kk).symm
theorem nlspec_IsInvariant_l13 : ∀ n, NatLP (Pspec_IsInvariant_l13 @spec_IsInvariant_l13 n) := lespec_IsInvariant_l13.nat (fun n => mkK_nat (cspec_IsInvariant n)) fun n => mkL_nat (mkK_nat (cspec_IsInvariant n)) (l := [(8, Dspec_IsInvariant_l8, Pspec_IsInvariant_l8 @spec_IsInvariant_l8 n)]) ⟨nlspec_IsInvariant_l8 n, trivial⟩
theorem inspec_IsInvariant_l13 (n : Nat) (R : Type) : LoopsOk Try.prog (mkL (mkK [(60, Kspec_GoodNet @spec_GoodNet n), (116, Kspec_l3Weights @spec_l3Weights n)]) [(8, Dspec_IsInvariant_l8, Pspec_IsInvariant_l8 @spec_IsInvariant_l8 n)] R) (loopIn 13 (bodyOf Try.f58)) := .eq (l := []) (by kernel_rfl) trivial
theorem lkspec_IsInvariant_l13 (n : Nat) (R : Type) (L0 : LK R) (h0 : ∀ id, firstRegion (loopIn 13 (bodyOf Try.f58)) = some id → L0 id = Dspec_IsInvariant_l13.oracle (mkK [(60, Kspec_GoodNet @spec_GoodNet n), (116, Kspec_l3Weights @spec_l3Weights n)] R) (Pspec_IsInvariant_l13 @spec_IsInvariant_l13 n R)) : LoopOk Try.prog L0 (loopIn 13 (bodyOf Try.f58)) :=
  lespec_IsInvariant_l13.ok mixed ttok (fun n => mkK_nat (cspec_IsInvariant n)) (fun n => mkK_ok (cspec_IsInvariant n)) (fun n => inspec_IsInvariant_l13 n R) (mkK_nat (cspec_IsInvariant n)) h0
@[reducible] def Sspec_IsInvariant_l4 : PkS := ⟨[.one (.ro (.int .i64)), .one (.ro (.pr (.sl (.int .i64)) (.sl (.int .i64)))), .one (.int .i64), .one (.int .i64), .one (.dead), .one (.dead)], []⟩
@[reducible] def Tspec_IsInvariant_l4_0 : PkS := ⟨[.one (.bool), .one (.bool), .one (.dead), .one (.dead)], []⟩
@[reducible] def Tspec_IsInvariant_l4_1 : PkS := ⟨[.one (.dead), .one (.dead)], []⟩
def Dspec_IsInvariant_l4 : LoopD := ⟨61, [1, 24, 25, 26], [.one (.ro (.int .i64)), .one (.ro (.pr (.sl (.int .i64)) (.sl (.int .i64)))), .one .any, .one .any, .skip, .skip], fun x => match x with
  | .ret => some ([4, 5], [.one .any, .one .any, .skip, .skip])
  | .exit 0 => some ([], [.skip, .skip])
  | _ => none⟩
def Pspec_IsInvariant_l4 (g : ∀ {R : Type}, Nat → (List Int) → (List (List Int × List Int)) → Int → Int → (Bool → Bool → Option R) → (Option R) → Option R) (n : Nat) : LPs := fun R q kk => match (PkS.un Sspec_IsInvariant_l4 q : Option ((List Int) × (List (List Int × List Int)) × Int × Int × Unit)) with
  | some (y4_0, y4_1, y4_2, y4_3, _) => g n y4_0 y4_1 y4_2 y4_3 (fun r0 r1 => kk .ret (PkS.pack Tspec_IsInvariant_l4_0 (r0, r1, ()))) (kk (.exit 0) (PkS.pack Tspec_IsInvariant_l4_1 ()))
  | none => none
theorem espec_IsInvariant_l4 (spec_GoodNet : ∀ {R : Type}, Nat → Int → (List (List Int × List Int)) → (Bool → Option R) → Option R) (spec_l3Weights : ∀ {R : Type}, Nat → (List Int) → Int → (Bool → Option R) → Option R) (spec_IsInvariant_l8 : ∀ {R : Type}, Nat → (List Int) → Int → (List (List Int × List Int)) → Int → Int → (List Int) → Int → Int → (List Int) → (List Int) → ((List Int) → Int → (List (List Int × List Int)) → Int → Int → (List Int) → (List Int) → Option R) → Option R) (spec_IsInvariant_l13 : ∀ {R : Type}, Nat → (List Int) → Int → (List (List Int × List Int)) → Int → Int → (List Int) → Int → Int → ((List Int) → Int → (List (List Int × List Int)) → Int → Int → Option R) → Option R) (spec_IsInvariant_l4 : ∀ {R : Type}, Nat → (List Int) → (List (List Int × List Int)) → Int → Int → (Bool → Bool → Option R) → (Option R) → Option R) {R : Type} (n : Nat) (y4_0 : List Int) (y4_1 : List (List Int × List Int)) (y4_2 : Int) (y4_3 : Int) (kk : Ex → Pk → Option R) : Dspec_IsInvariant_l4.step tt sig (mkK [(60, Kspec_GoodNet @spec_GoodNet n), (116, Kspec_l3Weights @spec_l3Weights n)] R) (mkL (mkK [(60, Kspec_GoodNet @spec_GoodNet n), (116, Kspec_l3Weights @spec_l3Weights n)]) [(8, Dspec_IsInvariant_l8, Pspec_IsInvariant_l8 @spec_IsInvariant_l8 n), (13, Dspec_IsInvariant_l13, Pspec_IsInvariant_l13 @spec_IsInvariant_l13 n)] R) (loopIn 4 (bodyOf Try.f58)) (fun q' => Pspec_IsInvariant_l4 @spec_IsInvariant_l4 n R q' kk) (PkS.pack Sspec_IsInvariant_l4 (y4_0, y4_1, y4_2, y4_3, ())) kk = (fun (kret : Bool → Bool → Option R) (kexit0 : Option R) => (bif (decide (y4_3 < y4_2)) then (bif decide (0 ≤ y4_3) then (bif decide (y4_3 < (y4_1.length : Int)) then (spec_IsInvariant_l8 n y4_0 0 y4_1 y4_2 y4_3 ((y4_1.getD (Int.toNat y4_3) ([], [])).1) (((y4_1.getD (Int.toNat y4_3) ([], [])).1).length : Int) 0 ((y4_1.getD (Int.toNat y4_3) ([], [])).1) ((y4_1.getD (Int.toNat y4_3) ([], [])).2) (fun r3 r4 r5 r6 r7 r8 r9 => (spec_IsInvariant_l13 n r3 r4 r5 r6 r7 r9 (r9.length : Int) 0 (fun r10 r11 r12 r13 r14 => (bif (r11 != 0) then kret false true else spec_IsInvariant_l4 n r10 r12 r13 (IntKind.wrap .i64 (r14 + 1)) kret kexit0))))) else none) else none) else kexit0)) (fun r0 r1 => kk .ret (PkS.pack Tspec_IsInvariant_l4_0 (r0, r1, ()))) (kk (.exit 0) (PkS.pack Tspec_IsInvariant_l4_1 ())) := by kernel_rfl
theorem lespec_IsInvariant_l4 : LoopEq tt sig (fun n => mkK [(60, Kspec_GoodNet @spec_GoodNet n), (116, Kspec_l3Weights @spec_l3Weights n)]) (fun n => mkL (mkK [(60, Kspec_GoodNet @spec_GoodNet n), (116, Kspec_l3Weights @spec_l3Weights n)]) [(8, Dspec_IsInvariant_l8, Pspec_IsInvariant_l8 @spec_IsInvariant_l8 n), (13, Dspec_IsInvariant_l13, Pspec_IsInvariant_l13 @spec_IsInvariant_l13 n)]) Dspec_IsInvariant_l4 Sspec_IsInvariant_l4 (loopIn 4 (bodyOf Try.f58)) (Pspec_IsInvariant_l4 @spec_IsInvariant_l4) where
  zero R q kk := by unfold Pspec_IsInvariant_l4; cases (PkS.un Sspec_IsInvariant_l4 q) <;> rfl
  succ n R q kk := by
    unfold Pspec_IsInvariant_l4
    cases h : (PkS.un Sspec_IsInvariant_l4 q) with
    | none => rfl
    | some d =>
      obtain ⟨y4_0, y4_1, y4_2, y4_3, u⟩ := (d : (List Int) × (List (List Int × List Int)) × Int × Int × Unit)
      have hp := PkS.un_pack h
      subst hp
      exact (espec_IsInvariant_l4 @spec_GoodNet @spec_l3Weights @spec_IsInvariant_l8 @spec_IsInvariant_l13 @spec_IsInvariant_l4 n y4_0 y4_1 y4_2 y4_3 kk).symm
theorem nlspec_IsInvariant_l4 : ∀ n, NatLP (Pspec_IsInvariant_l4 @spec_IsInvariant_l4 n) := lespec_IsInvariant_l4.nat (fun n => mkK_nat (cspec_IsInvariant n)) fun n => mkL_nat (mkK_nat (cspec_IsInvariant n)) (l := [(8, Dspec_IsInvariant_l8, Pspec_IsInvariant_l8 @spec_IsInvariant_l8 n), (13, Dspec_IsInvariant_l13, Pspec_IsInvariant_l13 @spec_IsInvariant_l13 n)]) ⟨nlspec_IsInvariant_l8 n, ⟨nlspec_IsInvariant_l13 n, trivial⟩⟩
theorem inspec_IsInvariant_l4 (n : Nat) (R : Type) : LoopsOk Try.prog (mkL (mkK [(60, Kspec_GoodNet @spec_GoodNet n), (116, Kspec_l3Weights @spec_l3Weights n)]) [(8, Dspec_IsInvariant_l8, Pspec_IsInvariant_l8 @spec_IsInvariant_l8 n), (13, Dspec_IsInvariant_l13, Pspec_IsInvariant_l13 @spec_IsInvariant_l13 n)] R) (loopIn 4 (bodyOf Try.f58)) := .eq (l := [.lo (loopIn 8 (bodyOf Try.f58)), .lo (loopIn 13 (bodyOf Try.f58))]) (by kernel_rfl) ⟨(lkspec_IsInvariant_l8 n R _ (at_id (i := 8) (by kernel_rfl) rfl)), ⟨(lkspec_IsInvariant_l13 n R _ (at_id (i := 13) (by kernel_rfl) rfl)), trivial⟩⟩
theorem lkspec_IsInvariant_l4 (n : Nat) (R : Type) (L0 : LK R) (h0 : ∀ id, firstRegion (loopIn 4 (bodyOf Try.f58)) = some id → L0 id = Dspec_IsInvariant_l4.oracle (mkK [(60, Kspec_GoodNet @spec_GoodNet n), (116, Kspec_l3Weights @spec_l3Weights n)] R) (Pspec_IsInvariant_l4 @spec_IsInvariant_l4 n R)) : LoopOk Try.prog L0 (loopIn 4 (bodyOf Try.f58)) :=
  lespec_IsInvariant_l4.ok mixed ttok (fun n => mkK_nat (cspec_IsInvariant n)) (fun n => mkK_ok (cspec_IsInvariant n)) (fun n => inspec_IsInvariant_l4 n R) (mkK_nat (cspec_IsInvariant n)) h0
@[reducible] def Sspec_IsInvariant : PkS := ⟨[.agg [.int .i64, .ro (.pr (.sl (.int .i64)) (.sl (.int .i64)))], .one (.ro (.int .i64))], []⟩
@[reducible] def Tspec_IsInvariant : PkS := ⟨[.tup [(false, [.bool]), (false, [.bool])], .one (.dead), .one (.dead)], []⟩
def Hspec_IsInvariant : List Sh := [.tup [(false, [.any]), (false, [.any])], .skip, .skip]
def Kspec_IsInvariant (g : ∀ {R : Type}, Nat → Int → (List (List Int × List Int)) → (List Int) → (Bool → Bool → Option R) → Option R) (n : Nat) : KPs := fun R p k => match (PkS.un Sspec_IsInvariant p : Option (Int × (List (List Int × List Int)) × (List Int) × Unit)) with
  | some (x0, x1, x2, _) => g n x0 x1 x2 (fun r0 r1 => k (PkS.pack Tspec_IsInvariant (r0, r1, ())))
  | none => none
theorem espec_IsInvariant (spec_GoodNet : ∀ {R : Type}, Nat → Int → (List (List Int × List Int)) → (Bool → Option R) → Option R) (spec_l3Weights : ∀ {R : Type}, Nat → (List Int) → Int → (Bool → Option R) → Option R) (spec_IsInvariant_l8 : ∀ {R : Type}, Nat → (List Int) → Int → (List (List Int × List Int)) → Int → Int → (List Int) → Int → Int → (List Int) → (List Int) → ((List Int) → Int → (List (List Int × List Int)) → Int → Int → (List Int) → (List Int) → Option R) → Option R) (spec_IsInvariant_l13 : ∀ {R : Type}, Nat → (List Int) → Int → (List (List Int × List Int)) → Int → Int → (List Int) → Int → Int → ((List Int) → Int → (List (List Int × List Int)) → Int → Int → Option R) → Option R) (spec_IsInvariant_l4 : ∀ {R : Type}, Nat → (List Int) → (List (List Int × List Int)) → Int → Int → (Bool → Bool → Option R) → (Option R) → Option R) {R : Type} (n : Nat) (x0 : Int) (x1 : List (List Int × List Int)) (x2 : List Int) (k : Pk → Option R) : evF tt sig (mkK [(60, Kspec_GoodNet @spec_GoodNet n), (116, Kspec_l3Weights @spec_l3Weights n)] R) (mkL (mkK [(60, Kspec_GoodNet @spec_GoodNet n), (116, Kspec_l3Weights @spec_l3Weights n)]) [(8, Dspec_IsInvariant_l8, Pspec_IsInvariant_l8 @spec_IsInvariant_l8 n), (13, Dspec_IsInvariant_l13, Pspec_IsInvariant_l13 @spec_IsInvariant_l13 n), (4, Dspec_IsInvariant_l4, Pspec_IsInvariant_l4 @spec_IsInvariant_l4 n)] R) Try.f58 Hspec_IsInvariant (PkS.pack Sspec_IsInvariant (x0, x1, x2, ())) k = (fun (k : Bool → Bool → Option R) => (spec_GoodNet n x0 x1 fun r1 => (bif (!r1) then k false false else (spec_l3Weights n x2 x0 fun r2 => (bif (!r2) then k false false else (spec_IsInvariant_l4 n x2 x1 (x1.length : Int) 0 (fun r15 r16 => k r15 r16) (k true true))))))) (fun r0 r1 => k (PkS.pack Tspec_IsInvariant (r0, r1, ()))) := by kernel_rfl
theorem okspec_IsInvariant (n : Nat) : FnOk Try.prog 58 (Kspec_IsInvariant @spec_IsInvariant n) := by
  refine fn_ok (sig := sig) mixed ttok (mkK_nat (cspec_IsInvariant n)) (mkK_ok (cspec_IsInvariant n)) (mkL_nat (mkK_nat (cspec_IsInvariant n)) (l := [(8, Dspec_IsInvariant_l8, Pspec_IsInvariant_l8 @spec_IsInvariant_l8 n), (13, Dspec_IsInvariant_l13, Pspec_IsInvariant_l13 @spec_IsInvariant_l13 n), (4, Dspec_IsInvariant_l4, Pspec_IsInvariant_l4 @spec_IsInvariant_l4 n)]) ⟨nlspec_IsInvariant_l8 n, ⟨nlspec_IsInvariant_l13 n, ⟨nlspec_IsInvariant_l4 n, trivial⟩⟩⟩) (fn := Try.f58) (c := bodyOf Try.f58) (by kernel_rfl) (by kernel_rfl) (by kernel_rfl) (.eq (l := [.lo (loopIn 4 (bodyOf Try.f58))]) (by kernel_rfl) ⟨(lkspec_IsInvariant_l4 n _ _ (at_id (i := 4) (by kernel_rfl) rfl)), trivial⟩) (shs := Hspec_IsInvariant) (S := Sspec_IsInvariant) (h1 := by kernel_rfl) fun R p k => ?_
  unfold Kspec_IsInvariant
  cases h : (PkS.un Sspec_IsInvariant p) with
  | none => rfl
  | some d =>
    obtain ⟨x0, x1, x2, u⟩ := (d : Int × (List (List Int × List Int)) × (List Int) × Unit)
    have hp := PkS.un_pack h
    subst hp
    exact (espec_IsInvariant @spec_GoodNet @spec_l3Weights @spec_IsInvariant_l8 @spec_IsInvariant_l13 @spec_IsInvariant_l4 n x0 x1 x2 k).symm

/-! ### loop.example/g00269/impl.PlayNet$1 -/
theorem cimpl_PlayNet_c1 (n : Nat) : AllOk Try.prog [(80, Kimpl_in @impl_in n)] := ⟨okimpl_in n, trivial⟩
@[reducible] def Simpl_PlayNet_c1 : PkS := ⟨[.one (.int .i64), .one (.box (200000, 0) 0)], [((200000, 0), .box [.int .i64, .ro (.pr (.sl (.int .i64)) (.sl (.int .i64)))])]⟩
@[reducible] def Timpl_PlayNet_c1 : PkS := ⟨[.one (.bool), .one (.dead), .one (.box (300000, 0) 0)], [((300000, 0), .box [.int .i64, .ro (.pr (.sl (.int .i64)) (.sl (.int .i64)))])]⟩
def Himpl_PlayNet_c1 : List Sh := [.one .any, .skip, .box [.any, (.ro (.pr (.sl (.int .i64)) (.sl (.int .i64))))]]
def Kimpl_PlayNet_c1 (g : ∀ {R : Type}, Nat → Int → Int → (List (List Int × List Int)) → (Bool → Int → (List (List Int × List Int)) → Option R) → Option R) (n : Nat) : KPs := fun R p k => match (PkS.un Simpl_PlayNet_c1 p : Option (Int × Int × (List (List Int × List Int)) × Unit)) with
  | some (x0, x1, x2, _) => g n x0 x1 x2 (fun r0 r1 r2 => k (PkS.pack Timpl_PlayNet_c1 (r0, r1, r2, ())))
  | none => none
theorem eimpl_PlayNet_c1 (impl_in : ∀ {R : Type}, Nat → Int → Int → Int → (Bool → Option R) → Option R) {R : Type} (n : Nat) (x0 : Int) (x1 : Int) (x2 : List (List Int × List Int)) (k : Pk → Option R) : evF tt sig (mkK [(80, Kimpl_in @impl_in n)] R) (mkL (mkK [(80, Kimpl_in @impl_in n)]) [] R) Try.f121 Himpl_PlayNet_c1 (PkS.pack Simpl_PlayNet_c1 (x0, x1, x2, ())) k = (fun (k : Bool → Int → (List (List Int × List Int)) → Option R) => (impl_in n x0 0 (IntKind.wrap .i64 ((x2.length : Int) - 1)) fun r1 => k (!r1) x1 x2)) (fun r0 r1 r2 => k (PkS.pack Timpl_PlayNet_c1 (r0, r1, r2, ()))) := by kernel_rfl
theorem okimpl_PlayNet_c1 (n : Nat) : FnOk Try.prog 121 (Kimpl_PlayNet_c1 @impl_PlayNet_c1 n) := by
  refine fn_ok (sig := sig) mixed ttok (mkK_nat (cimpl_PlayNet_c1 n)) (mkK_ok (cimpl_PlayNet_c1 n)) (mkL_nat (mkK_nat (cimpl_PlayNet_c1 n)) (l := []) trivial) (fn := Try.f121) (c := bodyOf Try.f121) (by kernel_rfl) (by kernel_rfl) (by kernel_rfl) (.eq (l := []) (by kernel_rfl) trivial) (shs := Himpl_PlayNet_c1) (S := Simpl_PlayNet_c1) (h1 := by kernel_rfl) fun R p k => ?_
  unfold Kimpl_PlayNet_c1
  cases h : (PkS.un Simpl_PlayNet_c1 p) with
  | none => rfl
  | some d =>
    obtain ⟨x0, x1, x2, u⟩ := (d : Int × Int × (List (List Int × List Int)) × Unit)
    have hp := PkS.un_pack h
    subst hp
    exact (eimpl_PlayNet_c1 @impl_in n x0 x1 x2 k).symm

/-! ### slices.IndexFunc[[]int,int] -/
theorem cslices_IndexFunc_int_impl_PlayNet_c1 (n : Nat) : AllOk Try.prog [(121, Kimpl_PlayNet_c1 @impl_PlayNet_c1 n)] := ⟨okimpl_PlayNet_c1 n, trivial⟩
@[reducible] def Sslices_IndexFunc_int_impl_PlayNet_c1_l2 : PkS := ⟨[.one (.ro (.int .i64)), .one (.fn 121 [((100000, 0), 0)]), .one (.int .i64), .one (.int .i64), .one (.dead), .one (.fn 121 [((100000, 0), 0)])], [((100000, 0), .box [.int .i64, .ro (.pr (.sl (.int .i64)) (.sl (.int .i64)))])]⟩
@[reducible] def Tslices_IndexFunc_int_impl_PlayNet_c1_l2_0 : PkS := ⟨[.one (.int .i64), .one (.dead), .one (.fn 121 [((100000, 0), 0)])], [((100000, 0), .box [.int .i64, .ro (.pr (.sl (.int .i64)) (.sl (.int .i64)))])]⟩
@[reducible] def Tslices_IndexFunc_int_impl_PlayNet_c1_l2_1 : PkS := ⟨[.one (.dead), .one (.fn 121 [((100000, 0), 0)])], [((100000, 0), .box [.int .i64, .ro (.pr (.sl (.int .i64)) (.sl (.int .i64)))])]⟩
def Dslices_IndexFunc_int_impl_PlayNet_c1_l2 : LoopD := ⟨19, [0, 1, 7, 8], [.one (.ro (.int .i64)), .fn 121 [[.any, (.ro (.pr (.sl (.int .i64)) (.sl (.int .i64))))]], .one .any, .one .any, .skip, .fn 121 [[.any, (.ro (.pr (.sl (.int .i64)) (.sl (.int .i64))))]]], fun x => match x with
  | .ret => some ([4], [.one .any, .skip, .fn 121 [[.any, (.ro (.pr (.sl (.int .i64)) (.sl (.int .i64))))]]])
  | .exit 0 => some ([], [.skip, .fn 121 [[.any, (.ro (.pr (.sl (.int .i64)) (.sl (.int .i64))))]]])
  | _ => none⟩
def Pslices_IndexFunc_int_impl_PlayNet_c1_l2 (g : ∀ {R : Type}, Nat → (List Int) → Int → Int → Int → (List (List Int × List Int)) → (Int → Int → (List (List Int × List Int)) → Option R) → (Int → (List (List Int × List Int)) → Option R) → Option R) (n : Nat) : LPs := fun R q kk => match (PkS.un Sslices_IndexFunc_int_impl_PlayNet_c1_l2 q : Option ((List Int) × Int × Int × Int × (List (List Int × List Int)) × Unit)) with
  | some (y2_0, y2_1, y2_2, y2_3, y2_4, _) => g n y2_0 y2_1 y2_2 y2_3 y2_4 (fun r0 r1 r2 => kk .ret (PkS.pack Tslices_IndexFunc_int_impl_PlayNet_c1_l2_0 (r0, r1, r2, ()))) (fun r0 r1 => kk (.exit 0) (PkS.pack Tslices_IndexFunc_int_impl_PlayNet_c1_l2_1 (r0, r1, ())))
  | none => none
theorem eslices_IndexFunc_int_impl_PlayNet_c1_l2 (impl_PlayNet_c1 : ∀ {R : Type}, Nat → Int → Int → (List (List Int × List Int)) → (Bool → Int → (List (List Int × List Int)) → Option R) → Option R) (slices_IndexFunc_int_impl_PlayNet_c1_l2 : ∀ {R : Type}, Nat → (List Int) → Int → Int → Int → (List (List Int × List Int)) → (Int → Int → (List (List Int × List Int)) → Option R) → (Int → (List (List Int × List Int)) → Option R) → Option R) {R : Type} (n : Nat) (y2_0 : List Int) (y2_1 : Int) (y2_2 : Int) (y2_3 : Int) (y2_4 : List (List Int × List Int)) (kk : Ex → Pk → Option R) : Dslices_IndexFunc_int_impl_PlayNet_c1_l2.step tt sig (mkK [(121, Kimpl_PlayNet_c1 @impl_PlayNet_c1 n)] R) (mkL (mkK [(121, Kimpl_PlayNet_c1 @impl_PlayNet_c1 n)]) [] R) (loopIn 2 (bodyOf Try.f157)) (fun q' => Pslices_IndexFunc_int_impl_PlayNet_c1_l2 @slices_IndexFunc_int_impl_PlayNet_c1_l2 n R q' kk) (PkS.pack Sslices_IndexFunc_int_impl_PlayNet_c1_l2 (y2_0, y2_1, y2_2, y2_3, y2_4, ())) kk = (fun (kret : Int → Int → (List (List Int × List Int)) → Option R) (kexit0 : Int → (List (List Int × List Int)) → Option R) => (bif (decide (y2_2 < y2_1)) then (bif decide (0 ≤ y2_2) then (bif decide (y2_2 < (y2_0.length : Int)) then (impl_PlayNet_c1 n (y2_0.getD (Int.toNat y2_2) 0) y2_3 y2_4 fun r1 r2 r3 => (bif r1 then kret y2_2 r2 r3 else slices_IndexFunc_int_impl_PlayNet_c1_l2 n y2_0 y2_1 (IntKind.wrap .i64 (y2_2 + 1)) r2 r3 kret kexit0)) else none) else none) else kexit0 y2_3 y2_4)) (fun r0 r1 r2 => kk .ret (PkS.pack Tslices_IndexFunc_int_impl_PlayNet_c1_l2_0 (r0, r1, r2, ()))) (fun r0 r1 => kk (.exit 0) (PkS.pack Tslices_IndexFunc_int_impl_PlayNet_c1_l2_1 (r0, r1, ()))) := by kernel_rfl
theorem leslices_IndexFunc_int_impl_PlayNet_c1_l2 : LoopEq tt sig (fun n => mkK [(121, Kimpl_PlayNet_c1 @impl_PlayNet_c1 n)]) (fun n => mkL (mkK [(121, Kimpl_PlayNet_c1 @impl_PlayNet_c1 n)]) []) Dslices_IndexFunc_int_impl_PlayNet_c1_l2 Sslices_IndexFunc_int_impl_PlayNet_c1_l2 (loopIn 2 (bodyOf Try.f157)) (Pslices_IndexFunc_int_impl_PlayNet_c1_l2 @slices_IndexFunc_int_impl_PlayNet_c1_l2) where
  zero R q kk := by unfold Pslices_IndexFunc_int_impl_PlayNet_c1_l2; cases (PkS.un Sslices_IndexFunc_int_impl_PlayNet_c1_l2 q) <;> rfl
  succ n R q kk := by
    unfold Pslices_IndexFunc_int_impl_PlayNet_c1_l2
    cases h : (PkS.un Sslices_IndexFunc_int_impl_PlayNet_c1_l2 q) with
    | none => rfl
    | some d =>
      obtain ⟨y2_0, y2_1, y2_2, y2_3, y2_4, u⟩ := (d : (List Int) × Int × Int × Int × (List (List Int × List Int)) × Unit)
      have hp := PkS.un_pack h
      subst hp
      exact (eslices_IndexFunc_int_impl_PlayNet_c1_l2 @impl_PlayNet_c1 @slices_IndexFunc_int_impl_PlayNet_c1_l2 n y2_0 y2_1 y2_2 y2_3 y2_4 kk).symm
theorem nlslices_IndexFunc_int_impl_PlayNet_c1_l2 : ∀ n, NatLP (Pslices_IndexFunc_int_impl_PlayNet_c1_l2 @slices_IndexFunc_int_impl_PlayNet_c1_l2 n) := leslices_IndexFunc_int_impl_PlayNet_c1_l2.nat (fun n => mkK_nat (cslices_IndexFunc_int_impl_PlayNet_c1 n)) fun n => mkL_nat (mkK_nat (cslices_IndexFunc_int_impl_PlayNet_c1 n)) (l := []) trivial
theorem inslices_IndexFunc_int_impl_PlayNet_c1_l2 (n : Nat) (R : Type) : LoopsOk Try.prog (mkL (mkK [(121, Kimpl_PlayNet_c1 @impl_PlayNet_c1 n)]) [] R) (loopIn 2 (bodyOf Try.f157)) := .eq (l := []) (by kernel_rfl) trivial
theorem lkslices_IndexFunc_int_impl_PlayNet_c1_l2 (n : Nat) (R : Type) (L0 : LK R) (h0 : ∀ id, firstRegion (loopIn 2 (bodyOf Try.f157)) = some id → L0 id = Dslices_IndexFunc_int_impl_PlayNet_c1_l2.oracle (mkK [(121, Kimpl_PlayNet_c1 @impl_PlayNet_c1 n)] R) (Pslices_IndexFunc_int_impl_PlayNet_c1_l2 @slices_IndexFunc_int_impl_PlayNet_c1_l2 n R)) : LoopOk Try.prog L0 (loopIn 2 (bodyOf Try.f157)) :=
  leslices_IndexFunc_int_impl_PlayNet_c1_l2.ok mixed ttok (fun n => mkK_nat (cslices_IndexFunc_int_impl_PlayNet_c1 n)) (fun n => mkK_ok (cslices_IndexFunc_int_impl_PlayNet_c1 n)) (fun n => inslices_IndexFunc_int_impl_PlayNet_c1_l2 n R) (mkK_nat (cslices_IndexFunc_int_impl_PlayNet_c1 n)) h0
@[reducible] def Sslices_IndexFunc_int_impl_PlayNet_c1 : PkS := ⟨[.one (.ro (.int .i64)), .one (.fn 121 [((200000, 0), 0)])], [((200000, 0), .box [.int .i64, .ro (.pr (.sl (.int .i64)) (.sl (.int .i64)))])]⟩
@[reducible] def Tslices_IndexFunc_int_impl_PlayNet_c1 : PkS := ⟨[.one (.int .i64), .one (.dead), .one (.fn 121 [((300000, 0), 0)])], [((300000, 0), .box [.int .i64, .ro (.pr (.sl (.int .i64)) (.sl (.int .i64)))])]⟩
def Hslices_IndexFunc_int_impl_PlayNet_c1 : List Sh := [.one .any, .skip, .fn 121 [[.any, (.ro (.pr (.sl (.int .i64)) (.sl (.int .i64))))]]]
def Kslices_IndexFunc_int_impl_PlayNet_c1 (g : ∀ {R : Type}, Nat → (List Int) → Int → (List (List Int × List Int)) → (Int → Int → (List (List Int × List Int)) → Option R) → Option R) (n : Nat) : KPs := fun R p k => match (PkS.un Sslices_IndexFunc_int_impl_PlayNet_c1 p : Option ((List Int) × Int × (List (List Int × List Int)) × Unit)) with
  | some (x0, x1, x2, _) => g n x0 x1 x2 (fun r0 r1 r2 => k (PkS.pack Tslices_IndexFunc_int_impl_PlayNet_c1 (r0, r1, r2, ())))
  | none => none
theorem eslices_IndexFunc_int_impl_PlayNet_c1 (impl_PlayNet_c1 : ∀ {R : Type}, Nat → Int → Int → (List (List Int × List Int)) → (Bool → Int → (List (List Int × List Int)) → Option R) → Option R) (slices_IndexFunc_int_impl_PlayNet_c1_l2 : ∀ {R : Type}, Nat → (List Int) → Int → Int → Int → (List (List Int × List Int)) → (Int → Int → (List (List Int × List Int)) → Option R) → (Int → (List (List Int × List Int)) → Option R) → Option R) {R : Type} (n : Nat) (x0 : List Int) (x1 : Int) (x2 : List (List Int × List Int)) (k : Pk → Option R) : evF tt sig (mkK [(121, Kimpl_PlayNet_c1 @impl_PlayNet_c1 n)] R) (mkL (mkK [(121, Kimpl_PlayNet_c1 @impl_PlayNet_c1 n)]) [(2, Dslices_IndexFunc_int_impl_PlayNet_c1_l2, Pslices_IndexFunc_int_impl_PlayNet_c1_l2 @slices_IndexFunc_int_impl_PlayNet_c1_l2 n)] R) Try.f157 Hslices_IndexFunc_int_impl_PlayNet_c1 (PkS.pack Sslices_IndexFunc_int_impl_PlayNet_c1 (x0, x1, x2, ())) k = (fun (k : Int → Int → (List (List Int × List Int)) → Option R) => (slices_IndexFunc_int_impl_PlayNet_c1_l2 n x0 (x0.length : Int) 0 x1 x2 (fun r4 r5 r6 => k r4 r5 r6) (fun r7 r8 => k (-1) r7 r8))) (fun r0 r1 r2 => k (PkS.pack Tslices_IndexFunc_int_impl_PlayNet_c1 (r0, r1, r2, ()))) := by kernel_rfl
theorem okslices_IndexFunc_int_impl_PlayNet_c1 (n : Nat) : FnOk Try.prog 157 (Kslices_IndexFunc_int_impl_PlayNet_c1 @slices_IndexFunc_int_impl_PlayNet_c1 n) := by
  refine fn_ok (sig := sig) mixed ttok (mkK_nat (cslices_IndexFunc_int_impl_PlayNet_c1 n)) (mkK_ok (cslices_IndexFunc_int_impl_PlayNet_c1 n)) (mkL_nat (mkK_nat (cslices_IndexFunc_int_impl_PlayNet_c1 n)) (l := [(2, Dslices_IndexFunc_int_impl_PlayNet_c1_l2, Pslices_IndexFunc_int_impl_PlayNet_c1_l2 @slices_IndexFunc_int_impl_PlayNet_c1_l2 n)]) ⟨nlslices_IndexFunc_int_impl_PlayNet_c1_l2 n, trivial⟩) (fn := Try.f157) (c := bodyOf Try.f157) (by kernel_rfl) (by kernel_rfl) (by kernel_rfl) (.eq (l := [.lo (loopIn 2 (bodyOf Try.f157))]) (by kernel_rfl) ⟨(lkslices_IndexFunc_int_impl_PlayNet_c1_l2 n _ _ (at_id (i := 2) (by kernel_rfl) rfl)), trivial⟩) (shs := Hslices_IndexFunc_int_impl_PlayNet_c1) (S := Sslices_IndexFunc_int_impl_PlayNet_c1) (h1 := by kernel_rfl) fun R p k => ?_
  unfold Kslices_IndexFunc_int_impl_PlayNet_c1
  cases h : (PkS.un Sslices_IndexFunc_int_impl_PlayNet_c1 p) with
  | none => rfl
  | some d =>
    obtain ⟨x0, x1, x2, u⟩ := (d : (List Int) × Int × (List (List Int × List Int)) × Unit)
    have hp := PkS.un_pack h
    subst hp
    exact (eslices_IndexFunc_int_impl_PlayNet_c1 @impl_PlayNet_c1 @slices_IndexFunc_int_impl_PlayNet_c1_l2 n x0 x1 x2 k).symm

/-! ### slices.ContainsFunc[[]int,int] -/
theorem cslices_ContainsFunc_int_impl_PlayNet_c1 (n : Nat) : AllOk Try.prog [(157, Kslices_IndexFunc_int_impl_PlayNet_c1 @slices_IndexFunc_int_impl_PlayNet_c1 n)] := ⟨okslices_IndexFunc_int_impl_PlayNet_c1 n, trivial⟩
@[reducible] def Sslices_ContainsFunc_int_impl_PlayNet_c1 : PkS := ⟨[.one (.ro (.int .i64)), .one (.fn 121 [((200000, 0), 0)])], [((200000, 0), .box [.int .i64, .ro (.pr (.sl (.int .i64)) (.sl (.int .i64)))])]⟩
@[reducible] def Tslices_ContainsFunc_int_impl_PlayNet_c1 : PkS := ⟨[.one (.bool), .one (.dead), .one (.fn 121 [((300000, 0), 0)])], [((300000, 0), .box [.int .i64, .ro (.pr (.sl (.int .i64)) (.sl (.int .i64)))])]⟩
def Hslices_ContainsFunc_int_impl_PlayNet_c1 : List Sh := [.one .any, .skip, .fn 121 [[.any, (.ro (.pr (.sl (.int .i64)) (.sl (.int .i64))))]]]
def Kslices_ContainsFunc_int_impl_PlayNet_c1 (g : ∀ {R : Type}, Nat → (List Int) → Int → (List (List Int × List Int)) → (Bool → Int → (List (List Int × List Int)) → Option R) → Option R) (n : Nat) : KPs := fun R p k => match (PkS.un Sslices_ContainsFunc_int_impl_PlayNet_c1 p : Option ((List Int) × Int × (List (List Int × List Int)) × Unit)) with
  | some (x0, x1, x2, _) => g n x0 x1 x2 (fun r0 r1 r2 => k (PkS.pack Tslices_ContainsFunc_int_impl_PlayNet_c1 (r0, r1, r2, ())))
  | none => none
theorem eslices_ContainsFunc_int_impl_PlayNet_c1 (slices_IndexFunc_int_impl_PlayNet_c1 : ∀ {R : Type}, Nat → (List Int) → Int → (List (List Int × List Int)) → (Int → Int → (List (List Int × List Int)) → Option R) → Option R) {R : Type} (n : Nat) (x0 : List Int) (x1 : Int) (x2 : List (List Int × List Int)) (k : Pk → Option R) : evF tt sig (mkK [(157, Kslices_IndexFunc_int_impl_PlayNet_c1 @slices_IndexFunc_int_impl_PlayNet_c1 n)] R) (mkL (mkK [(157, Kslices_IndexFunc_int_impl_PlayNet_c1 @slices_IndexFunc_int_impl_PlayNet_c1 n)]) [] R) Try.f120 Hslices_ContainsFunc_int_impl_PlayNet_c1 (PkS.pack Sslices_ContainsFunc_int_impl_PlayNet_c1 (x0, x1, x2, ())) k = (fun (k : Bool → Int → (List (List Int × List Int)) → Option R) => (slices_IndexFunc_int_impl_PlayNet_c1 n x0 x1 x2 fun r1 r2 r3 => k (decide (r1 ≥ 0)) r2 r3)) (fun r0 r1 r2 => k (PkS.pack Tslices_ContainsFunc_int_impl_PlayNet_c1 (r0, r1, r2, ()))) := by kernel_rfl
theorem okslices_ContainsFunc_int_impl_PlayNet_c1 (n : Nat) : FnOk Try.prog 120 (Kslices_ContainsFunc_int_impl_PlayNet_c1 @slices_ContainsFunc_int_impl_PlayNet_c1 n) := by
  refine fn_ok (sig := sig) mixed ttok (mkK_nat (cslices_ContainsFunc_int_impl_PlayNet_c1 n)) (mkK_ok (cslices_ContainsFunc_int_impl_PlayNet_c1 n)) (mkL_nat (mkK_nat (cslices_ContainsFunc_int_impl_PlayNet_c1 n)) (l := []) trivial) (fn := Try.f120) (c := bodyOf Try.f120) (by kernel_rfl) (by kernel_rfl) (by kernel_rfl) (.eq (l := []) (by kernel_rfl) trivial) (shs := Hslices_ContainsFunc_int_impl_PlayNet_c1) (S := Sslices_ContainsFunc_int_impl_PlayNet_c1) (h1 := by kernel_rfl) fun R p k => ?_
  unfold Kslices_ContainsFunc_int_impl_PlayNet_c1
  cases h : (PkS.un Sslices_ContainsFunc_int_impl_PlayNet_c1 p) with
  | none => rfl
  | some d =>
    obtain ⟨x0, x1, x2, u⟩ := (d : (List Int) × Int × (List (List Int × List Int)) × Unit)
    have hp := PkS.un_pack h
    subst hp
    exact (eslices_ContainsFunc_int_impl_PlayNet_c1 @slices_IndexFunc_int_impl_PlayNet_c1 n x0 x1 x2 k).symm

/-! ### loop.example/g00269/impl.isMarking$1 -/
theorem cimpl_isMarking_c1 (n : Nat) : AllOk Try.prog [(80, Kimpl_in @impl_in n)] := ⟨okimpl_in n, trivial⟩
@[reducible] def Simpl_isMarking_c1 : PkS := ⟨[.one (.int .i64)], []⟩
@[reducible] def Timpl_isMarking_c1 : PkS := ⟨[.one (.bool), .one (.dead)], []⟩
def Himpl_isMarking_c1 : List Sh := [.one .any, .skip]
def Kimpl_isMarking_c1 (g : ∀ {R : Type}, Nat → Int → (Bool → Option R) → Option R) (n : Nat) : KPs := fun R p k => match (PkS.un Simpl_isMarking_c1 p : Option (Int × Unit)) with
  | some (x0, _) => g n x0 (fun r0 => k (PkS.pack Timpl_isMarking_c1 (r0, ())))
  | none => none
theorem eimpl_isMarking_c1 (impl_in : ∀ {R : Type}, Nat → Int → Int → Int → (Bool → Option R) → Option R) {R : Type} (n : Nat) (x0 : Int) (k : Pk → Option R) : evF tt sig (mkK [(80, Kimpl_in @impl_in n)] R) (mkL (mkK [(80, Kimpl_in @impl_in n)]) [] R) Try.f159 Himpl_isMarking_c1 (PkS.pack Simpl_isMarking_c1 (x0, ())) k = (fun (k : Bool → Option R) => (impl_in n x0 0 9 fun r1 => k (!r1))) (fun r0 => k (PkS.pack Timpl_isMarking_c1 (r0, ()))) := by kernel_rfl
theorem okimpl_isMarking_c1 (n : Nat) : FnOk Try.prog 159 (Kimpl_isMarking_c1 @impl_isMarking_c1 n) := by
  refine fn_ok (sig := sig) mixed ttok (mkK_nat (cimpl_isMarking_c1 n)) (mkK_ok (cimpl_isMarking_c1 n)) (mkL_nat (mkK_nat (cimpl_isMarking_c1 n)) (l := []) trivial) (fn := Try.f159) (c := bodyOf Try.f159) (by kernel_rfl) (by kernel_rfl) (by kernel_rfl) (.eq (l := []) (by kernel_rfl) trivial) (shs := Himpl_isMarking_c1) (S := Simpl_isMarking_c1) (h1 := by kernel_rfl) fun R p k => ?_
  unfold Kimpl_isMarking_c1
  cases h : (PkS.un Simpl_isMarking_c1 p) with
  | none => rfl
  | some d =>
    obtain ⟨x0, u⟩ := (d : Int × Unit)
    have hp := PkS.un_pack h
    subst hp
    exact (eimpl_isMarking_c1 @impl_in n x0 k).symm

/-! ### slices.IndexFunc[[]int,int] -/
theorem cslices_IndexFunc_int_impl_isMarking_c1 (n : Nat) : AllOk Try.prog [(159, Kimpl_isMarking_c1 @impl_isMarking_c1 n)] := ⟨okimpl_isMarking_c1 n, trivial⟩
@[reducible] def Sslices_IndexFunc_int_impl_isMarking_c1_l2 : PkS := ⟨[.one (.ro (.int .i64)), .one (.fn 159 []), .one (.int .i64), .one (.int .i64), .one (.dead), .one (.fn 159 [])], []⟩
@[reducible] def Tslices_IndexFunc_int_impl_isMarking_c1_l2_0 : PkS := ⟨[.one (.int .i64), .one (.dead), .one (.fn 159 [])], []⟩
@[reducible] def Tslices_IndexFunc_int_impl_isMarking_c1_l2_1 : PkS := ⟨[.one (.dead), .one (.fn 159 [])], []⟩
def Dslices_IndexFunc_int_impl_isMarking_c1_l2 : LoopD := ⟨19, [0, 1, 7, 8], [.one (.ro (.int .i64)), .fn 159 [], .one .any, .one .any, .skip, .fn 159 []], fun x => match x with
  | .ret => some ([4], [.one .any, .skip, .fn 159 []])
  | .exit 0 => some ([], [.skip, .fn 159 []])
  | _ => none⟩
def Pslices_IndexFunc_int_impl_isMarking_c1_l2 (g : ∀ {R : Type}, Nat → (List Int) → Int → Int → (Int → Option R) → (Option R) → Option R) (n : Nat) : LPs := fun R q kk => match (PkS.un Sslices_IndexFunc_int_impl_isMarking_c1_l2 q : Option ((List Int) × Int × Int × Unit)) with
  | some (y2_0, y2_1, y2_2, _) => g n y2_0 y2_1 y2_2 (fun r0 => kk .ret (PkS.pack Tslices_IndexFunc_int_impl_isMarking_c1_l2_0 (r0, ()))) (kk (.exit 0) (PkS.pack Tslices_IndexFunc_int_impl_isMarking_c1_l2_1 ()))
  | none => none
theorem eslices_IndexFunc_int_impl_isMarking_c1_l2 (impl_isMarking_c1 : ∀ {R : Type}, Nat → Int → (Bool → Option R) → Option R) (slices_IndexFunc_int_impl_isMarking_c1_l2 : ∀ {R : Type}, Nat → (List Int) → Int → Int → (Int → Option R) → (Option R) → Option R) {R : Type} (n : Nat) (y2_0 : List Int) (y2_1 : Int) (y2_2 : Int) (kk : Ex → Pk → Option R) : Dslices_IndexFunc_int_impl_isMarking_c1_l2.step tt sig (mkK [(159, Kimpl_isMarking_c1 @impl_isMarking_c1 n)] R) (mkL (mkK [(159, Kimpl_isMarking_c1 @impl_isMarking_c1 n)]) [] R) (loopIn 2 (bodyOf Try.f157)) (fun q' => Pslices_IndexFunc_int_impl_isMarking_c1_l2 @slices_IndexFunc_int_impl_isMarking_c1_l2 n R q' kk) (PkS.pack Sslices_IndexFunc_int_impl_isMarking_c1_l2 (y2_0, y2_1, y2_2, ())) kk = (fun (kret : Int → Option R) (kexit0 : Option R) => (bif (decide (y2_2 < y2_1)) then (bif decide (0 ≤ y2_2) then (bif decide (y2_2 < (y2_0.length : Int)) then (impl_isMarking_c1 n (y2_0.getD (Int.toNat y2_2) 0) fun r1 => (bif r1 then kret y2_2 else slices_IndexFunc_int_impl_isMarking_c1_l2 n y2_0 y2_1 (IntKind.wrap .i64 (y2_2 + 1)) kret kexit0)) else none) else none) else kexit0)) (fun r0 => kk .ret (PkS.pack Tslices_IndexFunc_int_impl_isMarking_c1_l2_0 (r0, ()))) (kk (.exit 0) (PkS.pack Tslices_IndexFunc_int_impl_isMarking_c1_l2_1 ())) := by kernel_rfl
theorem leslices_IndexFunc_int_impl_isMarking_c1_l2 : LoopEq tt sig (fun n => mkK [(159, Kimpl_isMarking_c1 @impl_isMarking_c1 n)]) (fun n => mkL (mkK [(159, Kimpl_isMarking_c1 @impl_isMarking_c1 n)]) []) Dslices_IndexFunc_int_impl_isMarking_c1_l2 Sslices_IndexFunc_int_impl_isMarking_c1_l2 (loopIn 2 (bodyOf Try.f157)) (Pslices_IndexFunc_int_impl_isMarking_c1_l2 @slices_IndexFunc_int_impl_isMarking_c1_l2) where
  zero R q kk := by unfold Pslices_IndexFunc_int_impl_isMarking_c1_l2; cases (PkS.un Sslices_IndexFunc_int_impl_isMarking_c1_l2 q) <;> rfl
  succ n R q kk := by
    unfold Pslices_IndexFunc_int_impl_isMarking_c1_l2
    cases h : (PkS.un Sslices_IndexFunc_int_impl_isMarking_c1_l2 q) with
    | none => rfl
    | some d =>
      obtain ⟨y2_0, y2_1, y2_2, u⟩ := (d : (List Int) × Int × Int × Unit)
      have hp := PkS.un_pack h
      subst hp
      exact (eslices_IndexFunc_int_impl_isMarking_c1_l2 @impl_isMarking_c1 @slices_IndexFunc_int_impl_isMarking_c1_l2 n y2_0 y2_1 y2_2 kk).symm
theorem nlslices_IndexFunc_int_impl_isMarking_c1_l2 : ∀ n, NatLP (Pslices_IndexFunc_int_impl_isMarking_c1_l2 @slices_IndexFunc_int_impl_isMarking_c1_l2 n) := leslices_IndexFunc_int_impl_isMarking_c1_l2.nat (fun n => mkK_nat (cslices_IndexFunc_int_impl_isMarking_c1 n)) fun n => mkL_nat (mkK_nat (cslices_IndexFunc_int_impl_isMarking_c1 n)) (l := []) trivial
theorem inslices_IndexFunc_int_impl_isMarking_c1_l2 (n : Nat) (R : Type) : LoopsOk Try.prog (mkL (mkK [(159, Kimpl_isMarking_c1 @impl_isMarking_c1 n)]) [] R) (loopIn 2 (bodyOf Try.f157)) := .eq (l := []) (by kernel_rfl) trivial
theorem lkslices_IndexFunc_int_impl_isMarking_c1_l2 (n : Nat) (R : Type) (L0 : LK R) (h0 : ∀ id, firstRegion (loopIn 2 (bodyOf Try.f157)) = some id → L0 id = Dslices_IndexFunc_int_impl_isMarking_c1_l2.oracle (mkK [(159, Kimpl_isMarking_c1 @impl_isMarking_c1 n)] R) (Pslices_IndexFunc_int_impl_isMarking_c1_l2 @slices_IndexFunc_int_impl_isMarking_c1_l2 n R)) : LoopOk Try.prog L0 (loopIn 2 (bodyOf Try.f157)) :=
  leslices_IndexFunc_int_impl_isMarking_c1_l2.ok mixed ttok (fun n => mkK_nat (cslices_IndexFunc_int_impl_isMarking_c1 n)) (fun n => mkK_ok (cslices_IndexFunc_int_impl_isMarking_c1 n)) (fun n => inslices_IndexFunc_int_impl_isMarking_c1_l2 n R) (mkK_nat (cslices_IndexFunc_int_impl_isMarking_c1 n)) h0
@[reducible] def Sslices_IndexFunc_int_impl_isMarking_c1 : PkS := ⟨[.one (.ro (.int .i64)), .one (.fn 159 [])], []⟩
@[reducible] def Tslices_IndexFunc_int_impl_isMarking_c1 : PkS := ⟨[.one (.int .i64), .one (.dead), .one (.fn 159 [])], []⟩
def Hslices_IndexFunc_int_impl_isMarking_c1 : List Sh := [.one .any, .skip, .fn 159 []]
def Kslices_IndexFunc_int_impl_isMarking_c1 (g : ∀ {R : Type}, Nat → (List Int) → (Int → Option R) → Option R) (n : Nat) : KPs := fun R p k => match (PkS.un Sslices_IndexFunc_int_impl_isMarking_c1 p : Option ((List Int) × Unit)) with
  | some (x0, _) => g n x0 (fun r0 => k (PkS.pack Tslices_IndexFunc_int_impl_isMarking_c1 (r0, ())))
  | none => none
theorem eslices_IndexFunc_int_impl_isMarking_c1 (impl_isMarking_c1 : ∀ {R : Type}, Nat → Int → (Bool → Option R) → Option R) (slices_IndexFunc_int_impl_isMarking_c1_l2 : ∀ {R : Type}, Nat → (List Int) → Int → Int → (Int → Option R) → (Option R) → Option R) {R : Type} (n : Nat) (x0 : List Int) (k : Pk → Option R) : evF tt sig (mkK [(159, Kimpl_isMarking_c1 @impl_isMarking_c1 n)] R) (mkL (mkK [(159, Kimpl_isMarking_c1 @impl_isMarking_c1 n)]) [(2, Dslices_IndexFunc_int_impl_isMarking_c1_l2, Pslices_IndexFunc_int_impl_isMarking_c1_l2 @slices_IndexFunc_int_impl_isMarking_c1_l2 n)] R) Try.f157 Hslices_IndexFunc_int_impl_isMarking_c1 (PkS.pack Sslices_IndexFunc_int_impl_isMarking_c1 (x0, ())) k = (fun (k : Int → Option R) => (slices_IndexFunc_int_impl_isMarking_c1_l2 n x0 (x0.length : Int) 0 (fun r2 => k r2) (k (-1)))) (fun r0 => k (PkS.pack Tslices_IndexFunc_int_impl_isMarking_c1 (r0, ()))) := by kernel_rfl
theorem okslices_IndexFunc_int_impl_isMarking_c1 (n : Nat) : FnOk Try.prog 157 (Kslices_IndexFunc_int_impl_isMarking_c1 @slices_IndexFunc_int_impl_isMarking_c1 n) := by
  refine fn_ok (sig := sig) mixed ttok (mkK_nat (cslices_IndexFunc_int_impl_isMarking_c1 n)) (mkK_ok (cslices_IndexFunc_int_impl_isMarking_c1 n)) (mkL_nat (mkK_nat (cslices_IndexFunc_int_impl_isMarking_c1 n)) (l := [(2, Dslices_IndexFunc_int_impl_isMarking_c1_l2, Pslices_IndexFunc_int_impl_isMarking_c1_l2 @slices_IndexFunc_int_impl_isMarking_c1_l2 n)]) ⟨nlslices_IndexFunc_int_impl_isMarking_c1_l2 n, trivial⟩) (fn := Try.f157) (c := bodyOf Try.f157) (by kernel_rfl) (by kernel_rfl) (by kernel_rfl) (.eq (l := [.lo (loopIn 2 (bodyOf Try.f157))]) (by kernel_rfl) ⟨(lkslices_IndexFunc_int_impl_isMarking_c1_l2 n _ _ (at_id (i := 2) (by kernel_rfl) rfl)), trivial⟩) (shs := Hslices_IndexFunc_int_impl_isMarking_c1) (S := Sslices_IndexFunc_int_impl_isMarking_c1) (h1 := by kernel_rfl) fun R p k => ?_
  unfold Kslices_IndexFunc_int_impl_isMarking_c1
  cases h : (PkS.un Sslices_IndexFunc_int_impl_isMarking_c1 p) with
  | none => rfl
  | some d =>
    obtain ⟨x0, u⟩ := (d : (List Int) × Unit)
    have hp := PkS.un_pack h
    subst hp
    exact (eslices_IndexFunc_int_impl_isMarking_c1 @impl_isMarking_c1 @slices_IndexFunc_int_impl_isMarking_c1_l2 n x0 k).symm

/-! ### slices.ContainsFunc[[]int,int] -/
theorem cslices_ContainsFunc_int_impl_isMarking_c1 (n : Nat) : AllOk Try.prog [(157, Kslices_IndexFunc_int_impl_isMarking_c1 @slices_IndexFunc_int_impl_isMarking_c1 n)] := ⟨okslices_IndexFunc_int_impl_isMarking_c1 n, trivial⟩
@[reducible] def Sslices_ContainsFunc_int_impl_isMarking_c1 : PkS := ⟨[.one (.ro (.int .i64)), .one (.fn 159 [])], []⟩
@[reducible] def Tslices_ContainsFunc_int_impl_isMarking_c1 : PkS := ⟨[.one (.bool), .one (.dead), .one (.fn 159 [])], []⟩
def Hslices_ContainsFunc_int_impl_isMarking_c1 : List Sh := [.one .any, .skip, .fn 159 []]
def Kslices_ContainsFunc_int_impl_isMarking_c1 (g : ∀ {R : Type}, Nat → (List Int) → (Bool → Option R) → Option R) (n : Nat) : KPs := fun R p k => match (PkS.un Sslices_ContainsFunc_int_impl_isMarking_c1 p : Option ((List Int) × Unit)) with
  | some (x0, _) => g n x0 (fun r0 => k (PkS.pack Tslices_ContainsFunc_int_impl_isMarking_c1 (r0, ())))
  | none => none
theorem eslices_ContainsFunc_int_impl_isMarking_c1 (slices_IndexFunc_int_impl_isMarking_c1 : ∀ {R : Type}, Nat → (List Int) → (Int → Option R) → Option R) {R : Type} (n : Nat) (x0 : List Int) (k : Pk → Option R) : evF tt sig (mkK [(157, Kslices_IndexFunc_int_impl_isMarking_c1 @slices_IndexFunc_int_impl_isMarking_c1 n)] R) (mkL (mkK [(157, Kslices_IndexFunc_int_impl_isMarking_c1 @slices_IndexFunc_int_impl_isMarking_c1 n)]) [] R) Try.f120 Hslices_ContainsFunc_int_impl_isMarking_c1 (PkS.pack Sslices_ContainsFunc_int_impl_isMarking_c1 (x0, ())) k = (fun (k : Bool → Option R) => (slices_IndexFunc_int_impl_isMarking_c1 n x0 fun r1 => k (decide (r1 ≥ 0)))) (fun r0 => k (PkS.pack Tslices_ContainsFunc_int_impl_isMarking_c1 (r0, ()))) := by kernel_rfl
theorem okslices_ContainsFunc_int_impl_isMarking_c1 (n : Nat) : FnOk Try.prog 120 (Kslices_ContainsFunc_int_impl_isMarking_c1 @slices_ContainsFunc_int_impl_isMarking_c1 n) := by
  refine fn_ok (sig := sig) mixed ttok (mkK_nat (cslices_ContainsFunc_int_impl_isMarking_c1 n)) (mkK_ok (cslices_ContainsFunc_int_impl_isMarking_c1 n)) (mkL_nat (mkK_nat (cslices_ContainsFunc_int_impl_isMarking_c1 n)) (l := []) trivial) (fn := Try.f120) (c := bodyOf Try.f120) (by kernel_rfl) (by kernel_rfl) (by kernel_rfl) (.eq (l := []) (by kernel_rfl) trivial) (shs := Hslices_ContainsFunc_int_impl_isMarking_c1) (S := Sslices_ContainsFunc_int_impl_isMarking_c1) (h1 := by kernel_rfl) fun R p k => ?_
  unfold Kslices_ContainsFunc_int_impl_isMarking_c1
  cases h : (PkS.un Sslices_ContainsFunc_int_impl_isMarking_c1 p) with
  | none => rfl
  | some d =>
    obtain ⟨x0, u⟩ := (d : (List Int) × Unit)
    have hp := PkS.un_pack h
    subst hp
    exact (eslices_ContainsFunc_int_impl_isMarking_c1 @slices_IndexFunc_int_impl_isMarking_c1 n x0 k).symm

/-! ### loop.example/g00269/impl.isMarking -/
theorem cimpl_isMarking (n : Nat) : AllOk Try.prog [(120, Kslices_ContainsFunc_int_impl_isMarking_c1 @slices_ContainsFunc_int_impl_isMarking_c1 n)] := ⟨okslices_ContainsFunc_int_impl_isMarking_c1 n, trivial⟩
@[reducible] def Simpl_isMarking : PkS := ⟨[.one (.ro (.int .i64)), .one (.int .i64)], []⟩
@[reducible] def Timpl_isMarking : PkS := ⟨[.one (.bool), .one (.dead), .one (.dead)], []⟩
def Himpl_isMarking : List Sh := [.one .any, .skip, .skip]
def Kimpl_isMarking (g : ∀ {R : Type}, Nat → (List Int) → Int → (Bool → Option R) → Option R) (n : Nat) : KPs := fun R p k => match (PkS.un Simpl_isMarking p : Option ((List Int) × Int × Unit)) with
  | some (x0, x1, _) => g n x0 x1 (fun r0 => k (PkS.pack Timpl_isMarking (r0, ())))
  | none => none
theorem eimpl_isMarking (slices_ContainsFunc_int_impl_isMarking_c1 : ∀ {R : Type}, Nat → (List Int) → (Bool → Option R) → Option R) {R : Type} (n : Nat) (x0 : List Int) (x1 : Int) (k : Pk → Option R) : evF tt sig (mkK [(120, Kslices_ContainsFunc_int_impl_isMarking_c1 @slices_ContainsFunc_int_impl_isMarking_c1 n)] R) (mkL (mkK [(120, Kslices_ContainsFunc_int_impl_isMarking_c1 @slices_ContainsFunc_int_impl_isMarking_c1 n)]) [] R) Try.f127 Himpl_isMarking (PkS.pack Simpl_isMarking (x0, x1, ())) k = (fun (k : Bool → Option R) => (bif ((x0.length : Int) == x1) then (slices_ContainsFunc_int_impl_isMarking_c1 n x0 fun r1 => k (!r1)) else k false)) (fun r0 => k (PkS.pack Timpl_isMarking (r0, ()))) := by kernel_rfl
theorem okimpl_isMarking (n : Nat) : FnOk Try.prog 127 (Kimpl_isMarking @impl_isMarking n) := by
  refine fn_ok (sig := sig) mixed ttok (mkK_nat (cimpl_isMarking n)) (mkK_ok (cimpl_isMarking n)) (mkL_nat (mkK_nat (cimpl_isMarking n)) (l := []) trivial) (fn := Try.f127) (c := bodyOf Try.f127) (by kernel_rfl) (by kernel_rfl) (by kernel_rfl) (.eq (l := []) (by kernel_rfl) trivial) (shs := Himpl_isMarking) (S := Simpl_isMarking) (h1 := by kernel_rfl) fun R p k => ?_
  unfold Kimpl_isMarking
  cases h : (PkS.un Simpl_isMarking p) with
  | none => rfl
  | some d =>
    obtain ⟨x0, x1, u⟩ := (d : (List Int) × Int × Unit)
    have hp := PkS.un_pack h
    subst hp
    exact (eimpl_isMarking @slices_ContainsFunc_int_impl_isMarking_c1 n x0 x1 k).symm

/-! ### loop.example/g00269/impl.markOk -/
theorem cimpl_markOk (n : Nat) : AllOk Try.prog [(59, Kimpl_GoodNet @impl_GoodNet n), (127, Kimpl_isMarking @impl_isMarking n)] := ⟨okimpl_GoodNet n, ⟨okimpl_isMarking n, trivial⟩⟩
@[reducible] def Simpl_markOk : PkS := ⟨[.agg [.int .i64, .ro (.pr (.sl (.int .i64)) (.sl (.int .i64)))], .one (.ro (.int .i64))], []⟩
@[reducible] def Timpl_markOk : PkS := ⟨[.one (.bool), .one (.dead), .one (.dead)], []⟩
def Himpl_markOk : List Sh := [.one .any, .skip, .skip]
def Kimpl_markOk (g : ∀ {R : Type}, Nat → Int → (List (List Int × List Int)) → (List Int) → (Bool → Option R) → Option R) (n : Nat) : KPs := fun R p k => match (PkS.un Simpl_markOk p : Option (Int × (List (List Int × List Int)) × (List Int) × Unit)) with
  | some (x0, x1, x2, _) => g n x0 x1 x2 (fun r0 => k (PkS.pack Timpl_markOk (r0, ())))
  | none => none
theorem eimpl_markOk (impl_GoodNet : ∀ {R : Type}, Nat → Int → (List (List Int × List Int)) → (Bool → Option R) → Option R) (impl_isMarking : ∀ {R : Type}, Nat → (List Int) → Int → (Bool → Option R) → Option R) {R : Type} (n : Nat) (x0 : Int) (x1 : List (List Int × List Int)) (x2 : List Int) (k : Pk → Option R) : evF tt sig (mkK [(59, Kimpl_GoodNet @impl_GoodNet n), (127, Kimpl_isMarking @impl_isMarking n)] R) (mkL (mkK [(59, Kimpl_GoodNet @impl_GoodNet n), (127, Kimpl_isMarking @impl_isMarking n)]) [] R) Try.f122 Himpl_markOk (PkS.pack Simpl_markOk (x0, x1, x2, ())) k = (fun (k : Bool → Option R) => (impl_GoodNet n x0 x1 fun r1 => (bif r1 then (impl_isMarking n x2 x0 fun r2 => k r2) else k false))) (fun r0 => k (PkS.pack Timpl_markOk (r0, ()))) := by kernel_rfl
theorem okimpl_markOk (n : Nat) : FnOk Try.prog 122 (Kimpl_markOk @impl_markOk n) := by
  refine fn_ok (sig := sig) mixed ttok (mkK_nat (cimpl_markOk n)) (mkK_ok (cimpl_markOk n)) (mkL_nat (mkK_nat (cimpl_markOk n)) (l := []) trivial) (fn := Try.f122) (c := bodyOf Try.f122) (by kernel_rfl) (by kernel_rfl) (by kernel_rfl) (.eq (l := []) (by kernel_rfl) trivial) (shs := Himpl_markOk) (S := Simpl_markOk) (h1 := by kernel_rfl) fun R p k => ?_
  unfold Kimpl_markOk
  cases h : (PkS.un Simpl_markOk p) with
  | none => rfl
  | some d =>
    obtain ⟨x0, x1, x2, u⟩ := (d : Int × (List (List Int × List Int)) × (List Int) × Unit)
    have hp := PkS.un_pack h
    subst hp
    exact (eimpl_markOk @impl_GoodNet @impl_isMarking n x0 x1 x2 k).symm

/-! ### slices.Clone[[]int,int] -/
theorem cslices_Clone_int (n : Nat) : AllOk Try.prog [] := trivial
@[reducible] def Sslices_Clone_int : PkS := ⟨[.one (.ro (.int .i64))], []⟩
@[reducible] def Tslices_Clone_int : PkS := ⟨[.one (.whole (300000, 0)), .one (.dead)], [((300000, 0), .arr (.int .i64))]⟩
def Kslices_Clone_int (g : ∀ {R : Type}, Nat → (List Int) → ((List Int) → Option R) → Option R) (n : Nat) : KPs := fun R p k => match (PkS.un Sslices_Clone_int p : Option ((List Int) × Unit)) with
  | some (x0, _) => g n x0 (fun r0 => k (PkS.pack Tslices_Clone_int (r0, ())))
  | none => none
theorem okslices_Clone_int (n : Nat) : FnOk Try.prog 123 (Kslices_Clone_int @slices_Clone_int n) := by
  have e : Kslices_Clone_int @slices_Clone_int n = cloneK (.int .i64) := by kernel_rfl
  rw [e]
  exact clone_ok (sig := sig) mixed ttok (fn := Try.f123) (c := bodyOf Try.f123) (by kernel_rfl) (by kernel_rfl) (by kernel_rfl) (.int .i64) [.one (.own (.int .i64)), .skip] (.eq (l := []) (by kernel_rfl) trivial) (fun xs => by kernel_rfl) (by kernel_rfl) (by kernel_rfl)

/-! ### slices.Min[[]int,int] -/
theorem cslices_Min_int (n : Nat) : AllOk Try.prog [] := trivial
@[reducible] def Sslices_Min_int_l5 : PkS := ⟨[.one (.ro (.int .i64)), .one (.int .i64), .one (.int .i64), .one (.dead)], []⟩
@[reducible] def Tslices_Min_int_l5_0 : PkS := ⟨[.one (.int .i64), .one (.dead)], []⟩
def Dslices_Min_int_l5 : LoopD := ⟨25, [0, 3, 4], [.one (.ro (.int .i64)), .one .any, .one .any, .skip], fun x => match x with
  | .exit 0 => some ([3], [.one .any, .skip])
  | _ => none⟩
def Pslices_Min_int_l5 (g : ∀ {R : Type}, Nat → (List Int) → Int → Int → (Int → Option R) → Option R) (n : Nat) : LPs := fun R q kk => match (PkS.un Sslices_Min_int_l5 q : Option ((List Int) × Int × Int × Unit)) with
  | some (y5_0, y5_1, y5_2, _) => g n y5_0 y5_1 y5_2 (fun r0 => kk (.exit 0) (PkS.pack Tslices_Min_int_l5_0 (r0, ())))
  | none => none
theorem eslices_Min_int_l5 (slices_Min_int_l5 : ∀ {R : Type}, Nat → (List Int) → Int → Int → (Int → Option R) → Option R) {R : Type} (n : Nat) (y5_0 : List Int) (y5_1 : Int) (y5_2 : Int) (kk : Ex → Pk → Option R) : Dslices_Min_int_l5.step tt sig (mkK [] R) (mkL (mkK []) [] R) (loopIn 5 (bodyOf Try.f158)) (fun q' => Pslices_Min_int_l5 @slices_Min_int_l5 n R q' kk) (PkS.pack Sslices_Min_int_l5 (y5_0, y5_1, y5_2, ())) kk = (fun (kexit0 : Int → Option R) => (bif (decide (y5_2 < (y5_0.length : Int))) then (bif decide (0 ≤ y5_2) then (bif decide (y5_2 < (y5_0.length : Int)) then slices_Min_int_l5 n y5_0 (if (y5_0.getD (Int.toNat y5_2) 0) < y5_1 then (y5_0.getD (Int.toNat y5_2) 0) else y5_1) (IntKind.wrap .i64 (y5_2 + 1)) kexit0 else none) else none) else kexit0 y5_1)) (fun r0 => kk (.exit 0) (PkS.pack Tslices_Min_int_l5_0 (r0, ()))) := by kernel_rfl
theorem leslices_Min_int_l5 : LoopEq tt sig (fun n => mkK []) (fun n => mkL (mkK []) []) Dslices_Min_int_l5 Sslices_Min_int_l5 (loopIn 5 (bodyOf Try.f158)) (Pslices_Min_int_l5 @slices_Min_int_l5) where
  zero R q kk := by unfold Pslices_Min_int_l5; cases (PkS.un Sslices_Min_int_l5 q) <;> rfl
  succ n R q kk := by
    unfold Pslices_Min_int_l5
    cases h : (PkS.un Sslices_Min_int_l5 q) with
    | none => rfl
    | some d =>
      obtain ⟨y5_0, y5_1, y5_2, u⟩ := (d : (List Int) × Int × Int × Unit)
      have hp := PkS.un_pack h
      subst hp
      exact (eslices_Min_int_l5 @slices_Min_int_l5 n y5_0 y5_1 y5_2 kk).symm
theorem nlslices_Min_int_l5 : ∀ n, NatLP (Pslices_Min_int_l5 @slices_Min_int_l5 n) := leslices_Min_int_l5.nat (fun n => mkK_nat (cslices_Min_int n)) fun n => mkL_nat (mkK_nat (cslices_Min_int n)) (l := []) trivial
theorem inslices_Min_int_l5 (n : Nat) (R : Type) : LoopsOk Try.prog (mkL (mkK []) [] R) (loopIn 5 (bodyOf Try.f158)) := .eq (l := []) (by kernel_rfl) trivial
theorem lkslices_Min_int_l5 (n : Nat) (R : Type) (L0 : LK R) (h0 : ∀ id, firstRegion (loopIn 5 (bodyOf Try.f158)) = some id → L0 id = Dslices_Min_int_l5.oracle (mkK [] R) (Pslices_Min_int_l5 @slices_Min_int_l5 n R)) : LoopOk Try.prog L0 (loopIn 5 (bodyOf Try.f158)) :=
  leslices_Min_int_l5.ok mixed ttok (fun n => mkK_nat (cslices_Min_int n)) (fun n => mkK_ok (cslices_Min_int n)) (fun n => inslices_Min_int_l5 n R) (mkK_nat (cslices_Min_int n)) h0
@[reducible] def Sslices_Min_int : PkS := ⟨[.one (.ro (.int .i64))], []⟩
@[reducible] def Tslices_Min_int : PkS := ⟨[.one (.int .i64), .one (.dead)], []⟩
def Hslices_Min_int : List Sh := [.one .any, .skip]
def Kslices_Min_int (g : ∀ {R : Type}, Nat → (List Int) → (Int → Option R) → Option R) (n : Nat) : KPs := fun R p k => match (PkS.un Sslices_Min_int p : Option ((List Int) × Unit)) with
  | some (x0, _) => g n x0 (fun r0 => k (PkS.pack Tslices_Min_int (r0, ())))
  | none => none
theorem eslices_Min_int (slices_Min_int_l5 : ∀ {R : Type}, Nat → (List Int) → Int → Int → (Int → Option R) → Option R) {R : Type} (n : Nat) (x0 : List Int) (k : Pk → Option R) : evF tt sig (mkK [] R) (mkL (mkK []) [(5, Dslices_Min_int_l5, Pslices_Min_int_l5 @slices_Min_int_l5 n)] R) Try.f158 Hslices_Min_int (PkS.pack Sslices_Min_int (x0, ())) k = (fun (k : Int → Option R) => (bif (decide ((x0.length : Int) < 1)) then none else (bif decide (0 < (x0.length : Int)) then (slices_Min_int_l5 n x0 (x0.getD 0 0) 1 (fun r1 => k r1)) else none))) (fun r0 => k (PkS.pack Tslices_Min_int (r0, ()))) := by kernel_rfl
theorem okslices_Min_int (n : Nat) : FnOk Try.prog 158 (Kslices_Min_int @slices_Min_int n) := by
  refine fn_ok (sig := sig) mixed ttok (mkK_nat (cslices_Min_int n)) (mkK_ok (cslices_Min_int n)) (mkL_nat (mkK_nat (cslices_Min_int n)) (l := [(5, Dslices_Min_int_l5, Pslices_Min_int_l5 @slices_Min_int_l5 n)]) ⟨nlslices_Min_int_l5 n, trivial⟩) (fn := Try.f158) (c := bodyOf Try.f158) (by kernel_rfl) (by kernel_rfl) (by kernel_rfl) (.eq (l := [.lo (loopIn 5 (bodyOf Try.f158))]) (by kernel_rfl) ⟨(lkslices_Min_int_l5 n _ _ (at_id (i := 5) (by kernel_rfl) rfl)), trivial⟩) (shs := Hslices_Min_int) (S := Sslices_Min_int) (h1 := by kernel_rfl) fun R p k => ?_
  unfold Kslices_Min_int
  cases h : (PkS.un Sslices_Min_int p) with
  | none => rfl
  | some d =>
    obtain ⟨x0, u⟩ := (d : (List Int) × Unit)
    have hp := PkS.un_pack h
    subst hp
    exact (eslices_Min_int @slices_Min_int_l5 n x0 k).symm

/-! ### (*loop.example/g00269/impl.Net).fired -/
theorem cimpl_Net_fired (n : Nat) : AllOk Try.prog [(123, Kslices_Clone_int @slices_Clone_int n), (158, Kslices_Min_int @slices_Min_int n), (127, Kimpl_isMarking @impl_isMarking n)] := ⟨okslices_Clone_int n, ⟨okslices_Min_int n, ⟨okimpl_isMarking n, trivial⟩⟩⟩
@[reducible] def Simpl_Net_fired_l3 : PkS := ⟨[.one (.box (100000, 0) 0), .one (.whole (100000, 1)), .one (.box (100000, 2) 0), .one (.ro (.int .i64)), .one (.int .i64), .one (.int .i64), .one (.box (100000, 0) 0), .one (.dead), .one (.dead)], [((100000, 0), .box [.int .i64, .ro (.pr (.sl (.int .i64)) (.sl (.int .i64)))]), ((100000, 1), .arr (.int .i64)), ((100000, 2), .box [.ro (.int .i64), .ro (.int .i64)])]⟩
@[reducible] def Timpl_Net_fired_l3_0 : PkS := ⟨[.one (.box (100000, 0) 0), .one (.whole (100000, 1)), .one (.box (100000, 2) 0), .one (.box (100000, 0) 0), .one (.dead), .one (.dead)], [((100000, 0), .box [.int .i64, .ro (.pr (.sl (.int .i64)) (.sl (.int .i64)))]), ((100000, 1), .arr (.int .i64)), ((100000, 2), .box [.ro (.int .i64), .ro (.int .i64)])]⟩
def Dimpl_Net_fired_l3 : LoopD := ⟨61, [0, 8, 9, 24, 25, 26], [.box [.any, (.ro (.pr (.sl (.int .i64)) (.sl (.int .i64))))], .one (.own (.int .i64)), .box [(.ro (.int .i64)), (.ro (.int .i64))], .one (.ro (.int .i64)), .one .any, .one .any, .box [.any, (.ro (.pr (.sl (.int .i64)) (.sl (.int .i64))))], .skip, .skip], fun x => match x with
  | .exit 0 => some ([0, 8, 9], [.box [.any, (.ro (.pr (.sl (.int .i64)) (.sl (.int .i64))))], .one (.own (.int .i64)), .box [(.ro (.int .i64)), (.ro (.int .i64))], .box [.any, (.ro (.pr (.sl (.int .i64)) (.sl (.int .i64))))], .skip, .skip])
  | _ => none⟩
def Pimpl_Net_fired_l3 (g : ∀ {R : Type}, Nat → (List Int) → Int → Int → Int → (List (List Int × List Int)) → (List Int) → (List Int) → (List Int) → (Int → (List (List Int × List Int)) → (List Int) → (List Int) → (List Int) → Option R) → Option R) (n : Nat) : LPs := fun R q kk => match (PkS.un Simpl_Net_fired_l3 q : Option ((List Int) × Int × Int × Int × (List (List Int × List Int)) × (List Int) × (List Int) × (List Int) × Unit)) with
  | some (y3_0, y3_1, y3_2, y3_3, y3_4, y3_5, y3_6, y3_7, _) => g n y3_0 y3_1 y3_2 y3_3 y3_4 y3_5 y3_6 y3_7 (fun r0 r1 r2 r3 r4 => kk (.exit 0) (PkS.pack Timpl_Net_fired_l3_0 (r0, r1, r2, r3, r4, ())))
  | none => none
theorem eimpl_Net_fired_l3 (slices_Clone_int : ∀ {R : Type}, Nat → (List Int) → ((List Int) → Option R) → Option R) (slices_Min_int : ∀ {R : Type}, Nat → (List Int) → (Int → Option R) → Option R) (impl_isMarking : ∀ {R : Type}, Nat → (List Int) → Int → (Bool → Option R) → Option R) (impl_Net_fired_l3 : ∀ {R : Type}, Nat → (List Int) → Int → Int → Int → (List (List Int × List Int)) → (List Int) → (List Int) → (List Int) → (Int → (List (List Int × List Int)) → (List Int) → (List Int) → (List Int) → Option R) → Option R) {R : Type} (n : Nat) (y3_0 : List Int) (y3_1 : Int) (y3_2 : Int) (y3_3 : Int) (y3_4 : List (List Int × List Int)) (y3_5 : List Int) (y3_6 : List Int) (y3_7 : List Int) (kk : Ex → Pk → Option R) : Dimpl_Net_fired_l3.step tt sig (mkK [(123, Kslices_Clone_int @slices_Clone_int n), (158, Kslices_Min_int @slices_Min_int n), (127, Kimpl_isMarking @impl_isMarking n)] R) (mkL (mkK [(123, Kslices_Clone_int @slices_Clone_int n), (158, Kslices_Min_int @slices_Min_int n), (127, Kimpl_isMarking @impl_isMarking n)]) [] R) (loopIn 3 (bodyOf Try.f124)) (fun q' => Pimpl_Net_fired_l3 @impl_Net_fired_l3 n R q' kk) (PkS.pack Simpl_Net_fired_l3 (y3_0, y3_1, y3_2, y3_3, y3_4, y3_5, y3_6, y3_7, ())) kk = (fun (kexit0 : Int → (List (List Int × List Int)) → (List Int) → (List Int) → (List Int) → Option R) => (bif (decide (y3_2 < y3_1)) then (bif decide (0 ≤ y3_2) then (bif decide (y3_2 < (y3_0.length : Int)) then (bif decide (0 ≤ (y3_0.getD (Int.toNat y3_2) 0)) then (bif decide ((y3_0.getD (Int.toNat y3_2) 0) < (y3_5.length : Int)) then (bif decide (0 ≤ (y3_0.getD (Int.toNat y3_2) 0)) then (bif decide ((y3_0.getD (Int.toNat y3_2) 0) < (y3_5.length : Int)) then impl_Net_fired_l3 n y3_0 y3_1 (IntKind.wrap .i64 (y3_2 + 1)) y3_3 y3_4 (y3_5.set (Int.toNat (y3_0.getD (Int.toNat y3_2) 0)) (IntKind.wrap .i64 ((y3_5.getD (Int.toNat (y3_0.getD (Int.toNat y3_2) 0)) 0) - 1))) y3_6 y3_7 kexit0 else none) else none) else none) else none) else none) else none) else kexit0 y3_3 y3_4 y3_5 y3_6 y3_7)) (fun r0 r1 r2 r3 r4 => kk (.exit 0) (PkS.pack Timpl_Net_fired_l3_0 (r0, r1, r2, r3, r4, ()))) := by kernel_rfl
theorem leimpl_Net_fired_l3 : LoopEq tt sig (fun n => mkK [(123, Kslices_Clone_int @slices_Clone_int n), (158, Kslices_Min_int @slices_Min_int n), (127, Kimpl_isMarking @impl_isMarking n)]) (fun n => mkL (mkK [(123, Kslices_Clone_int @slices_Clone_int n), (158, Kslices_Min_int @slices_Min_int n), (127, Kimpl_isMarking @impl_isMarking n)]) []) Dimpl_Net_fired_l3 Simpl_Net_fired_l3 (loopIn 3 (bodyOf Try.f124)) (Pimpl_Net_fired_l3 @impl_Net_fired_l3) where
  zero R q kk := by unfold Pimpl_Net_fired_l3; cases (PkS.un Simpl_Net_fired_l3 q) <;> rfl
  succ n R q kk := by
    unfold Pimpl_Net_fired_l3
    cases h : (PkS.un Simpl_Net_fired_l3 q) with
    | none => rfl
    | some d =>
      obtain ⟨y3_0, y3_1, y3_2, y3_3, y3_4, y3_5, y3_6, y3_7, u⟩ := (d : (List Int) × Int × Int × Int × (List (List Int × List Int)) × (List Int) × (List Int) × (List Int) × Unit)
      have hp := PkS.un_pack h
      subst hp
      exact (eimpl_Net_fired_l3 @slices_Clone_int @slices_Min_int @impl_isMarking @impl_Net_fired_l3 n y3_0 y3_1 y3_2 y3_3 y3_4 y3_5 y3_6 y3_7 kk).symm
theorem nlimpl_Net_fired_l3 : ∀ n, NatLP (Pimpl_Net_fired_l3 @impl_Net_fired_l3 n) := leimpl_Net_fired_l3.nat (fun n => mkK_nat (cimpl_Net_fired n)) fun n => mkL_nat (mkK_nat (cimpl_Net_fired n)) (l := []) trivial
theorem inimpl_Net_fired_l3 (n : Nat) (R : Type) : LoopsOk Try.prog (mkL (mkK [(123, Kslices_Clone_int @slices_Clone_int n), (158, Kslices_Min_int @slices_Min_int n), (127, Kimpl_isMarking @impl_isMarking n)]) [] R) (loopIn 3 (bodyOf Try.f124)) := .eq (l := []) (by kernel_rfl) trivial
theorem lkimpl_Net_fired_l3 (n : Nat) (R : Type) (L0 : LK R) (h0 : ∀ id, firstRegion (loopIn 3 (bodyOf Try.f124)) = some id → L0 id = Dimpl_Net_fired_l3.oracle (mkK [(123, Kslices_Clone_int @slices_Clone_int n), (158, Kslices_Min_int @slices_Min_int n), (127, Kimpl_isMarking @impl_isMarking n)] R) (Pimpl_Net_fired_l3 @impl_Net_fired_l3 n R)) : LoopOk Try.prog L0 (loopIn 3 (bodyOf Try.f124)) :=
  leimpl_Net_fired_l3.ok mixed ttok (fun n => mkK_nat (cimpl_Net_fired n)) (fun n => mkK_ok (cimpl_Net_fired n)) (fun n => inimpl_Net_fired_l3 n R) (mkK_nat (cimpl_Net_fired n)) h0
@[reducible] def Simpl_Net_fired_l10 : PkS := ⟨[.one (.box (100000, 0) 0), .one (.whole (100000, 1)), .one (.ro (.int .i64)), .one (.int .i64), .one (.int .i64), .one (.box (100000, 0) 0), .one (.dead), .one (.dead)], [((100000, 0), .box [.int .i64, .ro (.pr (.sl (.int .i64)) (.sl (.int .i64)))]), ((100000, 1), .arr (.int .i64))]⟩
@[reducible] def Timpl_Net_fired_l10_0 : PkS := ⟨[.one (.box (100000, 0) 0), .one (.whole (100000, 1)), .one (.box (100000, 0) 0), .one (.dead), .one (.dead)], [((100000, 0), .box [.int .i64, .ro (.pr (.sl (.int .i64)) (.sl (.int .i64)))]), ((100000, 1), .arr (.int .i64))]⟩
def Dimpl_Net_fired_l10 : LoopD := ⟨61, [0, 8, 41, 42, 43], [.box [.any, (.ro (.pr (.sl (.int .i64)) (.sl (.int .i64))))], .one (.own (.int .i64)), .one (.ro (.int .i64)), .one .any, .one .any, .box [.any, (.ro (.pr (.sl (.int .i64)) (.sl (.int .i64))))], .skip, .skip], fun x => match x with
  | .exit 2 => some ([0, 8], [.box [.any, (.ro (.pr (.sl (.int .i64)) (.sl (.int .i64))))], .one (.own (.int .i64)), .box [.any, (.ro (.pr (.sl (.int .i64)) (.sl (.int .i64))))], .skip, .skip])
  | _ => none⟩
def Pimpl_Net_fired_l10 (g : ∀ {R : Type}, Nat → (List Int) → Int → Int → Int → (List (List Int × List Int)) → (List Int) → (Int → (List (List Int × List Int)) → (List Int) → Option R) → Option R) (n : Nat) : LPs := fun R q kk => match (PkS.un Simpl_Net_fired_l10 q : Option ((List Int) × Int × Int × Int × (List (List Int × List Int)) × (List Int) × Unit)) with
  | some (y10_0, y10_1, y10_2, y10_3, y10_4, y10_5, _) => g n y10_0 y10_1 y10_2 y10_3 y10_4 y10_5 (fun r0 r1 r2 => kk (.exit 2) (PkS.pack Timpl_Net_fired_l10_0 (r0, r1, r2, ())))
  | none => none
theorem eimpl_Net_fired_l10 (slices_Clone_int : ∀ {R : Type}, Nat → (List Int) → ((List Int) → Option R) → Option R) (slices_Min_int : ∀ {R : Type}, Nat → (List Int) → (Int → Option R) → Option R) (impl_isMarking : ∀ {R : Type}, Nat → (List Int) → Int → (Bool → Option R) → Option R) (impl_Net_fired_l3 : ∀ {R : Type}, Nat → (List Int) → Int → Int → Int → (List (List Int × List Int)) → (List Int) → (List Int) → (List Int) → (Int → (List (List Int × List Int)) → (List Int) → (List Int) → (List Int) → Option R) → Option R) (impl_Net_fired_l10 : ∀ {R : Type}, Nat → (List Int) → Int → Int → Int → (List (List Int × List Int)) → (List Int) → (Int → (List (List Int × List Int)) → (List Int) → Option R) → Option R) {R : Type} (n : Nat) (y10_0 : List Int) (y10_1 : Int) (y10_2 : Int) (y10_3 : Int) (y10_4 : List (List Int × List Int)) (y10_5 : List Int) (kk : Ex → Pk → Option R) : Dimpl_Net_fired_l10.step tt sig (mkK [(123, Kslices_Clone_int @slices_Clone_int n), (158, Kslices_Min_int @slices_Min_int n), (127, Kimpl_isMarking @impl_isMarking n)] R) (mkL (mkK [(123, Kslices_Clone_int @slices_Clone_int n), (158, Kslices_Min_int @slices_Min_int n), (127, Kimpl_isMarking @impl_isMarking n)]) [(3, Dimpl_Net_fired_l3, Pimpl_Net_fired_l3 @impl_Net_fired_l3 n)] R) (loopIn 10 (bodyOf Try.f124)) (fun q' => Pimpl_Net_fired_l10 @impl_Net_fired_l10 n R q' kk) (PkS.pack Simpl_Net_fired_l10 (y10_0, y10_1, y10_2, y10_3, y10_4, y10_5, ())) kk = (fun (kexit2 : Int → (List (List Int × List Int)) → (List Int) → Option R) => (bif (decide (y10_2 < y10_1)) then (bif decide (0 ≤ y10_2) then (bif decide (y10_2 < (y10_0.length : Int)) then (bif decide (0 ≤ (y10_0.getD (Int.toNat y10_2) 0)) then (bif decide ((y10_0.getD (Int.toNat y10_2) 0) < (y10_5.length : Int)) then (bif decide (0 ≤ (y10_0.getD (Int.toNat y10_2) 0)) then (bif decide ((y10_0.getD (Int.toNat y10_2) 0) < (y10_5.length : Int)) then impl_Net_fired_l10 n y10_0 y10_1 (IntKind.wrap .i64 (y10_2 + 1)) y10_3 y10_4 (y10_5.set (Int.toNat (y10_0.getD (Int.toNat y10_2) 0)) (IntKind.wrap .i64 ((y10_5.getD (Int.toNat (y10_0.getD (Int.toNat y10_2) 0)) 0) + 1))) kexit2 else none) else none) else none) else none) else none) else none) else kexit2 y10_3 y10_4 y10_5)) (fun r0 r1 r2 => kk (.exit 2) (PkS.pack Timpl_Net_fired_l10_0 (r0, r1, r2, ()))) := by kernel_rfl
theorem leimpl_Net_fired_l10 : LoopEq tt sig (fun n => mkK [(123, Kslices_Clone_int @slices_Clone_int n), (158, Kslices_Min_int @slices_Min_int n), (127, Kimpl_isMarking @impl_isMarking n)]) (fun n => mkL (mkK [(123, Kslices_Clone_int @slices_Clone_int n), (158, Kslices_Min_int @slices_Min_int n), (127, Kimpl_isMarking @impl_isMarking n)]) [(3, Dimpl_Net_fired_l3, Pimpl_Net_fired_l3 @impl_Net_fired_l3 n)]) Dimpl_Net_fired_l10 Simpl_Net_fired_l10 (loopIn 10 (bodyOf Try.f124)) (Pimpl_Net_fired_l10 @impl_Net_fired_l10) where
  zero R q kk := by unfold Pimpl_Net_fired_l10; cases (PkS.un Simpl_Net_fired_l10 q) <;> rfl
  succ n R q kk := by
    unfold Pimpl_Net_fired_l10
    cases h : (PkS.un Simpl_Net_fired_l10 q) with
    | none => rfl
    | some d =>
      obtain ⟨y10_0, y10_1, y10_2, y10_3, y10_4, y10_5, u⟩ := (d : (List Int) × Int × Int × Int × (List (List Int × List Int)) × (List Int) × Unit)
      have hp := PkS.un_pack h
      subst hp
      exact (eimpl_Net_fired_l10 @slices_Clone_int @slices_Min_int @impl_isMarking @impl_Net_fired_l3 @impl_Net_fired_l10 n y10_0 y10_1 y10_2 y10_3 y10_4 y10_5 kk).symm
theorem nlimpl_Net_fired_l10 : ∀ n, NatLP (Pimpl_Net_fired_l10 @impl_Net_fired_l10 n) := leimpl_Net_fired_l10.nat (fun n => mkK_nat (cimpl_Net_fired n)) fun n => mkL_nat (mkK_nat (cimpl_Net_fired n)) (l := [(3, Dimpl_Net_fired_l3, Pimpl_Net_fired_l3 @impl_Net_fired_l3 n)]) ⟨nlimpl_Net_fired_l3 n, trivial⟩
theorem inimpl_Net_fired_l10 (n : Nat) (R : Type) : LoopsOk Try.prog (mkL (mkK [(123, Kslices_Clone_int @slices_Clone_int n), (158, Kslices_Min_int @slices_Min_int n), (127, Kimpl_isMarking @impl_isMarking n)]) [(3, Dimpl_Net_fired_l3, Pimpl_Net_fired_l3 @impl_Net_fired_l3 n)] R) (loopIn 10 (bodyOf Try.f124)) := .eq (l := []) (by kernel_rfl) trivial
theorem lkimpl_Net_fired_l10 (n : Nat) (R : Type) (L0 : LK R) (h0 : ∀ id, firstRegion (loopIn 10 (bodyOf Try.f124)) = some id → L0 id = Dimpl_Net_fired_l10.oracle (mkK [(123, Kslices_Clone_int @slices_Clone_int n), (158, Kslices_Min_int @slices_Min_int n), (127, Kimpl_isMarking @impl_isMarking n)] R) (Pimpl_Net_fired_l10 @impl_Net_fired_l10 n R)) : LoopOk Try.prog L0 (loopIn 10 (bodyOf Try.f124)) :=
  leimpl_Net_fired_l10.ok mixed ttok (fun n => mkK_nat (cimpl_Net_fired n)) (fun n => mkK_ok (cimpl_Net_fired n)) (fun n => inimpl_Net_fired_l10 n R) (mkK_nat (cimpl_Net_fired n)) h0
@[reducible] def Simpl_Net_fired : PkS := ⟨[.one (.box (200000, 0) 0), .one (.ro (.int .i64)), .one (.int .i64)], [((200000, 0), .box [.int .i64, .ro (.pr (.sl (.int .i64)) (.sl (.int .i64)))])]⟩
@[reducible] def Timpl_Net_fired : PkS := ⟨[.tup [(false, [.whole (300000, 0)]), (false, [.bool])], .one (.box (300000, 1) 0), .one (.dead), .one (.dead)], [((300000, 0), .arr (.int .i64)), ((300000, 1), .box [.int .i64, .ro (.pr (.sl (.int .i64)) (.sl (.int .i64)))])]⟩
def Himpl_Net_fired : List Sh := [.tup [(false, [(.own (.int .i64))]), (false, [.any])], .box [.any, (.ro (.pr (.sl (.int .i64)) (.sl (.int .i64))))], .skip, .skip]
def Kimpl_Net_fired (g : ∀ {R : Type}, Nat → (List Int) → Int → Int → (List (List Int × List Int)) → (Bool → (List Int) → Int → (List (List Int × List Int)) → Option R) → Option R) (n : Nat) : KPs := fun R p k => match (PkS.un Simpl_Net_fired p : Option ((List Int) × Int × Int × (List (List Int × List Int)) × Unit)) with
  | some (x0, x1, x2, x3, _) => g n x0 x1 x2 x3 (fun r0 r1 r2 r3 => k (PkS.pack Timpl_Net_fired (r0, r1, r2, r3, ())))
  | none => none
theorem eimpl_Net_fired (slices_Clone_int : ∀ {R : Type}, Nat → (List Int) → ((List Int) → Option R) → Option R) (slices_Min_int : ∀ {R : Type}, Nat → (List Int) → (Int → Option R) → Option R) (impl_isMarking : ∀ {R : Type}, Nat → (List Int) → Int → (Bool → Option R) → Option R) (impl_Net_fired_l3 : ∀ {R : Type}, Nat → (List Int) → Int → Int → Int → (List (List Int × List Int)) → (List Int) → (List Int) → (List Int) → (Int → (List (List Int × List Int)) → (List Int) → (List Int) → (List Int) → Option R) → Option R) (impl_Net_fired_l10 : ∀ {R : Type}, Nat → (List Int) → Int → Int → Int → (List (List Int × List Int)) → (List Int) → (Int → (List (List Int × List Int)) → (List Int) → Option R) → Option R) {R : Type} (n : Nat) (x0 : List Int) (x1 : Int) (x2 : Int) (x3 : List (List Int × List Int)) (k : Pk → Option R) : evF tt sig (mkK [(123, Kslices_Clone_int @slices_Clone_int n), (158, Kslices_Min_int @slices_Min_int n), (127, Kimpl_isMarking @impl_isMarking n)] R) (mkL (mkK [(123, Kslices_Clone_int @slices_Clone_int n), (158, Kslices_Min_int @slices_Min_int n), (127, Kimpl_isMarking @impl_isMarking n)]) [(3, Dimpl_Net_fired_l3, Pimpl_Net_fired_l3 @impl_Net_fired_l3 n), (10, Dimpl_Net_fired_l10, Pimpl_Net_fired_l10 @impl_Net_fired_l10 n)] R) Try.f124 Himpl_Net_fired (PkS.pack Simpl_Net_fired (x0, x1, x2, x3, ())) k = (fun (k : Bool → (List Int) → Int → (List (List Int × List Int)) → Option R) => (slices_Clone_int n x0 fun r1 => (bif decide (0 ≤ x1) then (bif decide (x1 < (x3.length : Int)) then (impl_Net_fired_l3 n ((x3.getD (Int.toNat x1) ([], [])).1) (((x3.getD (Int.toNat x1) ([], [])).1).length : Int) 0 x2 x3 r1 ((x3.getD (Int.toNat x1) ([], [])).1) ((x3.getD (Int.toNat x1) ([], [])).2) (fun r2 r3 r4 r5 r6 => (slices_Min_int n r4 fun r7 => (bif (decide (r7 < 0)) then k false ([] : List Int) r2 r3 else (impl_Net_fired_l10 n r6 (r6.length : Int) 0 r2 r3 r4 (fun r8 r9 r10 => (impl_isMarking n r10 r8 fun r11 => k r11 r10 r8 r9))))))) else none) else none))) (fun r0 r1 r2 r3 => k (PkS.pack Timpl_Net_fired (r0, r1, r2, r3, ()))) := by kernel_rfl
theorem okimpl_Net_fired (n : Nat) : FnOk Try.prog 124 (Kimpl_Net_fired @impl_Net_fired n) := by
  refine fn_ok (sig := sig) mixed ttok (mkK_nat (cimpl_Net_fired n)) (mkK_ok (cimpl_Net_fired n)) (mkL_nat (mkK_nat (cimpl_Net_fired n)) (l := [(3, Dimpl_Net_fired_l3, Pimpl_Net_fired_l3 @impl_Net_fired_l3 n), (10, Dimpl_Net_fired_l10, Pimpl_Net_fired_l10 @impl_Net_fired_l10 n)]) ⟨nlimpl_Net_fired_l3 n, ⟨nlimpl_Net_fired_l10 n, trivial⟩⟩) (fn := Try.f124) (c := bodyOf Try.f124) (by kernel_rfl) (by kernel_rfl) (by kernel_rfl) (.eq (l := [.lo (loopIn 3 (bodyOf Try.f124)), .lo (loopIn 10 (bodyOf Try.f124))]) (by kernel_rfl) ⟨(lkimpl_Net_fired_l3 n _ _ (at_id (i := 3) (by kernel_rfl) rfl)), ⟨(lkimpl_Net_fired_l10 n _ _ (at_id (i := 10) (by kernel_rfl) rfl)), trivial⟩⟩) (shs := Himpl_Net_fired) (S := Simpl_Net_fired) (h1 := by kernel_rfl) fun R p k => ?_
  unfold Kimpl_Net_fired
  cases h : (PkS.un Simpl_Net_fired p) with
  | none => rfl
  | some d =>
    obtain ⟨x0, x1, x2, x3, u⟩ := (d : (List Int) × Int × Int × (List (List Int × List Int)) × Unit)
    have hp := PkS.un_pack h
    subst hp
    exact (eimpl_Net_fired @slices_Clone_int @slices_Min_int @impl_isMarking @impl_Net_fired_l3 @impl_Net_fired_l10 n x0 x1 x2 x3 k).symm

/-! ### loop.example/g00269/impl.PlayNet -/
theorem cimpl_PlayNet (n : Nat) : AllOk Try.prog [(120, Kslices_ContainsFunc_int_impl_PlayNet_c1 @slices_ContainsFunc_int_impl_PlayNet_c1 n), (122, Kimpl_markOk @impl_markOk n), (123, Kslices_Clone_int @slices_Clone_int n), (124, Kimpl_Net_fired @impl_Net_fired n)] := ⟨okslices_ContainsFunc_int_impl_PlayNet_c1 n, ⟨okimpl_markOk n, ⟨okslices_Clone_int n, ⟨okimpl_Net_fired n, trivial⟩⟩⟩⟩
@[reducible] def Simpl_PlayNet_l6 : PkS := ⟨[.one (.box (100000, 0) 0), .one (.ro (.int .i64)), .one (.int .i64), .one (.ro (.int .i64)), .one (.int .i64), .one (.int .i64), .one (.dead), .one (.dead), .one (.dead)], [((100000, 0), .box [.int .i64, .ro (.pr (.sl (.int .i64)) (.sl (.int .i64)))])]⟩
@[reducible] def Timpl_PlayNet_l6_0 : PkS := ⟨[.one (.ro (.int .i64)), .one (.int .i64), .one (.dead), .one (.dead), .one (.dead)], []⟩
def Dimpl_PlayNet_l6 : LoopD := ⟨52, [3, 10, 11, 33, 34, 35], [.box [.any, (.ro (.pr (.sl (.int .i64)) (.sl (.int .i64))))], .one (.ro (.int .i64)), .one .any, .one (.ro (.int .i64)), .one .any, .one .any, .skip, .skip, .skip], fun x => match x with
  | .exit 0 => some ([10, 11], [.one (.ro (.int .i64)), .one .any, .skip, .skip, .skip])
  | _ => none⟩
def Pimpl_PlayNet_l6 (g : ∀ {R : Type}, Nat → (List Int) → Int → (List Int) → Int → Int → Int → (List (List Int × List Int)) → ((List Int) → Int → Option R) → Option R) (n : Nat) : LPs := fun R q kk => match (PkS.un Simpl_PlayNet_l6 q : Option ((List Int) × Int × (List Int) × Int × Int × Int × (List (List Int × List Int)) × Unit)) with
  | some (y6_0, y6_1, y6_2, y6_3, y6_4, y6_5, y6_6, _) => g n y6_0 y6_1 y6_2 y6_3 y6_4 y6_5 y6_6 (fun r0 r1 => kk (.exit 0) (PkS.pack Timpl_PlayNet_l6_0 (r0, r1, ())))
  | none => none
theorem eimpl_PlayNet_l6 (slices_ContainsFunc_int_impl_PlayNet_c1 : ∀ {R : Type}, Nat → (List Int) → Int → (List (List Int × List Int)) → (Bool → Int → (List (List Int × List Int)) → Option R) → Option R) (impl_markOk : ∀ {R : Type}, Nat → Int → (List (List Int × List Int)) → (List Int) → (Bool → Option R) → Option R) (slices_Clone_int : ∀ {R : Type}, Nat → (List Int) → ((List Int) → Option R) → Option R) (impl_Net_fired : ∀ {R : Type}, Nat → (List Int) → Int → Int → (List (List Int × List Int)) → (Bool → (List Int) → Int → (List (List Int × List Int)) → Option R) → Option R) (impl_PlayNet_l6 : ∀ {R : Type}, Nat → (List Int) → Int → (List Int) → Int → Int → Int → (List (List Int × List Int)) → ((List Int) → Int → Option R) → Option R) {R : Type} (n : Nat) (y6_0 : List Int) (y6_1 : Int) (y6_2 : List Int) (y6_3 : Int) (y6_4 : Int) (y6_5 : Int) (y6_6 : List (List Int × List Int)) (kk : Ex → Pk → Option R) : Dimpl_PlayNet_l6.step tt sig (mkK [(120, Kslices_ContainsFunc_int_impl_PlayNet_c1 @slices_ContainsFunc_int_impl_PlayNet_c1 n), (122, Kimpl_markOk @impl_markOk n), (123, Kslices_Clone_int @slices_Clone_int n), (124, Kimpl_Net_fired @impl_Net_fired n)] R) (mkL (mkK [(120, Kslices_ContainsFunc_int_impl_PlayNet_c1 @slices_ContainsFunc_int_impl_PlayNet_c1 n), (122, Kimpl_markOk @impl_markOk n), (123, Kslices_Clone_int @slices_Clone_int n), (124, Kimpl_Net_fired @impl_Net_fired n)]) [] R) (loopIn 6 (bodyOf Try.f61)) (fun q' => Pimpl_PlayNet_l6 @impl_PlayNet_l6 n R q' kk) (PkS.pack Simpl_PlayNet_l6 (y6_0, y6_1, y6_2, y6_3, y6_4, y6_5, y6_6, ())) kk = (fun (kexit0 : (List Int) → Int → Option R) => (bif (decide (y6_4 < y6_3)) then (bif decide (0 ≤ y6_4) then (bif decide (y6_4 < (y6_2.length : Int)) then (impl_Net_fired n y6_0 (y6_2.getD (Int.toNat y6_4) 0) y6_5 y6_6 fun r6 r7 r8 r9 => (bif r6 then impl_PlayNet_l6 n r7 (IntKind.wrap .i64 (y6_1 + 1)) y6_2 y6_3 (IntKind.wrap .i64 (y6_4 + 1)) r8 r9 kexit0 else impl_PlayNet_l6 n y6_0 y6_1 y6_2 y6_3 (IntKind.wrap .i64 (y6_4 + 1)) r8 r9 kexit0)) else none) else none) else kexit0 y6_0 y6_1)) (fun r0 r1 => kk (.exit 0) (PkS.pack Timpl_PlayNet_l6_0 (r0, r1, ()))) := by kernel_rfl
theorem leimpl_PlayNet_l6 : LoopEq tt sig (fun n => mkK [(120, Kslices_ContainsFunc_int_impl_PlayNet_c1 @slices_ContainsFunc_int_impl_PlayNet_c1 n), (122, Kimpl_markOk @impl_markOk n), (123, Kslices_Clone_int @slices_Clone_int n), (124, Kimpl_Net_fired @impl_Net_fired n)]) (fun n => mkL (mkK [(120, Kslices_ContainsFunc_int_impl_PlayNet_c1 @slices_ContainsFunc_int_impl_PlayNet_c1 n), (122, Kimpl_markOk @impl_markOk n), (123, Kslices_Clone_int @slices_Clone_int n), (124, Kimpl_Net_fired @impl_Net_fired n)]) []) Dimpl_PlayNet_l6 Simpl_PlayNet_l6 (loopIn 6 (bodyOf Try.f61)) (Pimpl_PlayNet_l6 @impl_PlayNet_l6) where
  zero R q kk := by unfold Pimpl_PlayNet_l6; cases (PkS.un Simpl_PlayNet_l6 q) <;> rfl
  succ n R q kk := by
    unfold Pimpl_PlayNet_l6
    cases h : (PkS.un Simpl_PlayNet_l6 q) with
    | none => rfl
    | some d =>
      obtain ⟨y6_0, y6_1, y6_2, y6_3, y6_4, y6_5, y6_6, u⟩ := (d : (List Int) × Int × (List Int) × Int × Int × Int × (List (List Int × List Int)) × Unit)
      have hp := PkS.un_pack h
      subst hp
      exact (eimpl_PlayNet_l6 @slices_ContainsFunc_int_impl_PlayNet_c1 @impl_markOk @slices_Clone_int @impl_Net_fired @impl_PlayNet_l6 n y6_0 y6_1 y6_2 y6_3 y6_4 y6_5 y6_6 kk).symm
theorem nlimpl_PlayNet_l6 : ∀ n, NatLP (Pimpl_PlayNet_l6 @impl_PlayNet_l6 n) := leimpl_PlayNet_l6.nat (fun n => mkK_nat (cimpl_PlayNet n)) fun n => mkL_nat (mkK_nat (cimpl_PlayNet n)) (l := []) trivial
theorem inimpl_PlayNet_l6 (n : Nat) (R : Type) : LoopsOk Try.prog (mkL (mkK [(120, Kslices_ContainsFunc_int_impl_PlayNet_c1 @slices_ContainsFunc_int_impl_PlayNet_c1 n), (122, Kimpl_markOk @impl_markOk n), (123, Kslices_Clone_int @slices_Clone_int n), (124, Kimpl_Net_fired @impl_Net_fired n)]) [] R) (loopIn 6 (bodyOf Try.f61)) := .eq (l := []) (by kernel_rfl) trivial
theorem lkimpl_PlayNet_l6 (n : Nat) (R : Type) (L0 : LK R) (h0 : ∀ id, firstRegion (loopIn 6 (bodyOf Try.f61)) = some id → L0 id = Dimpl_PlayNet_l6.oracle (mkK [(120, Kslices_ContainsFunc_int_impl_PlayNet_c1 @slices_ContainsFunc_int_impl_PlayNet_c1 n), (122, Kimpl_markOk @impl_markOk n), (123, Kslices_Clone_int @slices_Clone_int n), (124, Kimpl_Net_fired @impl_Net_fired n)] R) (Pimpl_PlayNet_l6 @impl_PlayNet_l6 n R)) : LoopOk Try.prog L0 (loopIn 6 (bodyOf Try.f61)) :=
  leimpl_PlayNet_l6.ok mixed ttok (fun n => mkK_nat (cimpl_PlayNet n)) (fun n => mkK_ok (cimpl_PlayNet n)) (fun n => inimpl_PlayNet_l6 n R) (mkK_nat (cimpl_PlayNet n)) h0
@[reducible] def Simpl_PlayNet : PkS := ⟨[.agg [.int .i64, .ro (.pr (.sl (.int .i64)) (.sl (.int .i64)))], .one (.ro (.int .i64)), .one (.ro (.int .i64))], []⟩
@[reducible] def Timpl_PlayNet : PkS := ⟨[.tup [(false, [.ro (.int .i64)]), (false, [.int .i64]), (false, [.bool])], .one (.dead), .one (.dead), .one (.dead)], []⟩
def Himpl_PlayNet : List Sh := [.tup [(false, [(.ro (.int .i64))]), (false, [.any]), (false, [.any])], .skip, .skip, .skip]
def Kimpl_PlayNet (g : ∀ {R : Type}, Nat → Int → (List (List Int × List Int)) → (List Int) → (List Int) → ((List Int) → Int → Bool → Option R) → Option R) (n : Nat) : KPs := fun R p k => match (PkS.un Simpl_PlayNet p : Option (Int × (List (List Int × List Int)) × (List Int) × (List Int) × Unit)) with
  | some (x0, x1, x2, x3, _) => g n x0 x1 x2 x3 (fun r0 r1 r2 => k (PkS.pack Timpl_PlayNet (r0, r1, r2, ())))
  | none => none
theorem eimpl_PlayNet (slices_ContainsFunc_int_impl_PlayNet_c1 : ∀ {R : Type}, Nat → (List Int) → Int → (List (List Int × List Int)) → (Bool → Int → (List (List Int × List Int)) → Option R) → Option R) (impl_markOk : ∀ {R : Type}, Nat → Int → (List (List Int × List Int)) → (List Int) → (Bool → Option R) → Option R) (slices_Clone_int : ∀ {R : Type}, Nat → (List Int) → ((List Int) → Option R) → Option R) (impl_Net_fired : ∀ {R : Type}, Nat → (List Int) → Int → Int → (List (List Int × List Int)) → (Bool → (List Int) → Int → (List (List Int × List Int)) → Option R) → Option R) (impl_PlayNet_l6 : ∀ {R : Type}, Nat → (List Int) → Int → (List Int) → Int → Int → Int → (List (List Int × List Int)) → ((List Int) → Int → Option R) → Option R) {R : Type} (n : Nat) (x0 : Int) (x1 : List (List Int × List Int)) (x2 : List Int) (x3 : List Int) (k : Pk → Option R) : evF tt sig (mkK [(120, Kslices_ContainsFunc_int_impl_PlayNet_c1 @slices_ContainsFunc_int_impl_PlayNet_c1 n), (122, Kimpl_markOk @impl_markOk n), (123, Kslices_Clone_int @slices_Clone_int n), (124, Kimpl_Net_fired @impl_Net_fired n)] R) (mkL (mkK [(120, Kslices_ContainsFunc_int_impl_PlayNet_c1 @slices_ContainsFunc_int_impl_PlayNet_c1 n), (122, Kimpl_markOk @impl_markOk n), (123, Kslices_Clone_int @slices_Clone_int n), (124, Kimpl_Net_fired @impl_Net_fired n)]) [(6, Dimpl_PlayNet_l6, Pimpl_PlayNet_l6 @impl_PlayNet_l6 n)] R) Try.f61 Himpl_PlayNet (PkS.pack Simpl_PlayNet (x0, x1, x2, x3, ())) k = (fun (k : (List Int) → Int → Bool → Option R) => (slices_ContainsFunc_int_impl_PlayNet_c1 n x3 x0 x1 fun r1 r2 r3 => (impl_markOk n r2 r3 x2 fun r4 => (bif (!r4) then k ([] : List Int) 0 false else (bif (decide ((x3.length : Int) > 200)) then k ([] : List Int) 0 false else (bif r1 then k ([] : List Int) 0 false else (slices_Clone_int n x2 fun r5 => (impl_PlayNet_l6 n r5 0 x3 (x3.length : Int) 0 r2 r3 (fun r10 r11 => k r10 r11 true))))))))) (fun r0 r1 r2 => k (PkS.pack Timpl_PlayNet (r0, r1, r2, ()))) := by kernel_rfl
theorem okimpl_PlayNet (n : Nat) : FnOk Try.prog 61 (Kimpl_PlayNet @impl_PlayNet n) := by
  refine fn_ok (sig := sig) mixed ttok (mkK_nat (cimpl_PlayNet n)) (mkK_ok (cimpl_PlayNet n)) (mkL_nat (mkK_nat (cimpl_PlayNet n)) (l := [(6, Dimpl_PlayNet_l6, Pimpl_PlayNet_l6 @impl_PlayNet_l6 n)]) ⟨nlimpl_PlayNet_l6 n, trivial⟩) (fn := Try.f61) (c := bodyOf Try.f61) (by kernel_rfl) (by kernel_rfl) (by kernel_rfl) (.eq (l := [.lo (loopIn 6 (bodyOf Try.f61))]) (by kernel_rfl) ⟨(lkimpl_PlayNet_l6 n _ _ (at_id (i := 6) (by kernel_rfl) rfl)), trivial⟩) (shs := Himpl_PlayNet) (S := Simpl_PlayNet) (h1 := by kernel_rfl) fun R p k => ?_
  unfold Kimpl_PlayNet
  cases h : (PkS.un Simpl_PlayNet p) with
  | none => rfl
  | some d =>
    obtain ⟨x0, x1, x2, x3, u⟩ := (d : Int × (List (List Int × List Int)) × (List Int) × (List Int) × Unit)
    have hp := PkS.un_pack h
    subst hp
    exact (eimpl_PlayNet @slices_ContainsFunc_int_impl_PlayNet_c1 @impl_markOk @slices_Clone_int @impl_Net_fired @impl_PlayNet_l6 n x0 x1 x2 x3 k).symm

/-! ### loop.example/g00269/spec.l3Mark -/
theorem cspec_l3Mark (n : Nat) : AllOk Try.prog [(72, Kspec_l1In @spec_l1In n)] := ⟨okspec_l1In n, trivial⟩
@[reducible] def Sspec_l3Mark_l2 : PkS := ⟨[.one (.ro (.int .i64)), .one (.box (100000, 0) 0), .one (.ro (.int .i64)), .one (.int .i64), .one (.int .i64), .one (.dead), .one (.dead)], [((100000, 0), .box [.int .i64, .ro (.pr (.sl (.int .i64)) (.sl (.int .i64)))])]⟩
@[reducible] def Tspec_l3Mark_l2_0 : PkS := ⟨[.one (.bool), .one (.dead), .one (.dead)], []⟩
@[reducible] def Tspec_l3Mark_l2_1 : PkS := ⟨[.one (.ro (.int .i64)), .one (.box (100000, 0) 0), .one (.dead), .one (.dead)], [((100000, 0), .box [.int .i64, .ro (.pr (.sl (.int .i64)) (.sl (.int .i64)))])]⟩
def Dspec_l3Mark_l2 : LoopD := ⟨22, [1, 2, 7, 8, 9], [.one (.ro (.int .i64)), .box [.any, (.ro (.pr (.sl (.int .i64)) (.sl (.int .i64))))], .one (.ro (.int .i64)), .one .any, .one .any, .skip, .skip], fun x => match x with
  | .ret => some ([4], [.one .any, .skip, .skip])
  | .exit 0 => some ([1, 2], [.one (.ro (.int .i64)), .box [.any, (.ro (.pr (.sl (.int .i64)) (.sl (.int .i64))))], .skip, .skip])
  | _ => none⟩
def Pspec_l3Mark_l2 (g : ∀ {R : Type}, Nat → (List Int) → (List Int) → Int → Int → Int → (List (List Int × List Int)) → (Bool → Option R) → ((List Int) → Int → (List (List Int × List Int)) → Option R) → Option R) (n : Nat) : LPs := fun R q kk => match (PkS.un Sspec_l3Mark_l2 q : Option ((List Int) × (List Int) × Int × Int × Int × (List (List Int × List Int)) × Unit)) with
  | some (y2_0, y2_1, y2_2, y2_3, y2_4, y2_5, _) => g n y2_0 y2_1 y2_2 y2_3 y2_4 y2_5 (fun r0 => kk .ret (PkS.pack Tspec_l3Mark_l2_0 (r0, ()))) (fun r0 r1 r2 => kk (.exit 0) (PkS.pack Tspec_l3Mark_l2_1 (r0, r1, r2, ())))
  | none => none
theorem espec_l3Mark_l2 (spec_l1In : ∀ {R : Type}, Nat → Int → Int → Int → (Bool → Option R) → Option R) (spec_l3Mark_l2 : ∀ {R : Type}, Nat → (List Int) → (List Int) → Int → Int → Int → (List (List Int × List Int)) → (Bool → Option R) → ((List Int) → Int → (List (List Int × List Int)) → Option R) → Option R) {R : Type} (n : Nat) (y2_0 : List Int) (y2_1 : List Int) (y2_2 : Int) (y2_3 : Int) (y2_4 : Int) (y2_5 : List (List Int × List Int)) (kk : Ex → Pk → Option R) : Dspec_l3Mark_l2.step tt sig (mkK [(72, Kspec_l1In @spec_l1In n)] R) (mkL (mkK [(72, Kspec_l1In @spec_l1In n)]) [] R) (loopIn 2 (bodyOf Try.f125)) (fun q' => Pspec_l3Mark_l2 @spec_l3Mark_l2 n R q' kk) (PkS.pack Sspec_l3Mark_l2 (y2_0, y2_1, y2_2, y2_3, y2_4, y2_5, ())) kk = (fun (kret : Bool → Option R) (kexit0 : (List Int) → Int → (List (List Int × List Int)) → Option R) => (bif (decide (y2_3 < y2_2)) then (bif decide (0 ≤ y2_3) then (bif decide (y2_3 < (y2_1.length : Int)) then (spec_l1In n (y2_1.getD (Int.toNat y2_3) 0) 0 9 fun r1 => (bif (!r1) then kret false else spec_l3Mark_l2 n y2_0 y2_1 y2_2 (IntKind.wrap .i64 (y2_3 + 1)) y2_4 y2_5 kret kexit0)) else none) else none) else kexit0 y2_0 y2_4 y2_5)) (fun r0 => kk .ret (PkS.pack Tspec_l3Mark_l2_0 (r0, ()))) (fun r0 r1 r2 => kk (.exit 0) (PkS.pack Tspec_l3Mark_l2_1 (r0, r1, r2, ()))) := by kernel_rfl
theorem lespec_l3Mark_l2 : LoopEq tt sig (fun n => mkK [(72, Kspec_l1In @spec_l1In n)]) (fun n => mkL (mkK [(72, Kspec_l1In @spec_l1In n)]) []) Dspec_l3Mark_l2 Sspec_l3Mark_l2 (loopIn 2 (bodyOf Try.f125)) (Pspec_l3Mark_l2 @spec_l3Mark_l2) where
  zero R q kk := by unfold Pspec_l3Mark_l2; cases (PkS.un Sspec_l3Mark_l2 q) <;> rfl
  succ n R q kk := by
    unfold Pspec_l3Mark_l2
    cases h : (PkS.un Sspec_l3Mark_l2 q) with
    | none => rfl
    | some d =>
      obtain ⟨y2_0, y2_1, y2_2, y2_3, y2_4, y2_5, u⟩ := (d : (List Int) × (List Int) × Int × Int × Int × (List (List Int × List Int)) × Unit)
      have hp := PkS.un_pack h
      subst hp
      exact (espec_l3Mark_l2 @spec_l1In @spec_l3Mark_l2 n y2_0 y2_1 y2_2 y2_3 y2_4 y2_5 kk).symm
theorem nlspec_l3Mark_l2 : ∀ n, NatLP (Pspec_l3Mark_l2 @spec_l3Mark_l2 n) := lespec_l3Mark_l2.nat (fun n => mkK_nat (cspec_l3Mark n)) fun n => mkL_nat (mkK_nat (cspec_l3Mark n)) (l := []) trivial
theorem inspec_l3Mark_l2 (n : Nat) (R : Type) : LoopsOk Try.prog (mkL (mkK [(72, Kspec_l1In @spec_l1In n)]) [] R) (loopIn 2 (bodyOf Try.f125)) := .eq (l := []) (by kernel_rfl) trivial
theorem lkspec_l3Mark_l2 (n : Nat) (R : Type) (L0 : LK R) (h0 : ∀ id, firstRegion (loopIn 2 (bodyOf Try.f125)) = some id → L0 id = Dspec_l3Mark_l2.oracle (mkK [(72, Kspec_l1In @spec_l1In n)] R) (Pspec_l3Mark_l2 @spec_l3Mark_l2 n R)) : LoopOk Try.prog L0 (loopIn 2 (bodyOf Try.f125)) :=
  lespec_l3Mark_l2.ok mixed ttok (fun n => mkK_nat (cspec_l3Mark n)) (fun n => mkK_ok (cspec_l3Mark n)) (fun n => inspec_l3Mark_l2 n R) (mkK_nat (cspec_l3Mark n)) h0
@[reducible] def Sspec_l3Mark : PkS := ⟨[.agg [.int .i64, .ro (.pr (.sl (.int .i64)) (.sl (.int .i64)))], .one (.ro (.int .i64))], []⟩
@[reducible] def Tspec_l3Mark : PkS := ⟨[.one (.bool), .one (.dead), .one (.dead)], []⟩
def Hspec_l3Mark : List Sh := [.one .any, .skip, .skip]
def Kspec_l3Mark (g : ∀ {R : Type}, Nat → Int → (List (List Int × List Int)) → (List Int) → (Bool → Option R) → Option R) (n : Nat) : KPs := fun R p k => match (PkS.un Sspec_l3Mark p : Option (Int × (List (List Int × List Int)) × (List Int) × Unit)) with
  | some (x0, x1, x2, _) => g n x0 x1 x2 (fun r0 => k (PkS.pack Tspec_l3Mark (r0, ())))
  | none => none
theorem espec_l3Mark (spec_l1In : ∀ {R : Type}, Nat → Int → Int → Int → (Bool → Option R) → Option R) (spec_l3Mark_l2 : ∀ {R : Type}, Nat → (List Int) → (List Int) → Int → Int → Int → (List (List Int × List Int)) → (Bool → Option R) → ((List Int) → Int → (List (List Int × List Int)) → Option R) → Option R) {R : Type} (n : Nat) (x0 : Int) (x1 : List (List Int × List Int)) (x2 : List Int) (k : Pk → Option R) : evF tt sig (mkK [(72, Kspec_l1In @spec_l1In n)] R) (mkL (mkK [(72, Kspec_l1In @spec_l1In n)]) [(2, Dspec_l3Mark_l2, Pspec_l3Mark_l2 @spec_l3Mark_l2 n)] R) Try.f125 Hspec_l3Mark (PkS.pack Sspec_l3Mark (x0, x1, x2, ())) k = (fun (k : Bool → Option R) => (spec_l3Mark_l2 n x2 x2 (x2.length : Int) 0 x0 x1 (fun r2 => k r2) (fun r3 r4 r5 => k ((r3.length : Int) == r4)))) (fun r0 => k (PkS.pack Tspec_l3Mark (r0, ()))) := by kernel_rfl
theorem okspec_l3Mark (n : Nat) : FnOk Try.prog 125 (Kspec_l3Mark @spec_l3Mark n) := by
  refine fn_ok (sig := sig) mixed ttok (mkK_nat (cspec_l3Mark n)) (mkK_ok (cspec_l3Mark n)) (mkL_nat (mkK_nat (cspec_l3Mark n)) (l := [(2, Dspec_l3Mark_l2, Pspec_l3Mark_l2 @spec_l3Mark_l2 n)]) ⟨nlspec_l3Mark_l2 n, trivial⟩) (fn := Try.f125) (c := bodyOf Try.f125) (by kernel_rfl) (by kernel_rfl) (by kernel_rfl) (.eq (l := [.lo (loopIn 2 (bodyOf Try.f125))]) (by kernel_rfl) ⟨(lkspec_l3Mark_l2 n _ _ (at_id (i := 2) (by kernel_rfl) rfl)), trivial⟩) (shs := Hspec_l3Mark) (S := Sspec_l3Mark) (h1 := by kernel_rfl) fun R p k => ?_
  unfold Kspec_l3Mark
  cases h : (PkS.un Sspec_l3Mark p) with
  | none => rfl
  | some d =>
    obtain ⟨x0, x1, x2, u⟩ := (d : Int × (List (List Int × List Int)) × (List Int) × Unit)
    have hp := PkS.un_pack h
    subst hp
    exact (espec_l3Mark @spec_l1In @spec_l3Mark_l2 n x0 x1 x2 k).symm

/-! ### loop.example/g00269/spec.l3Fire -/
theorem cspec_l3Fire (n : Nat) : AllOk Try.prog [] := trivial
@[reducible] def Sspec_l3Fire_l3 : PkS := ⟨[.one (.box (100000, 0) 0), .one (.whole (100000, 1)), .one (.ro (.int .i64)), .one (.int .i64), .one (.int .i64), .one (.dead), .one (.dead)], [((100000, 0), .box [.ro (.int .i64), .ro (.int .i64)]), ((100000, 1), .arr (.int .i64))]⟩
@[reducible] def Tspec_l3Fire_l3_0 : PkS := ⟨[.one (.ro (.int .i64)), .one (.bool), .one (.dead), .one (.dead)], []⟩
@[reducible] def Tspec_l3Fire_l3_1 : PkS := ⟨[.one (.box (100000, 0) 0), .one (.whole (100000, 1)), .one (.dead), .one (.dead)], [((100000, 0), .box [.ro (.int .i64), .ro (.int .i64)]), ((100000, 1), .arr (.int .i64))]⟩
def Dspec_l3Fire_l3 : LoopD := ⟨53, [2, 6, 15, 16, 17], [.box [(.ro (.int .i64)), (.ro (.int .i64))], .one (.own (.int .i64)), .one (.ro (.int .i64)), .one .any, .one .any, .skip, .skip], fun x => match x with
  | .ret => some ([4, 5], [.one (.ro (.int .i64)), .one .any, .skip, .skip])
  | .exit 0 => some ([2, 6], [.box [(.ro (.int .i64)), (.ro (.int .i64))], .one (.own (.int .i64)), .skip, .skip])
  | _ => none⟩
def Pspec_l3Fire_l3 (g : ∀ {R : Type}, Nat → (List Int) → Int → Int → (List Int) → (List Int) → (List Int) → ((List Int) → Bool → Option R) → ((List Int) → (List Int) → (List Int) → Option R) → Option R) (n : Nat) : LPs := fun R q kk => match (PkS.un Sspec_l3Fire_l3 q : Option ((List Int) × Int × Int × (List Int) × (List Int) × (List Int) × Unit)) with
  | some (y3_0, y3_1, y3_2, y3_3, y3_4, y3_5, _) => g n y3_0 y3_1 y3_2 y3_3 y3_4 y3_5 (fun r0 r1 => kk .ret (PkS.pack Tspec_l3Fire_l3_0 (r0, r1, ()))) (fun r0 r1 r2 => kk (.exit 0) (PkS.pack Tspec_l3Fire_l3_1 (r0, r1, r2, ())))
  | none => none
theorem espec_l3Fire_l3 (spec_l3Fire_l3 : ∀ {R : Type}, Nat → (List Int) → Int → Int → (List Int) → (List Int) → (List Int) → ((List Int) → Bool → Option R) → ((List Int) → (List Int) → (List Int) → Option R) → Option R) {R : Type} (n : Nat) (y3_0 : List Int) (y3_1 : Int) (y3_2 : Int) (y3_3 : List Int) (y3_4 : List Int) (y3_5 : List Int) (kk : Ex → Pk → Option R) : Dspec_l3Fire_l3.step tt sig (mkK [] R) (mkL (mkK []) [] R) (loopIn 3 (bodyOf Try.f126)) (fun q' => Pspec_l3Fire_l3 @spec_l3Fire_l3 n R q' kk) (PkS.pack Sspec_l3Fire_l3 (y3_0, y3_1, y3_2, y3_3, y3_4, y3_5, ())) kk = (fun (kret : (List Int) → Bool → Option R) (kexit0 : (List Int) → (List Int) → (List Int) → Option R) => (bif (decide (y3_2 < y3_1)) then (bif decide (0 ≤ y3_2) then (bif decide (y3_2 < (y3_0.length : Int)) then (bif decide (0 ≤ (y3_0.getD (Int.toNat y3_2) 0)) then (bif decide ((y3_0.getD (Int.toNat y3_2) 0) < (y3_5.length : Int)) then (bif ((y3_5.getD (Int.toNat (y3_0.getD (Int.toNat y3_2) 0)) 0) == 0) then kret ([] : List Int) false else (bif decide (0 ≤ (y3_0.getD (Int.toNat y3_2) 0)) then (bif decide ((y3_0.getD (Int.toNat y3_2) 0) < (y3_5.length : Int)) then (bif decide (0 ≤ (y3_0.getD (Int.toNat y3_2) 0)) then (bif decide ((y3_0.getD (Int.toNat y3_2) 0) < (y3_5.length : Int)) then spec_l3Fire_l3 n y3_0 y3_1 (IntKind.wrap .i64 (y3_2 + 1)) y3_3 y3_4 (y3_5.set (Int.toNat (y3_0.getD (Int.toNat y3_2) 0)) (IntKind.wrap .i64 ((y3_5.getD (Int.toNat (y3_0.getD (Int.toNat y3_2) 0)) 0) - 1))) kret kexit0 else none) else none) else none) else none)) else none) else none) else none) else none) else kexit0 y3_3 y3_4 y3_5)) (fun r0 r1 => kk .ret (PkS.pack Tspec_l3Fire_l3_0 (r0, r1, ()))) (fun r0 r1 r2 => kk (.exit 0) (PkS.pack Tspec_l3Fire_l3_1 (r0, r1, r2, ()))) := by kernel_rfl
theorem lespec_l3Fire_l3 : LoopEq tt sig (fun n => mkK []) (fun n => mkL (mkK []) []) Dspec_l3Fire_l3 Sspec_l3Fire_l3 (loopIn 3 (bodyOf Try.f126)) (Pspec_l3Fire_l3 @spec_l3Fire_l3) where
  zero R q kk := by unfold Pspec_l3Fire_l3; cases (PkS.un Sspec_l3Fire_l3 q) <;> rfl
  succ n R q kk := by
    unfold Pspec_l3Fire_l3
    cases h : (PkS.un Sspec_l3Fire_l3 q) with
    | none => rfl
    | some d =>
      obtain ⟨y3_0, y3_1, y3_2, y3_3, y3_4, y3_5, u⟩ := (d : (List Int) × Int × Int × (List Int) × (List Int) × (List Int) × Unit)
      have hp := PkS.un_pack h
      subst hp
      exact (espec_l3Fire_l3 @spec_l3Fire_l3 n y3_0 y3_1 y3_2 y3_3 y3_4 y3_5 kk).symm
theorem nlspec_l3Fire_l3 : ∀ n, NatLP (Pspec_l3Fire_l3 @spec_l3Fire_l3 n) := lespec_l3Fire_l3.nat (fun n => mkK_nat (cspec_l3Fire n)) fun n => mkL_nat (mkK_nat (cspec_l3Fire n)) (l := []) trivial
theorem inspec_l3Fire_l3 (n : Nat) (R : Type) : LoopsOk Try.prog (mkL (mkK []) [] R) (loopIn 3 (bodyOf Try.f126)) := .eq (l := []) (by kernel_rfl) trivial
theorem lkspec_l3Fire_l3 (n : Nat) (R : Type) (L0 : LK R) (h0 : ∀ id, firstRegion (loopIn 3 (bodyOf Try.f126)) = some id → L0 id = Dspec_l3Fire_l3.oracle (mkK [] R) (Pspec_l3Fire_l3 @spec_l3Fire_l3 n R)) : LoopOk Try.prog L0 (loopIn 3 (bodyOf Try.f126)) :=
  lespec_l3Fire_l3.ok mixed ttok (fun n => mkK_nat (cspec_l3Fire n)) (fun n => mkK_ok (cspec_l3Fire n)) (fun n => inspec_l3Fire_l3 n R) (mkK_nat (cspec_l3Fire n)) h0
@[reducible] def Sspec_l3Fire_l10 : PkS := ⟨[.one (.whole (100000, 0)), .one (.ro (.int .i64)), .one (.int .i64), .one (.int .i64), .one (.dead), .one (.dead)], [((100000, 0), .arr (.int .i64))]⟩
@[reducible] def Tspec_l3Fire_l10_0 : PkS := ⟨[.one (.ro (.int .i64)), .one (.bool), .one (.dead), .one (.dead)], []⟩
@[reducible] def Tspec_l3Fire_l10_1 : PkS := ⟨[.one (.whole (100000, 0)), .one (.dead), .one (.dead)], [((100000, 0), .arr (.int .i64))]⟩
def Dspec_l3Fire_l10 : LoopD := ⟨53, [6, 34, 35, 36], [.one (.own (.int .i64)), .one (.ro (.int .i64)), .one .any, .one .any, .skip, .skip], fun x => match x with
  | .ret => some ([4, 5], [.one (.ro (.int .i64)), .one .any, .skip, .skip])
  | .exit 2 => some ([6], [.one (.own (.int .i64)), .skip, .skip])
  | _ => none⟩
def Pspec_l3Fire_l10 (g : ∀ {R : Type}, Nat → (List Int) → Int → Int → (List Int) → ((List Int) → Bool → Option R) → ((List Int) → Option R) → Option R) (n : Nat) : LPs := fun R q kk => match (PkS.un Sspec_l3Fire_l10 q : Option ((List Int) × Int × Int × (List Int) × Unit)) with
  | some (y10_0, y10_1, y10_2, y10_3, _) => g n y10_0 y10_1 y10_2 y10_3 (fun r0 r1 => kk .ret (PkS.pack Tspec_l3Fire_l10_0 (r0, r1, ()))) (fun r0 => kk (.exit 2) (PkS.pack Tspec_l3Fire_l10_1 (r0, ())))
  | none => none
theorem espec_l3Fire_l10 (spec_l3Fire_l3 : ∀ {R : Type}, Nat → (List Int) → Int → Int → (List Int) → (List Int) → (List Int) → ((List Int) → Bool → Option R) → ((List Int) → (List Int) → (List Int) → Option R) → Option R) (spec_l3Fire_l10 : ∀ {R : Type}, Nat → (List Int) → Int → Int → (List Int) → ((List Int) → Bool → Option R) → ((List Int) → Option R) → Option R) {R : Type} (n : Nat) (y10_0 : List Int) (y10_1 : Int) (y10_2 : Int) (y10_3 : List Int) (kk : Ex → Pk → Option R) : Dspec_l3Fire_l10.step tt sig (mkK [] R) (mkL (mkK []) [(3, Dspec_l3Fire_l3, Pspec_l3Fire_l3 @spec_l3Fire_l3 n)] R) (loopIn 10 (bodyOf Try.f126)) (fun q' => Pspec_l3Fire_l10 @spec_l3Fire_l10 n R q' kk) (PkS.pack Sspec_l3Fire_l10 (y10_0, y10_1, y10_2, y10_3, ())) kk = (fun (kret : (List Int) → Bool → Option R) (kexit2 : (List Int) → Option R) => (bif (decide (y10_2 < y10_1)) then (bif decide (0 ≤ y10_2) then (bif decide (y10_2 < (y10_0.length : Int)) then (bif decide (0 ≤ (y10_0.getD (Int.toNat y10_2) 0)) then (bif decide ((y10_0.getD (Int.toNat y10_2) 0) < (y10_3.length : Int)) then (bif decide (0 ≤ (y10_0.getD (Int.toNat y10_2) 0)) then (bif decide ((y10_0.getD (Int.toNat y10_2) 0) < (y10_3.length : Int)) then (bif decide (0 ≤ (y10_0.getD (Int.toNat y10_2) 0)) then (bif decide ((y10_0.getD (Int.toNat y10_2) 0) < ((y10_3.set (Int.toNat (y10_0.getD (Int.toNat y10_2) 0)) (IntKind.wrap .i64 ((y10_3.getD (Int.toNat (y10_0.getD (Int.toNat y10_2) 0)) 0) + 1))).length : Int)) then (bif (decide (((y10_3.set (Int.toNat (y10_0.getD (Int.toNat y10_2) 0)) (IntKind.wrap .i64 ((y10_3.getD (Int.toNat (y10_0.getD (Int.toNat y10_2) 0)) 0) + 1))).getD (Int.toNat (y10_0.getD (Int.toNat y10_2) 0)) 0) > 9)) then kret ([] : List Int) false else spec_l3Fire_l10 n y10_0 y10_1 (IntKind.wrap .i64 (y10_2 + 1)) (y10_3.set (Int.toNat (y10_0.getD (Int.toNat y10_2) 0)) (IntKind.wrap .i64 ((y10_3.getD (Int.toNat (y10_0.getD (Int.toNat y10_2) 0)) 0) + 1))) kret kexit2) else none) else none) else none) else none) else none) else none) else none) else none) else kexit2 y10_3)) (fun r0 r1 => kk .ret (PkS.pack Tspec_l3Fire_l10_0 (r0, r1, ()))) (fun r0 => kk (.exit 2) (PkS.pack Tspec_l3Fire_l10_1 (r0, ()))) := by kernel_rfl
theorem lespec_l3Fire_l10 : LoopEq tt sig (fun n => mkK []) (fun n => mkL (mkK []) [(3, Dspec_l3Fire_l3, Pspec_l3Fire_l3 @spec_l3Fire_l3 n)]) Dspec_l3Fire_l10 Sspec_l3Fire_l10 (loopIn 10 (bodyOf Try.f126)) (Pspec_l3Fire_l10 @spec_l3Fire_l10) where
  zero R q kk := by unfold Pspec_l3Fire_l10; cases (PkS.un Sspec_l3Fire_l10 q) <;> rfl
  succ n R q kk := by
    unfold Pspec_l3Fire_l10
    cases h : (PkS.un Sspec_l3Fire_l10 q) with
    | none => rfl
    | some d =>
      obtain ⟨y10_0, y10_1, y10_2, y10_3, u⟩ := (d : (List Int) × Int × Int × (List Int) × Unit)
      have hp := PkS.un_pack h
      subst hp
      exact (espec_l3Fire_l10 @spec_l3Fire_l3 @spec_l3Fire_l10 n y10_0 y10_1 y10_2 y10_3 kk).symm
theorem nlspec_l3Fire_l10 : ∀ n, NatLP (Pspec_l3Fire_l10 @spec_l3Fire_l10 n) := lespec_l3Fire_l10.nat (fun n => mkK_nat (cspec_l3Fire n)) fun n => mkL_nat (mkK_nat (cspec_l3Fire n)) (l := [(3, Dspec_l3Fire_l3, Pspec_l3Fire_l3 @spec_l3Fire_l3 n)]) ⟨nlspec_l3Fire_l3 n, trivial⟩
theorem inspec_l3Fire_l10 (n : Nat) (R : Type) : LoopsOk Try.prog (mkL (mkK []) [(3, Dspec_l3Fire_l3, Pspec_l3Fire_l3 @spec_l3Fire_l3 n)] R) (loopIn 10 (bodyOf Try.f126)) := .eq (l := []) (by kernel_rfl) trivial
theorem lkspec_l3Fire_l10 (n : Nat) (R : Type) (L0 : LK R) (h0 : ∀ id, firstRegion (loopIn 10 (bodyOf Try.f126)) = some id → L0 id = Dspec_l3Fire_l10.oracle (mkK [] R) (Pspec_l3Fire_l10 @spec_l3Fire_l10 n R)) : LoopOk Try.prog L0 (loopIn 10 (bodyOf Try.f126)) :=
  lespec_l3Fire_l10.ok mixed ttok (fun n => mkK_nat (cspec_l3Fire n)) (fun n => mkK_ok (cspec_l3Fire n)) (fun n => inspec_l3Fire_l10 n R) (mkK_nat (cspec_l3Fire n)) h0
@[reducible] def Sspec_l3Fire : PkS := ⟨[.agg [.ro (.int .i64), .ro (.int .i64)], .one (.ro (.int .i64))], []⟩
@[reducible] def Tspec_l3Fire : PkS := ⟨[.tup [(false, [.ro (.int .i64)]), (false, [.bool])], .one (.dead), .one (.dead)], []⟩
def Hspec_l3Fire : List Sh := [.tup [(false, [(.ro (.int .i64))]), (false, [.any])], .skip, .skip]
def Kspec_l3Fire (g : ∀ {R : Type}, Nat → (List Int) → (List Int) → (List Int) → ((List Int) → Bool → Option R) → Option R) (n : Nat) : KPs := fun R p k => match (PkS.un Sspec_l3Fire p : Option ((List Int) × (List Int) × (List Int) × Unit)) with
  | some (x0, x1, x2, _) => g n x0 x1 x2 (fun r0 r1 => k (PkS.pack Tspec_l3Fire (r0, r1, ())))
  | none => none
theorem espec_l3Fire (spec_l3Fire_l3 : ∀ {R : Type}, Nat → (List Int) → Int → Int → (List Int) → (List Int) → (List Int) → ((List Int) → Bool → Option R) → ((List Int) → (List Int) → (List Int) → Option R) → Option R) (spec_l3Fire_l10 : ∀ {R : Type}, Nat → (List Int) → Int → Int → (List Int) → ((List Int) → Bool → Option R) → ((List Int) → Option R) → Option R) {R : Type} (n : Nat) (x0 : List Int) (x1 : List Int) (x2 : List Int) (k : Pk → Option R) : evF tt sig (mkK [] R) (mkL (mkK []) [(3, Dspec_l3Fire_l3, Pspec_l3Fire_l3 @spec_l3Fire_l3 n), (10, Dspec_l3Fire_l10, Pspec_l3Fire_l10 @spec_l3Fire_l10 n)] R) Try.f126 Hspec_l3Fire (PkS.pack Sspec_l3Fire (x0, x1, x2, ())) k = (fun (k : (List Int) → Bool → Option R) => (bif decide (([] : List Int).length + x2.length ≤ LIM) then (spec_l3Fire_l3 n x0 (x0.length : Int) 0 x0 x1 (([] : List Int) ++ x2) (fun r1 r2 => k r1 r2) (fun r3 r4 r5 => (spec_l3Fire_l10 n r4 (r4.length : Int) 0 r5 (fun r6 r7 => k r6 r7) (fun r8 => k r8 true)))) else none)) (fun r0 r1 => k (PkS.pack Tspec_l3Fire (r0, r1, ()))) := by kernel_rfl
theorem okspec_l3Fire (n : Nat) : FnOk Try.prog 126 (Kspec_l3Fire @spec_l3Fire n) := by
  refine fn_ok (sig := sig) mixed ttok (mkK_nat (cspec_l3Fire n)) (mkK_ok (cspec_l3Fire n)) (mkL_nat (mkK_nat (cspec_l3Fire n)) (l := [(3, Dspec_l3Fire_l3, Pspec_l3Fire_l3 @spec_l3Fire_l3 n), (10, Dspec_l3Fire_l10, Pspec_l3Fire_l10 @spec_l3Fire_l10 n)]) ⟨nlspec_l3Fire_l3 n, ⟨nlspec_l3Fire_l10 n, trivial⟩⟩) (fn := Try.f126) (c := bodyOf Try.f126) (by kernel_rfl) (by kernel_rfl) (by kernel_rfl) (.eq (l := [.lo (loopIn 3 (bodyOf Try.f126)), .lo (loopIn 10 (bodyOf Try.f126))]) (by kernel_rfl) ⟨(lkspec_l3Fire_l3 n _ _ (at_id (i := 3) (by kernel_rfl) rfl)), ⟨(lkspec_l3Fire_l10 n _ _ (at_id (i := 10) (by kernel_rfl) rfl)), trivial⟩⟩) (shs := Hspec_l3Fire) (S := Sspec_l3Fire) (h1 := by kernel_rfl) fun R p k => ?_
  unfold Kspec_l3Fire
  cases h : (PkS.un Sspec_l3Fire p) with
  | none => rfl
  | some d =>
    obtain ⟨x0, x1, x2, u⟩ := (d : (List Int) × (List Int) × (List Int) × Unit)
    have hp := PkS.un_pack h
    subst hp
    exact (espec_l3Fire @spec_l3Fire_l3 @spec_l3Fire_l10 n x0 x1 x2 k).symm

/-! ### loop.example/g00269/spec.PlayNet -/
theorem cspec_PlayNet (n : Nat) : AllOk Try.prog [(60, Kspec_GoodNet @spec_GoodNet n), (125, Kspec_l3Mark @spec_l3Mark n), (72, Kspec_l1In @spec_l1In n), (126, Kspec_l3Fire @spec_l3Fire n)] := ⟨okspec_GoodNet n, ⟨okspec_l3Mark n, ⟨okspec_l1In n, ⟨okspec_l3Fire n, trivial⟩⟩⟩⟩
@[reducible] def Sspec_PlayNet_l6 : PkS := ⟨[.one (.box (100000, 0) 0), .one (.ro (.int .i64)), .one (.int .i64), .one (.ro (.int .i64)), .one (.int .i64), .one (.int .i64), .one (.dead), .one (.dead), .one (.dead)], [((100000, 0), .box [.int .i64, .ro (.pr (.sl (.int .i64)) (.sl (.int .i64)))])]⟩
@[reducible] def Tspec_PlayNet_l6_0 : PkS := ⟨[.one (.ro (.int .i64)), .one (.int .i64), .one (.bool), .one (.dead), .one (.dead), .one (.dead)], []⟩
@[reducible] def Tspec_PlayNet_l6_1 : PkS := ⟨[.one (.ro (.int .i64)), .one (.int .i64), .one (.dead), .one (.dead), .one (.dead)], []⟩
def Dspec_PlayNet_l6 : LoopD := ⟨62, [3, 9, 10, 32, 33, 34], [.box [.any, (.ro (.pr (.sl (.int .i64)) (.sl (.int .i64))))], .one (.ro (.int .i64)), .one .any, .one (.ro (.int .i64)), .one .any, .one .any, .skip, .skip, .skip], fun x => match x with
  | .ret => some ([6, 7, 8], [.one (.ro (.int .i64)), .one .any, .one .any, .skip, .skip, .skip])
  | .exit 0 => some ([9, 10], [.one (.ro (.int .i64)), .one .any, .skip, .skip, .skip])
  | _ => none⟩
def Pspec_PlayNet_l6 (g : ∀ {R : Type}, Nat → (List Int) → Int → (List Int) → Int → Int → Int → (List (List Int × List Int)) → ((List Int) → Int → Bool → Option R) → ((List Int) → Int → Option R) → Option R) (n : Nat) : LPs := fun R q kk => match (PkS.un Sspec_PlayNet_l6 q : Option ((List Int) × Int × (List Int) × Int × Int × Int × (List (List Int × List Int)) × Unit)) with
  | some (y6_0, y6_1, y6_2, y6_3, y6_4, y6_5, y6_6, _) => g n y6_0 y6_1 y6_2 y6_3 y6_4 y6_5 y6_6 (fun r0 r1 r2 => kk .ret (PkS.pack Tspec_PlayNet_l6_0 (r0, r1, r2, ()))) (fun r0 r1 => kk (.exit 0) (PkS.pack Tspec_PlayNet_l6_1 (r0, r1, ())))
  | none => none
theorem espec_PlayNet_l6 (spec_GoodNet : ∀ {R : Type}, Nat → Int → (List (List Int × List Int)) → (Bool → Option R) → Option R) (spec_l3Mark : ∀ {R : Type}, Nat → Int → (List (List Int × List Int)) → (List Int) → (Bool → Option R) → Option R) (spec_l1In : ∀ {R : Type}, Nat → Int → Int → Int → (Bool → Option R) → Option R) (spec_l3Fire : ∀ {R : Type}, Nat → (List Int) → (List Int) → (List Int) → ((List Int) → Bool → Option R) → Option R) (spec_PlayNet_l6 : ∀ {R : Type}, Nat → (List Int) → Int → (List Int) → Int → Int → Int → (List (List Int × List Int)) → ((List Int) → Int → Bool → Option R) → ((List Int) → Int → Option R) → Option R) {R : Type} (n : Nat) (y6_0 : List Int) (y6_1 : Int) (y6_2 : List Int) (y6_3 : Int) (y6_4 : Int) (y6_5 : Int) (y6_6 : List (List Int × List Int)) (kk : Ex → Pk → Option R) : Dspec_PlayNet_l6.step tt sig (mkK [(60, Kspec_GoodNet @spec_GoodNet n), (125, Kspec_l3Mark @spec_l3Mark n), (72, Kspec_l1In @spec_l1In n), (126, Kspec_l3Fire @spec_l3Fire n)] R) (mkL (mkK [(60, Kspec_GoodNet @spec_GoodNet n), (125, Kspec_l3Mark @spec_l3Mark n), (72, Kspec_l1In @spec_l1In n), (126, Kspec_l3Fire @spec_l3Fire n)]) [] R) (loopIn 6 (bodyOf Try.f62)) (fun q' => Pspec_PlayNet_l6 @spec_PlayNet_l6 n R q' kk) (PkS.pack Sspec_PlayNet_l6 (y6_0, y6_1, y6_2, y6_3, y6_4, y6_5, y6_6, ())) kk = (fun (kret : (List Int) → Int → Bool → Option R) (kexit0 : (List Int) → Int → Option R) => (bif (decide (y6_4 < y6_3)) then (bif decide (0 ≤ y6_4) then (bif decide (y6_4 < (y6_2.length : Int)) then (spec_l1In n (y6_2.getD (Int.toNat y6_4) 0) 0 (IntKind.wrap .i64 ((y6_6.length : Int) - 1)) fun r3 => (bif (!r3) then kret ([] : List Int) 0 false else (bif decide (0 ≤ (y6_2.getD (Int.toNat y6_4) 0)) then (bif decide ((y6_2.getD (Int.toNat y6_4) 0) < (y6_6.length : Int)) then (spec_l3Fire n ((y6_6.getD (Int.toNat (y6_2.getD (Int.toNat y6_4) 0)) ([], [])).1) ((y6_6.getD (Int.toNat (y6_2.getD (Int.toNat y6_4) 0)) ([], [])).2) y6_0 fun r4 r5 => (bif r5 then spec_PlayNet_l6 n r4 (IntKind.wrap .i64 (y6_1 + 1)) y6_2 y6_3 (IntKind.wrap .i64 (y6_4 + 1)) y6_5 y6_6 kret kexit0 else spec_PlayNet_l6 n y6_0 y6_1 y6_2 y6_3 (IntKind.wrap .i64 (y6_4 + 1)) y6_5 y6_6 kret kexit0)) else none) else none))) else none) else none) else kexit0 y6_0 y6_1)) (fun r0 r1 r2 => kk .ret (PkS.pack Tspec_PlayNet_l6_0 (r0, r1, r2, ()))) (fun r0 r1 => kk (.exit 0) (PkS.pack Tspec_PlayNet_l6_1 (r0, r1, ()))) := by kernel_rfl
theorem lespec_PlayNet_l6 : LoopEq tt sig (fun n => mkK [(60, Kspec_GoodNet @spec_GoodNet n), (125, Kspec_l3Mark @spec_l3Mark n), (72, Kspec_l1In @spec_l1In n), (126, Kspec_l3Fire @spec_l3Fire n)]) (fun n => mkL (mkK [(60, Kspec_GoodNet @spec_GoodNet n), (125, Kspec_l3Mark @spec_l3Mark n), (72, Kspec_l1In @spec_l1In n), (126, Kspec_l3Fire @spec_l3Fire n)]) []) Dspec_PlayNet_l6 Sspec_PlayNet_l6 (loopIn 6 (bodyOf Try.f62)) (Pspec_PlayNet_l6 @spec_PlayNet_l6) where
  zero R q kk := by unfold Pspec_PlayNet_l6; cases (PkS.un Sspec_PlayNet_l6 q) <;> rfl
  succ n R q kk := by
    unfold Pspec_PlayNet_l6
    cases h : (PkS.un Sspec_PlayNet_l6 q) with
    | none => rfl
    | some d =>
      obtain ⟨y6_0, y6_1, y6_2, y6_3, y6_4, y6_5, y6_6, u⟩ := (d : (List Int) × Int × (List Int) × Int × Int × Int × (List (List Int × List Int)) × Unit)
      have hp := PkS.un_pack h
      subst hp
      exact (espec_PlayNet_l6 @spec_GoodNet @spec_l3Mark @spec_l1In @spec_l3Fire @spec_PlayNet_l6 n y6_0 y6_1 y6_2 y6_3 y6_4 y6_5 y6_6 kk).symm
theorem nlspec_PlayNet_l6 : ∀ n, NatLP (Pspec_PlayNet_l6 @spec_PlayNet_l6 n) := lespec_PlayNet_l6.nat (fun n => mkK_nat (cspec_PlayNet n)) fun n => mkL_nat (mkK_nat (cspec_PlayNet n)) (l := []) trivial
theorem inspec_PlayNet_l6 (n : Nat) (R : Type) : LoopsOk Try.prog (mkL (mkK [(60, Kspec_GoodNet @spec_GoodNet n), (125, Kspec_l3Mark @spec_l3Mark n), (72, Kspec_l1In @spec_l1In n), (126, Kspec_l3Fire @spec_l3Fire n)]) [] R) (loopIn 6 (bodyOf Try.f62)) := .eq (l := []) (by kernel_rfl) trivial
theorem lkspec_PlayNet_l6 (n : Nat) (R : Type) (L0 : LK R) (h0 : ∀ id, firstRegion (loopIn 6 (bodyOf Try.f62)) = some id → L0 id = Dspec_PlayNet_l6.oracle (mkK [(60, Kspec_GoodNet @spec_GoodNet n), (125, Kspec_l3Mark @spec_l3Mark n), (72, Kspec_l1In @spec_l1In n), (126, Kspec_l3Fire @spec_l3Fire n)] R) (Pspec_PlayNet_l6 @spec_PlayNet_l6 n R)) : LoopOk Try.prog L0 (loopIn 6 (bodyOf Try.f62)) :=
  lespec_PlayNet_l6.ok mixed ttok (fun n => mkK_nat (cspec_PlayNet n)) (fun n => mkK_ok (cspec_PlayNet n)) (fun n => inspec_PlayNet_l6 n R) (mkK_nat (cspec_PlayNet n)) h0
@[reducible] def Sspec_PlayNet : PkS := ⟨[.agg [.int .i64, .ro (.pr (.sl (.int .i64)) (.sl (.int .i64)))], .one (.ro (.int .i64)), .one (.ro (.int .i64))], []⟩
@[reducible] def Tspec_PlayNet : PkS := ⟨[.tup [(false, [.ro (.int .i64)]), (false, [.int .i64]), (false, [.bool])], .one (.dead), .one (.dead), .one (.dead)], []⟩
def Hspec_PlayNet : List Sh := [.tup [(false, [(.ro (.int .i64))]), (false, [.any]), (false, [.any])], .skip, .skip, .skip]
def Kspec_PlayNet (g : ∀ {R : Type}, Nat → Int → (List (List Int × List Int)) → (List Int) → (List Int) → ((List Int) → Int → Bool → Option R) → Option R) (n : Nat) : KPs := fun R p k => match (PkS.un Sspec_PlayNet p : Option (Int × (List (List Int × List Int)) × (List Int) × (List Int) × Unit)) with
  | some (x0, x1, x2, x3, _) => g n x0 x1 x2 x3 (fun r0 r1 r2 => k (PkS.pack Tspec_PlayNet (r0, r1, r2, ())))
  | none => none
theorem espec_PlayNet (spec_GoodNet : ∀ {R : Type}, Nat → Int → (List (List Int × List Int)) → (Bool → Option R) → Option R) (spec_l3Mark : ∀ {R : Type}, Nat → Int → (List (List Int × List Int)) → (List Int) → (Bool → Option R) → Option R) (spec_l1In : ∀ {R : Type}, Nat → Int → Int → Int → (Bool → Option R) → Option R) (spec_l3Fire : ∀ {R : Type}, Nat → (List Int) → (List Int) → (List Int) → ((List Int) → Bool → Option R) → Option R) (spec_PlayNet_l6 : ∀ {R : Type}, Nat → (List Int) → Int → (List Int) → Int → Int → Int → (List (List Int × List Int)) → ((List Int) → Int → Bool → Option R) → ((List Int) → Int → Option R) → Option R) {R : Type} (n : Nat) (x0 : Int) (x1 : List (List Int × List Int)) (x2 : List Int) (x3 : List Int) (k : Pk → Option R) : evF tt sig (mkK [(60, Kspec_GoodNet @spec_GoodNet n), (125, Kspec_l3Mark @spec_l3Mark n), (72, Kspec_l1In @spec_l1In n), (126, Kspec_l3Fire @spec_l3Fire n)] R) (mkL (mkK [(60, Kspec_GoodNet @spec_GoodNet n), (125, Kspec_l3Mark @spec_l3Mark n), (72, Kspec_l1In @spec_l1In n), (126, Kspec_l3Fire @spec_l3Fire n)]) [(6, Dspec_PlayNet_l6, Pspec_PlayNet_l6 @spec_PlayNet_l6 n)] R) Try.f62 Hspec_PlayNet (PkS.pack Sspec_PlayNet (x0, x1, x2, x3, ())) k = (fun (k : (List Int) → Int → Bool → Option R) => (spec_GoodNet n x0 x1 fun r1 => (bif (!r1) then k ([] : List Int) 0 false else (spec_l3Mark n x0 x1 x2 fun r2 => (bif (!r2) then k ([] : List Int) 0 false else (bif (decide ((x3.length : Int) > 200)) then k ([] : List Int) 0 false else (bif decide (([] : List Int).length + x2.length ≤ LIM) then (spec_PlayNet_l6 n (([] : List Int) ++ x2) 0 x3 (x3.length : Int) 0 x0 x1 (fun r6 r7 r8 => k r6 r7 r8) (fun r9 r10 => k r9 r10 true)) else none))))))) (fun r0 r1 r2 => k (PkS.pack Tspec_PlayNet (r0, r1, r2, ()))) := by kernel_rfl
theorem okspec_PlayNet (n : Nat) : FnOk Try.prog 62 (Kspec_PlayNet @spec_PlayNet n) := by
  refine fn_ok (sig := sig) mixed ttok (mkK_nat (cspec_PlayNet n)) (mkK_ok (cspec_PlayNet n)) (mkL_nat (mkK_nat (cspec_PlayNet n)) (l := [(6, Dspec_PlayNet_l6, Pspec_PlayNet_l6 @spec_PlayNet_l6 n)]) ⟨nlspec_PlayNet_l6 n, trivial⟩) (fn := Try.f62) (c := bodyOf Try.f62) (by kernel_rfl) (by kernel_rfl) (by kernel_rfl) (.eq (l := [.lo (loopIn 6 (bodyOf Try.f62))]) (by kernel_rfl) ⟨(lkspec_PlayNet_l6 n _ _ (at_id (i := 6) (by kernel_rfl) rfl)), trivial⟩) (shs := Hspec_PlayNet) (S := Sspec_PlayNet) (h1 := by kernel_rfl) fun R p k => ?_
  unfold Kspec_PlayNet
  cases h : (PkS.un Sspec_PlayNet p) with
  | none => rfl
  | some d =>
    obtain ⟨x0, x1, x2, x3, u⟩ := (d : Int × (List (List Int × List Int)) × (List Int) × (List Int) × Unit)
    have hp := PkS.un_pack h
    subst hp
    exact (espec_PlayNet @spec_GoodNet @spec_l3Mark @spec_l1In @spec_l3Fire @spec_PlayNet_l6 n x0 x1 x2 x3 k).symm
end Go.Am.G
