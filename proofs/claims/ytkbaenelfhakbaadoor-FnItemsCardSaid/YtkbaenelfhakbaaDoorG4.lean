/- The code of the functions that the law reaches does what the plain functions say. -/
import Derived.Test.YtkbaenelfhakbaaDoorF4
import Derived.Test.YtkbaenelfhakbaaDoorAmD
import Derived.KernelRfl
import Derived.Test.YtkbaenelfhakbaaDoorProg
set_option linter.unusedVariables false
set_option maxRecDepth 100000
namespace Go.Am.G
open Go Go.Am
open Go.Proofs
def tt : TT := [(3, ⟨1, false, (.int .i64), 0, [], [.int .i64 0], 8, true, false, [], none⟩), (4, ⟨1, false, .bool, 0, [], [.bool false], 1, true, false, [], none⟩), (5, ⟨1, false, (.int .u8), 0, [], [.int .u8 0], 1, true, false, [], none⟩), (9, ⟨1, false, .str, 0, [], [.str ByteArray.empty], 16, true, false, [], none⟩), (24, ⟨1, false, (.sl (.pr (.int .i64) (.int .i64))), 73, [], [.nil], 24, true, true, [], none⟩), (27, ⟨1, false, (.sl (.pr (.int .i64) (.pr (.int .i64) (.pr (.int .i64) .str)))), 37, [], [.nil], 24, true, true, [], none⟩), (34, ⟨1, false, (.sl (.int .u8)), 5, [], [.nil], 24, true, true, [], none⟩), (37, ⟨4, true, (.pr (.int .i64) (.pr (.int .i64) (.pr (.int .i64) .str))), 0, [(0, 1, false), (1, 1, false), (2, 1, false), (3, 1, false)], [.int .i64 0, .int .i64 0, .int .i64 0, .str ByteArray.empty], 40, true, false, [(.int .i64), (.int .i64), (.int .i64), .str], none⟩), (73, ⟨2, true, (.pr (.int .i64) (.int .i64)), 0, [(0, 1, false), (1, 1, false)], [.int .i64 0, .int .i64 0], 16, true, false, [(.int .i64), (.int .i64)], none⟩), (77, ⟨1, false, (.int .u64), 0, [], [.int .u64 0], 8, true, false, [], none⟩), (79, ⟨3, true, (.pr (.sl (.int .u8)) (.pr (.int .i64) (.int .u64))), 0, [(0, 1, false), (1, 1, false), (2, 1, false)], [.nil, .int .i64 0, .int .u64 0], 40, true, false, [], none⟩), (103, ⟨1, false, (.sl (.int .i64)), 3, [], [.nil], 24, true, true, [], none⟩)]
def sig : Sig := sigOf [(4, [.one (.ro (.int .u8)), .one (.ro (.int .u8))]), (10, [.one (.ro (.pr (.int .i64) (.pr (.int .i64) (.pr (.int .i64) .str))))]), (12, [.one (.ro (.pr (.int .i64) (.pr (.int .i64) (.pr (.int .i64) .str))))]), (18, [.one (.ro (.int .u8))]), (19, [.one (.ro (.pr (.int .i64) (.int .i64))), .one (.ro (.pr (.int .i64) (.int .i64)))]), (20, [.one (.ro (.pr (.int .i64) (.int .i64))), .one .any]), (21, [.one (.ro (.pr (.int .i64) (.int .i64))), .one .any, .one .any]), (22, [.one (.ro (.pr (.int .i64) (.int .i64)))]), (23, [.one (.ro (.int .u8))]), (24, [.one (.ro (.pr (.int .i64) (.int .i64))), .one .any]), (25, [.one (.ro (.pr (.int .i64) (.int .i64))), .one .any]), (26, [.one (.ro (.pr (.int .i64) (.int .i64)))]), (27, [.one (.ro (.pr (.int .i64) (.int .i64))), .one (.ro (.pr (.int .i64) (.int .i64)))]), (43, [.agg [.any, .any, .any, .any]]), (44, [.one (.ro (.pr (.int .i64) (.int .i64))), .one .any, .one .any]), (45, [.one (.ro (.pr (.int .i64) (.int .i64)))]), (46, [.one (.ro (.pr (.int .i64) (.int .i64))), .one .any, .one .any]), (47, [.agg [.any, .any, .any, .any]]), (51, [.box [(.ro (.int .u8)), .any, .any], .one .any]), (52, [.box [(.ro (.int .u8)), .any, .any], .one .any]), (53, [.one .any, .one .any, .one .any]), (54, [.one (.ro (.pr (.int .i64) (.int .i64)))]), (55, [.one (.ro (.pr (.int .i64) (.int .i64))), .one .any]), (56, [.one .any]), (57, [.box [(.ro (.int .u8)), .any, .any]]), (58, [.one (.ro (.pr (.int .i64) (.int .i64)))]), (59, [.one .any, .one .any, .one .any]), (60, [.one (.ro (.pr (.int .i64) (.int .i64))), .one .any]), (61, [.one (.ro (.pr (.int .i64) (.int .i64)))]), (62, [.one (.ro (.pr (.int .i64) (.int .i64))), .one (.ro (.pr (.int .i64) (.int .i64)))]), (70, [.one .any]), (72, [.one .any]), (73, [.one .any]), (80, [.one (.ro (.pr (.int .i64) (.int .i64)))]), (81, [.box [(.ro (.int .u8)), .any, .any]]), (82, [.one (.ro (.pr (.int .i64) (.int .i64))), .fn 83 [[.any]]]), (83, [.agg [.any, .any], .box [.any]]), (84, [.box [(.ro (.int .u8)), .any, .any], .one (.ro (.int .i64))]), (92, [.one .any, .one .any])]
theorem ttok : TTok Tryd.prog tt := .of_chk (by kernel_rfl)
theorem mixed : Tryd.prog.follows .mixedOrders = true := by kernel_rfl

/-! ### (*loop.example/g00269/spec.l1Cur).next -/
theorem cspec_l1Cur_next (n : Nat) : AllOk Tryd.prog [] := trivial
@[reducible] def Sspec_l1Cur_next : PkS := ⟨[.one (.box (200000, 0) 0)], [((200000, 0), .box [.ro (.int .u8), .int .i64, .int .u64])]⟩
@[reducible] def Tspec_l1Cur_next : PkS := ⟨[.one (.int .i64), .one (.box (300000, 0) 0)], [((300000, 0), .box [.ro (.int .u8), .int .i64, .int .u64])]⟩
def Hspec_l1Cur_next : List Sh := [.one .any, .box [(.ro (.int .u8)), .any, .any]]
def Kspec_l1Cur_next (g : ∀ {R : Type}, Nat → (List Int) → Int → Int → (Int → (List Int) → Int → Int → Option R) → Option R) (n : Nat) : KPs := fun R p k => match (PkS.un Sspec_l1Cur_next p : Option ((List Int) × Int × Int × Unit)) with
  | some (x0, x1, x2, _) => g n x0 x1 x2 (fun r0 r1 r2 r3 => k (PkS.pack Tspec_l1Cur_next (r0, r1, r2, r3, ())))
  | none => none
theorem espec_l1Cur_next  {R : Type} (n : Nat) (x0 : List Int) (x1 : Int) (x2 : Int) (k : Pk → Option R) : evF tt sig (mkK [] R) (mkL (mkK []) [] R) Tryd.f81 Hspec_l1Cur_next (PkS.pack Sspec_l1Cur_next (x0, x1, x2, ())) k = (fun (k : Int → (List Int) → Int → Int → Option R) => (bif (decide (x1 < (x0.length : Int))) then (bif decide (0 ≤ x1) then (bif decide (x1 < (x0.length : Int)) then (bif (decide ((IntKind.wrap .i64 (x1 + 1)) ≤ (x0.length : Int))) then k (IntKind.wrap .i64 ((x0.getD (Int.toNat x1) 0))) x0 (IntKind.wrap .i64 (x1 + 1)) (IntKind.wrap .u64 ((IntKind.wrap .u64 ((IntKind.wrap .u64 (x2 * 6364136223846793005)) + (IntKind.wrap .u64 ((IntKind.wrap .i64 ((x0.getD (Int.toNat x1) 0))))))) + 1442695040888963407)) else k (IntKind.wrap .i64 ((IntKind.wrap .u64 (Int.ofNat (BitVec.toNat (BitVec.ofInt (IntKind.bits .u64) (Int.fdiv (IntKind.wrap .u64 ((IntKind.wrap .u64 ((IntKind.wrap .u64 (x2 * 6364136223846793005)) + (IntKind.wrap .u64 ((IntKind.wrap .i64 ((x0.getD (Int.toNat x1) 0))))))) + 1442695040888963407)) (2 ^ (min (Int.toNat 40) (IntKind.bits .u64)))) &&& BitVec.ofInt (IntKind.bits .u64) 255)))))) x0 (IntKind.wrap .i64 (x1 + 1)) (IntKind.wrap .u64 ((IntKind.wrap .u64 ((IntKind.wrap .u64 (x2 * 6364136223846793005)) + (IntKind.wrap .u64 ((IntKind.wrap .i64 ((x0.getD (Int.toNat x1) 0))))))) + 1442695040888963407))) else none) else none) else (bif (decide ((IntKind.wrap .i64 (x1 + 1)) ≤ (x0.length : Int))) then k 0 x0 (IntKind.wrap .i64 (x1 + 1)) (IntKind.wrap .u64 ((IntKind.wrap .u64 ((IntKind.wrap .u64 (x2 * 6364136223846793005)) + 0)) + 1442695040888963407)) else k (IntKind.wrap .i64 ((IntKind.wrap .u64 (Int.ofNat (BitVec.toNat (BitVec.ofInt (IntKind.bits .u64) (Int.fdiv (IntKind.wrap .u64 ((IntKind.wrap .u64 ((IntKind.wrap .u64 (x2 * 6364136223846793005)) + 0)) + 1442695040888963407)) (2 ^ (min (Int.toNat 40) (IntKind.bits .u64)))) &&& BitVec.ofInt (IntKind.bits .u64) 255)))))) x0 (IntKind.wrap .i64 (x1 + 1)) (IntKind.wrap .u64 ((IntKind.wrap .u64 ((IntKind.wrap .u64 (x2 * 6364136223846793005)) + 0)) + 1442695040888963407))))) (fun r0 r1 r2 r3 => k (PkS.pack Tspec_l1Cur_next (r0, r1, r2, r3, ()))) := by kernel_rfl
theorem okspec_l1Cur_next (n : Nat) : FnOk Tryd.prog 81 (Kspec_l1Cur_next @spec_l1Cur_next n) := by
  refine fn_ok (sig := sig) mixed ttok (mkK_nat (cspec_l1Cur_next n)) (mkK_ok (cspec_l1Cur_next n)) (mkL_nat (mkK_nat (cspec_l1Cur_next n)) (l := []) trivial) (fn := Tryd.f81) (c := bodyOf Tryd.f81) (by kernel_rfl) (by kernel_rfl) (by kernel_rfl) (.eq (l := []) (by kernel_rfl) trivial) (shs := Hspec_l1Cur_next) (S := Sspec_l1Cur_next) (h1 := by kernel_rfl) fun R p k => ?_
  unfold Kspec_l1Cur_next
  cases h : (PkS.un Sspec_l1Cur_next p) with
  | none => rfl
  | some d =>
    obtain ⟨x0, x1, x2, u⟩ := (d : (List Int) × Int × Int × Unit)
    have hp := PkS.un_pack h
    subst hp
    exact (espec_l1Cur_next  n x0 x1 x2 k).symm

/-! ### (*loop.example/g00269/spec.l1Cur).pick -/
theorem cspec_l1Cur_pick (n : Nat) : AllOk Tryd.prog [(81, Kspec_l1Cur_next @spec_l1Cur_next n)] := ⟨okspec_l1Cur_next n, trivial⟩
@[reducible] def Sspec_l1Cur_pick : PkS := ⟨[.one (.box (200000, 0) 0), .one (.int .i64)], [((200000, 0), .box [.ro (.int .u8), .int .i64, .int .u64])]⟩
@[reducible] def Tspec_l1Cur_pick : PkS := ⟨[.one (.int .i64), .one (.box (300000, 0) 0), .one (.dead)], [((300000, 0), .box [.ro (.int .u8), .int .i64, .int .u64])]⟩
def Hspec_l1Cur_pick : List Sh := [.one .any, .box [(.ro (.int .u8)), .any, .any], .skip]
def Kspec_l1Cur_pick (g : ∀ {R : Type}, Nat → Int → (List Int) → Int → Int → (Int → (List Int) → Int → Int → Option R) → Option R) (n : Nat) : KPs := fun R p k => match (PkS.un Sspec_l1Cur_pick p : Option (Int × (List Int) × Int × Int × Unit)) with
  | some (x0, x1, x2, x3, _) => g n x0 x1 x2 x3 (fun r0 r1 r2 r3 => k (PkS.pack Tspec_l1Cur_pick (r0, r1, r2, r3, ())))
  | none => none
theorem espec_l1Cur_pick (spec_l1Cur_next : ∀ {R : Type}, Nat → (List Int) → Int → Int → (Int → (List Int) → Int → Int → Option R) → Option R) {R : Type} (n : Nat) (x0 : Int) (x1 : List Int) (x2 : Int) (x3 : Int) (k : Pk → Option R) : evF tt sig (mkK [(81, Kspec_l1Cur_next @spec_l1Cur_next n)] R) (mkL (mkK [(81, Kspec_l1Cur_next @spec_l1Cur_next n)]) [] R) Tryd.f51 Hspec_l1Cur_pick (PkS.pack Sspec_l1Cur_pick (x0, x1, x2, x3, ())) k = (fun (k : Int → (List Int) → Int → Int → Option R) => (bif (decide (x0 ≤ 1)) then k 0 x1 x2 x3 else (spec_l1Cur_next n x1 x2 x3 fun r1 r2 r3 r4 => (bif (decide (x0 > 200)) then (spec_l1Cur_next n r2 r3 r4 fun r5 r6 r7 r8 => (bif decide (x0 ≠ 0) then k (Int.tmod (IntKind.wrap .i64 ((IntKind.wrap .i64 (r1 * 256)) + r5)) x0) r6 r7 r8 else none)) else (bif decide (x0 ≠ 0) then k (Int.tmod r1 x0) r2 r3 r4 else none))))) (fun r0 r1 r2 r3 => k (PkS.pack Tspec_l1Cur_pick (r0, r1, r2, r3, ()))) := by kernel_rfl
theorem okspec_l1Cur_pick (n : Nat) : FnOk Tryd.prog 51 (Kspec_l1Cur_pick @spec_l1Cur_pick n) := by
  refine fn_ok (sig := sig) mixed ttok (mkK_nat (cspec_l1Cur_pick n)) (mkK_ok (cspec_l1Cur_pick n)) (mkL_nat (mkK_nat (cspec_l1Cur_pick n)) (l := []) trivial) (fn := Tryd.f51) (c := bodyOf Tryd.f51) (by kernel_rfl) (by kernel_rfl) (by kernel_rfl) (.eq (l := []) (by kernel_rfl) trivial) (shs := Hspec_l1Cur_pick) (S := Sspec_l1Cur_pick) (h1 := by kernel_rfl) fun R p k => ?_
  unfold Kspec_l1Cur_pick
  cases h : (PkS.un Sspec_l1Cur_pick p) with
  | none => rfl
  | some d =>
    obtain ⟨x0, x1, x2, x3, u⟩ := (d : Int × (List Int) × Int × Int × Unit)
    have hp := PkS.un_pack h
    subst hp
    exact (espec_l1Cur_pick @spec_l1Cur_next n x0 x1 x2 x3 k).symm

/-! ### (*loop.example/g00269/spec.l1Cur).one -/
theorem cspec_l1Cur_one (n : Nat) : AllOk Tryd.prog [(51, Kspec_l1Cur_pick @spec_l1Cur_pick n)] := ⟨okspec_l1Cur_pick n, trivial⟩
@[reducible] def Sspec_l1Cur_one : PkS := ⟨[.one (.box (200000, 0) 0), .one (.int .i64)], [((200000, 0), .box [.ro (.int .u8), .int .i64, .int .u64])]⟩
@[reducible] def Tspec_l1Cur_one : PkS := ⟨[.one (.bool), .one (.box (300000, 0) 0), .one (.dead)], [((300000, 0), .box [.ro (.int .u8), .int .i64, .int .u64])]⟩
def Hspec_l1Cur_one : List Sh := [.one .any, .box [(.ro (.int .u8)), .any, .any], .skip]
def Kspec_l1Cur_one (g : ∀ {R : Type}, Nat → Int → (List Int) → Int → Int → (Bool → (List Int) → Int → Int → Option R) → Option R) (n : Nat) : KPs := fun R p k => match (PkS.un Sspec_l1Cur_one p : Option (Int × (List Int) × Int × Int × Unit)) with
  | some (x0, x1, x2, x3, _) => g n x0 x1 x2 x3 (fun r0 r1 r2 r3 => k (PkS.pack Tspec_l1Cur_one (r0, r1, r2, r3, ())))
  | none => none
theorem espec_l1Cur_one (spec_l1Cur_pick : ∀ {R : Type}, Nat → Int → (List Int) → Int → Int → (Int → (List Int) → Int → Int → Option R) → Option R) {R : Type} (n : Nat) (x0 : Int) (x1 : List Int) (x2 : Int) (x3 : Int) (k : Pk → Option R) : evF tt sig (mkK [(51, Kspec_l1Cur_pick @spec_l1Cur_pick n)] R) (mkL (mkK [(51, Kspec_l1Cur_pick @spec_l1Cur_pick n)]) [] R) Tryd.f52 Hspec_l1Cur_one (PkS.pack Sspec_l1Cur_one (x0, x1, x2, x3, ())) k = (fun (k : Bool → (List Int) → Int → Int → Option R) => (spec_l1Cur_pick n x0 x1 x2 x3 fun r1 r2 r3 r4 => k (r1 == 0) r2 r3 r4)) (fun r0 r1 r2 r3 => k (PkS.pack Tspec_l1Cur_one (r0, r1, r2, r3, ()))) := by kernel_rfl
theorem okspec_l1Cur_one (n : Nat) : FnOk Tryd.prog 52 (Kspec_l1Cur_one @spec_l1Cur_one n) := by
  refine fn_ok (sig := sig) mixed ttok (mkK_nat (cspec_l1Cur_one n)) (mkK_ok (cspec_l1Cur_one n)) (mkL_nat (mkK_nat (cspec_l1Cur_one n)) (l := []) trivial) (fn := Tryd.f52) (c := bodyOf Tryd.f52) (by kernel_rfl) (by kernel_rfl) (by kernel_rfl) (.eq (l := []) (by kernel_rfl) trivial) (shs := Hspec_l1Cur_one) (S := Sspec_l1Cur_one) (h1 := by kernel_rfl) fun R p k => ?_
  unfold Kspec_l1Cur_one
  cases h : (PkS.un Sspec_l1Cur_one p) with
  | none => rfl
  | some d =>
    obtain ⟨x0, x1, x2, x3, u⟩ := (d : Int × (List Int) × Int × Int × Unit)
    have hp := PkS.un_pack h
    subst hp
    exact (espec_l1Cur_one @spec_l1Cur_pick n x0 x1 x2 x3 k).symm

/-! ### loop.example/g00269/spec.DrawItemsOf -/
theorem cspec_DrawItemsOf (n : Nat) : AllOk Tryd.prog [(51, Kspec_l1Cur_pick @spec_l1Cur_pick n), (52, Kspec_l1Cur_one @spec_l1Cur_one n)] := ⟨okspec_l1Cur_pick n, ⟨okspec_l1Cur_one n, trivial⟩⟩
@[reducible] def Sspec_DrawItemsOf_l5 : PkS := ⟨[.one (.box (100000, 0) 0), .one (.whole (100000, 1)), .one (.int .i64), .one (.int .i64), .one (.dead)], [((100000, 0), .box [.ro (.int .u8), .int .i64, .int .u64]), ((100000, 1), .arr (.pr (.int .i64) (.pr (.int .i64) (.pr (.int .i64) .str))))]⟩
@[reducible] def Tspec_DrawItemsOf_l5_0 : PkS := ⟨[.one (.box (100000, 0) 0), .one (.whole (100000, 1)), .one (.dead)], [((100000, 0), .box [.ro (.int .u8), .int .i64, .int .u64]), ((100000, 1), .arr (.pr (.int .i64) (.pr (.int .i64) (.pr (.int .i64) .str))))]⟩
def Dspec_DrawItemsOf_l5 : LoopD := ⟨65, [3, 4, 5, 6], [.box [(.ro (.int .u8)), .any, .any], .one (.own (.pr (.int .i64) (.pr (.int .i64) (.pr (.int .i64) .str)))), .one .any, .one .any, .skip], fun x => match x with
  | .exit 0 => some ([3, 4], [.box [(.ro (.int .u8)), .any, .any], .one (.own (.pr (.int .i64) (.pr (.int .i64) (.pr (.int .i64) .str)))), .skip])
  | _ => none⟩
def Pspec_DrawItemsOf_l5 (g : ∀ {R : Type}, Nat → Int → Int → (List Int) → Int → Int → (List (Int × Int × Int × ByteArray)) → ((List Int) → Int → Int → (List (Int × Int × Int × ByteArray)) → Option R) → Option R) (n : Nat) : LPs := fun R q kk => match (PkS.un Sspec_DrawItemsOf_l5 q : Option (Int × Int × (List Int) × Int × Int × (List (Int × Int × Int × ByteArray)) × Unit)) with
  | some (y5_0, y5_1, y5_2, y5_3, y5_4, y5_5, _) => g n y5_0 y5_1 y5_2 y5_3 y5_4 y5_5 (fun r0 r1 r2 r3 => kk (.exit 0) (PkS.pack Tspec_DrawItemsOf_l5_0 (r0, r1, r2, r3, ())))
  | none => none
theorem espec_DrawItemsOf_l5 (spec_l1Cur_pick : ∀ {R : Type}, Nat → Int → (List Int) → Int → Int → (Int → (List Int) → Int → Int → Option R) → Option R) (spec_l1Cur_one : ∀ {R : Type}, Nat → Int → (List Int) → Int → Int → (Bool → (List Int) → Int → Int → Option R) → Option R) (spec_DrawItemsOf_l5 : ∀ {R : Type}, Nat → Int → Int → (List Int) → Int → Int → (List (Int × Int × Int × ByteArray)) → ((List Int) → Int → Int → (List (Int × Int × Int × ByteArray)) → Option R) → Option R) {R : Type} (n : Nat) (y5_0 : Int) (y5_1 : Int) (y5_2 : List Int) (y5_3 : Int) (y5_4 : Int) (y5_5 : List (Int × Int × Int × ByteArray)) (kk : Ex → Pk → Option R) : Dspec_DrawItemsOf_l5.step tt sig (mkK [(51, Kspec_l1Cur_pick @spec_l1Cur_pick n), (52, Kspec_l1Cur_one @spec_l1Cur_one n)] R) (mkL (mkK [(51, Kspec_l1Cur_pick @spec_l1Cur_pick n), (52, Kspec_l1Cur_one @spec_l1Cur_one n)]) [] R) (loopIn 5 (bodyOf Tryd.f18)) (fun q' => Pspec_DrawItemsOf_l5 @spec_DrawItemsOf_l5 n R q' kk) (PkS.pack Sspec_DrawItemsOf_l5 (y5_0, y5_1, y5_2, y5_3, y5_4, y5_5, ())) kk = (fun (kexit0 : (List Int) → Int → Int → (List (Int × Int × Int × ByteArray)) → Option R) => (bif (decide (y5_1 > 0)) then (spec_l1Cur_pick n 2 y5_2 y5_3 y5_4 fun r9 r10 r11 r12 => (spec_l1Cur_pick n 3 r10 r11 r12 fun r13 r14 r15 r16 => (spec_l1Cur_pick n 6 r14 r15 r16 fun r17 r18 r19 r20 => (bif decide (y5_5.length + ([((IntKind.wrap .i64 ((y5_5.length : Int) + 1)), ((IntKind.wrap .i64 (y5_0 + (IntKind.wrap .i64 (r9 * r13)))), ((IntKind.wrap .i64 (1 + r17)), (ByteArray.mk #[97]))))]).length ≤ LIM) then spec_DrawItemsOf_l5 n (IntKind.wrap .i64 (y5_0 + (IntKind.wrap .i64 (r9 * r13)))) (IntKind.wrap .i64 (y5_1 - 1)) r18 r19 r20 (y5_5 ++ [((IntKind.wrap .i64 ((y5_5.length : Int) + 1)), ((IntKind.wrap .i64 (y5_0 + (IntKind.wrap .i64 (r9 * r13)))), ((IntKind.wrap .i64 (1 + r17)), (ByteArray.mk #[97]))))]) kexit0 else none)))) else kexit0 y5_2 y5_3 y5_4 y5_5)) (fun r0 r1 r2 r3 => kk (.exit 0) (PkS.pack Tspec_DrawItemsOf_l5_0 (r0, r1, r2, r3, ()))) := by kernel_rfl
theorem lespec_DrawItemsOf_l5 : LoopEq tt sig (fun n => mkK [(51, Kspec_l1Cur_pick @spec_l1Cur_pick n), (52, Kspec_l1Cur_one @spec_l1Cur_one n)]) (fun n => mkL (mkK [(51, Kspec_l1Cur_pick @spec_l1Cur_pick n), (52, Kspec_l1Cur_one @spec_l1Cur_one n)]) []) Dspec_DrawItemsOf_l5 Sspec_DrawItemsOf_l5 (loopIn 5 (bodyOf Tryd.f18)) (Pspec_DrawItemsOf_l5 @spec_DrawItemsOf_l5) where
  zero R q kk := by unfold Pspec_DrawItemsOf_l5; cases (PkS.un Sspec_DrawItemsOf_l5 q) <;> rfl
  succ n R q kk := by
    unfold Pspec_DrawItemsOf_l5
    cases h : (PkS.un Sspec_DrawItemsOf_l5 q) with
    | none => rfl
    | some d =>
      obtain ⟨y5_0, y5_1, y5_2, y5_3, y5_4, y5_5, u⟩ := (d : Int × Int × (List Int) × Int × Int × (List (Int × Int × Int × ByteArray)) × Unit)
      have hp := PkS.un_pack h
      subst hp
      exact (espec_DrawItemsOf_l5 @spec_l1Cur_pick @spec_l1Cur_one @spec_DrawItemsOf_l5 n y5_0 y5_1 y5_2 y5_3 y5_4 y5_5 kk).symm
theorem nlspec_DrawItemsOf_l5 : ∀ n, NatLP (Pspec_DrawItemsOf_l5 @spec_DrawItemsOf_l5 n) := lespec_DrawItemsOf_l5.nat (fun n => mkK_nat (cspec_DrawItemsOf n)) fun n => mkL_nat (mkK_nat (cspec_DrawItemsOf n)) (l := []) trivial
theorem inspec_DrawItemsOf_l5 (n : Nat) (R : Type) : LoopsOk Tryd.prog (mkL (mkK [(51, Kspec_l1Cur_pick @spec_l1Cur_pick n), (52, Kspec_l1Cur_one @spec_l1Cur_one n)]) [] R) (loopIn 5 (bodyOf Tryd.f18)) := .eq (l := []) (by kernel_rfl) trivial
theorem lkspec_DrawItemsOf_l5 (n : Nat) (R : Type) (L0 : LK R) (h0 : ∀ id, firstRegion (loopIn 5 (bodyOf Tryd.f18)) = some id → L0 id = Dspec_DrawItemsOf_l5.oracle (mkK [(51, Kspec_l1Cur_pick @spec_l1Cur_pick n), (52, Kspec_l1Cur_one @spec_l1Cur_one n)] R) (Pspec_DrawItemsOf_l5 @spec_DrawItemsOf_l5 n R)) : LoopOk Tryd.prog L0 (loopIn 5 (bodyOf Tryd.f18)) :=
  lespec_DrawItemsOf_l5.ok mixed ttok (fun n => mkK_nat (cspec_DrawItemsOf n)) (fun n => mkK_ok (cspec_DrawItemsOf n)) (fun n => inspec_DrawItemsOf_l5 n R) (mkK_nat (cspec_DrawItemsOf n)) h0
@[reducible] def Sspec_DrawItemsOf : PkS := ⟨[.one (.ro (.int .u8))], []⟩
@[reducible] def Tspec_DrawItemsOf : PkS := ⟨[.one (.whole (300000, 0)), .one (.dead)], [((300000, 0), .arr (.pr (.int .i64) (.pr (.int .i64) (.pr (.int .i64) .str))))]⟩
def Hspec_DrawItemsOf : List Sh := [.one (.own (.pr (.int .i64) (.pr (.int .i64) (.pr (.int .i64) .str)))), .skip]
def Kspec_DrawItemsOf (g : ∀ {R : Type}, Nat → (List Int) → ((List (Int × Int × Int × ByteArray)) → Option R) → Option R) (n : Nat) : KPs := fun R p k => match (PkS.un Sspec_DrawItemsOf p : Option ((List Int) × Unit)) with
  | some (x0, _) => g n x0 (fun r0 => k (PkS.pack Tspec_DrawItemsOf (r0, ())))
  | none => none
theorem espec_DrawItemsOf (spec_l1Cur_pick : ∀ {R : Type}, Nat → Int → (List Int) → Int → Int → (Int → (List Int) → Int → Int → Option R) → Option R) (spec_l1Cur_one : ∀ {R : Type}, Nat → Int → (List Int) → Int → Int → (Bool → (List Int) → Int → Int → Option R) → Option R) (spec_DrawItemsOf_l5 : ∀ {R : Type}, Nat → Int → Int → (List Int) → Int → Int → (List (Int × Int × Int × ByteArray)) → ((List Int) → Int → Int → (List (Int × Int × Int × ByteArray)) → Option R) → Option R) {R : Type} (n : Nat) (x0 : List Int) (k : Pk → Option R) : evF tt sig (mkK [(51, Kspec_l1Cur_pick @spec_l1Cur_pick n), (52, Kspec_l1Cur_one @spec_l1Cur_one n)] R) (mkL (mkK [(51, Kspec_l1Cur_pick @spec_l1Cur_pick n), (52, Kspec_l1Cur_one @spec_l1Cur_one n)]) [(5, Dspec_DrawItemsOf_l5, Pspec_DrawItemsOf_l5 @spec_DrawItemsOf_l5 n)] R) Tryd.f18 Hspec_DrawItemsOf (PkS.pack Sspec_DrawItemsOf (x0, ())) k = (fun (k : (List (Int × Int × Int × ByteArray)) → Option R) => (spec_l1Cur_pick n 4 x0 0 0 fun r1 r2 r3 r4 => (spec_l1Cur_pick n 10 r2 r3 r4 fun r5 r6 r7 r8 => (spec_DrawItemsOf_l5 n r1 r5 r6 r7 r8 ([] : List (Int × Int × Int × ByteArray)) (fun r21 r22 r23 r24 => (bif (decide ((r24.length : Int) > 0)) then (spec_l1Cur_one n 12 r21 r22 r23 fun r25 r26 r27 r28 => (bif r25 then (spec_l1Cur_pick n (r24.length : Int) r26 r27 r28 fun r29 r30 r31 r32 => (spec_l1Cur_pick n 5 r30 r31 r32 fun r33 r34 r35 r36 => (bif decide (0 ≤ r29) then (bif decide (r29 < (r24.length : Int)) then (bif decide (0 ≤ r29) then (bif decide (r29 < ((r24.set (Int.toNat r29) ((r24.getD (Int.toNat r29) (0, (0, (0, ByteArray.empty)))).1, (r33, (r24.getD (Int.toNat r29) (0, (0, (0, ByteArray.empty)))).2.2))).length : Int)) then (spec_l1Cur_pick n 2 r34 r35 r36 fun r37 r38 r39 r40 => (bif decide (0 ≤ r29) then (bif decide (r29 < ((r24.set (Int.toNat r29) ((r24.getD (Int.toNat r29) (0, (0, (0, ByteArray.empty)))).1, (r33, (r24.getD (Int.toNat r29) (0, (0, (0, ByteArray.empty)))).2.2))).length : Int)) then k ((r24.set (Int.toNat r29) ((r24.getD (Int.toNat r29) (0, (0, (0, ByteArray.empty)))).1, (r33, (r24.getD (Int.toNat r29) (0, (0, (0, ByteArray.empty)))).2.2))).set (Int.toNat r29) ((IntKind.wrap .i64 ((((r24.set (Int.toNat r29) ((r24.getD (Int.toNat r29) (0, (0, (0, ByteArray.empty)))).1, (r33, (r24.getD (Int.toNat r29) (0, (0, (0, ByteArray.empty)))).2.2))).getD (Int.toNat r29) (0, (0, (0, ByteArray.empty)))).1) + r37)), ((r24.set (Int.toNat r29) ((r24.getD (Int.toNat r29) (0, (0, (0, ByteArray.empty)))).1, (r33, (r24.getD (Int.toNat r29) (0, (0, (0, ByteArray.empty)))).2.2))).getD (Int.toNat r29) (0, (0, (0, ByteArray.empty)))).2)) else none) else none)) else none) else none) else none) else none))) else k r24)) else k r24)))))) (fun r0 => k (PkS.pack Tspec_DrawItemsOf (r0, ()))) := by kernel_rfl
theorem okspec_DrawItemsOf (n : Nat) : FnOk Tryd.prog 18 (Kspec_DrawItemsOf @spec_DrawItemsOf n) := by
  refine fn_ok (sig := sig) mixed ttok (mkK_nat (cspec_DrawItemsOf n)) (mkK_ok (cspec_DrawItemsOf n)) (mkL_nat (mkK_nat (cspec_DrawItemsOf n)) (l := [(5, Dspec_DrawItemsOf_l5, Pspec_DrawItemsOf_l5 @spec_DrawItemsOf_l5 n)]) ⟨nlspec_DrawItemsOf_l5 n, trivial⟩) (fn := Tryd.f18) (c := bodyOf Tryd.f18) (by kernel_rfl) (by kernel_rfl) (by kernel_rfl) (.eq (l := [.lo (loopIn 5 (bodyOf Tryd.f18))]) (by kernel_rfl) ⟨(lkspec_DrawItemsOf_l5 n _ _ (at_id (i := 5) (by kernel_rfl) rfl)), trivial⟩) (shs := Hspec_DrawItemsOf) (S := Sspec_DrawItemsOf) (h1 := by kernel_rfl) fun R p k => ?_
  unfold Kspec_DrawItemsOf
  cases h : (PkS.un Sspec_DrawItemsOf p) with
  | none => rfl
  | some d =>
    obtain ⟨x0, u⟩ := (d : (List Int) × Unit)
    have hp := PkS.un_pack h
    subst hp
    exact (espec_DrawItemsOf @spec_l1Cur_pick @spec_l1Cur_one @spec_DrawItemsOf_l5 n x0 k).symm

/-! ### loop.example/g00269/impl.last -/
theorem cimpl_last (n : Nat) : AllOk Tryd.prog [] := trivial
@[reducible] def Simpl_last : PkS := ⟨[.one (.ro (.pr (.int .i64) (.int .i64)))], []⟩
@[reducible] def Timpl_last : PkS := ⟨[.one (.int .i64), .one (.dead)], []⟩
def Himpl_last : List Sh := [.one .any, .skip]
def Kimpl_last (g : ∀ {R : Type}, Nat → (List (Int × Int)) → (Int → Option R) → Option R) (n : Nat) : KPs := fun R p k => match (PkS.un Simpl_last p : Option ((List (Int × Int)) × Unit)) with
  | some (x0, _) => g n x0 (fun r0 => k (PkS.pack Timpl_last (r0, ())))
  | none => none
theorem eimpl_last  {R : Type} (n : Nat) (x0 : List (Int × Int)) (k : Pk → Option R) : evF tt sig (mkK [] R) (mkL (mkK []) [] R) Tryd.f54 Himpl_last (PkS.pack Simpl_last (x0, ())) k = (fun (k : Int → Option R) => (bif ((x0.length : Int) == 0) then k 0 else (bif decide (0 ≤ (IntKind.wrap .i64 ((x0.length : Int) - 1))) then (bif decide ((IntKind.wrap .i64 ((x0.length : Int) - 1)) < (x0.length : Int)) then k ((x0.getD (Int.toNat (IntKind.wrap .i64 ((x0.length : Int) - 1))) (0, 0)).1) else none) else none))) (fun r0 => k (PkS.pack Timpl_last (r0, ()))) := by kernel_rfl
theorem okimpl_last (n : Nat) : FnOk Tryd.prog 54 (Kimpl_last @impl_last n) := by
  refine fn_ok (sig := sig) mixed ttok (mkK_nat (cimpl_last n)) (mkK_ok (cimpl_last n)) (mkL_nat (mkK_nat (cimpl_last n)) (l := []) trivial) (fn := Tryd.f54) (c := bodyOf Tryd.f54) (by kernel_rfl) (by kernel_rfl) (by kernel_rfl) (.eq (l := []) (by kernel_rfl) trivial) (shs := Himpl_last) (S := Simpl_last) (h1 := by kernel_rfl) fun R p k => ?_
  unfold Kimpl_last
  cases h : (PkS.un Simpl_last p) with
  | none => rfl
  | some d =>
    obtain ⟨x0, u⟩ := (d : (List (Int × Int)) × Unit)
    have hp := PkS.un_pack h
    subst hp
    exact (eimpl_last  n x0 k).symm

/-! ### loop.example/g00269/impl.lastVersion -/
theorem cimpl_lastVersion (n : Nat) : AllOk Tryd.prog [] := trivial
@[reducible] def Simpl_lastVersion : PkS := ⟨[.one (.ro (.pr (.int .i64) (.int .i64)))], []⟩
@[reducible] def Timpl_lastVersion : PkS := ⟨[.one (.int .i64), .one (.dead)], []⟩
def Himpl_lastVersion : List Sh := [.one .any, .skip]
def Kimpl_lastVersion (g : ∀ {R : Type}, Nat → (List (Int × Int)) → (Int → Option R) → Option R) (n : Nat) : KPs := fun R p k => match (PkS.un Simpl_lastVersion p : Option ((List (Int × Int)) × Unit)) with
  | some (x0, _) => g n x0 (fun r0 => k (PkS.pack Timpl_lastVersion (r0, ())))
  | none => none
theorem eimpl_lastVersion  {R : Type} (n : Nat) (x0 : List (Int × Int)) (k : Pk → Option R) : evF tt sig (mkK [] R) (mkL (mkK []) [] R) Tryd.f61 Himpl_lastVersion (PkS.pack Simpl_lastVersion (x0, ())) k = (fun (k : Int → Option R) => (bif ((x0.length : Int) == 0) then k 0 else (bif decide (0 ≤ (IntKind.wrap .i64 ((x0.length : Int) - 1))) then (bif decide ((IntKind.wrap .i64 ((x0.length : Int) - 1)) < (x0.length : Int)) then k ((x0.getD (Int.toNat (IntKind.wrap .i64 ((x0.length : Int) - 1))) (0, 0)).2) else none) else none))) (fun r0 => k (PkS.pack Timpl_lastVersion (r0, ()))) := by kernel_rfl
theorem okimpl_lastVersion (n : Nat) : FnOk Tryd.prog 61 (Kimpl_lastVersion @impl_lastVersion n) := by
  refine fn_ok (sig := sig) mixed ttok (mkK_nat (cimpl_lastVersion n)) (mkK_ok (cimpl_lastVersion n)) (mkL_nat (mkK_nat (cimpl_lastVersion n)) (l := []) trivial) (fn := Tryd.f61) (c := bodyOf Tryd.f61) (by kernel_rfl) (by kernel_rfl) (by kernel_rfl) (.eq (l := []) (by kernel_rfl) trivial) (shs := Himpl_lastVersion) (S := Simpl_lastVersion) (h1 := by kernel_rfl) fun R p k => ?_
  unfold Kimpl_lastVersion
  cases h : (PkS.un Simpl_lastVersion p) with
  | none => rfl
  | some d =>
    obtain ⟨x0, u⟩ := (d : (List (Int × Int)) × Unit)
    have hp := PkS.un_pack h
    subst hp
    exact (eimpl_lastVersion  n x0 k).symm

/-! ### loop.example/g00269/impl.in -/
theorem cimpl_in (n : Nat) : AllOk Tryd.prog [] := trivial
@[reducible] def Simpl_in : PkS := ⟨[.one (.int .i64), .one (.int .i64), .one (.int .i64)], []⟩
@[reducible] def Timpl_in : PkS := ⟨[.one (.bool), .one (.dead), .one (.dead), .one (.dead)], []⟩
def Himpl_in : List Sh := [.one .any, .skip, .skip, .skip]
def Kimpl_in (g : ∀ {R : Type}, Nat → Int → Int → Int → (Bool → Option R) → Option R) (n : Nat) : KPs := fun R p k => match (PkS.un Simpl_in p : Option (Int × Int × Int × Unit)) with
  | some (x0, x1, x2, _) => g n x0 x1 x2 (fun r0 => k (PkS.pack Timpl_in (r0, ())))
  | none => none
theorem eimpl_in  {R : Type} (n : Nat) (x0 : Int) (x1 : Int) (x2 : Int) (k : Pk → Option R) : evF tt sig (mkK [] R) (mkL (mkK []) [] R) Tryd.f53 Himpl_in (PkS.pack Simpl_in (x0, x1, x2, ())) k = (fun (k : Bool → Option R) => (bif (decide (x0 ≥ x1)) then k (decide (x0 ≤ x2)) else k false)) (fun r0 => k (PkS.pack Timpl_in (r0, ()))) := by kernel_rfl
theorem okimpl_in (n : Nat) : FnOk Tryd.prog 53 (Kimpl_in @impl_in n) := by
  refine fn_ok (sig := sig) mixed ttok (mkK_nat (cimpl_in n)) (mkK_ok (cimpl_in n)) (mkL_nat (mkK_nat (cimpl_in n)) (l := []) trivial) (fn := Tryd.f53) (c := bodyOf Tryd.f53) (by kernel_rfl) (by kernel_rfl) (by kernel_rfl) (.eq (l := []) (by kernel_rfl) trivial) (shs := Himpl_in) (S := Simpl_in) (h1 := by kernel_rfl) fun R p k => ?_
  unfold Kimpl_in
  cases h : (PkS.un Simpl_in p) with
  | none => rfl
  | some d =>
    obtain ⟨x0, x1, x2, u⟩ := (d : Int × Int × Int × Unit)
    have hp := PkS.un_pack h
    subst hp
    exact (eimpl_in  n x0 x1 x2 k).symm

/-! ### loop.example/g00269/impl.isVersion -/
theorem cimpl_isVersion (n : Nat) : AllOk Tryd.prog [(53, Kimpl_in @impl_in n)] := ⟨okimpl_in n, trivial⟩
@[reducible] def Simpl_isVersion : PkS := ⟨[.one (.int .i64)], []⟩
@[reducible] def Timpl_isVersion : PkS := ⟨[.one (.bool), .one (.dead)], []⟩
def Himpl_isVersion : List Sh := [.one .any, .skip]
def Kimpl_isVersion (g : ∀ {R : Type}, Nat → Int → (Bool → Option R) → Option R) (n : Nat) : KPs := fun R p k => match (PkS.un Simpl_isVersion p : Option (Int × Unit)) with
  | some (x0, _) => g n x0 (fun r0 => k (PkS.pack Timpl_isVersion (r0, ())))
  | none => none
theorem eimpl_isVersion (impl_in : ∀ {R : Type}, Nat → Int → Int → Int → (Bool → Option R) → Option R) {R : Type} (n : Nat) (x0 : Int) (k : Pk → Option R) : evF tt sig (mkK [(53, Kimpl_in @impl_in n)] R) (mkL (mkK [(53, Kimpl_in @impl_in n)]) [] R) Tryd.f56 Himpl_isVersion (PkS.pack Simpl_isVersion (x0, ())) k = (fun (k : Bool → Option R) => (impl_in n x0 0 1000000 fun r1 => k r1)) (fun r0 => k (PkS.pack Timpl_isVersion (r0, ()))) := by kernel_rfl
theorem okimpl_isVersion (n : Nat) : FnOk Tryd.prog 56 (Kimpl_isVersion @impl_isVersion n) := by
  refine fn_ok (sig := sig) mixed ttok (mkK_nat (cimpl_isVersion n)) (mkK_ok (cimpl_isVersion n)) (mkL_nat (mkK_nat (cimpl_isVersion n)) (l := []) trivial) (fn := Tryd.f56) (c := bodyOf Tryd.f56) (by kernel_rfl) (by kernel_rfl) (by kernel_rfl) (.eq (l := []) (by kernel_rfl) trivial) (shs := Himpl_isVersion) (S := Simpl_isVersion) (h1 := by kernel_rfl) fun R p k => ?_
  unfold Kimpl_isVersion
  cases h : (PkS.un Simpl_isVersion p) with
  | none => rfl
  | some d =>
    obtain ⟨x0, u⟩ := (d : Int × Unit)
    have hp := PkS.un_pack h
    subst hp
    exact (eimpl_isVersion @impl_in n x0 k).symm

/-! ### slices.Clone[[]loop.example/g00269/impl.Item,loop.example/g00269/impl.Item] -/
theorem cslices_Clone_impl_Item (n : Nat) : AllOk Tryd.prog [] := trivial
@[reducible] def Sslices_Clone_impl_Item : PkS := ⟨[.one (.ro (.pr (.int .i64) (.int .i64)))], []⟩
@[reducible] def Tslices_Clone_impl_Item : PkS := ⟨[.one (.whole (300000, 0)), .one (.dead)], [((300000, 0), .arr (.pr (.int .i64) (.int .i64)))]⟩
def Kslices_Clone_impl_Item (g : ∀ {R : Type}, Nat → (List (Int × Int)) → ((List (Int × Int)) → Option R) → Option R) (n : Nat) : KPs := fun R p k => match (PkS.un Sslices_Clone_impl_Item p : Option ((List (Int × Int)) × Unit)) with
  | some (x0, _) => g n x0 (fun r0 => k (PkS.pack Tslices_Clone_impl_Item (r0, ())))
  | none => none
theorem okslices_Clone_impl_Item (n : Nat) : FnOk Tryd.prog 80 (Kslices_Clone_impl_Item @slices_Clone_impl_Item n) := by
  have e : Kslices_Clone_impl_Item @slices_Clone_impl_Item n = cloneK (.pr (.int .i64) (.int .i64)) := by kernel_rfl
  rw [e]
  exact clone_ok (sig := sig) mixed ttok (fn := Tryd.f80) (c := bodyOf Tryd.f80) (by kernel_rfl) (by kernel_rfl) (by kernel_rfl) (.pr (.int .i64) (.int .i64)) [.one (.own (.pr (.int .i64) (.int .i64))), .skip] (.eq (l := []) (by kernel_rfl) trivial) (fun xs => by kernel_rfl) (by kernel_rfl) (by kernel_rfl)

/-! ### loop.example/g00269/impl.GoodItems -/
theorem cimpl_GoodItems (n : Nat) : AllOk Tryd.prog [(53, Kimpl_in @impl_in n), (56, Kimpl_isVersion @impl_isVersion n)] := ⟨okimpl_in n, ⟨okimpl_isVersion n, trivial⟩⟩
@[reducible] def Simpl_GoodItems_l4 : PkS := ⟨[.one (.ro (.pr (.int .i64) (.int .i64))), .one (.ro (.pr (.int .i64) (.int .i64))), .one (.int .i64), .one (.int .i64), .one (.dead)], []⟩
@[reducible] def Timpl_GoodItems_l4_0 : PkS := ⟨[.one (.bool), .one (.dead)], []⟩
@[reducible] def Timpl_GoodItems_l4_1 : PkS := ⟨[.one (.dead)], []⟩
def Dimpl_GoodItems_l4 : LoopD := ⟨52, [0, 8, 9, 10], [.one (.ro (.pr (.int .i64) (.int .i64))), .one (.ro (.pr (.int .i64) (.int .i64))), .one .any, .one .any, .skip], fun x => match x with
  | .ret => some ([2], [.one .any, .skip])
  | .exit 0 => some ([], [.skip])
  | _ => none⟩
def Pimpl_GoodItems_l4 (g : ∀ {R : Type}, Nat → (List (Int × Int)) → (List (Int × Int)) → Int → Int → (Bool → Option R) → (Option R) → Option R) (n : Nat) : LPs := fun R q kk => match (PkS.un Simpl_GoodItems_l4 q : Option ((List (Int × Int)) × (List (Int × Int)) × Int × Int × Unit)) with
  | some (y4_0, y4_1, y4_2, y4_3, _) => g n y4_0 y4_1 y4_2 y4_3 (fun r0 => kk .ret (PkS.pack Timpl_GoodItems_l4_0 (r0, ()))) (kk (.exit 0) (PkS.pack Timpl_GoodItems_l4_1 ()))
  | none => none
theorem eimpl_GoodItems_l4 (impl_in : ∀ {R : Type}, Nat → Int → Int → Int → (Bool → Option R) → Option R) (impl_isVersion : ∀ {R : Type}, Nat → Int → (Bool → Option R) → Option R) (impl_GoodItems_l4 : ∀ {R : Type}, Nat → (List (Int × Int)) → (List (Int × Int)) → Int → Int → (Bool → Option R) → (Option R) → Option R) {R : Type} (n : Nat) (y4_0 : List (Int × Int)) (y4_1 : List (Int × Int)) (y4_2 : Int) (y4_3 : Int) (kk : Ex → Pk → Option R) : Dimpl_GoodItems_l4.step tt sig (mkK [(53, Kimpl_in @impl_in n), (56, Kimpl_isVersion @impl_isVersion n)] R) (mkL (mkK [(53, Kimpl_in @impl_in n), (56, Kimpl_isVersion @impl_isVersion n)]) [] R) (loopIn 4 (bodyOf Tryd.f22)) (fun q' => Pimpl_GoodItems_l4 @impl_GoodItems_l4 n R q' kk) (PkS.pack Simpl_GoodItems_l4 (y4_0, y4_1, y4_2, y4_3, ())) kk = (fun (kret : Bool → Option R) (kexit0 : Option R) => (bif (decide (y4_3 < y4_2)) then (bif decide (0 ≤ y4_3) then (bif decide (y4_3 < (y4_1.length : Int)) then (impl_in n ((y4_1.getD (Int.toNat y4_3) (0, 0)).1) 1 1000 fun r1 => (bif (!r1) then kret false else (impl_isVersion n ((y4_1.getD (Int.toNat y4_3) (0, 0)).2) fun r2 => (bif (!r2) then kret false else (bif (decide (y4_3 > 0)) then (bif decide (0 ≤ (IntKind.wrap .i64 (y4_3 - 1))) then (bif decide ((IntKind.wrap .i64 (y4_3 - 1)) < (y4_0.length : Int)) then (bif (decide ((y4_1.getD (Int.toNat y4_3) (0, 0)).1 ≤ (y4_0.getD (Int.toNat (IntKind.wrap .i64 (y4_3 - 1))) (0, 0)).1)) then kret false else (bif decide (0 ≤ (IntKind.wrap .i64 (y4_3 - 1))) then (bif decide ((IntKind.wrap .i64 (y4_3 - 1)) < (y4_0.length : Int)) then (bif (decide ((y4_1.getD (Int.toNat y4_3) (0, 0)).2 ≤ (y4_0.getD (Int.toNat (IntKind.wrap .i64 (y4_3 - 1))) (0, 0)).2)) then kret false else impl_GoodItems_l4 n y4_0 y4_1 y4_2 (IntKind.wrap .i64 (y4_3 + 1)) kret kexit0) else none) else none)) else none) else none) else impl_GoodItems_l4 n y4_0 y4_1 y4_2 (IntKind.wrap .i64 (y4_3 + 1)) kret kexit0))))) else none) else none) else kexit0)) (fun r0 => kk .ret (PkS.pack Timpl_GoodItems_l4_0 (r0, ()))) (kk (.exit 0) (PkS.pack Timpl_GoodItems_l4_1 ())) := by kernel_rfl
theorem leimpl_GoodItems_l4 : LoopEq tt sig (fun n => mkK [(53, Kimpl_in @impl_in n), (56, Kimpl_isVersion @impl_isVersion n)]) (fun n => mkL (mkK [(53, Kimpl_in @impl_in n), (56, Kimpl_isVersion @impl_isVersion n)]) []) Dimpl_GoodItems_l4 Simpl_GoodItems_l4 (loopIn 4 (bodyOf Tryd.f22)) (Pimpl_GoodItems_l4 @impl_GoodItems_l4) where
  zero R q kk := by unfold Pimpl_GoodItems_l4; cases (PkS.un Simpl_GoodItems_l4 q) <;> rfl
  succ n R q kk := by
    unfold Pimpl_GoodItems_l4
    cases h : (PkS.un Simpl_GoodItems_l4 q) with
    | none => rfl
    | some d =>
      obtain ⟨y4_0, y4_1, y4_2, y4_3, u⟩ := (d : (List (Int × Int)) × (List (Int × Int)) × Int × Int × Unit)
      have hp := PkS.un_pack h
      subst hp
      exact (eimpl_GoodItems_l4 @impl_in @impl_isVersion @impl_GoodItems_l4 n y4_0 y4_1 y4_2 y4_3 kk).symm
theorem nlimpl_GoodItems_l4 : ∀ n, NatLP (Pimpl_GoodItems_l4 @impl_GoodItems_l4 n) := leimpl_GoodItems_l4.nat (fun n => mkK_nat (cimpl_GoodItems n)) fun n => mkL_nat (mkK_nat (cimpl_GoodItems n)) (l := []) trivial
theorem inimpl_GoodItems_l4 (n : Nat) (R : Type) : LoopsOk Tryd.prog (mkL (mkK [(53, Kimpl_in @impl_in n), (56, Kimpl_isVersion @impl_isVersion n)]) [] R) (loopIn 4 (bodyOf Tryd.f22)) := .eq (l := []) (by kernel_rfl) trivial
theorem lkimpl_GoodItems_l4 (n : Nat) (R : Type) (L0 : LK R) (h0 : ∀ id, firstRegion (loopIn 4 (bodyOf Tryd.f22)) = some id → L0 id = Dimpl_GoodItems_l4.oracle (mkK [(53, Kimpl_in @impl_in n), (56, Kimpl_isVersion @impl_isVersion n)] R) (Pimpl_GoodItems_l4 @impl_GoodItems_l4 n R)) : LoopOk Tryd.prog L0 (loopIn 4 (bodyOf Tryd.f22)) :=
  leimpl_GoodItems_l4.ok mixed ttok (fun n => mkK_nat (cimpl_GoodItems n)) (fun n => mkK_ok (cimpl_GoodItems n)) (fun n => inimpl_GoodItems_l4 n R) (mkK_nat (cimpl_GoodItems n)) h0
@[reducible] def Simpl_GoodItems : PkS := ⟨[.one (.ro (.pr (.int .i64) (.int .i64)))], []⟩
@[reducible] def Timpl_GoodItems : PkS := ⟨[.one (.bool), .one (.dead)], []⟩
def Himpl_GoodItems : List Sh := [.one .any, .skip]
def Kimpl_GoodItems (g : ∀ {R : Type}, Nat → (List (Int × Int)) → (Bool → Option R) → Option R) (n : Nat) : KPs := fun R p k => match (PkS.un Simpl_GoodItems p : Option ((List (Int × Int)) × Unit)) with
  | some (x0, _) => g n x0 (fun r0 => k (PkS.pack Timpl_GoodItems (r0, ())))
  | none => none
theorem eimpl_GoodItems (impl_in : ∀ {R : Type}, Nat → Int → Int → Int → (Bool → Option R) → Option R) (impl_isVersion : ∀ {R : Type}, Nat → Int → (Bool → Option R) → Option R) (impl_GoodItems_l4 : ∀ {R : Type}, Nat → (List (Int × Int)) → (List (Int × Int)) → Int → Int → (Bool → Option R) → (Option R) → Option R) {R : Type} (n : Nat) (x0 : List (Int × Int)) (k : Pk → Option R) : evF tt sig (mkK [(53, Kimpl_in @impl_in n), (56, Kimpl_isVersion @impl_isVersion n)] R) (mkL (mkK [(53, Kimpl_in @impl_in n), (56, Kimpl_isVersion @impl_isVersion n)]) [(4, Dimpl_GoodItems_l4, Pimpl_GoodItems_l4 @impl_GoodItems_l4 n)] R) Tryd.f22 Himpl_GoodItems (PkS.pack Simpl_GoodItems (x0, ())) k = (fun (k : Bool → Option R) => (bif (decide ((x0.length : Int) > 20)) then k false else (impl_GoodItems_l4 n x0 x0 (x0.length : Int) 0 (fun r3 => k r3) (k true)))) (fun r0 => k (PkS.pack Timpl_GoodItems (r0, ()))) := by kernel_rfl
theorem okimpl_GoodItems (n : Nat) : FnOk Tryd.prog 22 (Kimpl_GoodItems @impl_GoodItems n) := by
  refine fn_ok (sig := sig) mixed ttok (mkK_nat (cimpl_GoodItems n)) (mkK_ok (cimpl_GoodItems n)) (mkL_nat (mkK_nat (cimpl_GoodItems n)) (l := [(4, Dimpl_GoodItems_l4, Pimpl_GoodItems_l4 @impl_GoodItems_l4 n)]) ⟨nlimpl_GoodItems_l4 n, trivial⟩) (fn := Tryd.f22) (c := bodyOf Tryd.f22) (by kernel_rfl) (by kernel_rfl) (by kernel_rfl) (.eq (l := [.lo (loopIn 4 (bodyOf Tryd.f22))]) (by kernel_rfl) ⟨(lkimpl_GoodItems_l4 n _ _ (at_id (i := 4) (by kernel_rfl) rfl)), trivial⟩) (shs := Himpl_GoodItems) (S := Simpl_GoodItems) (h1 := by kernel_rfl) fun R p k => ?_
  unfold Kimpl_GoodItems
  cases h : (PkS.un Simpl_GoodItems p) with
  | none => rfl
  | some d =>
    obtain ⟨x0, u⟩ := (d : (List (Int × Int)) × Unit)
    have hp := PkS.un_pack h
    subst hp
    exact (eimpl_GoodItems @impl_in @impl_isVersion @impl_GoodItems_l4 n x0 k).symm

/-! ### loop.example/g00269/impl.appended -/
theorem cimpl_appended (n : Nat) : AllOk Tryd.prog [(54, Kimpl_last @impl_last n), (61, Kimpl_lastVersion @impl_lastVersion n), (56, Kimpl_isVersion @impl_isVersion n), (80, Kslices_Clone_impl_Item @slices_Clone_impl_Item n), (22, Kimpl_GoodItems @impl_GoodItems n)] := ⟨okimpl_last n, ⟨okimpl_lastVersion n, ⟨okimpl_isVersion n, ⟨okslices_Clone_impl_Item n, ⟨okimpl_GoodItems n, trivial⟩⟩⟩⟩⟩
@[reducible] def Simpl_appended : PkS := ⟨[.one (.ro (.pr (.int .i64) (.int .i64))), .one (.int .i64), .one (.int .i64)], []⟩
@[reducible] def Timpl_appended : PkS := ⟨[.tup [(false, [.whole (300000, 0)]), (false, [.bool])], .one (.dead), .one (.dead), .one (.dead)], [((300000, 0), .arr (.pr (.int .i64) (.int .i64)))]⟩
def Himpl_appended : List Sh := [.tup [(false, [(.own (.pr (.int .i64) (.int .i64)))]), (false, [.any])], .skip, .skip, .skip]
def Kimpl_appended (g : ∀ {R : Type}, Nat → (List (Int × Int)) → Int → Int → (Bool → (List (Int × Int)) → Option R) → Option R) (n : Nat) : KPs := fun R p k => match (PkS.un Simpl_appended p : Option ((List (Int × Int)) × Int × Int × Unit)) with
  | some (x0, x1, x2, _) => g n x0 x1 x2 (fun r0 r1 => k (PkS.pack Timpl_appended (r0, r1, ())))
  | none => none
theorem eimpl_appended (impl_last : ∀ {R : Type}, Nat → (List (Int × Int)) → (Int → Option R) → Option R) (impl_lastVersion : ∀ {R : Type}, Nat → (List (Int × Int)) → (Int → Option R) → Option R) (impl_isVersion : ∀ {R : Type}, Nat → Int → (Bool → Option R) → Option R) (slices_Clone_impl_Item : ∀ {R : Type}, Nat → (List (Int × Int)) → ((List (Int × Int)) → Option R) → Option R) (impl_GoodItems : ∀ {R : Type}, Nat → (List (Int × Int)) → (Bool → Option R) → Option R) {R : Type} (n : Nat) (x0 : List (Int × Int)) (x1 : Int) (x2 : Int) (k : Pk → Option R) : evF tt sig (mkK [(54, Kimpl_last @impl_last n), (61, Kimpl_lastVersion @impl_lastVersion n), (56, Kimpl_isVersion @impl_isVersion n), (80, Kslices_Clone_impl_Item @slices_Clone_impl_Item n), (22, Kimpl_GoodItems @impl_GoodItems n)] R) (mkL (mkK [(54, Kimpl_last @impl_last n), (61, Kimpl_lastVersion @impl_lastVersion n), (56, Kimpl_isVersion @impl_isVersion n), (80, Kslices_Clone_impl_Item @slices_Clone_impl_Item n), (22, Kimpl_GoodItems @impl_GoodItems n)]) [] R) Tryd.f46 Himpl_appended (PkS.pack Simpl_appended (x0, x1, x2, ())) k = (fun (k : Bool → (List (Int × Int)) → Option R) => (impl_last n x0 fun r1 => (bif (x1 != (IntKind.wrap .i64 (r1 + 1))) then k false ([] : List (Int × Int)) else (impl_lastVersion n x0 fun r2 => (bif (decide (x2 < r2)) then k false ([] : List (Int × Int)) else (impl_isVersion n x2 fun r3 => (bif (!r3) then k false ([] : List (Int × Int)) else (slices_Clone_impl_Item n x0 fun r4 => (bif (decide ((x0.length : Int) > 0)) then (impl_lastVersion n x0 fun r5 => (bif (x2 == r5) then (bif decide (0 ≤ (IntKind.wrap .i64 ((x0.length : Int) - 1))) then (bif decide ((IntKind.wrap .i64 ((x0.length : Int) - 1)) < (r4.length : Int)) then (impl_GoodItems n (r4.set (Int.toNat (IntKind.wrap .i64 ((x0.length : Int) - 1))) (x1, (r4.getD (Int.toNat (IntKind.wrap .i64 ((x0.length : Int) - 1))) (0, 0)).2)) fun r6 => k r6 (r4.set (Int.toNat (IntKind.wrap .i64 ((x0.length : Int) - 1))) (x1, (r4.getD (Int.toNat (IntKind.wrap .i64 ((x0.length : Int) - 1))) (0, 0)).2))) else none) else none) else (bif decide (r4.length + ([(x1, x2)]).length ≤ LIM) then (impl_GoodItems n (r4 ++ [(x1, x2)]) fun r7 => k r7 (r4 ++ [(x1, x2)])) else none))) else (bif decide (r4.length + ([(x1, x2)]).length ≤ LIM) then (impl_GoodItems n (r4 ++ [(x1, x2)]) fun r8 => k r8 (r4 ++ [(x1, x2)])) else none)))))))))) (fun r0 r1 => k (PkS.pack Timpl_appended (r0, r1, ()))) := by kernel_rfl
theorem okimpl_appended (n : Nat) : FnOk Tryd.prog 46 (Kimpl_appended @impl_appended n) := by
  refine fn_ok (sig := sig) mixed ttok (mkK_nat (cimpl_appended n)) (mkK_ok (cimpl_appended n)) (mkL_nat (mkK_nat (cimpl_appended n)) (l := []) trivial) (fn := Tryd.f46) (c := bodyOf Tryd.f46) (by kernel_rfl) (by kernel_rfl) (by kernel_rfl) (.eq (l := []) (by kernel_rfl) trivial) (shs := Himpl_appended) (S := Simpl_appended) (h1 := by kernel_rfl) fun R p k => ?_
  unfold Kimpl_appended
  cases h : (PkS.un Simpl_appended p) with
  | none => rfl
  | some d =>
    obtain ⟨x0, x1, x2, u⟩ := (d : (List (Int × Int)) × Int × Int × Unit)
    have hp := PkS.un_pack h
    subst hp
    exact (eimpl_appended @impl_last @impl_lastVersion @impl_isVersion @slices_Clone_impl_Item @impl_GoodItems n x0 x1 x2 k).symm

/-! ### loop.example/g00269/impl.goodKind -/
theorem cimpl_goodKind (n : Nat) : AllOk Tryd.prog [(53, Kimpl_in @impl_in n)] := ⟨okimpl_in n, trivial⟩
@[reducible] def Simpl_goodKind : PkS := ⟨[.one (.int .i64)], []⟩
@[reducible] def Timpl_goodKind : PkS := ⟨[.one (.bool), .one (.dead)], []⟩
def Himpl_goodKind : List Sh := [.one .any, .skip]
def Kimpl_goodKind (g : ∀ {R : Type}, Nat → Int → (Bool → Option R) → Option R) (n : Nat) : KPs := fun R p k => match (PkS.un Simpl_goodKind p : Option (Int × Unit)) with
  | some (x0, _) => g n x0 (fun r0 => k (PkS.pack Timpl_goodKind (r0, ())))
  | none => none
theorem eimpl_goodKind (impl_in : ∀ {R : Type}, Nat → Int → Int → Int → (Bool → Option R) → Option R) {R : Type} (n : Nat) (x0 : Int) (k : Pk → Option R) : evF tt sig (mkK [(53, Kimpl_in @impl_in n)] R) (mkL (mkK [(53, Kimpl_in @impl_in n)]) [] R) Tryd.f72 Himpl_goodKind (PkS.pack Simpl_goodKind (x0, ())) k = (fun (k : Bool → Option R) => (impl_in n x0 1 6 fun r1 => k r1)) (fun r0 => k (PkS.pack Timpl_goodKind (r0, ()))) := by kernel_rfl
theorem okimpl_goodKind (n : Nat) : FnOk Tryd.prog 72 (Kimpl_goodKind @impl_goodKind n) := by
  refine fn_ok (sig := sig) mixed ttok (mkK_nat (cimpl_goodKind n)) (mkK_ok (cimpl_goodKind n)) (mkL_nat (mkK_nat (cimpl_goodKind n)) (l := []) trivial) (fn := Tryd.f72) (c := bodyOf Tryd.f72) (by kernel_rfl) (by kernel_rfl) (by kernel_rfl) (.eq (l := []) (by kernel_rfl) trivial) (shs := Himpl_goodKind) (S := Simpl_goodKind) (h1 := by kernel_rfl) fun R p k => ?_
  unfold Kimpl_goodKind
  cases h : (PkS.un Simpl_goodKind p) with
  | none => rfl
  | some d =>
    obtain ⟨x0, u⟩ := (d : Int × Unit)
    have hp := PkS.un_pack h
    subst hp
    exact (eimpl_goodKind @impl_in n x0 k).symm

/-! ### strings.Trim -/
theorem cstrings_Trim (n : Nat) : AllOk Tryd.prog [] := trivial
@[reducible] def Sstrings_Trim : PkS := ⟨[.one (.str), .one (.str)], []⟩
@[reducible] def Tstrings_Trim : PkS := ⟨[.one (.str), .one (.dead), .one (.dead)], []⟩
def Kstrings_Trim (g : ∀ {R : Type}, Nat → ByteArray → ByteArray → (ByteArray → Option R) → Option R) (n : Nat) : KPs := fun R p k => match (PkS.un Sstrings_Trim p : Option (ByteArray × ByteArray × Unit)) with
  | some (x0, x1, _) => g n x0 x1 (fun r0 => k (PkS.pack Tstrings_Trim (r0, ())))
  | none => none
def ren160 : Go.Shelf.Ren := ⟨fun n => match n with
  | 160 => 92
  | 232 => 101
  | 231 => 100
  | 227 => 102
  | 234 => 104
  | 233 => 103
  | 236 => 106
  | 235 => 105
  | 228 => 110
  | 271 => 113
  | 151 => 112
  | 197 => 111
  | 120 => 119
  | 152 => 118
  | 260 => 117
  | 137 => 121
  | 119 => 122
  | 224 => 123
  | 225 => 124
  | 217 => 126
  | 266 => 127
  | _ => 0, fun n => match n with
  | 0 => 0
  | 3 => 3
  | 4 => 4
  | 5 => 5
  | 9 => 9
  | 21 => 21
  | 46 => 112
  | 105 => 125
  | 116 => 116
  | 117 => 117
  | 119 => 130
  | 124 => 120
  | 138 => 132
  | 139 => 133
  | _ => 0, fun n => match n with
  | 3 => 0
  | 4 => 1
  | _ => 0⟩
theorem lays160 : Go.Proofs.Lays.n160 Tryd.prog ren160 where
  mixed := by kernel_rfl
  f119 := by kernel_rfl
  f120 := by kernel_rfl
  f137 := by kernel_rfl
  f151 := by kernel_rfl
  f152 := by kernel_rfl
  f160 := by kernel_rfl
  f197 := by kernel_rfl
  f217 := by kernel_rfl
  f224 := by kernel_rfl
  f225 := by kernel_rfl
  f227 := by kernel_rfl
  f228 := by kernel_rfl
  f231 := by kernel_rfl
  f232 := by kernel_rfl
  f233 := by kernel_rfl
  f234 := by kernel_rfl
  f235 := by kernel_rfl
  f236 := by kernel_rfl
  f260 := by kernel_rfl
  f266 := by kernel_rfl
  f271 := by kernel_rfl
  t0 := by kernel_rfl
  a0 w := by kernel_rfl
  z0 w := by kernel_rfl
  v0 w := by kernel_rfl
  t3 := by kernel_rfl
  a3 w := by kernel_rfl
  z3 w := by kernel_rfl
  v3 w := by kernel_rfl
  t4 := by kernel_rfl
  a4 w := by kernel_rfl
  z4 w := by kernel_rfl
  v4 w := by kernel_rfl
  t5 := by kernel_rfl
  a5 w := by kernel_rfl
  z5 w := by kernel_rfl
  v5 w := by kernel_rfl
  t9 := by kernel_rfl
  a9 w := by kernel_rfl
  z9 w := by kernel_rfl
  v9 w := by kernel_rfl
  t21 := by kernel_rfl
  a21 w := by kernel_rfl
  z21 w := by kernel_rfl
  v21 w := by kernel_rfl
  t46 := by kernel_rfl
  a46 w := by kernel_rfl
  z46 w := by kernel_rfl
  v46 w := by kernel_rfl
  t105 := by kernel_rfl
  a105 w := by kernel_rfl
  z105 w := by kernel_rfl
  v105 w := by kernel_rfl
  t116 := by kernel_rfl
  a116 w := by kernel_rfl
  z116 w := by kernel_rfl
  t117 := by kernel_rfl
  a117 w := by kernel_rfl
  z117 w := by kernel_rfl
  v117 w := by kernel_rfl
  t119 := by kernel_rfl
  a119 w := by kernel_rfl
  z119 w := by kernel_rfl
  t124 := by kernel_rfl
  a124 w := by kernel_rfl
  z124 w := by kernel_rfl
  v124 w := by kernel_rfl
  t138 := by kernel_rfl
  a138 w := by kernel_rfl
  z138 w := by kernel_rfl
  v138 w := by kernel_rfl
  t139 := by kernel_rfl
  a139 w := by kernel_rfl
  z139 w := by kernel_rfl
  v139 w := by kernel_rfl
  g3 := by kernel_rfl
  g4 := by kernel_rfl
theorem okstrings_Trim (n : Nat) : FnOk Tryd.prog 92 (Kstrings_Trim @strings_Trim n) := by
  have e : Kstrings_Trim @strings_Trim n = trimK := by kernel_rfl
  rw [e]
  exact trim_ok lays160 (by kernel_rfl) rfl (fn := Tryd.f92) (c := bodyOf Tryd.f92) (by kernel_rfl) (by kernel_rfl) (by kernel_rfl)

/-! ### loop.example/g00269/impl.goodName -/
theorem cimpl_goodName (n : Nat) : AllOk Tryd.prog [(92, Kstrings_Trim @strings_Trim n)] := ⟨okstrings_Trim n, trivial⟩
@[reducible] def Simpl_goodName : PkS := ⟨[.one (.str)], []⟩
@[reducible] def Timpl_goodName : PkS := ⟨[.one (.bool), .one (.dead)], []⟩
def Himpl_goodName : List Sh := [.one .any, .skip]
def Kimpl_goodName (g : ∀ {R : Type}, Nat → ByteArray → (Bool → Option R) → Option R) (n : Nat) : KPs := fun R p k => match (PkS.un Simpl_goodName p : Option (ByteArray × Unit)) with
  | some (x0, _) => g n x0 (fun r0 => k (PkS.pack Timpl_goodName (r0, ())))
  | none => none
theorem eimpl_goodName (strings_Trim : ∀ {R : Type}, Nat → ByteArray → ByteArray → (ByteArray → Option R) → Option R) {R : Type} (n : Nat) (x0 : ByteArray) (k : Pk → Option R) : evF tt sig (mkK [(92, Kstrings_Trim @strings_Trim n)] R) (mkL (mkK [(92, Kstrings_Trim @strings_Trim n)]) [] R) Tryd.f73 Himpl_goodName (PkS.pack Simpl_goodName (x0, ())) k = (fun (k : Bool → Option R) => (bif (decide ((x0.size : Int) ≤ 12)) then (strings_Trim n x0 (ByteArray.mk #[97, 98, 99, 100, 101, 102, 103, 104, 105, 106, 107, 108, 109, 110, 111, 112, 113, 114, 115, 116, 117, 118, 119, 120, 121, 122, 48, 49, 50, 51, 52, 53, 54, 55, 56, 57]) fun r1 => k ((ByteArray.toList r1) == (ByteArray.toList (ByteArray.mk #[])))) else k false)) (fun r0 => k (PkS.pack Timpl_goodName (r0, ()))) := by kernel_rfl
theorem okimpl_goodName (n : Nat) : FnOk Tryd.prog 73 (Kimpl_goodName @impl_goodName n) := by
  refine fn_ok (sig := sig) mixed ttok (mkK_nat (cimpl_goodName n)) (mkK_ok (cimpl_goodName n)) (mkL_nat (mkK_nat (cimpl_goodName n)) (l := []) trivial) (fn := Tryd.f73) (c := bodyOf Tryd.f73) (by kernel_rfl) (by kernel_rfl) (by kernel_rfl) (.eq (l := []) (by kernel_rfl) trivial) (shs := Himpl_goodName) (S := Simpl_goodName) (h1 := by kernel_rfl) fun R p k => ?_
  unfold Kimpl_goodName
  cases h : (PkS.un Simpl_goodName p) with
  | none => rfl
  | some d =>
    obtain ⟨x0, u⟩ := (d : ByteArray × Unit)
    have hp := PkS.un_pack h
    subst hp
    exact (eimpl_goodName @strings_Trim n x0 k).symm

/-! ### loop.example/g00269/impl.GoodEvent -/
theorem cimpl_GoodEvent (n : Nat) : AllOk Tryd.prog [(53, Kimpl_in @impl_in n), (56, Kimpl_isVersion @impl_isVersion n), (72, Kimpl_goodKind @impl_goodKind n), (73, Kimpl_goodName @impl_goodName n)] := ⟨okimpl_in n, ⟨okimpl_isVersion n, ⟨okimpl_goodKind n, ⟨okimpl_goodName n, trivial⟩⟩⟩⟩
@[reducible] def Simpl_GoodEvent : PkS := ⟨[.agg [.int .i64, .int .i64, .int .i64, .str]], []⟩
@[reducible] def Timpl_GoodEvent : PkS := ⟨[.one (.bool), .one (.dead)], []⟩
def Himpl_GoodEvent : List Sh := [.one .any, .skip]
def Kimpl_GoodEvent (g : ∀ {R : Type}, Nat → Int → Int → Int → ByteArray → (Bool → Option R) → Option R) (n : Nat) : KPs := fun R p k => match (PkS.un Simpl_GoodEvent p : Option (Int × Int × Int × ByteArray × Unit)) with
  | some (x0, x1, x2, x3, _) => g n x0 x1 x2 x3 (fun r0 => k (PkS.pack Timpl_GoodEvent (r0, ())))
  | none => none
theorem eimpl_GoodEvent (impl_in : ∀ {R : Type}, Nat → Int → Int → Int → (Bool → Option R) → Option R) (impl_isVersion : ∀ {R : Type}, Nat → Int → (Bool → Option R) → Option R) (impl_goodKind : ∀ {R : Type}, Nat → Int → (Bool → Option R) → Option R) (impl_goodName : ∀ {R : Type}, Nat → ByteArray → (Bool → Option R) → Option R) {R : Type} (n : Nat) (x0 : Int) (x1 : Int) (x2 : Int) (x3 : ByteArray) (k : Pk → Option R) : evF tt sig (mkK [(53, Kimpl_in @impl_in n), (56, Kimpl_isVersion @impl_isVersion n), (72, Kimpl_goodKind @impl_goodKind n), (73, Kimpl_goodName @impl_goodName n)] R) (mkL (mkK [(53, Kimpl_in @impl_in n), (56, Kimpl_isVersion @impl_isVersion n), (72, Kimpl_goodKind @impl_goodKind n), (73, Kimpl_goodName @impl_goodName n)]) [] R) Tryd.f47 Himpl_GoodEvent (PkS.pack Simpl_GoodEvent (x0, x1, x2, x3, ())) k = (fun (k : Bool → Option R) => (impl_in n x0 1 1000 fun r1 => (bif r1 then (impl_isVersion n x1 fun r2 => (bif r2 then (impl_goodKind n x2 fun r3 => (bif r3 then (impl_goodName n x3 fun r4 => k r4) else k false)) else k false)) else k false))) (fun r0 => k (PkS.pack Timpl_GoodEvent (r0, ()))) := by kernel_rfl
theorem okimpl_GoodEvent (n : Nat) : FnOk Tryd.prog 47 (Kimpl_GoodEvent @impl_GoodEvent n) := by
  refine fn_ok (sig := sig) mixed ttok (mkK_nat (cimpl_GoodEvent n)) (mkK_ok (cimpl_GoodEvent n)) (mkL_nat (mkK_nat (cimpl_GoodEvent n)) (l := []) trivial) (fn := Tryd.f47) (c := bodyOf Tryd.f47) (by kernel_rfl) (by kernel_rfl) (by kernel_rfl) (.eq (l := []) (by kernel_rfl) trivial) (shs := Himpl_GoodEvent) (S := Simpl_GoodEvent) (h1 := by kernel_rfl) fun R p k => ?_
  unfold Kimpl_GoodEvent
  cases h : (PkS.un Simpl_GoodEvent p) with
  | none => rfl
  | some d =>
    obtain ⟨x0, x1, x2, x3, u⟩ := (d : Int × Int × Int × ByteArray × Unit)
    have hp := PkS.un_pack h
    subst hp
    exact (eimpl_GoodEvent @impl_in @impl_isVersion @impl_goodKind @impl_goodName n x0 x1 x2 x3 k).symm

/-! ### loop.example/g00269/impl.ItemsOf -/
theorem cimpl_ItemsOf (n : Nat) : AllOk Tryd.prog [(46, Kimpl_appended @impl_appended n), (47, Kimpl_GoodEvent @impl_GoodEvent n)] := ⟨okimpl_appended n, ⟨okimpl_GoodEvent n, trivial⟩⟩
@[reducible] def Simpl_ItemsOf_l5 : PkS := ⟨[.one (.whole (100000, 0)), .one (.ro (.pr (.int .i64) (.pr (.int .i64) (.pr (.int .i64) .str)))), .one (.int .i64), .one (.int .i64), .one (.dead)], [((100000, 0), .arr (.pr (.int .i64) (.int .i64)))]⟩
@[reducible] def Timpl_ItemsOf_l5_0 : PkS := ⟨[.one (.ro (.pr (.int .i64) (.int .i64))), .one (.bool), .one (.dead)], []⟩
@[reducible] def Timpl_ItemsOf_l5_1 : PkS := ⟨[.one (.whole (100000, 0)), .one (.dead)], [((100000, 0), .arr (.pr (.int .i64) (.int .i64)))]⟩
def Dimpl_ItemsOf_l5 : LoopD := ⟨38, [4, 13, 14, 15], [.one (.own (.pr (.int .i64) (.int .i64))), .one (.ro (.pr (.int .i64) (.pr (.int .i64) (.pr (.int .i64) .str)))), .one .any, .one .any, .skip], fun x => match x with
  | .ret => some ([2, 3], [.one (.ro (.pr (.int .i64) (.int .i64))), .one .any, .skip])
  | .exit 0 => some ([4], [.one (.own (.pr (.int .i64) (.int .i64))), .skip])
  | _ => none⟩
def Pimpl_ItemsOf_l5 (g : ∀ {R : Type}, Nat → (List (Int × Int × Int × ByteArray)) → Int → Int → (List (Int × Int)) → ((List (Int × Int)) → Bool → Option R) → ((List (Int × Int)) → Option R) → Option R) (n : Nat) : LPs := fun R q kk => match (PkS.un Simpl_ItemsOf_l5 q : Option ((List (Int × Int × Int × ByteArray)) × Int × Int × (List (Int × Int)) × Unit)) with
  | some (y5_0, y5_1, y5_2, y5_3, _) => g n y5_0 y5_1 y5_2 y5_3 (fun r0 r1 => kk .ret (PkS.pack Timpl_ItemsOf_l5_0 (r0, r1, ()))) (fun r0 => kk (.exit 0) (PkS.pack Timpl_ItemsOf_l5_1 (r0, ())))
  | none => none
theorem eimpl_ItemsOf_l5 (impl_appended : ∀ {R : Type}, Nat → (List (Int × Int)) → Int → Int → (Bool → (List (Int × Int)) → Option R) → Option R) (impl_GoodEvent : ∀ {R : Type}, Nat → Int → Int → Int → ByteArray → (Bool → Option R) → Option R) (impl_ItemsOf_l5 : ∀ {R : Type}, Nat → (List (Int × Int × Int × ByteArray)) → Int → Int → (List (Int × Int)) → ((List (Int × Int)) → Bool → Option R) → ((List (Int × Int)) → Option R) → Option R) {R : Type} (n : Nat) (y5_0 : List (Int × Int × Int × ByteArray)) (y5_1 : Int) (y5_2 : Int) (y5_3 : List (Int × Int)) (kk : Ex → Pk → Option R) : Dimpl_ItemsOf_l5.step tt sig (mkK [(46, Kimpl_appended @impl_appended n), (47, Kimpl_GoodEvent @impl_GoodEvent n)] R) (mkL (mkK [(46, Kimpl_appended @impl_appended n), (47, Kimpl_GoodEvent @impl_GoodEvent n)]) [] R) (loopIn 5 (bodyOf Tryd.f12)) (fun q' => Pimpl_ItemsOf_l5 @impl_ItemsOf_l5 n R q' kk) (PkS.pack Simpl_ItemsOf_l5 (y5_0, y5_1, y5_2, y5_3, ())) kk = (fun (kret : (List (Int × Int)) → Bool → Option R) (kexit0 : (List (Int × Int)) → Option R) => (bif (decide (y5_2 < y5_1)) then (bif decide (0 ≤ y5_2) then (bif decide (y5_2 < (y5_0.length : Int)) then (impl_appended n y5_3 ((y5_0.getD (Int.toNat y5_2) (0, (0, (0, ByteArray.empty)))).1) ((y5_0.getD (Int.toNat y5_2) (0, (0, (0, ByteArray.empty)))).2.1) fun r1 r2 => (bif (!r1) then kret ([] : List (Int × Int)) false else (impl_GoodEvent n ((y5_0.getD (Int.toNat y5_2) (0, (0, (0, ByteArray.empty)))).1) ((y5_0.getD (Int.toNat y5_2) (0, (0, (0, ByteArray.empty)))).2.1) ((y5_0.getD (Int.toNat y5_2) (0, (0, (0, ByteArray.empty)))).2.2.1) ((y5_0.getD (Int.toNat y5_2) (0, (0, (0, ByteArray.empty)))).2.2.2) fun r3 => (bif (!r3) then kret ([] : List (Int × Int)) false else impl_ItemsOf_l5 n y5_0 y5_1 (IntKind.wrap .i64 (y5_2 + 1)) r2 kret kexit0)))) else none) else none) else kexit0 y5_3)) (fun r0 r1 => kk .ret (PkS.pack Timpl_ItemsOf_l5_0 (r0, r1, ()))) (fun r0 => kk (.exit 0) (PkS.pack Timpl_ItemsOf_l5_1 (r0, ()))) := by kernel_rfl
theorem leimpl_ItemsOf_l5 : LoopEq tt sig (fun n => mkK [(46, Kimpl_appended @impl_appended n), (47, Kimpl_GoodEvent @impl_GoodEvent n)]) (fun n => mkL (mkK [(46, Kimpl_appended @impl_appended n), (47, Kimpl_GoodEvent @impl_GoodEvent n)]) []) Dimpl_ItemsOf_l5 Simpl_ItemsOf_l5 (loopIn 5 (bodyOf Tryd.f12)) (Pimpl_ItemsOf_l5 @impl_ItemsOf_l5) where
  zero R q kk := by unfold Pimpl_ItemsOf_l5; cases (PkS.un Simpl_ItemsOf_l5 q) <;> rfl
  succ n R q kk := by
    unfold Pimpl_ItemsOf_l5
    cases h : (PkS.un Simpl_ItemsOf_l5 q) with
    | none => rfl
    | some d =>
      obtain ⟨y5_0, y5_1, y5_2, y5_3, u⟩ := (d : (List (Int × Int × Int × ByteArray)) × Int × Int × (List (Int × Int)) × Unit)
      have hp := PkS.un_pack h
      subst hp
      exact (eimpl_ItemsOf_l5 @impl_appended @impl_GoodEvent @impl_ItemsOf_l5 n y5_0 y5_1 y5_2 y5_3 kk).symm
theorem nlimpl_ItemsOf_l5 : ∀ n, NatLP (Pimpl_ItemsOf_l5 @impl_ItemsOf_l5 n) := leimpl_ItemsOf_l5.nat (fun n => mkK_nat (cimpl_ItemsOf n)) fun n => mkL_nat (mkK_nat (cimpl_ItemsOf n)) (l := []) trivial
theorem inimpl_ItemsOf_l5 (n : Nat) (R : Type) : LoopsOk Tryd.prog (mkL (mkK [(46, Kimpl_appended @impl_appended n), (47, Kimpl_GoodEvent @impl_GoodEvent n)]) [] R) (loopIn 5 (bodyOf Tryd.f12)) := .eq (l := []) (by kernel_rfl) trivial
theorem lkimpl_ItemsOf_l5 (n : Nat) (R : Type) (L0 : LK R) (h0 : ∀ id, firstRegion (loopIn 5 (bodyOf Tryd.f12)) = some id → L0 id = Dimpl_ItemsOf_l5.oracle (mkK [(46, Kimpl_appended @impl_appended n), (47, Kimpl_GoodEvent @impl_GoodEvent n)] R) (Pimpl_ItemsOf_l5 @impl_ItemsOf_l5 n R)) : LoopOk Tryd.prog L0 (loopIn 5 (bodyOf Tryd.f12)) :=
  leimpl_ItemsOf_l5.ok mixed ttok (fun n => mkK_nat (cimpl_ItemsOf n)) (fun n => mkK_ok (cimpl_ItemsOf n)) (fun n => inimpl_ItemsOf_l5 n R) (mkK_nat (cimpl_ItemsOf n)) h0
@[reducible] def Simpl_ItemsOf : PkS := ⟨[.one (.ro (.pr (.int .i64) (.pr (.int .i64) (.pr (.int .i64) .str))))], []⟩
@[reducible] def Timpl_ItemsOf : PkS := ⟨[.tup [(false, [.ro (.pr (.int .i64) (.int .i64))]), (false, [.bool])], .one (.dead)], []⟩
def Himpl_ItemsOf : List Sh := [.tup [(false, [(.ro (.pr (.int .i64) (.int .i64)))]), (false, [.any])], .skip]
def Kimpl_ItemsOf (g : ∀ {R : Type}, Nat → (List (Int × Int × Int × ByteArray)) → ((List (Int × Int)) → Bool → Option R) → Option R) (n : Nat) : KPs := fun R p k => match (PkS.un Simpl_ItemsOf p : Option ((List (Int × Int × Int × ByteArray)) × Unit)) with
  | some (x0, _) => g n x0 (fun r0 r1 => k (PkS.pack Timpl_ItemsOf (r0, r1, ())))
  | none => none
theorem eimpl_ItemsOf (impl_appended : ∀ {R : Type}, Nat → (List (Int × Int)) → Int → Int → (Bool → (List (Int × Int)) → Option R) → Option R) (impl_GoodEvent : ∀ {R : Type}, Nat → Int → Int → Int → ByteArray → (Bool → Option R) → Option R) (impl_ItemsOf_l5 : ∀ {R : Type}, Nat → (List (Int × Int × Int × ByteArray)) → Int → Int → (List (Int × Int)) → ((List (Int × Int)) → Bool → Option R) → ((List (Int × Int)) → Option R) → Option R) {R : Type} (n : Nat) (x0 : List (Int × Int × Int × ByteArray)) (k : Pk → Option R) : evF tt sig (mkK [(46, Kimpl_appended @impl_appended n), (47, Kimpl_GoodEvent @impl_GoodEvent n)] R) (mkL (mkK [(46, Kimpl_appended @impl_appended n), (47, Kimpl_GoodEvent @impl_GoodEvent n)]) [(5, Dimpl_ItemsOf_l5, Pimpl_ItemsOf_l5 @impl_ItemsOf_l5 n)] R) Tryd.f12 Himpl_ItemsOf (PkS.pack Simpl_ItemsOf (x0, ())) k = (fun (k : (List (Int × Int)) → Bool → Option R) => (bif (decide ((x0.length : Int) > 60)) then k ([] : List (Int × Int)) false else (impl_ItemsOf_l5 n x0 (x0.length : Int) 0 ([] : List (Int × Int)) (fun r4 r5 => k r4 r5) (fun r6 => k r6 true)))) (fun r0 r1 => k (PkS.pack Timpl_ItemsOf (r0, r1, ()))) := by kernel_rfl
theorem okimpl_ItemsOf (n : Nat) : FnOk Tryd.prog 12 (Kimpl_ItemsOf @impl_ItemsOf n) := by
  refine fn_ok (sig := sig) mixed ttok (mkK_nat (cimpl_ItemsOf n)) (mkK_ok (cimpl_ItemsOf n)) (mkL_nat (mkK_nat (cimpl_ItemsOf n)) (l := [(5, Dimpl_ItemsOf_l5, Pimpl_ItemsOf_l5 @impl_ItemsOf_l5 n)]) ⟨nlimpl_ItemsOf_l5 n, trivial⟩) (fn := Tryd.f12) (c := bodyOf Tryd.f12) (by kernel_rfl) (by kernel_rfl) (by kernel_rfl) (.eq (l := [.lo (loopIn 5 (bodyOf Tryd.f12))]) (by kernel_rfl) ⟨(lkimpl_ItemsOf_l5 n _ _ (at_id (i := 5) (by kernel_rfl) rfl)), trivial⟩) (shs := Himpl_ItemsOf) (S := Simpl_ItemsOf) (h1 := by kernel_rfl) fun R p k => ?_
  unfold Kimpl_ItemsOf
  cases h : (PkS.un Simpl_ItemsOf p) with
  | none => rfl
  | some d =>
    obtain ⟨x0, u⟩ := (d : (List (Int × Int × Int × ByteArray)) × Unit)
    have hp := PkS.un_pack h
    subst hp
    exact (eimpl_ItemsOf @impl_appended @impl_GoodEvent @impl_ItemsOf_l5 n x0 k).symm

/-! ### loop.example/g00269/spec.l1In -/
theorem cspec_l1In (n : Nat) : AllOk Tryd.prog [] := trivial
@[reducible] def Sspec_l1In : PkS := ⟨[.one (.int .i64), .one (.int .i64), .one (.int .i64)], []⟩
@[reducible] def Tspec_l1In : PkS := ⟨[.one (.bool), .one (.dead), .one (.dead), .one (.dead)], []⟩
def Hspec_l1In : List Sh := [.one .any, .skip, .skip, .skip]
def Kspec_l1In (g : ∀ {R : Type}, Nat → Int → Int → Int → (Bool → Option R) → Option R) (n : Nat) : KPs := fun R p k => match (PkS.un Sspec_l1In p : Option (Int × Int × Int × Unit)) with
  | some (x0, x1, x2, _) => g n x0 x1 x2 (fun r0 => k (PkS.pack Tspec_l1In (r0, ())))
  | none => none
theorem espec_l1In  {R : Type} (n : Nat) (x0 : Int) (x1 : Int) (x2 : Int) (k : Pk → Option R) : evF tt sig (mkK [] R) (mkL (mkK []) [] R) Tryd.f59 Hspec_l1In (PkS.pack Sspec_l1In (x0, x1, x2, ())) k = (fun (k : Bool → Option R) => (bif (decide (x0 ≥ x1)) then k (decide (x0 ≤ x2)) else k false)) (fun r0 => k (PkS.pack Tspec_l1In (r0, ()))) := by kernel_rfl
theorem okspec_l1In (n : Nat) : FnOk Tryd.prog 59 (Kspec_l1In @spec_l1In n) := by
  refine fn_ok (sig := sig) mixed ttok (mkK_nat (cspec_l1In n)) (mkK_ok (cspec_l1In n)) (mkL_nat (mkK_nat (cspec_l1In n)) (l := []) trivial) (fn := Tryd.f59) (c := bodyOf Tryd.f59) (by kernel_rfl) (by kernel_rfl) (by kernel_rfl) (.eq (l := []) (by kernel_rfl) trivial) (shs := Hspec_l1In) (S := Sspec_l1In) (h1 := by kernel_rfl) fun R p k => ?_
  unfold Kspec_l1In
  cases h : (PkS.un Sspec_l1In p) with
  | none => rfl
  | some d =>
    obtain ⟨x0, x1, x2, u⟩ := (d : Int × Int × Int × Unit)
    have hp := PkS.un_pack h
    subst hp
    exact (espec_l1In  n x0 x1 x2 k).symm

/-! ### loop.example/g00269/spec.l1Name -/
theorem cspec_l1Name (n : Nat) : AllOk Tryd.prog [] := trivial
@[reducible] def Sspec_l1Name_l2 : PkS := ⟨[.one (.str), .one (.int .i64), .one (.dead)], []⟩
@[reducible] def Tspec_l1Name_l2_0 : PkS := ⟨[.one (.bool), .one (.dead)], []⟩
@[reducible] def Tspec_l1Name_l2_1 : PkS := ⟨[.one (.str), .one (.dead)], []⟩
def Dspec_l1Name_l2 : LoopD := ⟨36, [0, 3], [.one .any, .one .any, .skip], fun x => match x with
  | .ret => some ([2], [.one .any, .skip])
  | .exit 0 => some ([0], [.one .any, .skip])
  | _ => none⟩
def Pspec_l1Name_l2 (g : ∀ {R : Type}, Nat → ByteArray → Int → (Bool → Option R) → (ByteArray → Option R) → Option R) (n : Nat) : LPs := fun R q kk => match (PkS.un Sspec_l1Name_l2 q : Option (ByteArray × Int × Unit)) with
  | some (y2_0, y2_1, _) => g n y2_0 y2_1 (fun r0 => kk .ret (PkS.pack Tspec_l1Name_l2_0 (r0, ()))) (fun r0 => kk (.exit 0) (PkS.pack Tspec_l1Name_l2_1 (r0, ())))
  | none => none
theorem espec_l1Name_l2 (spec_l1Name_l2 : ∀ {R : Type}, Nat → ByteArray → Int → (Bool → Option R) → (ByteArray → Option R) → Option R) {R : Type} (n : Nat) (y2_0 : ByteArray) (y2_1 : Int) (kk : Ex → Pk → Option R) : Dspec_l1Name_l2.step tt sig (mkK [] R) (mkL (mkK []) [] R) (loopIn 2 (bodyOf Tryd.f70)) (fun q' => Pspec_l1Name_l2 @spec_l1Name_l2 n R q' kk) (PkS.pack Sspec_l1Name_l2 (y2_0, y2_1, ())) kk = (fun (kret : Bool → Option R) (kexit0 : ByteArray → Option R) => (bif (decide (y2_1 < (y2_0.size : Int))) then (bif decide (0 ≤ y2_1) then (bif decide (y2_1 < (y2_0.size : Int)) then (bif (decide (((y2_0.data.getD (Int.toNat y2_1) 0).toNat : Int) ≥ 97)) then (bif decide (0 ≤ y2_1) then (bif decide (y2_1 < (y2_0.size : Int)) then (bif (decide (((y2_0.data.getD (Int.toNat y2_1) 0).toNat : Int) ≤ 122)) then spec_l1Name_l2 n y2_0 (IntKind.wrap .i64 (y2_1 + 1)) kret kexit0 else (bif decide (0 ≤ y2_1) then (bif decide (y2_1 < (y2_0.size : Int)) then (bif (decide (((y2_0.data.getD (Int.toNat y2_1) 0).toNat : Int) ≥ 48)) then (bif decide (0 ≤ y2_1) then (bif decide (y2_1 < (y2_0.size : Int)) then (bif (!(decide (((y2_0.data.getD (Int.toNat y2_1) 0).toNat : Int) ≤ 57))) then kret false else spec_l1Name_l2 n y2_0 (IntKind.wrap .i64 (y2_1 + 1)) kret kexit0) else none) else none) else kret false) else none) else none)) else none) else none) else (bif decide (0 ≤ y2_1) then (bif decide (y2_1 < (y2_0.size : Int)) then (bif (decide (((y2_0.data.getD (Int.toNat y2_1) 0).toNat : Int) ≥ 48)) then (bif decide (0 ≤ y2_1) then (bif decide (y2_1 < (y2_0.size : Int)) then (bif (!(decide (((y2_0.data.getD (Int.toNat y2_1) 0).toNat : Int) ≤ 57))) then kret false else spec_l1Name_l2 n y2_0 (IntKind.wrap .i64 (y2_1 + 1)) kret kexit0) else none) else none) else kret false) else none) else none)) else none) else none) else kexit0 y2_0)) (fun r0 => kk .ret (PkS.pack Tspec_l1Name_l2_0 (r0, ()))) (fun r0 => kk (.exit 0) (PkS.pack Tspec_l1Name_l2_1 (r0, ()))) := by kernel_rfl
theorem lespec_l1Name_l2 : LoopEq tt sig (fun n => mkK []) (fun n => mkL (mkK []) []) Dspec_l1Name_l2 Sspec_l1Name_l2 (loopIn 2 (bodyOf Tryd.f70)) (Pspec_l1Name_l2 @spec_l1Name_l2) where
  zero R q kk := by unfold Pspec_l1Name_l2; cases (PkS.un Sspec_l1Name_l2 q) <;> rfl
  succ n R q kk := by
    unfold Pspec_l1Name_l2
    cases h : (PkS.un Sspec_l1Name_l2 q) with
    | none => rfl
    | some d =>
      obtain ⟨y2_0, y2_1, u⟩ := (d : ByteArray × Int × Unit)
      have hp := PkS.un_pack h
      subst hp
      exact (espec_l1Name_l2 @spec_l1Name_l2 n y2_0 y2_1 kk).symm
theorem nlspec_l1Name_l2 : ∀ n, NatLP (Pspec_l1Name_l2 @spec_l1Name_l2 n) := lespec_l1Name_l2.nat (fun n => mkK_nat (cspec_l1Name n)) fun n => mkL_nat (mkK_nat (cspec_l1Name n)) (l := []) trivial
theorem inspec_l1Name_l2 (n : Nat) (R : Type) : LoopsOk Tryd.prog (mkL (mkK []) [] R) (loopIn 2 (bodyOf Tryd.f70)) := .eq (l := []) (by kernel_rfl) trivial
theorem lkspec_l1Name_l2 (n : Nat) (R : Type) (L0 : LK R) (h0 : ∀ id, firstRegion (loopIn 2 (bodyOf Tryd.f70)) = some id → L0 id = Dspec_l1Name_l2.oracle (mkK [] R) (Pspec_l1Name_l2 @spec_l1Name_l2 n R)) : LoopOk Tryd.prog L0 (loopIn 2 (bodyOf Tryd.f70)) :=
  lespec_l1Name_l2.ok mixed ttok (fun n => mkK_nat (cspec_l1Name n)) (fun n => mkK_ok (cspec_l1Name n)) (fun n => inspec_l1Name_l2 n R) (mkK_nat (cspec_l1Name n)) h0
@[reducible] def Sspec_l1Name : PkS := ⟨[.one (.str)], []⟩
@[reducible] def Tspec_l1Name : PkS := ⟨[.one (.bool), .one (.dead)], []⟩
def Hspec_l1Name : List Sh := [.one .any, .skip]
def Kspec_l1Name (g : ∀ {R : Type}, Nat → ByteArray → (Bool → Option R) → Option R) (n : Nat) : KPs := fun R p k => match (PkS.un Sspec_l1Name p : Option (ByteArray × Unit)) with
  | some (x0, _) => g n x0 (fun r0 => k (PkS.pack Tspec_l1Name (r0, ())))
  | none => none
theorem espec_l1Name (spec_l1Name_l2 : ∀ {R : Type}, Nat → ByteArray → Int → (Bool → Option R) → (ByteArray → Option R) → Option R) {R : Type} (n : Nat) (x0 : ByteArray) (k : Pk → Option R) : evF tt sig (mkK [] R) (mkL (mkK []) [(2, Dspec_l1Name_l2, Pspec_l1Name_l2 @spec_l1Name_l2 n)] R) Tryd.f70 Hspec_l1Name (PkS.pack Sspec_l1Name (x0, ())) k = (fun (k : Bool → Option R) => (spec_l1Name_l2 n x0 0 (fun r1 => k r1) (fun r2 => k (decide ((r2.size : Int) ≤ 12))))) (fun r0 => k (PkS.pack Tspec_l1Name (r0, ()))) := by kernel_rfl
theorem okspec_l1Name (n : Nat) : FnOk Tryd.prog 70 (Kspec_l1Name @spec_l1Name n) := by
  refine fn_ok (sig := sig) mixed ttok (mkK_nat (cspec_l1Name n)) (mkK_ok (cspec_l1Name n)) (mkL_nat (mkK_nat (cspec_l1Name n)) (l := [(2, Dspec_l1Name_l2, Pspec_l1Name_l2 @spec_l1Name_l2 n)]) ⟨nlspec_l1Name_l2 n, trivial⟩) (fn := Tryd.f70) (c := bodyOf Tryd.f70) (by kernel_rfl) (by kernel_rfl) (by kernel_rfl) (.eq (l := [.lo (loopIn 2 (bodyOf Tryd.f70))]) (by kernel_rfl) ⟨(lkspec_l1Name_l2 n _ _ (at_id (i := 2) (by kernel_rfl) rfl)), trivial⟩) (shs := Hspec_l1Name) (S := Sspec_l1Name) (h1 := by kernel_rfl) fun R p k => ?_
  unfold Kspec_l1Name
  cases h : (PkS.un Sspec_l1Name p) with
  | none => rfl
  | some d =>
    obtain ⟨x0, u⟩ := (d : ByteArray × Unit)
    have hp := PkS.un_pack h
    subst hp
    exact (espec_l1Name @spec_l1Name_l2 n x0 k).symm

/-! ### loop.example/g00269/spec.GoodEvent -/
theorem cspec_GoodEvent (n : Nat) : AllOk Tryd.prog [(59, Kspec_l1In @spec_l1In n), (70, Kspec_l1Name @spec_l1Name n)] := ⟨okspec_l1In n, ⟨okspec_l1Name n, trivial⟩⟩
@[reducible] def Sspec_GoodEvent : PkS := ⟨[.agg [.int .i64, .int .i64, .int .i64, .str]], []⟩
@[reducible] def Tspec_GoodEvent : PkS := ⟨[.one (.bool), .one (.dead)], []⟩
def Hspec_GoodEvent : List Sh := [.one .any, .skip]
def Kspec_GoodEvent (g : ∀ {R : Type}, Nat → Int → Int → Int → ByteArray → (Bool → Option R) → Option R) (n : Nat) : KPs := fun R p k => match (PkS.un Sspec_GoodEvent p : Option (Int × Int × Int × ByteArray × Unit)) with
  | some (x0, x1, x2, x3, _) => g n x0 x1 x2 x3 (fun r0 => k (PkS.pack Tspec_GoodEvent (r0, ())))
  | none => none
theorem espec_GoodEvent (spec_l1In : ∀ {R : Type}, Nat → Int → Int → Int → (Bool → Option R) → Option R) (spec_l1Name : ∀ {R : Type}, Nat → ByteArray → (Bool → Option R) → Option R) {R : Type} (n : Nat) (x0 : Int) (x1 : Int) (x2 : Int) (x3 : ByteArray) (k : Pk → Option R) : evF tt sig (mkK [(59, Kspec_l1In @spec_l1In n), (70, Kspec_l1Name @spec_l1Name n)] R) (mkL (mkK [(59, Kspec_l1In @spec_l1In n), (70, Kspec_l1Name @spec_l1Name n)]) [] R) Tryd.f43 Hspec_GoodEvent (PkS.pack Sspec_GoodEvent (x0, x1, x2, x3, ())) k = (fun (k : Bool → Option R) => (spec_l1In n x0 1 1000 fun r1 => (bif r1 then (spec_l1In n x1 0 1000000 fun r2 => (bif r2 then (spec_l1In n x2 1 6 fun r3 => (bif r3 then (spec_l1Name n x3 fun r4 => k r4) else k false)) else k false)) else k false))) (fun r0 => k (PkS.pack Tspec_GoodEvent (r0, ()))) := by kernel_rfl
theorem okspec_GoodEvent (n : Nat) : FnOk Tryd.prog 43 (Kspec_GoodEvent @spec_GoodEvent n) := by
  refine fn_ok (sig := sig) mixed ttok (mkK_nat (cspec_GoodEvent n)) (mkK_ok (cspec_GoodEvent n)) (mkL_nat (mkK_nat (cspec_GoodEvent n)) (l := []) trivial) (fn := Tryd.f43) (c := bodyOf Tryd.f43) (by kernel_rfl) (by kernel_rfl) (by kernel_rfl) (.eq (l := []) (by kernel_rfl) trivial) (shs := Hspec_GoodEvent) (S := Sspec_GoodEvent) (h1 := by kernel_rfl) fun R p k => ?_
  unfold Kspec_GoodEvent
  cases h : (PkS.un Sspec_GoodEvent p) with
  | none => rfl
  | some d =>
    obtain ⟨x0, x1, x2, x3, u⟩ := (d : Int × Int × Int × ByteArray × Unit)
    have hp := PkS.un_pack h
    subst hp
    exact (espec_GoodEvent @spec_l1In @spec_l1Name n x0 x1 x2 x3 k).symm

/-! ### loop.example/g00269/spec.l11Append -/
theorem cspec_l11Append (n : Nat) : AllOk Tryd.prog [] := trivial
@[reducible] def Sspec_l11Append : PkS := ⟨[.one (.ro (.pr (.int .i64) (.int .i64))), .one (.int .i64), .one (.int .i64)], []⟩
@[reducible] def Tspec_l11Append : PkS := ⟨[.one (.whole (300000, 0)), .one (.dead), .one (.dead), .one (.dead)], [((300000, 0), .arr (.pr (.int .i64) (.int .i64)))]⟩
def Hspec_l11Append : List Sh := [.one (.own (.pr (.int .i64) (.int .i64))), .skip, .skip, .skip]
def Kspec_l11Append (g : ∀ {R : Type}, Nat → (List (Int × Int)) → Int → Int → ((List (Int × Int)) → Option R) → Option R) (n : Nat) : KPs := fun R p k => match (PkS.un Sspec_l11Append p : Option ((List (Int × Int)) × Int × Int × Unit)) with
  | some (x0, x1, x2, _) => g n x0 x1 x2 (fun r0 => k (PkS.pack Tspec_l11Append (r0, ())))
  | none => none
theorem espec_l11Append  {R : Type} (n : Nat) (x0 : List (Int × Int)) (x1 : Int) (x2 : Int) (k : Pk → Option R) : evF tt sig (mkK [] R) (mkL (mkK []) [] R) Tryd.f44 Hspec_l11Append (PkS.pack Sspec_l11Append (x0, x1, x2, ())) k = (fun (k : (List (Int × Int)) → Option R) => (bif decide (([] : List (Int × Int)).length + x0.length ≤ LIM) then (bif (decide ((IntKind.wrap .i64 (((([] : List (Int × Int)) ++ x0).length : Int) - 1)) ≥ 0)) then (bif decide (0 ≤ (IntKind.wrap .i64 (((([] : List (Int × Int)) ++ x0).length : Int) - 1))) then (bif decide ((IntKind.wrap .i64 (((([] : List (Int × Int)) ++ x0).length : Int) - 1)) < ((([] : List (Int × Int)) ++ x0).length : Int)) then (bif (((([] : List (Int × Int)) ++ x0).getD (Int.toNat (IntKind.wrap .i64 (((([] : List (Int × Int)) ++ x0).length : Int) - 1))) (0, 0)).2 == x2) then (bif decide (0 ≤ (IntKind.wrap .i64 (((([] : List (Int × Int)) ++ x0).length : Int) - 1))) then (bif decide ((IntKind.wrap .i64 (((([] : List (Int × Int)) ++ x0).length : Int) - 1)) < ((([] : List (Int × Int)) ++ x0).length : Int)) then k ((([] : List (Int × Int)) ++ x0).set (Int.toNat (IntKind.wrap .i64 (((([] : List (Int × Int)) ++ x0).length : Int) - 1))) (x1, ((([] : List (Int × Int)) ++ x0).getD (Int.toNat (IntKind.wrap .i64 (((([] : List (Int × Int)) ++ x0).length : Int) - 1))) (0, 0)).2)) else none) else none) else (bif decide ((([] : List (Int × Int)) ++ x0).length + ([(x1, x2)]).length ≤ LIM) then k ((([] : List (Int × Int)) ++ x0) ++ [(x1, x2)]) else none)) else none) else none) else (bif decide ((([] : List (Int × Int)) ++ x0).length + ([(x1, x2)]).length ≤ LIM) then k ((([] : List (Int × Int)) ++ x0) ++ [(x1, x2)]) else none)) else none)) (fun r0 => k (PkS.pack Tspec_l11Append (r0, ()))) := by kernel_rfl
theorem okspec_l11Append (n : Nat) : FnOk Tryd.prog 44 (Kspec_l11Append @spec_l11Append n) := by
  refine fn_ok (sig := sig) mixed ttok (mkK_nat (cspec_l11Append n)) (mkK_ok (cspec_l11Append n)) (mkL_nat (mkK_nat (cspec_l11Append n)) (l := []) trivial) (fn := Tryd.f44) (c := bodyOf Tryd.f44) (by kernel_rfl) (by kernel_rfl) (by kernel_rfl) (.eq (l := []) (by kernel_rfl) trivial) (shs := Hspec_l11Append) (S := Sspec_l11Append) (h1 := by kernel_rfl) fun R p k => ?_
  unfold Kspec_l11Append
  cases h : (PkS.un Sspec_l11Append p) with
  | none => rfl
  | some d =>
    obtain ⟨x0, x1, x2, u⟩ := (d : (List (Int × Int)) × Int × Int × Unit)
    have hp := PkS.un_pack h
    subst hp
    exact (espec_l11Append  n x0 x1 x2 k).symm

/-! ### loop.example/g00269/spec.GoodItems -/
theorem cspec_GoodItems (n : Nat) : AllOk Tryd.prog [(59, Kspec_l1In @spec_l1In n)] := ⟨okspec_l1In n, trivial⟩
@[reducible] def Sspec_GoodItems_l2 : PkS := ⟨[.one (.ro (.pr (.int .i64) (.int .i64))), .one (.ro (.pr (.int .i64) (.int .i64))), .one (.int .i64), .one (.int .i64), .one (.dead)], []⟩
@[reducible] def Tspec_GoodItems_l2_0 : PkS := ⟨[.one (.bool), .one (.dead)], []⟩
@[reducible] def Tspec_GoodItems_l2_1 : PkS := ⟨[.one (.ro (.pr (.int .i64) (.int .i64))), .one (.dead)], []⟩
def Dspec_GoodItems_l2 : LoopD := ⟨52, [0, 5, 6, 7], [.one (.ro (.pr (.int .i64) (.int .i64))), .one (.ro (.pr (.int .i64) (.int .i64))), .one .any, .one .any, .skip], fun x => match x with
  | .ret => some ([2], [.one .any, .skip])
  | .exit 0 => some ([0], [.one (.ro (.pr (.int .i64) (.int .i64))), .skip])
  | _ => none⟩
def Pspec_GoodItems_l2 (g : ∀ {R : Type}, Nat → (List (Int × Int)) → (List (Int × Int)) → Int → Int → (Bool → Option R) → ((List (Int × Int)) → Option R) → Option R) (n : Nat) : LPs := fun R q kk => match (PkS.un Sspec_GoodItems_l2 q : Option ((List (Int × Int)) × (List (Int × Int)) × Int × Int × Unit)) with
  | some (y2_0, y2_1, y2_2, y2_3, _) => g n y2_0 y2_1 y2_2 y2_3 (fun r0 => kk .ret (PkS.pack Tspec_GoodItems_l2_0 (r0, ()))) (fun r0 => kk (.exit 0) (PkS.pack Tspec_GoodItems_l2_1 (r0, ())))
  | none => none
theorem espec_GoodItems_l2 (spec_l1In : ∀ {R : Type}, Nat → Int → Int → Int → (Bool → Option R) → Option R) (spec_GoodItems_l2 : ∀ {R : Type}, Nat → (List (Int × Int)) → (List (Int × Int)) → Int → Int → (Bool → Option R) → ((List (Int × Int)) → Option R) → Option R) {R : Type} (n : Nat) (y2_0 : List (Int × Int)) (y2_1 : List (Int × Int)) (y2_2 : Int) (y2_3 : Int) (kk : Ex → Pk → Option R) : Dspec_GoodItems_l2.step tt sig (mkK [(59, Kspec_l1In @spec_l1In n)] R) (mkL (mkK [(59, Kspec_l1In @spec_l1In n)]) [] R) (loopIn 2 (bodyOf Tryd.f45)) (fun q' => Pspec_GoodItems_l2 @spec_GoodItems_l2 n R q' kk) (PkS.pack Sspec_GoodItems_l2 (y2_0, y2_1, y2_2, y2_3, ())) kk = (fun (kret : Bool → Option R) (kexit0 : (List (Int × Int)) → Option R) => (bif (decide (y2_3 < y2_2)) then (bif decide (0 ≤ y2_3) then (bif decide (y2_3 < (y2_1.length : Int)) then (spec_l1In n ((y2_1.getD (Int.toNat y2_3) (0, 0)).1) 1 1000 fun r1 => (bif (!r1) then kret false else (spec_l1In n ((y2_1.getD (Int.toNat y2_3) (0, 0)).2) 0 1000000 fun r2 => (bif (!r2) then kret false else (bif (decide (y2_3 > 0)) then (bif decide (0 ≤ (IntKind.wrap .i64 (y2_3 - 1))) then (bif decide ((IntKind.wrap .i64 (y2_3 - 1)) < (y2_0.length : Int)) then (bif (decide ((y2_0.getD (Int.toNat (IntKind.wrap .i64 (y2_3 - 1))) (0, 0)).1 ≥ (y2_1.getD (Int.toNat y2_3) (0, 0)).1)) then kret false else (bif decide (0 ≤ (IntKind.wrap .i64 (y2_3 - 1))) then (bif decide ((IntKind.wrap .i64 (y2_3 - 1)) < (y2_0.length : Int)) then (bif (decide ((y2_0.getD (Int.toNat (IntKind.wrap .i64 (y2_3 - 1))) (0, 0)).2 ≥ (y2_1.getD (Int.toNat y2_3) (0, 0)).2)) then kret false else spec_GoodItems_l2 n y2_0 y2_1 y2_2 (IntKind.wrap .i64 (y2_3 + 1)) kret kexit0) else none) else none)) else none) else none) else spec_GoodItems_l2 n y2_0 y2_1 y2_2 (IntKind.wrap .i64 (y2_3 + 1)) kret kexit0))))) else none) else none) else kexit0 y2_0)) (fun r0 => kk .ret (PkS.pack Tspec_GoodItems_l2_0 (r0, ()))) (fun r0 => kk (.exit 0) (PkS.pack Tspec_GoodItems_l2_1 (r0, ()))) := by kernel_rfl
theorem lespec_GoodItems_l2 : LoopEq tt sig (fun n => mkK [(59, Kspec_l1In @spec_l1In n)]) (fun n => mkL (mkK [(59, Kspec_l1In @spec_l1In n)]) []) Dspec_GoodItems_l2 Sspec_GoodItems_l2 (loopIn 2 (bodyOf Tryd.f45)) (Pspec_GoodItems_l2 @spec_GoodItems_l2) where
  zero R q kk := by unfold Pspec_GoodItems_l2; cases (PkS.un Sspec_GoodItems_l2 q) <;> rfl
  succ n R q kk := by
    unfold Pspec_GoodItems_l2
    cases h : (PkS.un Sspec_GoodItems_l2 q) with
    | none => rfl
    | some d =>
      obtain ⟨y2_0, y2_1, y2_2, y2_3, u⟩ := (d : (List (Int × Int)) × (List (Int × Int)) × Int × Int × Unit)
      have hp := PkS.un_pack h
      subst hp
      exact (espec_GoodItems_l2 @spec_l1In @spec_GoodItems_l2 n y2_0 y2_1 y2_2 y2_3 kk).symm
theorem nlspec_GoodItems_l2 : ∀ n, NatLP (Pspec_GoodItems_l2 @spec_GoodItems_l2 n) := lespec_GoodItems_l2.nat (fun n => mkK_nat (cspec_GoodItems n)) fun n => mkL_nat (mkK_nat (cspec_GoodItems n)) (l := []) trivial
theorem inspec_GoodItems_l2 (n : Nat) (R : Type) : LoopsOk Tryd.prog (mkL (mkK [(59, Kspec_l1In @spec_l1In n)]) [] R) (loopIn 2 (bodyOf Tryd.f45)) := .eq (l := []) (by kernel_rfl) trivial
theorem lkspec_GoodItems_l2 (n : Nat) (R : Type) (L0 : LK R) (h0 : ∀ id, firstRegion (loopIn 2 (bodyOf Tryd.f45)) = some id → L0 id = Dspec_GoodItems_l2.oracle (mkK [(59, Kspec_l1In @spec_l1In n)] R) (Pspec_GoodItems_l2 @spec_GoodItems_l2 n R)) : LoopOk Tryd.prog L0 (loopIn 2 (bodyOf Tryd.f45)) :=
  lespec_GoodItems_l2.ok mixed ttok (fun n => mkK_nat (cspec_GoodItems n)) (fun n => mkK_ok (cspec_GoodItems n)) (fun n => inspec_GoodItems_l2 n R) (mkK_nat (cspec_GoodItems n)) h0
@[reducible] def Sspec_GoodItems : PkS := ⟨[.one (.ro (.pr (.int .i64) (.int .i64)))], []⟩
@[reducible] def Tspec_GoodItems : PkS := ⟨[.one (.bool), .one (.dead)], []⟩
def Hspec_GoodItems : List Sh := [.one .any, .skip]
def Kspec_GoodItems (g : ∀ {R : Type}, Nat → (List (Int × Int)) → (Bool → Option R) → Option R) (n : Nat) : KPs := fun R p k => match (PkS.un Sspec_GoodItems p : Option ((List (Int × Int)) × Unit)) with
  | some (x0, _) => g n x0 (fun r0 => k (PkS.pack Tspec_GoodItems (r0, ())))
  | none => none
theorem espec_GoodItems (spec_l1In : ∀ {R : Type}, Nat → Int → Int → Int → (Bool → Option R) → Option R) (spec_GoodItems_l2 : ∀ {R : Type}, Nat → (List (Int × Int)) → (List (Int × Int)) → Int → Int → (Bool → Option R) → ((List (Int × Int)) → Option R) → Option R) {R : Type} (n : Nat) (x0 : List (Int × Int)) (k : Pk → Option R) : evF tt sig (mkK [(59, Kspec_l1In @spec_l1In n)] R) (mkL (mkK [(59, Kspec_l1In @spec_l1In n)]) [(2, Dspec_GoodItems_l2, Pspec_GoodItems_l2 @spec_GoodItems_l2 n)] R) Tryd.f45 Hspec_GoodItems (PkS.pack Sspec_GoodItems (x0, ())) k = (fun (k : Bool → Option R) => (spec_GoodItems_l2 n x0 x0 (x0.length : Int) 0 (fun r3 => k r3) (fun r4 => k (decide ((r4.length : Int) ≤ 20))))) (fun r0 => k (PkS.pack Tspec_GoodItems (r0, ()))) := by kernel_rfl
theorem okspec_GoodItems (n : Nat) : FnOk Tryd.prog 45 (Kspec_GoodItems @spec_GoodItems n) := by
  refine fn_ok (sig := sig) mixed ttok (mkK_nat (cspec_GoodItems n)) (mkK_ok (cspec_GoodItems n)) (mkL_nat (mkK_nat (cspec_GoodItems n)) (l := [(2, Dspec_GoodItems_l2, Pspec_GoodItems_l2 @spec_GoodItems_l2 n)]) ⟨nlspec_GoodItems_l2 n, trivial⟩) (fn := Tryd.f45) (c := bodyOf Tryd.f45) (by kernel_rfl) (by kernel_rfl) (by kernel_rfl) (.eq (l := [.lo (loopIn 2 (bodyOf Tryd.f45))]) (by kernel_rfl) ⟨(lkspec_GoodItems_l2 n _ _ (at_id (i := 2) (by kernel_rfl) rfl)), trivial⟩) (shs := Hspec_GoodItems) (S := Sspec_GoodItems) (h1 := by kernel_rfl) fun R p k => ?_
  unfold Kspec_GoodItems
  cases h : (PkS.un Sspec_GoodItems p) with
  | none => rfl
  | some d =>
    obtain ⟨x0, u⟩ := (d : (List (Int × Int)) × Unit)
    have hp := PkS.un_pack h
    subst hp
    exact (espec_GoodItems @spec_l1In @spec_GoodItems_l2 n x0 k).symm

/-! ### loop.example/g00269/spec.ItemsOf -/
theorem cspec_ItemsOf (n : Nat) : AllOk Tryd.prog [(43, Kspec_GoodEvent @spec_GoodEvent n), (44, Kspec_l11Append @spec_l11Append n), (45, Kspec_GoodItems @spec_GoodItems n)] := ⟨okspec_GoodEvent n, ⟨okspec_l11Append n, ⟨okspec_GoodItems n, trivial⟩⟩⟩
@[reducible] def Sspec_ItemsOf_l3 : PkS := ⟨[.one (.ro (.pr (.int .i64) (.pr (.int .i64) (.pr (.int .i64) .str)))), .one (.whole (100000, 0)), .one (.ro (.pr (.int .i64) (.pr (.int .i64) (.pr (.int .i64) .str)))), .one (.int .i64), .one (.int .i64), .one (.dead)], [((100000, 0), .arr (.pr (.int .i64) (.int .i64)))]⟩
@[reducible] def Tspec_ItemsOf_l3_0 : PkS := ⟨[.one (.ro (.pr (.int .i64) (.int .i64))), .one (.bool), .one (.dead)], []⟩
@[reducible] def Tspec_ItemsOf_l3_1 : PkS := ⟨[.one (.ro (.pr (.int .i64) (.pr (.int .i64) (.pr (.int .i64) .str)))), .one (.ro (.pr (.int .i64) (.int .i64))), .one (.dead)], []⟩
def Dspec_ItemsOf_l3 : LoopD := ⟨55, [0, 4, 7, 8, 9], [.one (.ro (.pr (.int .i64) (.pr (.int .i64) (.pr (.int .i64) .str)))), .one (.own (.pr (.int .i64) (.int .i64))), .one (.ro (.pr (.int .i64) (.pr (.int .i64) (.pr (.int .i64) .str)))), .one .any, .one .any, .skip], fun x => match x with
  | .ret => some ([2, 3], [.one (.ro (.pr (.int .i64) (.int .i64))), .one .any, .skip])
  | .exit 0 => some ([0, 4], [.one (.ro (.pr (.int .i64) (.pr (.int .i64) (.pr (.int .i64) .str)))), .one (.ro (.pr (.int .i64) (.int .i64))), .skip])
  | _ => none⟩
def Pspec_ItemsOf_l3 (g : ∀ {R : Type}, Nat → (List (Int × Int × Int × ByteArray)) → (List (Int × Int × Int × ByteArray)) → Int → Int → (List (Int × Int)) → ((List (Int × Int)) → Bool → Option R) → ((List (Int × Int × Int × ByteArray)) → (List (Int × Int)) → Option R) → Option R) (n : Nat) : LPs := fun R q kk => match (PkS.un Sspec_ItemsOf_l3 q : Option ((List (Int × Int × Int × ByteArray)) × (List (Int × Int × Int × ByteArray)) × Int × Int × (List (Int × Int)) × Unit)) with
  | some (y3_0, y3_1, y3_2, y3_3, y3_4, _) => g n y3_0 y3_1 y3_2 y3_3 y3_4 (fun r0 r1 => kk .ret (PkS.pack Tspec_ItemsOf_l3_0 (r0, r1, ()))) (fun r0 r1 => kk (.exit 0) (PkS.pack Tspec_ItemsOf_l3_1 (r0, r1, ())))
  | none => none
theorem espec_ItemsOf_l3 (spec_GoodEvent : ∀ {R : Type}, Nat → Int → Int → Int → ByteArray → (Bool → Option R) → Option R) (spec_l11Append : ∀ {R : Type}, Nat → (List (Int × Int)) → Int → Int → ((List (Int × Int)) → Option R) → Option R) (spec_GoodItems : ∀ {R : Type}, Nat → (List (Int × Int)) → (Bool → Option R) → Option R) (spec_ItemsOf_l3 : ∀ {R : Type}, Nat → (List (Int × Int × Int × ByteArray)) → (List (Int × Int × Int × ByteArray)) → Int → Int → (List (Int × Int)) → ((List (Int × Int)) → Bool → Option R) → ((List (Int × Int × Int × ByteArray)) → (List (Int × Int)) → Option R) → Option R) {R : Type} (n : Nat) (y3_0 : List (Int × Int × Int × ByteArray)) (y3_1 : List (Int × Int × Int × ByteArray)) (y3_2 : Int) (y3_3 : Int) (y3_4 : List (Int × Int)) (kk : Ex → Pk → Option R) : Dspec_ItemsOf_l3.step tt sig (mkK [(43, Kspec_GoodEvent @spec_GoodEvent n), (44, Kspec_l11Append @spec_l11Append n), (45, Kspec_GoodItems @spec_GoodItems n)] R) (mkL (mkK [(43, Kspec_GoodEvent @spec_GoodEvent n), (44, Kspec_l11Append @spec_l11Append n), (45, Kspec_GoodItems @spec_GoodItems n)]) [] R) (loopIn 3 (bodyOf Tryd.f10)) (fun q' => Pspec_ItemsOf_l3 @spec_ItemsOf_l3 n R q' kk) (PkS.pack Sspec_ItemsOf_l3 (y3_0, y3_1, y3_2, y3_3, y3_4, ())) kk = (fun (kret : (List (Int × Int)) → Bool → Option R) (kexit0 : (List (Int × Int × Int × ByteArray)) → (List (Int × Int)) → Option R) => (bif (decide (y3_3 < y3_2)) then (bif decide (0 ≤ y3_3) then (bif decide (y3_3 < (y3_1.length : Int)) then (spec_GoodEvent n ((y3_1.getD (Int.toNat y3_3) (0, (0, (0, ByteArray.empty)))).1) ((y3_1.getD (Int.toNat y3_3) (0, (0, (0, ByteArray.empty)))).2.1) ((y3_1.getD (Int.toNat y3_3) (0, (0, (0, ByteArray.empty)))).2.2.1) ((y3_1.getD (Int.toNat y3_3) (0, (0, (0, ByteArray.empty)))).2.2.2) fun r1 => (bif (!r1) then kret ([] : List (Int × Int)) false else (bif ((y3_1.getD (Int.toNat y3_3) (0, (0, (0, ByteArray.empty)))).1 != (IntKind.wrap .i64 (y3_3 + 1))) then kret ([] : List (Int × Int)) false else (bif (decide (y3_3 > 0)) then (bif decide (0 ≤ (IntKind.wrap .i64 (y3_3 - 1))) then (bif decide ((IntKind.wrap .i64 (y3_3 - 1)) < (y3_0.length : Int)) then (bif (decide ((y3_0.getD (Int.toNat (IntKind.wrap .i64 (y3_3 - 1))) (0, (0, (0, ByteArray.empty)))).2.1 > (y3_1.getD (Int.toNat y3_3) (0, (0, (0, ByteArray.empty)))).2.1)) then kret ([] : List (Int × Int)) false else (spec_l11Append n y3_4 ((y3_1.getD (Int.toNat y3_3) (0, (0, (0, ByteArray.empty)))).1) ((y3_1.getD (Int.toNat y3_3) (0, (0, (0, ByteArray.empty)))).2.1) fun r2 => spec_ItemsOf_l3 n y3_0 y3_1 y3_2 (IntKind.wrap .i64 (y3_3 + 1)) r2 kret kexit0)) else none) else none) else (spec_l11Append n y3_4 ((y3_1.getD (Int.toNat y3_3) (0, (0, (0, ByteArray.empty)))).1) ((y3_1.getD (Int.toNat y3_3) (0, (0, (0, ByteArray.empty)))).2.1) fun r3 => spec_ItemsOf_l3 n y3_0 y3_1 y3_2 (IntKind.wrap .i64 (y3_3 + 1)) r3 kret kexit0))))) else none) else none) else kexit0 y3_0 y3_4)) (fun r0 r1 => kk .ret (PkS.pack Tspec_ItemsOf_l3_0 (r0, r1, ()))) (fun r0 r1 => kk (.exit 0) (PkS.pack Tspec_ItemsOf_l3_1 (r0, r1, ()))) := by kernel_rfl
theorem lespec_ItemsOf_l3 : LoopEq tt sig (fun n => mkK [(43, Kspec_GoodEvent @spec_GoodEvent n), (44, Kspec_l11Append @spec_l11Append n), (45, Kspec_GoodItems @spec_GoodItems n)]) (fun n => mkL (mkK [(43, Kspec_GoodEvent @spec_GoodEvent n), (44, Kspec_l11Append @spec_l11Append n), (45, Kspec_GoodItems @spec_GoodItems n)]) []) Dspec_ItemsOf_l3 Sspec_ItemsOf_l3 (loopIn 3 (bodyOf Tryd.f10)) (Pspec_ItemsOf_l3 @spec_ItemsOf_l3) where
  zero R q kk := by unfold Pspec_ItemsOf_l3; cases (PkS.un Sspec_ItemsOf_l3 q) <;> rfl
  succ n R q kk := by
    unfold Pspec_ItemsOf_l3
    cases h : (PkS.un Sspec_ItemsOf_l3 q) with
    | none => rfl
    | some d =>
      obtain ⟨y3_0, y3_1, y3_2, y3_3, y3_4, u⟩ := (d : (List (Int × Int × Int × ByteArray)) × (List (Int × Int × Int × ByteArray)) × Int × Int × (List (Int × Int)) × Unit)
      have hp := PkS.un_pack h
      subst hp
      exact (espec_ItemsOf_l3 @spec_GoodEvent @spec_l11Append @spec_GoodItems @spec_ItemsOf_l3 n y3_0 y3_1 y3_2 y3_3 y3_4 kk).symm
theorem nlspec_ItemsOf_l3 : ∀ n, NatLP (Pspec_ItemsOf_l3 @spec_ItemsOf_l3 n) := lespec_ItemsOf_l3.nat (fun n => mkK_nat (cspec_ItemsOf n)) fun n => mkL_nat (mkK_nat (cspec_ItemsOf n)) (l := []) trivial
theorem inspec_ItemsOf_l3 (n : Nat) (R : Type) : LoopsOk Tryd.prog (mkL (mkK [(43, Kspec_GoodEvent @spec_GoodEvent n), (44, Kspec_l11Append @spec_l11Append n), (45, Kspec_GoodItems @spec_GoodItems n)]) [] R) (loopIn 3 (bodyOf Tryd.f10)) := .eq (l := []) (by kernel_rfl) trivial
theorem lkspec_ItemsOf_l3 (n : Nat) (R : Type) (L0 : LK R) (h0 : ∀ id, firstRegion (loopIn 3 (bodyOf Tryd.f10)) = some id → L0 id = Dspec_ItemsOf_l3.oracle (mkK [(43, Kspec_GoodEvent @spec_GoodEvent n), (44, Kspec_l11Append @spec_l11Append n), (45, Kspec_GoodItems @spec_GoodItems n)] R) (Pspec_ItemsOf_l3 @spec_ItemsOf_l3 n R)) : LoopOk Tryd.prog L0 (loopIn 3 (bodyOf Tryd.f10)) :=
  lespec_ItemsOf_l3.ok mixed ttok (fun n => mkK_nat (cspec_ItemsOf n)) (fun n => mkK_ok (cspec_ItemsOf n)) (fun n => inspec_ItemsOf_l3 n R) (mkK_nat (cspec_ItemsOf n)) h0
@[reducible] def Sspec_ItemsOf : PkS := ⟨[.one (.ro (.pr (.int .i64) (.pr (.int .i64) (.pr (.int .i64) .str))))], []⟩
@[reducible] def Tspec_ItemsOf : PkS := ⟨[.tup [(false, [.ro (.pr (.int .i64) (.int .i64))]), (false, [.bool])], .one (.dead)], []⟩
def Hspec_ItemsOf : List Sh := [.tup [(false, [(.ro (.pr (.int .i64) (.int .i64)))]), (false, [.any])], .skip]
def Kspec_ItemsOf (g : ∀ {R : Type}, Nat → (List (Int × Int × Int × ByteArray)) → ((List (Int × Int)) → Bool → Option R) → Option R) (n : Nat) : KPs := fun R p k => match (PkS.un Sspec_ItemsOf p : Option ((List (Int × Int × Int × ByteArray)) × Unit)) with
  | some (x0, _) => g n x0 (fun r0 r1 => k (PkS.pack Tspec_ItemsOf (r0, r1, ())))
  | none => none
theorem espec_ItemsOf (spec_GoodEvent : ∀ {R : Type}, Nat → Int → Int → Int → ByteArray → (Bool → Option R) → Option R) (spec_l11Append : ∀ {R : Type}, Nat → (List (Int × Int)) → Int → Int → ((List (Int × Int)) → Option R) → Option R) (spec_GoodItems : ∀ {R : Type}, Nat → (List (Int × Int)) → (Bool → Option R) → Option R) (spec_ItemsOf_l3 : ∀ {R : Type}, Nat → (List (Int × Int × Int × ByteArray)) → (List (Int × Int × Int × ByteArray)) → Int → Int → (List (Int × Int)) → ((List (Int × Int)) → Bool → Option R) → ((List (Int × Int × Int × ByteArray)) → (List (Int × Int)) → Option R) → Option R) {R : Type} (n : Nat) (x0 : List (Int × Int × Int × ByteArray)) (k : Pk → Option R) : evF tt sig (mkK [(43, Kspec_GoodEvent @spec_GoodEvent n), (44, Kspec_l11Append @spec_l11Append n), (45, Kspec_GoodItems @spec_GoodItems n)] R) (mkL (mkK [(43, Kspec_GoodEvent @spec_GoodEvent n), (44, Kspec_l11Append @spec_l11Append n), (45, Kspec_GoodItems @spec_GoodItems n)]) [(3, Dspec_ItemsOf_l3, Pspec_ItemsOf_l3 @spec_ItemsOf_l3 n)] R) Tryd.f10 Hspec_ItemsOf (PkS.pack Sspec_ItemsOf (x0, ())) k = (fun (k : (List (Int × Int)) → Bool → Option R) => (spec_ItemsOf_l3 n x0 x0 (x0.length : Int) 0 ([] : List (Int × Int)) (fun r4 r5 => k r4 r5) (fun r6 r7 => (bif (decide ((r6.length : Int) > 60)) then k ([] : List (Int × Int)) false else (spec_GoodItems n r7 fun r8 => (bif (!r8) then k ([] : List (Int × Int)) false else k r7 true)))))) (fun r0 r1 => k (PkS.pack Tspec_ItemsOf (r0, r1, ()))) := by kernel_rfl
theorem okspec_ItemsOf (n : Nat) : FnOk Tryd.prog 10 (Kspec_ItemsOf @spec_ItemsOf n) := by
  refine fn_ok (sig := sig) mixed ttok (mkK_nat (cspec_ItemsOf n)) (mkK_ok (cspec_ItemsOf n)) (mkL_nat (mkK_nat (cspec_ItemsOf n)) (l := [(3, Dspec_ItemsOf_l3, Pspec_ItemsOf_l3 @spec_ItemsOf_l3 n)]) ⟨nlspec_ItemsOf_l3 n, trivial⟩) (fn := Tryd.f10) (c := bodyOf Tryd.f10) (by kernel_rfl) (by kernel_rfl) (by kernel_rfl) (.eq (l := [.lo (loopIn 3 (bodyOf Tryd.f10))]) (by kernel_rfl) ⟨(lkspec_ItemsOf_l3 n _ _ (at_id (i := 3) (by kernel_rfl) rfl)), trivial⟩) (shs := Hspec_ItemsOf) (S := Sspec_ItemsOf) (h1 := by kernel_rfl) fun R p k => ?_
  unfold Kspec_ItemsOf
  cases h : (PkS.un Sspec_ItemsOf p) with
  | none => rfl
  | some d =>
    obtain ⟨x0, u⟩ := (d : (List (Int × Int × Int × ByteArray)) × Unit)
    have hp := PkS.un_pack h
    subst hp
    exact (espec_ItemsOf @spec_GoodEvent @spec_l11Append @spec_GoodItems @spec_ItemsOf_l3 n x0 k).symm

/-! ### loop.example/g00269/laws.sameItems -/
theorem claws_sameItems (n : Nat) : AllOk Tryd.prog [] := trivial
@[reducible] def Slaws_sameItems_l4 : PkS := ⟨[.one (.ro (.pr (.int .i64) (.int .i64))), .one (.ro (.pr (.int .i64) (.int .i64))), .one (.int .i64), .one (.int .i64), .one (.dead), .one (.dead)], []⟩
@[reducible] def Tlaws_sameItems_l4_0 : PkS := ⟨[.one (.bool), .one (.dead), .one (.dead)], []⟩
@[reducible] def Tlaws_sameItems_l4_1 : PkS := ⟨[.one (.dead), .one (.dead)], []⟩
def Dlaws_sameItems_l4 : LoopD := ⟨26, [0, 1, 12, 13], [.one (.ro (.pr (.int .i64) (.int .i64))), .one (.ro (.pr (.int .i64) (.int .i64))), .one .any, .one .any, .skip, .skip], fun x => match x with
  | .ret => some ([4], [.one .any, .skip, .skip])
  | .exit 0 => some ([], [.skip, .skip])
  | _ => none⟩
def Plaws_sameItems_l4 (g : ∀ {R : Type}, Nat → (List (Int × Int)) → (List (Int × Int)) → Int → Int → (Bool → Option R) → (Option R) → Option R) (n : Nat) : LPs := fun R q kk => match (PkS.un Slaws_sameItems_l4 q : Option ((List (Int × Int)) × (List (Int × Int)) × Int × Int × Unit)) with
  | some (y4_0, y4_1, y4_2, y4_3, _) => g n y4_0 y4_1 y4_2 y4_3 (fun r0 => kk .ret (PkS.pack Tlaws_sameItems_l4_0 (r0, ()))) (kk (.exit 0) (PkS.pack Tlaws_sameItems_l4_1 ()))
  | none => none
theorem elaws_sameItems_l4 (laws_sameItems_l4 : ∀ {R : Type}, Nat → (List (Int × Int)) → (List (Int × Int)) → Int → Int → (Bool → Option R) → (Option R) → Option R) {R : Type} (n : Nat) (y4_0 : List (Int × Int)) (y4_1 : List (Int × Int)) (y4_2 : Int) (y4_3 : Int) (kk : Ex → Pk → Option R) : Dlaws_sameItems_l4.step tt sig (mkK [] R) (mkL (mkK []) [] R) (loopIn 4 (bodyOf Tryd.f19)) (fun q' => Plaws_sameItems_l4 @laws_sameItems_l4 n R q' kk) (PkS.pack Slaws_sameItems_l4 (y4_0, y4_1, y4_2, y4_3, ())) kk = (fun (kret : Bool → Option R) (kexit0 : Option R) => (bif (decide (y4_3 < y4_2)) then (bif decide (0 ≤ y4_3) then (bif decide (y4_3 < (y4_0.length : Int)) then (bif decide (0 ≤ y4_3) then (bif decide (y4_3 < (y4_1.length : Int)) then (bif (!(((y4_0.getD (Int.toNat y4_3) (0, 0)).1 == (y4_1.getD (Int.toNat y4_3) (0, 0)).1) && (((y4_0.getD (Int.toNat y4_3) (0, 0)).2 == (y4_1.getD (Int.toNat y4_3) (0, 0)).2) && true))) then kret false else laws_sameItems_l4 n y4_0 y4_1 y4_2 (IntKind.wrap .i64 (y4_3 + 1)) kret kexit0) else none) else none) else none) else none) else kexit0)) (fun r0 => kk .ret (PkS.pack Tlaws_sameItems_l4_0 (r0, ()))) (kk (.exit 0) (PkS.pack Tlaws_sameItems_l4_1 ())) := by kernel_rfl
theorem lelaws_sameItems_l4 : LoopEq tt sig (fun n => mkK []) (fun n => mkL (mkK []) []) Dlaws_sameItems_l4 Slaws_sameItems_l4 (loopIn 4 (bodyOf Tryd.f19)) (Plaws_sameItems_l4 @laws_sameItems_l4) where
  zero R q kk := by unfold Plaws_sameItems_l4; cases (PkS.un Slaws_sameItems_l4 q) <;> rfl
  succ n R q kk := by
    unfold Plaws_sameItems_l4
    cases h : (PkS.un Slaws_sameItems_l4 q) with
    | none => rfl
    | some d =>
      obtain ⟨y4_0, y4_1, y4_2, y4_3, u⟩ := (d : (List (Int × Int)) × (List (Int × Int)) × Int × Int × Unit)
      have hp := PkS.un_pack h
      subst hp
      exact (elaws_sameItems_l4 @laws_sameItems_l4 n y4_0 y4_1 y4_2 y4_3 kk).symm
theorem nllaws_sameItems_l4 : ∀ n, NatLP (Plaws_sameItems_l4 @laws_sameItems_l4 n) := lelaws_sameItems_l4.nat (fun n => mkK_nat (claws_sameItems n)) fun n => mkL_nat (mkK_nat (claws_sameItems n)) (l := []) trivial
theorem inlaws_sameItems_l4 (n : Nat) (R : Type) : LoopsOk Tryd.prog (mkL (mkK []) [] R) (loopIn 4 (bodyOf Tryd.f19)) := .eq (l := []) (by kernel_rfl) trivial
theorem lklaws_sameItems_l4 (n : Nat) (R : Type) (L0 : LK R) (h0 : ∀ id, firstRegion (loopIn 4 (bodyOf Tryd.f19)) = some id → L0 id = Dlaws_sameItems_l4.oracle (mkK [] R) (Plaws_sameItems_l4 @laws_sameItems_l4 n R)) : LoopOk Tryd.prog L0 (loopIn 4 (bodyOf Tryd.f19)) :=
  lelaws_sameItems_l4.ok mixed ttok (fun n => mkK_nat (claws_sameItems n)) (fun n => mkK_ok (claws_sameItems n)) (fun n => inlaws_sameItems_l4 n R) (mkK_nat (claws_sameItems n)) h0
@[reducible] def Slaws_sameItems : PkS := ⟨[.one (.ro (.pr (.int .i64) (.int .i64))), .one (.ro (.pr (.int .i64) (.int .i64)))], []⟩
@[reducible] def Tlaws_sameItems : PkS := ⟨[.one (.bool), .one (.dead), .one (.dead)], []⟩
def Hlaws_sameItems : List Sh := [.one .any, .skip, .skip]
def Klaws_sameItems (g : ∀ {R : Type}, Nat → (List (Int × Int)) → (List (Int × Int)) → (Bool → Option R) → Option R) (n : Nat) : KPs := fun R p k => match (PkS.un Slaws_sameItems p : Option ((List (Int × Int)) × (List (Int × Int)) × Unit)) with
  | some (x0, x1, _) => g n x0 x1 (fun r0 => k (PkS.pack Tlaws_sameItems (r0, ())))
  | none => none
theorem elaws_sameItems (laws_sameItems_l4 : ∀ {R : Type}, Nat → (List (Int × Int)) → (List (Int × Int)) → Int → Int → (Bool → Option R) → (Option R) → Option R) {R : Type} (n : Nat) (x0 : List (Int × Int)) (x1 : List (Int × Int)) (k : Pk → Option R) : evF tt sig (mkK [] R) (mkL (mkK []) [(4, Dlaws_sameItems_l4, Plaws_sameItems_l4 @laws_sameItems_l4 n)] R) Tryd.f19 Hlaws_sameItems (PkS.pack Slaws_sameItems (x0, x1, ())) k = (fun (k : Bool → Option R) => (bif ((x0.length : Int) != (x1.length : Int)) then k false else (laws_sameItems_l4 n x0 x1 (x0.length : Int) 0 (fun r1 => k r1) (k true)))) (fun r0 => k (PkS.pack Tlaws_sameItems (r0, ()))) := by kernel_rfl
theorem oklaws_sameItems (n : Nat) : FnOk Tryd.prog 19 (Klaws_sameItems @laws_sameItems n) := by
  refine fn_ok (sig := sig) mixed ttok (mkK_nat (claws_sameItems n)) (mkK_ok (claws_sameItems n)) (mkL_nat (mkK_nat (claws_sameItems n)) (l := [(4, Dlaws_sameItems_l4, Plaws_sameItems_l4 @laws_sameItems_l4 n)]) ⟨nllaws_sameItems_l4 n, trivial⟩) (fn := Tryd.f19) (c := bodyOf Tryd.f19) (by kernel_rfl) (by kernel_rfl) (by kernel_rfl) (.eq (l := [.lo (loopIn 4 (bodyOf Tryd.f19))]) (by kernel_rfl) ⟨(lklaws_sameItems_l4 n _ _ (at_id (i := 4) (by kernel_rfl) rfl)), trivial⟩) (shs := Hlaws_sameItems) (S := Slaws_sameItems) (h1 := by kernel_rfl) fun R p k => ?_
  unfold Klaws_sameItems
  cases h : (PkS.un Slaws_sameItems p) with
  | none => rfl
  | some d =>
    obtain ⟨x0, x1, u⟩ := (d : (List (Int × Int)) × (List (Int × Int)) × Unit)
    have hp := PkS.un_pack h
    subst hp
    exact (elaws_sameItems @laws_sameItems_l4 n x0 x1 k).symm

/-! ### loop.example/g00269/impl.versionAt$1 -/
theorem cimpl_versionAt_c1 (n : Nat) : AllOk Tryd.prog [] := trivial
@[reducible] def Simpl_versionAt_c1 : PkS := ⟨[.agg [.int .i64, .int .i64], .one (.box (200000, 0) 0)], [((200000, 0), .box [.int .i64])]⟩
@[reducible] def Timpl_versionAt_c1 : PkS := ⟨[.one (.bool), .one (.dead), .one (.box (300000, 0) 0)], [((300000, 0), .box [.int .i64])]⟩
def Himpl_versionAt_c1 : List Sh := [.one .any, .skip, .box [.any]]
def Kimpl_versionAt_c1 (g : ∀ {R : Type}, Nat → Int → Int → Int → (Bool → Int → Option R) → Option R) (n : Nat) : KPs := fun R p k => match (PkS.un Simpl_versionAt_c1 p : Option (Int × Int × Int × Unit)) with
  | some (x0, x1, x2, _) => g n x0 x1 x2 (fun r0 r1 => k (PkS.pack Timpl_versionAt_c1 (r0, r1, ())))
  | none => none
theorem eimpl_versionAt_c1  {R : Type} (n : Nat) (x0 : Int) (x1 : Int) (x2 : Int) (k : Pk → Option R) : evF tt sig (mkK [] R) (mkL (mkK []) [] R) Tryd.f83 Himpl_versionAt_c1 (PkS.pack Simpl_versionAt_c1 (x0, x1, x2, ())) k = (fun (k : Bool → Int → Option R) => k (decide (x0 ≥ x2)) x2) (fun r0 r1 => k (PkS.pack Timpl_versionAt_c1 (r0, r1, ()))) := by kernel_rfl
theorem okimpl_versionAt_c1 (n : Nat) : FnOk Tryd.prog 83 (Kimpl_versionAt_c1 @impl_versionAt_c1 n) := by
  refine fn_ok (sig := sig) mixed ttok (mkK_nat (cimpl_versionAt_c1 n)) (mkK_ok (cimpl_versionAt_c1 n)) (mkL_nat (mkK_nat (cimpl_versionAt_c1 n)) (l := []) trivial) (fn := Tryd.f83) (c := bodyOf Tryd.f83) (by kernel_rfl) (by kernel_rfl) (by kernel_rfl) (.eq (l := []) (by kernel_rfl) trivial) (shs := Himpl_versionAt_c1) (S := Simpl_versionAt_c1) (h1 := by kernel_rfl) fun R p k => ?_
  unfold Kimpl_versionAt_c1
  cases h : (PkS.un Simpl_versionAt_c1 p) with
  | none => rfl
  | some d =>
    obtain ⟨x0, x1, x2, u⟩ := (d : Int × Int × Int × Unit)
    have hp := PkS.un_pack h
    subst hp
    exact (eimpl_versionAt_c1  n x0 x1 x2 k).symm

/-! ### slices.IndexFunc[[]loop.example/g00269/impl.Item,loop.example/g00269/impl.Item] -/
theorem cslices_IndexFunc_impl_Item_impl_versionAt_c1 (n : Nat) : AllOk Tryd.prog [(83, Kimpl_versionAt_c1 @impl_versionAt_c1 n)] := ⟨okimpl_versionAt_c1 n, trivial⟩
@[reducible] def Sslices_IndexFunc_impl_Item_impl_versionAt_c1_l2 : PkS := ⟨[.one (.ro (.pr (.int .i64) (.int .i64))), .one (.fn 83 [((100000, 0), 0)]), .one (.int .i64), .one (.int .i64), .one (.dead), .one (.fn 83 [((100000, 0), 0)])], [((100000, 0), .box [.int .i64])]⟩
@[reducible] def Tslices_IndexFunc_impl_Item_impl_versionAt_c1_l2_0 : PkS := ⟨[.one (.int .i64), .one (.dead), .one (.fn 83 [((100000, 0), 0)])], [((100000, 0), .box [.int .i64])]⟩
@[reducible] def Tslices_IndexFunc_impl_Item_impl_versionAt_c1_l2_1 : PkS := ⟨[.one (.dead), .one (.fn 83 [((100000, 0), 0)])], [((100000, 0), .box [.int .i64])]⟩
def Dslices_IndexFunc_impl_Item_impl_versionAt_c1_l2 : LoopD := ⟨19, [0, 1, 7, 8], [.one (.ro (.pr (.int .i64) (.int .i64))), .fn 83 [[.any]], .one .any, .one .any, .skip, .fn 83 [[.any]]], fun x => match x with
  | .ret => some ([4], [.one .any, .skip, .fn 83 [[.any]]])
  | .exit 0 => some ([], [.skip, .fn 83 [[.any]]])
  | _ => none⟩
def Pslices_IndexFunc_impl_Item_impl_versionAt_c1_l2 (g : ∀ {R : Type}, Nat → (List (Int × Int)) → Int → Int → Int → (Int → Int → Option R) → (Int → Option R) → Option R) (n : Nat) : LPs := fun R q kk => match (PkS.un Sslices_IndexFunc_impl_Item_impl_versionAt_c1_l2 q : Option ((List (Int × Int)) × Int × Int × Int × Unit)) with
  | some (y2_0, y2_1, y2_2, y2_3, _) => g n y2_0 y2_1 y2_2 y2_3 (fun r0 r1 => kk .ret (PkS.pack Tslices_IndexFunc_impl_Item_impl_versionAt_c1_l2_0 (r0, r1, ()))) (fun r0 => kk (.exit 0) (PkS.pack Tslices_IndexFunc_impl_Item_impl_versionAt_c1_l2_1 (r0, ())))
  | none => none
theorem eslices_IndexFunc_impl_Item_impl_versionAt_c1_l2 (impl_versionAt_c1 : ∀ {R : Type}, Nat → Int → Int → Int → (Bool → Int → Option R) → Option R) (slices_IndexFunc_impl_Item_impl_versionAt_c1_l2 : ∀ {R : Type}, Nat → (List (Int × Int)) → Int → Int → Int → (Int → Int → Option R) → (Int → Option R) → Option R) {R : Type} (n : Nat) (y2_0 : List (Int × Int)) (y2_1 : Int) (y2_2 : Int) (y2_3 : Int) (kk : Ex → Pk → Option R) : Dslices_IndexFunc_impl_Item_impl_versionAt_c1_l2.step tt sig (mkK [(83, Kimpl_versionAt_c1 @impl_versionAt_c1 n)] R) (mkL (mkK [(83, Kimpl_versionAt_c1 @impl_versionAt_c1 n)]) [] R) (loopIn 2 (bodyOf Tryd.f82)) (fun q' => Pslices_IndexFunc_impl_Item_impl_versionAt_c1_l2 @slices_IndexFunc_impl_Item_impl_versionAt_c1_l2 n R q' kk) (PkS.pack Sslices_IndexFunc_impl_Item_impl_versionAt_c1_l2 (y2_0, y2_1, y2_2, y2_3, ())) kk = (fun (kret : Int → Int → Option R) (kexit0 : Int → Option R) => (bif (decide (y2_2 < y2_1)) then (bif decide (0 ≤ y2_2) then (bif decide (y2_2 < (y2_0.length : Int)) then (impl_versionAt_c1 n ((y2_0.getD (Int.toNat y2_2) (0, 0)).1) ((y2_0.getD (Int.toNat y2_2) (0, 0)).2) y2_3 fun r1 r2 => (bif r1 then kret y2_2 r2 else slices_IndexFunc_impl_Item_impl_versionAt_c1_l2 n y2_0 y2_1 (IntKind.wrap .i64 (y2_2 + 1)) r2 kret kexit0)) else none) else none) else kexit0 y2_3)) (fun r0 r1 => kk .ret (PkS.pack Tslices_IndexFunc_impl_Item_impl_versionAt_c1_l2_0 (r0, r1, ()))) (fun r0 => kk (.exit 0) (PkS.pack Tslices_IndexFunc_impl_Item_impl_versionAt_c1_l2_1 (r0, ()))) := by kernel_rfl
theorem leslices_IndexFunc_impl_Item_impl_versionAt_c1_l2 : LoopEq tt sig (fun n => mkK [(83, Kimpl_versionAt_c1 @impl_versionAt_c1 n)]) (fun n => mkL (mkK [(83, Kimpl_versionAt_c1 @impl_versionAt_c1 n)]) []) Dslices_IndexFunc_impl_Item_impl_versionAt_c1_l2 Sslices_IndexFunc_impl_Item_impl_versionAt_c1_l2 (loopIn 2 (bodyOf Tryd.f82)) (Pslices_IndexFunc_impl_Item_impl_versionAt_c1_l2 @slices_IndexFunc_impl_Item_impl_versionAt_c1_l2) where
  zero R q kk := by unfold Pslices_IndexFunc_impl_Item_impl_versionAt_c1_l2; cases (PkS.un Sslices_IndexFunc_impl_Item_impl_versionAt_c1_l2 q) <;> rfl
  succ n R q kk := by
    unfold Pslices_IndexFunc_impl_Item_impl_versionAt_c1_l2
    cases h : (PkS.un Sslices_IndexFunc_impl_Item_impl_versionAt_c1_l2 q) with
    | none => rfl
    | some d =>
      obtain ⟨y2_0, y2_1, y2_2, y2_3, u⟩ := (d : (List (Int × Int)) × Int × Int × Int × Unit)
      have hp := PkS.un_pack h
      subst hp
      exact (eslices_IndexFunc_impl_Item_impl_versionAt_c1_l2 @impl_versionAt_c1 @slices_IndexFunc_impl_Item_impl_versionAt_c1_l2 n y2_0 y2_1 y2_2 y2_3 kk).symm
theorem nlslices_IndexFunc_impl_Item_impl_versionAt_c1_l2 : ∀ n, NatLP (Pslices_IndexFunc_impl_Item_impl_versionAt_c1_l2 @slices_IndexFunc_impl_Item_impl_versionAt_c1_l2 n) := leslices_IndexFunc_impl_Item_impl_versionAt_c1_l2.nat (fun n => mkK_nat (cslices_IndexFunc_impl_Item_impl_versionAt_c1 n)) fun n => mkL_nat (mkK_nat (cslices_IndexFunc_impl_Item_impl_versionAt_c1 n)) (l := []) trivial
theorem inslices_IndexFunc_impl_Item_impl_versionAt_c1_l2 (n : Nat) (R : Type) : LoopsOk Tryd.prog (mkL (mkK [(83, Kimpl_versionAt_c1 @impl_versionAt_c1 n)]) [] R) (loopIn 2 (bodyOf Tryd.f82)) := .eq (l := []) (by kernel_rfl) trivial
theorem lkslices_IndexFunc_impl_Item_impl_versionAt_c1_l2 (n : Nat) (R : Type) (L0 : LK R) (h0 : ∀ id, firstRegion (loopIn 2 (bodyOf Tryd.f82)) = some id → L0 id = Dslices_IndexFunc_impl_Item_impl_versionAt_c1_l2.oracle (mkK [(83, Kimpl_versionAt_c1 @impl_versionAt_c1 n)] R) (Pslices_IndexFunc_impl_Item_impl_versionAt_c1_l2 @slices_IndexFunc_impl_Item_impl_versionAt_c1_l2 n R)) : LoopOk Tryd.prog L0 (loopIn 2 (bodyOf Tryd.f82)) :=
  leslices_IndexFunc_impl_Item_impl_versionAt_c1_l2.ok mixed ttok (fun n => mkK_nat (cslices_IndexFunc_impl_Item_impl_versionAt_c1 n)) (fun n => mkK_ok (cslices_IndexFunc_impl_Item_impl_versionAt_c1 n)) (fun n => inslices_IndexFunc_impl_Item_impl_versionAt_c1_l2 n R) (mkK_nat (cslices_IndexFunc_impl_Item_impl_versionAt_c1 n)) h0
@[reducible] def Sslices_IndexFunc_impl_Item_impl_versionAt_c1 : PkS := ⟨[.one (.ro (.pr (.int .i64) (.int .i64))), .one (.fn 83 [((200000, 0), 0)])], [((200000, 0), .box [.int .i64])]⟩
@[reducible] def Tslices_IndexFunc_impl_Item_impl_versionAt_c1 : PkS := ⟨[.one (.int .i64), .one (.dead), .one (.fn 83 [((300000, 0), 0)])], [((300000, 0), .box [.int .i64])]⟩
def Hslices_IndexFunc_impl_Item_impl_versionAt_c1 : List Sh := [.one .any, .skip, .fn 83 [[.any]]]
def Kslices_IndexFunc_impl_Item_impl_versionAt_c1 (g : ∀ {R : Type}, Nat → (List (Int × Int)) → Int → (Int → Int → Option R) → Option R) (n : Nat) : KPs := fun R p k => match (PkS.un Sslices_IndexFunc_impl_Item_impl_versionAt_c1 p : Option ((List (Int × Int)) × Int × Unit)) with
  | some (x0, x1, _) => g n x0 x1 (fun r0 r1 => k (PkS.pack Tslices_IndexFunc_impl_Item_impl_versionAt_c1 (r0, r1, ())))
  | none => none
theorem eslices_IndexFunc_impl_Item_impl_versionAt_c1 (impl_versionAt_c1 : ∀ {R : Type}, Nat → Int → Int → Int → (Bool → Int → Option R) → Option R) (slices_IndexFunc_impl_Item_impl_versionAt_c1_l2 : ∀ {R : Type}, Nat → (List (Int × Int)) → Int → Int → Int → (Int → Int → Option R) → (Int → Option R) → Option R) {R : Type} (n : Nat) (x0 : List (Int × Int)) (x1 : Int) (k : Pk → Option R) : evF tt sig (mkK [(83, Kimpl_versionAt_c1 @impl_versionAt_c1 n)] R) (mkL (mkK [(83, Kimpl_versionAt_c1 @impl_versionAt_c1 n)]) [(2, Dslices_IndexFunc_impl_Item_impl_versionAt_c1_l2, Pslices_IndexFunc_impl_Item_impl_versionAt_c1_l2 @slices_IndexFunc_impl_Item_impl_versionAt_c1_l2 n)] R) Tryd.f82 Hslices_IndexFunc_impl_Item_impl_versionAt_c1 (PkS.pack Sslices_IndexFunc_impl_Item_impl_versionAt_c1 (x0, x1, ())) k = (fun (k : Int → Int → Option R) => (slices_IndexFunc_impl_Item_impl_versionAt_c1_l2 n x0 (x0.length : Int) 0 x1 (fun r3 r4 => k r3 r4) (fun r5 => k (-1) r5))) (fun r0 r1 => k (PkS.pack Tslices_IndexFunc_impl_Item_impl_versionAt_c1 (r0, r1, ()))) := by kernel_rfl
theorem okslices_IndexFunc_impl_Item_impl_versionAt_c1 (n : Nat) : FnOk Tryd.prog 82 (Kslices_IndexFunc_impl_Item_impl_versionAt_c1 @slices_IndexFunc_impl_Item_impl_versionAt_c1 n) := by
  refine fn_ok (sig := sig) mixed ttok (mkK_nat (cslices_IndexFunc_impl_Item_impl_versionAt_c1 n)) (mkK_ok (cslices_IndexFunc_impl_Item_impl_versionAt_c1 n)) (mkL_nat (mkK_nat (cslices_IndexFunc_impl_Item_impl_versionAt_c1 n)) (l := [(2, Dslices_IndexFunc_impl_Item_impl_versionAt_c1_l2, Pslices_IndexFunc_impl_Item_impl_versionAt_c1_l2 @slices_IndexFunc_impl_Item_impl_versionAt_c1_l2 n)]) ⟨nlslices_IndexFunc_impl_Item_impl_versionAt_c1_l2 n, trivial⟩) (fn := Tryd.f82) (c := bodyOf Tryd.f82) (by kernel_rfl) (by kernel_rfl) (by kernel_rfl) (.eq (l := [.lo (loopIn 2 (bodyOf Tryd.f82))]) (by kernel_rfl) ⟨(lkslices_IndexFunc_impl_Item_impl_versionAt_c1_l2 n _ _ (at_id (i := 2) (by kernel_rfl) rfl)), trivial⟩) (shs := Hslices_IndexFunc_impl_Item_impl_versionAt_c1) (S := Sslices_IndexFunc_impl_Item_impl_versionAt_c1) (h1 := by kernel_rfl) fun R p k => ?_
  unfold Kslices_IndexFunc_impl_Item_impl_versionAt_c1
  cases h : (PkS.un Sslices_IndexFunc_impl_Item_impl_versionAt_c1 p) with
  | none => rfl
  | some d =>
    obtain ⟨x0, x1, u⟩ := (d : (List (Int × Int)) × Int × Unit)
    have hp := PkS.un_pack h
    subst hp
    exact (eslices_IndexFunc_impl_Item_impl_versionAt_c1 @impl_versionAt_c1 @slices_IndexFunc_impl_Item_impl_versionAt_c1_l2 n x0 x1 k).symm

/-! ### loop.example/g00269/impl.versionAt -/
theorem cimpl_versionAt (n : Nat) : AllOk Tryd.prog [(82, Kslices_IndexFunc_impl_Item_impl_versionAt_c1 @slices_IndexFunc_impl_Item_impl_versionAt_c1 n)] := ⟨okslices_IndexFunc_impl_Item_impl_versionAt_c1 n, trivial⟩
@[reducible] def Simpl_versionAt : PkS := ⟨[.one (.ro (.pr (.int .i64) (.int .i64))), .one (.int .i64)], []⟩
@[reducible] def Timpl_versionAt : PkS := ⟨[.one (.int .i64), .one (.dead), .one (.dead)], []⟩
def Himpl_versionAt : List Sh := [.one .any, .skip, .skip]
def Kimpl_versionAt (g : ∀ {R : Type}, Nat → (List (Int × Int)) → Int → (Int → Option R) → Option R) (n : Nat) : KPs := fun R p k => match (PkS.un Simpl_versionAt p : Option ((List (Int × Int)) × Int × Unit)) with
  | some (x0, x1, _) => g n x0 x1 (fun r0 => k (PkS.pack Timpl_versionAt (r0, ())))
  | none => none
theorem eimpl_versionAt (slices_IndexFunc_impl_Item_impl_versionAt_c1 : ∀ {R : Type}, Nat → (List (Int × Int)) → Int → (Int → Int → Option R) → Option R) {R : Type} (n : Nat) (x0 : List (Int × Int)) (x1 : Int) (k : Pk → Option R) : evF tt sig (mkK [(82, Kslices_IndexFunc_impl_Item_impl_versionAt_c1 @slices_IndexFunc_impl_Item_impl_versionAt_c1 n)] R) (mkL (mkK [(82, Kslices_IndexFunc_impl_Item_impl_versionAt_c1 @slices_IndexFunc_impl_Item_impl_versionAt_c1 n)]) [] R) Tryd.f55 Himpl_versionAt (PkS.pack Simpl_versionAt (x0, x1, ())) k = (fun (k : Int → Option R) => (slices_IndexFunc_impl_Item_impl_versionAt_c1 n x0 x1 fun r1 r2 => (bif decide (0 ≤ r1) then (bif decide (r1 < (x0.length : Int)) then k ((x0.getD (Int.toNat r1) (0, 0)).2) else none) else none))) (fun r0 => k (PkS.pack Timpl_versionAt (r0, ()))) := by kernel_rfl
theorem okimpl_versionAt (n : Nat) : FnOk Tryd.prog 55 (Kimpl_versionAt @impl_versionAt n) := by
  refine fn_ok (sig := sig) mixed ttok (mkK_nat (cimpl_versionAt n)) (mkK_ok (cimpl_versionAt n)) (mkL_nat (mkK_nat (cimpl_versionAt n)) (l := []) trivial) (fn := Tryd.f55) (c := bodyOf Tryd.f55) (by kernel_rfl) (by kernel_rfl) (by kernel_rfl) (.eq (l := []) (by kernel_rfl) trivial) (shs := Himpl_versionAt) (S := Simpl_versionAt) (h1 := by kernel_rfl) fun R p k => ?_
  unfold Kimpl_versionAt
  cases h : (PkS.un Simpl_versionAt p) with
  | none => rfl
  | some d =>
    obtain ⟨x0, x1, u⟩ := (d : (List (Int × Int)) × Int × Unit)
    have hp := PkS.un_pack h
    subst hp
    exact (eimpl_versionAt @slices_IndexFunc_impl_Item_impl_versionAt_c1 n x0 x1 k).symm

/-! ### loop.example/g00269/impl.VersionAt -/
theorem cimpl_VersionAt (n : Nat) : AllOk Tryd.prog [(22, Kimpl_GoodItems @impl_GoodItems n), (54, Kimpl_last @impl_last n), (53, Kimpl_in @impl_in n), (55, Kimpl_versionAt @impl_versionAt n)] := ⟨okimpl_GoodItems n, ⟨okimpl_last n, ⟨okimpl_in n, ⟨okimpl_versionAt n, trivial⟩⟩⟩⟩
@[reducible] def Simpl_VersionAt : PkS := ⟨[.one (.ro (.pr (.int .i64) (.int .i64))), .one (.int .i64)], []⟩
@[reducible] def Timpl_VersionAt : PkS := ⟨[.tup [(false, [.int .i64]), (false, [.bool])], .one (.dead), .one (.dead)], []⟩
def Himpl_VersionAt : List Sh := [.tup [(false, [.any]), (false, [.any])], .skip, .skip]
def Kimpl_VersionAt (g : ∀ {R : Type}, Nat → (List (Int × Int)) → Int → (Int → Bool → Option R) → Option R) (n : Nat) : KPs := fun R p k => match (PkS.un Simpl_VersionAt p : Option ((List (Int × Int)) × Int × Unit)) with
  | some (x0, x1, _) => g n x0 x1 (fun r0 r1 => k (PkS.pack Timpl_VersionAt (r0, r1, ())))
  | none => none
theorem eimpl_VersionAt (impl_GoodItems : ∀ {R : Type}, Nat → (List (Int × Int)) → (Bool → Option R) → Option R) (impl_last : ∀ {R : Type}, Nat → (List (Int × Int)) → (Int → Option R) → Option R) (impl_in : ∀ {R : Type}, Nat → Int → Int → Int → (Bool → Option R) → Option R) (impl_versionAt : ∀ {R : Type}, Nat → (List (Int × Int)) → Int → (Int → Option R) → Option R) {R : Type} (n : Nat) (x0 : List (Int × Int)) (x1 : Int) (k : Pk → Option R) : evF tt sig (mkK [(22, Kimpl_GoodItems @impl_GoodItems n), (54, Kimpl_last @impl_last n), (53, Kimpl_in @impl_in n), (55, Kimpl_versionAt @impl_versionAt n)] R) (mkL (mkK [(22, Kimpl_GoodItems @impl_GoodItems n), (54, Kimpl_last @impl_last n), (53, Kimpl_in @impl_in n), (55, Kimpl_versionAt @impl_versionAt n)]) [] R) Tryd.f20 Himpl_VersionAt (PkS.pack Simpl_VersionAt (x0, x1, ())) k = (fun (k : Int → Bool → Option R) => (impl_GoodItems n x0 fun r1 => (bif (!r1) then k 0 false else (impl_last n x0 fun r2 => (impl_in n x1 1 r2 fun r3 => (bif (!r3) then k 0 false else (impl_versionAt n x0 x1 fun r4 => k r4 true))))))) (fun r0 r1 => k (PkS.pack Timpl_VersionAt (r0, r1, ()))) := by kernel_rfl
theorem okimpl_VersionAt (n : Nat) : FnOk Tryd.prog 20 (Kimpl_VersionAt @impl_VersionAt n) := by
  refine fn_ok (sig := sig) mixed ttok (mkK_nat (cimpl_VersionAt n)) (mkK_ok (cimpl_VersionAt n)) (mkL_nat (mkK_nat (cimpl_VersionAt n)) (l := []) trivial) (fn := Tryd.f20) (c := bodyOf Tryd.f20) (by kernel_rfl) (by kernel_rfl) (by kernel_rfl) (.eq (l := []) (by kernel_rfl) trivial) (shs := Himpl_VersionAt) (S := Simpl_VersionAt) (h1 := by kernel_rfl) fun R p k => ?_
  unfold Kimpl_VersionAt
  cases h : (PkS.un Simpl_VersionAt p) with
  | none => rfl
  | some d =>
    obtain ⟨x0, x1, u⟩ := (d : (List (Int × Int)) × Int × Unit)
    have hp := PkS.un_pack h
    subst hp
    exact (eimpl_VersionAt @impl_GoodItems @impl_last @impl_in @impl_versionAt n x0 x1 k).symm

/-! ### loop.example/g00269/impl.AppendItem -/
theorem cimpl_AppendItem (n : Nat) : AllOk Tryd.prog [(22, Kimpl_GoodItems @impl_GoodItems n), (46, Kimpl_appended @impl_appended n)] := ⟨okimpl_GoodItems n, ⟨okimpl_appended n, trivial⟩⟩
@[reducible] def Simpl_AppendItem : PkS := ⟨[.one (.ro (.pr (.int .i64) (.int .i64))), .one (.int .i64), .one (.int .i64)], []⟩
@[reducible] def Timpl_AppendItem : PkS := ⟨[.tup [(false, [.whole (300000, 0)]), (false, [.bool])], .one (.dead), .one (.dead), .one (.dead)], [((300000, 0), .arr (.pr (.int .i64) (.int .i64)))]⟩
def Himpl_AppendItem : List Sh := [.tup [(false, [(.own (.pr (.int .i64) (.int .i64)))]), (false, [.any])], .skip, .skip, .skip]
def Kimpl_AppendItem (g : ∀ {R : Type}, Nat → (List (Int × Int)) → Int → Int → (Bool → (List (Int × Int)) → Option R) → Option R) (n : Nat) : KPs := fun R p k => match (PkS.un Simpl_AppendItem p : Option ((List (Int × Int)) × Int × Int × Unit)) with
  | some (x0, x1, x2, _) => g n x0 x1 x2 (fun r0 r1 => k (PkS.pack Timpl_AppendItem (r0, r1, ())))
  | none => none
theorem eimpl_AppendItem (impl_GoodItems : ∀ {R : Type}, Nat → (List (Int × Int)) → (Bool → Option R) → Option R) (impl_appended : ∀ {R : Type}, Nat → (List (Int × Int)) → Int → Int → (Bool → (List (Int × Int)) → Option R) → Option R) {R : Type} (n : Nat) (x0 : List (Int × Int)) (x1 : Int) (x2 : Int) (k : Pk → Option R) : evF tt sig (mkK [(22, Kimpl_GoodItems @impl_GoodItems n), (46, Kimpl_appended @impl_appended n)] R) (mkL (mkK [(22, Kimpl_GoodItems @impl_GoodItems n), (46, Kimpl_appended @impl_appended n)]) [] R) Tryd.f21 Himpl_AppendItem (PkS.pack Simpl_AppendItem (x0, x1, x2, ())) k = (fun (k : Bool → (List (Int × Int)) → Option R) => (impl_GoodItems n x0 fun r1 => (bif (!r1) then k false ([] : List (Int × Int)) else (impl_appended n x0 x1 x2 fun r2 r3 => (bif (!r2) then k false ([] : List (Int × Int)) else k true r3))))) (fun r0 r1 => k (PkS.pack Timpl_AppendItem (r0, r1, ()))) := by kernel_rfl
theorem okimpl_AppendItem (n : Nat) : FnOk Tryd.prog 21 (Kimpl_AppendItem @impl_AppendItem n) := by
  refine fn_ok (sig := sig) mixed ttok (mkK_nat (cimpl_AppendItem n)) (mkK_ok (cimpl_AppendItem n)) (mkL_nat (mkK_nat (cimpl_AppendItem n)) (l := []) trivial) (fn := Tryd.f21) (c := bodyOf Tryd.f21) (by kernel_rfl) (by kernel_rfl) (by kernel_rfl) (.eq (l := []) (by kernel_rfl) trivial) (shs := Himpl_AppendItem) (S := Simpl_AppendItem) (h1 := by kernel_rfl) fun R p k => ?_
  unfold Kimpl_AppendItem
  cases h : (PkS.un Simpl_AppendItem p) with
  | none => rfl
  | some d =>
    obtain ⟨x0, x1, x2, u⟩ := (d : (List (Int × Int)) × Int × Int × Unit)
    have hp := PkS.un_pack h
    subst hp
    exact (eimpl_AppendItem @impl_GoodItems @impl_appended n x0 x1 x2 k).symm

/-! ### (*loop.example/g00269/spec.l1Cur).among -/
theorem cspec_l1Cur_among (n : Nat) : AllOk Tryd.prog [(51, Kspec_l1Cur_pick @spec_l1Cur_pick n)] := ⟨okspec_l1Cur_pick n, trivial⟩
@[reducible] def Sspec_l1Cur_among : PkS := ⟨[.one (.box (200000, 0) 0), .one (.ro (.int .i64))], [((200000, 0), .box [.ro (.int .u8), .int .i64, .int .u64])]⟩
@[reducible] def Tspec_l1Cur_among : PkS := ⟨[.one (.int .i64), .one (.box (300000, 0) 0), .one (.dead)], [((300000, 0), .box [.ro (.int .u8), .int .i64, .int .u64])]⟩
def Hspec_l1Cur_among : List Sh := [.one .any, .box [(.ro (.int .u8)), .any, .any], .skip]
def Kspec_l1Cur_among (g : ∀ {R : Type}, Nat → (List Int) → (List Int) → Int → Int → (Int → (List Int) → Int → Int → Option R) → Option R) (n : Nat) : KPs := fun R p k => match (PkS.un Sspec_l1Cur_among p : Option ((List Int) × (List Int) × Int × Int × Unit)) with
  | some (x0, x1, x2, x3, _) => g n x0 x1 x2 x3 (fun r0 r1 r2 r3 => k (PkS.pack Tspec_l1Cur_among (r0, r1, r2, r3, ())))
  | none => none
theorem espec_l1Cur_among (spec_l1Cur_pick : ∀ {R : Type}, Nat → Int → (List Int) → Int → Int → (Int → (List Int) → Int → Int → Option R) → Option R) {R : Type} (n : Nat) (x0 : List Int) (x1 : List Int) (x2 : Int) (x3 : Int) (k : Pk → Option R) : evF tt sig (mkK [(51, Kspec_l1Cur_pick @spec_l1Cur_pick n)] R) (mkL (mkK [(51, Kspec_l1Cur_pick @spec_l1Cur_pick n)]) [] R) Tryd.f84 Hspec_l1Cur_among (PkS.pack Sspec_l1Cur_among (x0, x1, x2, x3, ())) k = (fun (k : Int → (List Int) → Int → Int → Option R) => (spec_l1Cur_pick n (x0.length : Int) x1 x2 x3 fun r1 r2 r3 r4 => (bif decide (0 ≤ r1) then (bif decide (r1 < (x0.length : Int)) then k (x0.getD (Int.toNat r1) 0) r2 r3 r4 else none) else none))) (fun r0 r1 r2 r3 => k (PkS.pack Tspec_l1Cur_among (r0, r1, r2, r3, ()))) := by kernel_rfl
theorem okspec_l1Cur_among (n : Nat) : FnOk Tryd.prog 84 (Kspec_l1Cur_among @spec_l1Cur_among n) := by
  refine fn_ok (sig := sig) mixed ttok (mkK_nat (cspec_l1Cur_among n)) (mkK_ok (cspec_l1Cur_among n)) (mkL_nat (mkK_nat (cspec_l1Cur_among n)) (l := []) trivial) (fn := Tryd.f84) (c := bodyOf Tryd.f84) (by kernel_rfl) (by kernel_rfl) (by kernel_rfl) (.eq (l := []) (by kernel_rfl) trivial) (shs := Hspec_l1Cur_among) (S := Sspec_l1Cur_among) (h1 := by kernel_rfl) fun R p k => ?_
  unfold Kspec_l1Cur_among
  cases h : (PkS.un Sspec_l1Cur_among p) with
  | none => rfl
  | some d =>
    obtain ⟨x0, x1, x2, x3, u⟩ := (d : (List Int) × (List Int) × Int × Int × Unit)
    have hp := PkS.un_pack h
    subst hp
    exact (espec_l1Cur_among @spec_l1Cur_pick n x0 x1 x2 x3 k).symm

/-! ### (*loop.example/g00269/spec.l1Cur).items -/
theorem cspec_l1Cur_items (n : Nat) : AllOk Tryd.prog [(51, Kspec_l1Cur_pick @spec_l1Cur_pick n), (52, Kspec_l1Cur_one @spec_l1Cur_one n), (84, Kspec_l1Cur_among @spec_l1Cur_among n)] := ⟨okspec_l1Cur_pick n, ⟨okspec_l1Cur_one n, ⟨okspec_l1Cur_among n, trivial⟩⟩⟩
@[reducible] def Sspec_l1Cur_items_l7 : PkS := ⟨[.one (.box (100000, 0) 0), .one (.whole (100000, 1)), .one (.int .i64), .one (.int .i64), .one (.int .i64), .one (.box (100000, 0) 0)], [((100000, 0), .box [.ro (.int .u8), .int .i64, .int .u64]), ((100000, 1), .arr (.pr (.int .i64) (.int .i64)))]⟩
@[reducible] def Tspec_l1Cur_items_l7_0 : PkS := ⟨[.one (.box (100000, 0) 0), .one (.whole (100000, 1)), .one (.box (100000, 0) 0)], [((100000, 0), .box [.ro (.int .u8), .int .i64, .int .u64]), ((100000, 1), .arr (.pr (.int .i64) (.int .i64)))]⟩
def Dspec_l1Cur_items_l7 : LoopD := ⟨50, [0, 3, 4, 5, 6], [.box [(.ro (.int .u8)), .any, .any], .one (.own (.pr (.int .i64) (.int .i64))), .one .any, .one .any, .one .any, .box [(.ro (.int .u8)), .any, .any]], fun x => match x with
  | .exit 0 => some ([0, 3], [.box [(.ro (.int .u8)), .any, .any], .one (.own (.pr (.int .i64) (.int .i64))), .box [(.ro (.int .u8)), .any, .any]])
  | _ => none⟩
def Pspec_l1Cur_items_l7 (g : ∀ {R : Type}, Nat → Int → Int → Int → (List Int) → Int → Int → (List (Int × Int)) → ((List Int) → Int → Int → (List (Int × Int)) → Option R) → Option R) (n : Nat) : LPs := fun R q kk => match (PkS.un Sspec_l1Cur_items_l7 q : Option (Int × Int × Int × (List Int) × Int × Int × (List (Int × Int)) × Unit)) with
  | some (y7_0, y7_1, y7_2, y7_3, y7_4, y7_5, y7_6, _) => g n y7_0 y7_1 y7_2 y7_3 y7_4 y7_5 y7_6 (fun r0 r1 r2 r3 => kk (.exit 0) (PkS.pack Tspec_l1Cur_items_l7_0 (r0, r1, r2, r3, ())))
  | none => none
theorem espec_l1Cur_items_l7 (spec_l1Cur_pick : ∀ {R : Type}, Nat → Int → (List Int) → Int → Int → (Int → (List Int) → Int → Int → Option R) → Option R) (spec_l1Cur_one : ∀ {R : Type}, Nat → Int → (List Int) → Int → Int → (Bool → (List Int) → Int → Int → Option R) → Option R) (spec_l1Cur_among : ∀ {R : Type}, Nat → (List Int) → (List Int) → Int → Int → (Int → (List Int) → Int → Int → Option R) → Option R) (spec_l1Cur_items_l7 : ∀ {R : Type}, Nat → Int → Int → Int → (List Int) → Int → Int → (List (Int × Int)) → ((List Int) → Int → Int → (List (Int × Int)) → Option R) → Option R) {R : Type} (n : Nat) (y7_0 : Int) (y7_1 : Int) (y7_2 : Int) (y7_3 : List Int) (y7_4 : Int) (y7_5 : Int) (y7_6 : List (Int × Int)) (kk : Ex → Pk → Option R) : Dspec_l1Cur_items_l7.step tt sig (mkK [(51, Kspec_l1Cur_pick @spec_l1Cur_pick n), (52, Kspec_l1Cur_one @spec_l1Cur_one n), (84, Kspec_l1Cur_among @spec_l1Cur_among n)] R) (mkL (mkK [(51, Kspec_l1Cur_pick @spec_l1Cur_pick n), (52, Kspec_l1Cur_one @spec_l1Cur_one n), (84, Kspec_l1Cur_among @spec_l1Cur_among n)]) [] R) (loopIn 7 (bodyOf Tryd.f57)) (fun q' => Pspec_l1Cur_items_l7 @spec_l1Cur_items_l7 n R q' kk) (PkS.pack Sspec_l1Cur_items_l7 (y7_0, y7_1, y7_2, y7_3, y7_4, y7_5, y7_6, ())) kk = (fun (kexit0 : (List Int) → Int → Int → (List (Int × Int)) → Option R) => (bif (decide (y7_2 > 0)) then (spec_l1Cur_pick n 4 y7_3 y7_4 y7_5 fun r17 r18 r19 r20 => (bif decide (y7_6.length + ([((IntKind.wrap .i64 (y7_0 + (IntKind.wrap .i64 (1 + r17)))), y7_1)]).length ≤ LIM) then (spec_l1Cur_pick n 3 r18 r19 r20 fun r21 r22 r23 r24 => spec_l1Cur_items_l7 n (IntKind.wrap .i64 (y7_0 + (IntKind.wrap .i64 (1 + r17)))) (IntKind.wrap .i64 (y7_1 + (IntKind.wrap .i64 (1 + r21)))) (IntKind.wrap .i64 (y7_2 - 1)) r22 r23 r24 (y7_6 ++ [((IntKind.wrap .i64 (y7_0 + (IntKind.wrap .i64 (1 + r17)))), y7_1)]) kexit0) else none)) else kexit0 y7_3 y7_4 y7_5 y7_6)) (fun r0 r1 r2 r3 => kk (.exit 0) (PkS.pack Tspec_l1Cur_items_l7_0 (r0, r1, r2, r3, ()))) := by kernel_rfl
theorem lespec_l1Cur_items_l7 : LoopEq tt sig (fun n => mkK [(51, Kspec_l1Cur_pick @spec_l1Cur_pick n), (52, Kspec_l1Cur_one @spec_l1Cur_one n), (84, Kspec_l1Cur_among @spec_l1Cur_among n)]) (fun n => mkL (mkK [(51, Kspec_l1Cur_pick @spec_l1Cur_pick n), (52, Kspec_l1Cur_one @spec_l1Cur_one n), (84, Kspec_l1Cur_among @spec_l1Cur_among n)]) []) Dspec_l1Cur_items_l7 Sspec_l1Cur_items_l7 (loopIn 7 (bodyOf Tryd.f57)) (Pspec_l1Cur_items_l7 @spec_l1Cur_items_l7) where
  zero R q kk := by unfold Pspec_l1Cur_items_l7; cases (PkS.un Sspec_l1Cur_items_l7 q) <;> rfl
  succ n R q kk := by
    unfold Pspec_l1Cur_items_l7
    cases h : (PkS.un Sspec_l1Cur_items_l7 q) with
    | none => rfl
    | some d =>
      obtain ⟨y7_0, y7_1, y7_2, y7_3, y7_4, y7_5, y7_6, u⟩ := (d : Int × Int × Int × (List Int) × Int × Int × (List (Int × Int)) × Unit)
      have hp := PkS.un_pack h
      subst hp
      exact (espec_l1Cur_items_l7 @spec_l1Cur_pick @spec_l1Cur_one @spec_l1Cur_among @spec_l1Cur_items_l7 n y7_0 y7_1 y7_2 y7_3 y7_4 y7_5 y7_6 kk).symm
theorem nlspec_l1Cur_items_l7 : ∀ n, NatLP (Pspec_l1Cur_items_l7 @spec_l1Cur_items_l7 n) := lespec_l1Cur_items_l7.nat (fun n => mkK_nat (cspec_l1Cur_items n)) fun n => mkL_nat (mkK_nat (cspec_l1Cur_items n)) (l := []) trivial
theorem inspec_l1Cur_items_l7 (n : Nat) (R : Type) : LoopsOk Tryd.prog (mkL (mkK [(51, Kspec_l1Cur_pick @spec_l1Cur_pick n), (52, Kspec_l1Cur_one @spec_l1Cur_one n), (84, Kspec_l1Cur_among @spec_l1Cur_among n)]) [] R) (loopIn 7 (bodyOf Tryd.f57)) := .eq (l := []) (by kernel_rfl) trivial
theorem lkspec_l1Cur_items_l7 (n : Nat) (R : Type) (L0 : LK R) (h0 : ∀ id, firstRegion (loopIn 7 (bodyOf Tryd.f57)) = some id → L0 id = Dspec_l1Cur_items_l7.oracle (mkK [(51, Kspec_l1Cur_pick @spec_l1Cur_pick n), (52, Kspec_l1Cur_one @spec_l1Cur_one n), (84, Kspec_l1Cur_among @spec_l1Cur_among n)] R) (Pspec_l1Cur_items_l7 @spec_l1Cur_items_l7 n R)) : LoopOk Tryd.prog L0 (loopIn 7 (bodyOf Tryd.f57)) :=
  lespec_l1Cur_items_l7.ok mixed ttok (fun n => mkK_nat (cspec_l1Cur_items n)) (fun n => mkK_ok (cspec_l1Cur_items n)) (fun n => inspec_l1Cur_items_l7 n R) (mkK_nat (cspec_l1Cur_items n)) h0
@[reducible] def Sspec_l1Cur_items : PkS := ⟨[.one (.box (200000, 0) 0)], [((200000, 0), .box [.ro (.int .u8), .int .i64, .int .u64])]⟩
@[reducible] def Tspec_l1Cur_items : PkS := ⟨[.one (.whole (300000, 0)), .one (.box (300000, 1) 0)], [((300000, 0), .arr (.pr (.int .i64) (.int .i64))), ((300000, 1), .box [.ro (.int .u8), .int .i64, .int .u64])]⟩
def Hspec_l1Cur_items : List Sh := [.one (.own (.pr (.int .i64) (.int .i64))), .box [(.ro (.int .u8)), .any, .any]]
def Kspec_l1Cur_items (g : ∀ {R : Type}, Nat → (List Int) → Int → Int → ((List (Int × Int)) → (List Int) → Int → Int → Option R) → Option R) (n : Nat) : KPs := fun R p k => match (PkS.un Sspec_l1Cur_items p : Option ((List Int) × Int × Int × Unit)) with
  | some (x0, x1, x2, _) => g n x0 x1 x2 (fun r0 r1 r2 r3 => k (PkS.pack Tspec_l1Cur_items (r0, r1, r2, r3, ())))
  | none => none
theorem espec_l1Cur_items (spec_l1Cur_pick : ∀ {R : Type}, Nat → Int → (List Int) → Int → Int → (Int → (List Int) → Int → Int → Option R) → Option R) (spec_l1Cur_one : ∀ {R : Type}, Nat → Int → (List Int) → Int → Int → (Bool → (List Int) → Int → Int → Option R) → Option R) (spec_l1Cur_among : ∀ {R : Type}, Nat → (List Int) → (List Int) → Int → Int → (Int → (List Int) → Int → Int → Option R) → Option R) (spec_l1Cur_items_l7 : ∀ {R : Type}, Nat → Int → Int → Int → (List Int) → Int → Int → (List (Int × Int)) → ((List Int) → Int → Int → (List (Int × Int)) → Option R) → Option R) {R : Type} (n : Nat) (x0 : List Int) (x1 : Int) (x2 : Int) (k : Pk → Option R) : evF tt sig (mkK [(51, Kspec_l1Cur_pick @spec_l1Cur_pick n), (52, Kspec_l1Cur_one @spec_l1Cur_one n), (84, Kspec_l1Cur_among @spec_l1Cur_among n)] R) (mkL (mkK [(51, Kspec_l1Cur_pick @spec_l1Cur_pick n), (52, Kspec_l1Cur_one @spec_l1Cur_one n), (84, Kspec_l1Cur_among @spec_l1Cur_among n)]) [(7, Dspec_l1Cur_items_l7, Pspec_l1Cur_items_l7 @spec_l1Cur_items_l7 n)] R) Tryd.f57 Hspec_l1Cur_items (PkS.pack Sspec_l1Cur_items (x0, x1, x2, ())) k = (fun (k : (List (Int × Int)) → (List Int) → Int → Int → Option R) => (spec_l1Cur_pick n 3 x0 x1 x2 fun r1 r2 r3 r4 => (spec_l1Cur_pick n 5 r2 r3 r4 fun r5 r6 r7 r8 => (spec_l1Cur_one n 20 r6 r7 r8 fun r9 r10 r11 r12 => (bif r9 then (spec_l1Cur_pick n 2 r10 r11 r12 fun r13 r14 r15 r16 => (spec_l1Cur_items_l7 n 0 r1 (IntKind.wrap .i64 (20 + r13)) r14 r15 r16 ([] : List (Int × Int)) (fun r25 r26 r27 r28 => (bif (decide ((r28.length : Int) > 0)) then (spec_l1Cur_one n 30 r25 r26 r27 fun r29 r30 r31 r32 => (bif r29 then (spec_l1Cur_among n ([0, 5, 1001]) r30 r31 r32 fun r33 r34 r35 r36 => (bif decide (0 < (r28.length : Int)) then k (r28.set 0 (r33, (r28.getD 0 (0, 0)).2)) r34 r35 r36 else none)) else k r28 r30 r31 r32)) else k r28 r25 r26 r27)))) else (spec_l1Cur_items_l7 n 0 r1 r5 r10 r11 r12 ([] : List (Int × Int)) (fun r37 r38 r39 r40 => (bif (decide ((r40.length : Int) > 0)) then (spec_l1Cur_one n 30 r37 r38 r39 fun r41 r42 r43 r44 => (bif r41 then (spec_l1Cur_among n ([0, 5, 1001]) r42 r43 r44 fun r45 r46 r47 r48 => (bif decide (0 < (r40.length : Int)) then k (r40.set 0 (r45, (r40.getD 0 (0, 0)).2)) r46 r47 r48 else none)) else k r40 r42 r43 r44)) else k r40 r37 r38 r39)))))))) (fun r0 r1 r2 r3 => k (PkS.pack Tspec_l1Cur_items (r0, r1, r2, r3, ()))) := by kernel_rfl
theorem okspec_l1Cur_items (n : Nat) : FnOk Tryd.prog 57 (Kspec_l1Cur_items @spec_l1Cur_items n) := by
  refine fn_ok (sig := sig) mixed ttok (mkK_nat (cspec_l1Cur_items n)) (mkK_ok (cspec_l1Cur_items n)) (mkL_nat (mkK_nat (cspec_l1Cur_items n)) (l := [(7, Dspec_l1Cur_items_l7, Pspec_l1Cur_items_l7 @spec_l1Cur_items_l7 n)]) ⟨nlspec_l1Cur_items_l7 n, trivial⟩) (fn := Tryd.f57) (c := bodyOf Tryd.f57) (by kernel_rfl) (by kernel_rfl) (by kernel_rfl) (.eq (l := [.lo (loopIn 7 (bodyOf Tryd.f57))]) (by kernel_rfl) ⟨(lkspec_l1Cur_items_l7 n _ _ (at_id (i := 7) (by kernel_rfl) rfl)), trivial⟩) (shs := Hspec_l1Cur_items) (S := Sspec_l1Cur_items) (h1 := by kernel_rfl) fun R p k => ?_
  unfold Kspec_l1Cur_items
  cases h : (PkS.un Sspec_l1Cur_items p) with
  | none => rfl
  | some d =>
    obtain ⟨x0, x1, x2, u⟩ := (d : (List Int) × Int × Int × Unit)
    have hp := PkS.un_pack h
    subst hp
    exact (espec_l1Cur_items @spec_l1Cur_pick @spec_l1Cur_one @spec_l1Cur_among @spec_l1Cur_items_l7 n x0 x1 x2 k).symm

/-! ### loop.example/g00269/spec.l11Last -/
theorem cspec_l11Last (n : Nat) : AllOk Tryd.prog [] := trivial
@[reducible] def Sspec_l11Last : PkS := ⟨[.one (.ro (.pr (.int .i64) (.int .i64)))], []⟩
@[reducible] def Tspec_l11Last : PkS := ⟨[.one (.int .i64), .one (.dead)], []⟩
def Hspec_l11Last : List Sh := [.one .any, .skip]
def Kspec_l11Last (g : ∀ {R : Type}, Nat → (List (Int × Int)) → (Int → Option R) → Option R) (n : Nat) : KPs := fun R p k => match (PkS.un Sspec_l11Last p : Option ((List (Int × Int)) × Unit)) with
  | some (x0, _) => g n x0 (fun r0 => k (PkS.pack Tspec_l11Last (r0, ())))
  | none => none
theorem espec_l11Last  {R : Type} (n : Nat) (x0 : List (Int × Int)) (k : Pk → Option R) : evF tt sig (mkK [] R) (mkL (mkK []) [] R) Tryd.f58 Hspec_l11Last (PkS.pack Sspec_l11Last (x0, ())) k = (fun (k : Int → Option R) => (bif ((x0.length : Int) == 0) then k 0 else (bif decide (0 ≤ (IntKind.wrap .i64 ((x0.length : Int) - 1))) then (bif decide ((IntKind.wrap .i64 ((x0.length : Int) - 1)) < (x0.length : Int)) then k ((x0.getD (Int.toNat (IntKind.wrap .i64 ((x0.length : Int) - 1))) (0, 0)).1) else none) else none))) (fun r0 => k (PkS.pack Tspec_l11Last (r0, ()))) := by kernel_rfl
theorem okspec_l11Last (n : Nat) : FnOk Tryd.prog 58 (Kspec_l11Last @spec_l11Last n) := by
  refine fn_ok (sig := sig) mixed ttok (mkK_nat (cspec_l11Last n)) (mkK_ok (cspec_l11Last n)) (mkL_nat (mkK_nat (cspec_l11Last n)) (l := []) trivial) (fn := Tryd.f58) (c := bodyOf Tryd.f58) (by kernel_rfl) (by kernel_rfl) (by kernel_rfl) (.eq (l := []) (by kernel_rfl) trivial) (shs := Hspec_l11Last) (S := Sspec_l11Last) (h1 := by kernel_rfl) fun R p k => ?_
  unfold Kspec_l11Last
  cases h : (PkS.un Sspec_l11Last p) with
  | none => rfl
  | some d =>
    obtain ⟨x0, u⟩ := (d : (List (Int × Int)) × Unit)
    have hp := PkS.un_pack h
    subst hp
    exact (espec_l11Last  n x0 k).symm

/-! ### loop.example/g00269/spec.DrawCutItems -/
theorem cspec_DrawCutItems (n : Nat) : AllOk Tryd.prog [(57, Kspec_l1Cur_items @spec_l1Cur_items n), (58, Kspec_l11Last @spec_l11Last n), (51, Kspec_l1Cur_pick @spec_l1Cur_pick n)] := ⟨okspec_l1Cur_items n, ⟨okspec_l11Last n, ⟨okspec_l1Cur_pick n, trivial⟩⟩⟩
@[reducible] def Sspec_DrawCutItems : PkS := ⟨[.one (.ro (.int .u8))], []⟩
@[reducible] def Tspec_DrawCutItems : PkS := ⟨[.tup [(false, [.whole (300000, 0)]), (false, [.int .i64])], .one (.dead)], [((300000, 0), .arr (.pr (.int .i64) (.int .i64)))]⟩
def Hspec_DrawCutItems : List Sh := [.tup [(false, [(.own (.pr (.int .i64) (.int .i64)))]), (false, [.any])], .skip]
def Kspec_DrawCutItems (g : ∀ {R : Type}, Nat → (List Int) → (Int → (List (Int × Int)) → Option R) → Option R) (n : Nat) : KPs := fun R p k => match (PkS.un Sspec_DrawCutItems p : Option ((List Int) × Unit)) with
  | some (x0, _) => g n x0 (fun r0 r1 => k (PkS.pack Tspec_DrawCutItems (r0, r1, ())))
  | none => none
theorem espec_DrawCutItems (spec_l1Cur_items : ∀ {R : Type}, Nat → (List Int) → Int → Int → ((List (Int × Int)) → (List Int) → Int → Int → Option R) → Option R) (spec_l11Last : ∀ {R : Type}, Nat → (List (Int × Int)) → (Int → Option R) → Option R) (spec_l1Cur_pick : ∀ {R : Type}, Nat → Int → (List Int) → Int → Int → (Int → (List Int) → Int → Int → Option R) → Option R) {R : Type} (n : Nat) (x0 : List Int) (k : Pk → Option R) : evF tt sig (mkK [(57, Kspec_l1Cur_items @spec_l1Cur_items n), (58, Kspec_l11Last @spec_l11Last n), (51, Kspec_l1Cur_pick @spec_l1Cur_pick n)] R) (mkL (mkK [(57, Kspec_l1Cur_items @spec_l1Cur_items n), (58, Kspec_l11Last @spec_l11Last n), (51, Kspec_l1Cur_pick @spec_l1Cur_pick n)]) [] R) Tryd.f23 Hspec_DrawCutItems (PkS.pack Sspec_DrawCutItems (x0, ())) k = (fun (k : Int → (List (Int × Int)) → Option R) => (spec_l1Cur_items n x0 0 0 fun r1 r2 r3 r4 => (spec_l11Last n r1 fun r5 => (spec_l1Cur_pick n (IntKind.wrap .i64 (r5 + 3)) r2 r3 r4 fun r6 r7 r8 r9 => k (IntKind.wrap .i64 (r6 - 1)) r1)))) (fun r0 r1 => k (PkS.pack Tspec_DrawCutItems (r0, r1, ()))) := by kernel_rfl
theorem okspec_DrawCutItems (n : Nat) : FnOk Tryd.prog 23 (Kspec_DrawCutItems @spec_DrawCutItems n) := by
  refine fn_ok (sig := sig) mixed ttok (mkK_nat (cspec_DrawCutItems n)) (mkK_ok (cspec_DrawCutItems n)) (mkL_nat (mkK_nat (cspec_DrawCutItems n)) (l := []) trivial) (fn := Tryd.f23) (c := bodyOf Tryd.f23) (by kernel_rfl) (by kernel_rfl) (by kernel_rfl) (.eq (l := []) (by kernel_rfl) trivial) (shs := Hspec_DrawCutItems) (S := Sspec_DrawCutItems) (h1 := by kernel_rfl) fun R p k => ?_
  unfold Kspec_DrawCutItems
  cases h : (PkS.un Sspec_DrawCutItems p) with
  | none => rfl
  | some d =>
    obtain ⟨x0, u⟩ := (d : (List Int) × Unit)
    have hp := PkS.un_pack h
    subst hp
    exact (espec_DrawCutItems @spec_l1Cur_items @spec_l11Last @spec_l1Cur_pick n x0 k).symm

/-! ### loop.example/g00269/impl.CutItems -/
theorem cimpl_CutItems (n : Nat) : AllOk Tryd.prog [(22, Kimpl_GoodItems @impl_GoodItems n), (54, Kimpl_last @impl_last n), (53, Kimpl_in @impl_in n)] := ⟨okimpl_GoodItems n, ⟨okimpl_last n, ⟨okimpl_in n, trivial⟩⟩⟩
@[reducible] def Simpl_CutItems_l5 : PkS := ⟨[.one (.int .i64), .one (.whole (100000, 0)), .one (.ro (.pr (.int .i64) (.int .i64))), .one (.int .i64), .one (.int .i64), .one (.dead), .one (.dead)], [((100000, 0), .arr (.pr (.int .i64) (.int .i64)))]⟩
@[reducible] def Timpl_CutItems_l5_0 : PkS := ⟨[.one (.whole (100000, 0)), .one (.dead), .one (.dead)], [((100000, 0), .arr (.pr (.int .i64) (.int .i64)))]⟩
def Dimpl_CutItems_l5 : LoopD := ⟨42, [1, 6, 20, 21, 22], [.one .any, .one (.own (.pr (.int .i64) (.int .i64))), .one (.ro (.pr (.int .i64) (.int .i64))), .one .any, .one .any, .skip, .skip], fun x => match x with
  | .exit 0 => some ([6], [.one (.own (.pr (.int .i64) (.int .i64))), .skip, .skip])
  | _ => none⟩
def Pimpl_CutItems_l5 (g : ∀ {R : Type}, Nat → Int → (List (Int × Int)) → Int → Int → (List (Int × Int)) → ((List (Int × Int)) → Option R) → Option R) (n : Nat) : LPs := fun R q kk => match (PkS.un Simpl_CutItems_l5 q : Option (Int × (List (Int × Int)) × Int × Int × (List (Int × Int)) × Unit)) with
  | some (y5_0, y5_1, y5_2, y5_3, y5_4, _) => g n y5_0 y5_1 y5_2 y5_3 y5_4 (fun r0 => kk (.exit 0) (PkS.pack Timpl_CutItems_l5_0 (r0, ())))
  | none => none
theorem eimpl_CutItems_l5 (impl_GoodItems : ∀ {R : Type}, Nat → (List (Int × Int)) → (Bool → Option R) → Option R) (impl_last : ∀ {R : Type}, Nat → (List (Int × Int)) → (Int → Option R) → Option R) (impl_in : ∀ {R : Type}, Nat → Int → Int → Int → (Bool → Option R) → Option R) (impl_CutItems_l5 : ∀ {R : Type}, Nat → Int → (List (Int × Int)) → Int → Int → (List (Int × Int)) → ((List (Int × Int)) → Option R) → Option R) {R : Type} (n : Nat) (y5_0 : Int) (y5_1 : List (Int × Int)) (y5_2 : Int) (y5_3 : Int) (y5_4 : List (Int × Int)) (kk : Ex → Pk → Option R) : Dimpl_CutItems_l5.step tt sig (mkK [(22, Kimpl_GoodItems @impl_GoodItems n), (54, Kimpl_last @impl_last n), (53, Kimpl_in @impl_in n)] R) (mkL (mkK [(22, Kimpl_GoodItems @impl_GoodItems n), (54, Kimpl_last @impl_last n), (53, Kimpl_in @impl_in n)]) [] R) (loopIn 5 (bodyOf Tryd.f24)) (fun q' => Pimpl_CutItems_l5 @impl_CutItems_l5 n R q' kk) (PkS.pack Simpl_CutItems_l5 (y5_0, y5_1, y5_2, y5_3, y5_4, ())) kk = (fun (kexit0 : (List (Int × Int)) → Option R) => (bif (decide (y5_3 < y5_2)) then (bif decide (0 ≤ y5_3) then (bif decide (y5_3 < (y5_1.length : Int)) then (impl_last n y5_4 fun r4 => (bif (decide (r4 < y5_0)) then (bif decide (y5_4.length + ([((if y5_0 < (y5_1.getD (Int.toNat y5_3) (0, 0)).1 then y5_0 else (y5_1.getD (Int.toNat y5_3) (0, 0)).1), (y5_1.getD (Int.toNat y5_3) (0, 0)).2)]).length ≤ LIM) then impl_CutItems_l5 n y5_0 y5_1 y5_2 (IntKind.wrap .i64 (y5_3 + 1)) (y5_4 ++ [((if y5_0 < (y5_1.getD (Int.toNat y5_3) (0, 0)).1 then y5_0 else (y5_1.getD (Int.toNat y5_3) (0, 0)).1), (y5_1.getD (Int.toNat y5_3) (0, 0)).2)]) kexit0 else none) else impl_CutItems_l5 n y5_0 y5_1 y5_2 (IntKind.wrap .i64 (y5_3 + 1)) y5_4 kexit0)) else none) else none) else kexit0 y5_4)) (fun r0 => kk (.exit 0) (PkS.pack Timpl_CutItems_l5_0 (r0, ()))) := by kernel_rfl
theorem leimpl_CutItems_l5 : LoopEq tt sig (fun n => mkK [(22, Kimpl_GoodItems @impl_GoodItems n), (54, Kimpl_last @impl_last n), (53, Kimpl_in @impl_in n)]) (fun n => mkL (mkK [(22, Kimpl_GoodItems @impl_GoodItems n), (54, Kimpl_last @impl_last n), (53, Kimpl_in @impl_in n)]) []) Dimpl_CutItems_l5 Simpl_CutItems_l5 (loopIn 5 (bodyOf Tryd.f24)) (Pimpl_CutItems_l5 @impl_CutItems_l5) where
  zero R q kk := by unfold Pimpl_CutItems_l5; cases (PkS.un Simpl_CutItems_l5 q) <;> rfl
  succ n R q kk := by
    unfold Pimpl_CutItems_l5
    cases h : (PkS.un Simpl_CutItems_l5 q) with
    | none => rfl
    | some d =>
      obtain ⟨y5_0, y5_1, y5_2, y5_3, y5_4, u⟩ := (d : Int × (List (Int × Int)) × Int × Int × (List (Int × Int)) × Unit)
      have hp := PkS.un_pack h
      subst hp
      exact (eimpl_CutItems_l5 @impl_GoodItems @impl_last @impl_in @impl_CutItems_l5 n y5_0 y5_1 y5_2 y5_3 y5_4 kk).symm
theorem nlimpl_CutItems_l5 : ∀ n, NatLP (Pimpl_CutItems_l5 @impl_CutItems_l5 n) := leimpl_CutItems_l5.nat (fun n => mkK_nat (cimpl_CutItems n)) fun n => mkL_nat (mkK_nat (cimpl_CutItems n)) (l := []) trivial
theorem inimpl_CutItems_l5 (n : Nat) (R : Type) : LoopsOk Tryd.prog (mkL (mkK [(22, Kimpl_GoodItems @impl_GoodItems n), (54, Kimpl_last @impl_last n), (53, Kimpl_in @impl_in n)]) [] R) (loopIn 5 (bodyOf Tryd.f24)) := .eq (l := []) (by kernel_rfl) trivial
theorem lkimpl_CutItems_l5 (n : Nat) (R : Type) (L0 : LK R) (h0 : ∀ id, firstRegion (loopIn 5 (bodyOf Tryd.f24)) = some id → L0 id = Dimpl_CutItems_l5.oracle (mkK [(22, Kimpl_GoodItems @impl_GoodItems n), (54, Kimpl_last @impl_last n), (53, Kimpl_in @impl_in n)] R) (Pimpl_CutItems_l5 @impl_CutItems_l5 n R)) : LoopOk Tryd.prog L0 (loopIn 5 (bodyOf Tryd.f24)) :=
  leimpl_CutItems_l5.ok mixed ttok (fun n => mkK_nat (cimpl_CutItems n)) (fun n => mkK_ok (cimpl_CutItems n)) (fun n => inimpl_CutItems_l5 n R) (mkK_nat (cimpl_CutItems n)) h0
@[reducible] def Simpl_CutItems : PkS := ⟨[.one (.ro (.pr (.int .i64) (.int .i64))), .one (.int .i64)], []⟩
@[reducible] def Timpl_CutItems : PkS := ⟨[.tup [(false, [.whole (300000, 0)]), (false, [.bool])], .one (.dead), .one (.dead)], [((300000, 0), .arr (.pr (.int .i64) (.int .i64)))]⟩
def Himpl_CutItems : List Sh := [.tup [(false, [(.own (.pr (.int .i64) (.int .i64)))]), (false, [.any])], .skip, .skip]
def Kimpl_CutItems (g : ∀ {R : Type}, Nat → (List (Int × Int)) → Int → (Bool → (List (Int × Int)) → Option R) → Option R) (n : Nat) : KPs := fun R p k => match (PkS.un Simpl_CutItems p : Option ((List (Int × Int)) × Int × Unit)) with
  | some (x0, x1, _) => g n x0 x1 (fun r0 r1 => k (PkS.pack Timpl_CutItems (r0, r1, ())))
  | none => none
theorem eimpl_CutItems (impl_GoodItems : ∀ {R : Type}, Nat → (List (Int × Int)) → (Bool → Option R) → Option R) (impl_last : ∀ {R : Type}, Nat → (List (Int × Int)) → (Int → Option R) → Option R) (impl_in : ∀ {R : Type}, Nat → Int → Int → Int → (Bool → Option R) → Option R) (impl_CutItems_l5 : ∀ {R : Type}, Nat → Int → (List (Int × Int)) → Int → Int → (List (Int × Int)) → ((List (Int × Int)) → Option R) → Option R) {R : Type} (n : Nat) (x0 : List (Int × Int)) (x1 : Int) (k : Pk → Option R) : evF tt sig (mkK [(22, Kimpl_GoodItems @impl_GoodItems n), (54, Kimpl_last @impl_last n), (53, Kimpl_in @impl_in n)] R) (mkL (mkK [(22, Kimpl_GoodItems @impl_GoodItems n), (54, Kimpl_last @impl_last n), (53, Kimpl_in @impl_in n)]) [(5, Dimpl_CutItems_l5, Pimpl_CutItems_l5 @impl_CutItems_l5 n)] R) Tryd.f24 Himpl_CutItems (PkS.pack Simpl_CutItems (x0, x1, ())) k = (fun (k : Bool → (List (Int × Int)) → Option R) => (impl_GoodItems n x0 fun r1 => (bif (!r1) then k false ([] : List (Int × Int)) else (impl_last n x0 fun r2 => (impl_in n x1 0 r2 fun r3 => (bif (!r3) then k false ([] : List (Int × Int)) else (impl_CutItems_l5 n x1 x0 (x0.length : Int) 0 ([] : List (Int × Int)) (fun r5 => k true r5)))))))) (fun r0 r1 => k (PkS.pack Timpl_CutItems (r0, r1, ()))) := by kernel_rfl
theorem okimpl_CutItems (n : Nat) : FnOk Tryd.prog 24 (Kimpl_CutItems @impl_CutItems n) := by
  refine fn_ok (sig := sig) mixed ttok (mkK_nat (cimpl_CutItems n)) (mkK_ok (cimpl_CutItems n)) (mkL_nat (mkK_nat (cimpl_CutItems n)) (l := [(5, Dimpl_CutItems_l5, Pimpl_CutItems_l5 @impl_CutItems_l5 n)]) ⟨nlimpl_CutItems_l5 n, trivial⟩) (fn := Tryd.f24) (c := bodyOf Tryd.f24) (by kernel_rfl) (by kernel_rfl) (by kernel_rfl) (.eq (l := [.lo (loopIn 5 (bodyOf Tryd.f24))]) (by kernel_rfl) ⟨(lkimpl_CutItems_l5 n _ _ (at_id (i := 5) (by kernel_rfl) rfl)), trivial⟩) (shs := Himpl_CutItems) (S := Simpl_CutItems) (h1 := by kernel_rfl) fun R p k => ?_
  unfold Kimpl_CutItems
  cases h : (PkS.un Simpl_CutItems p) with
  | none => rfl
  | some d =>
    obtain ⟨x0, x1, u⟩ := (d : (List (Int × Int)) × Int × Unit)
    have hp := PkS.un_pack h
    subst hp
    exact (eimpl_CutItems @impl_GoodItems @impl_last @impl_in @impl_CutItems_l5 n x0 x1 k).symm

/-! ### loop.example/g00269/spec.l11Cut -/
theorem cspec_l11Cut (n : Nat) : AllOk Tryd.prog [(58, Kspec_l11Last @spec_l11Last n)] := ⟨okspec_l11Last n, trivial⟩
@[reducible] def Sspec_l11Cut_l3 : PkS := ⟨[.one (.int .i64), .one (.whole (100000, 0)), .one (.ro (.pr (.int .i64) (.int .i64))), .one (.int .i64), .one (.int .i64), .one (.dead), .one (.dead)], [((100000, 0), .arr (.pr (.int .i64) (.int .i64)))]⟩
@[reducible] def Tspec_l11Cut_l3_0 : PkS := ⟨[.one (.whole (100000, 0)), .one (.dead), .one (.dead)], [((100000, 0), .arr (.pr (.int .i64) (.int .i64)))]⟩
def Dspec_l11Cut_l3 : LoopD := ⟨30, [1, 5, 8, 9, 10], [.one .any, .one (.own (.pr (.int .i64) (.int .i64))), .one (.ro (.pr (.int .i64) (.int .i64))), .one .any, .one .any, .skip, .skip], fun x => match x with
  | .exit 0 => some ([5], [.one (.own (.pr (.int .i64) (.int .i64))), .skip, .skip])
  | _ => none⟩
def Pspec_l11Cut_l3 (g : ∀ {R : Type}, Nat → Int → (List (Int × Int)) → Int → Int → (List (Int × Int)) → ((List (Int × Int)) → Option R) → Option R) (n : Nat) : LPs := fun R q kk => match (PkS.un Sspec_l11Cut_l3 q : Option (Int × (List (Int × Int)) × Int × Int × (List (Int × Int)) × Unit)) with
  | some (y3_0, y3_1, y3_2, y3_3, y3_4, _) => g n y3_0 y3_1 y3_2 y3_3 y3_4 (fun r0 => kk (.exit 0) (PkS.pack Tspec_l11Cut_l3_0 (r0, ())))
  | none => none
theorem espec_l11Cut_l3 (spec_l11Last : ∀ {R : Type}, Nat → (List (Int × Int)) → (Int → Option R) → Option R) (spec_l11Cut_l3 : ∀ {R : Type}, Nat → Int → (List (Int × Int)) → Int → Int → (List (Int × Int)) → ((List (Int × Int)) → Option R) → Option R) {R : Type} (n : Nat) (y3_0 : Int) (y3_1 : List (Int × Int)) (y3_2 : Int) (y3_3 : Int) (y3_4 : List (Int × Int)) (kk : Ex → Pk → Option R) : Dspec_l11Cut_l3.step tt sig (mkK [(58, Kspec_l11Last @spec_l11Last n)] R) (mkL (mkK [(58, Kspec_l11Last @spec_l11Last n)]) [] R) (loopIn 3 (bodyOf Tryd.f60)) (fun q' => Pspec_l11Cut_l3 @spec_l11Cut_l3 n R q' kk) (PkS.pack Sspec_l11Cut_l3 (y3_0, y3_1, y3_2, y3_3, y3_4, ())) kk = (fun (kexit0 : (List (Int × Int)) → Option R) => (bif (decide (y3_3 < y3_2)) then (bif decide (0 ≤ y3_3) then (bif decide (y3_3 < (y3_1.length : Int)) then (spec_l11Last n y3_4 fun r1 => (bif (r1 == y3_0) then kexit0 y3_4 else (bif (decide ((y3_1.getD (Int.toNat y3_3) (0, 0)).1 > y3_0)) then (bif decide (y3_4.length + ([(y3_0, (y3_1.getD (Int.toNat y3_3) (0, 0)).2)]).length ≤ LIM) then spec_l11Cut_l3 n y3_0 y3_1 y3_2 (IntKind.wrap .i64 (y3_3 + 1)) (y3_4 ++ [(y3_0, (y3_1.getD (Int.toNat y3_3) (0, 0)).2)]) kexit0 else none) else (bif decide (y3_4.length + ([((y3_1.getD (Int.toNat y3_3) (0, 0)).1, (y3_1.getD (Int.toNat y3_3) (0, 0)).2)]).length ≤ LIM) then spec_l11Cut_l3 n y3_0 y3_1 y3_2 (IntKind.wrap .i64 (y3_3 + 1)) (y3_4 ++ [((y3_1.getD (Int.toNat y3_3) (0, 0)).1, (y3_1.getD (Int.toNat y3_3) (0, 0)).2)]) kexit0 else none)))) else none) else none) else kexit0 y3_4)) (fun r0 => kk (.exit 0) (PkS.pack Tspec_l11Cut_l3_0 (r0, ()))) := by kernel_rfl
theorem lespec_l11Cut_l3 : LoopEq tt sig (fun n => mkK [(58, Kspec_l11Last @spec_l11Last n)]) (fun n => mkL (mkK [(58, Kspec_l11Last @spec_l11Last n)]) []) Dspec_l11Cut_l3 Sspec_l11Cut_l3 (loopIn 3 (bodyOf Tryd.f60)) (Pspec_l11Cut_l3 @spec_l11Cut_l3) where
  zero R q kk := by unfold Pspec_l11Cut_l3; cases (PkS.un Sspec_l11Cut_l3 q) <;> rfl
  succ n R q kk := by
    unfold Pspec_l11Cut_l3
    cases h : (PkS.un Sspec_l11Cut_l3 q) with
    | none => rfl
    | some d =>
      obtain ⟨y3_0, y3_1, y3_2, y3_3, y3_4, u⟩ := (d : Int × (List (Int × Int)) × Int × Int × (List (Int × Int)) × Unit)
      have hp := PkS.un_pack h
      subst hp
      exact (espec_l11Cut_l3 @spec_l11Last @spec_l11Cut_l3 n y3_0 y3_1 y3_2 y3_3 y3_4 kk).symm
theorem nlspec_l11Cut_l3 : ∀ n, NatLP (Pspec_l11Cut_l3 @spec_l11Cut_l3 n) := lespec_l11Cut_l3.nat (fun n => mkK_nat (cspec_l11Cut n)) fun n => mkL_nat (mkK_nat (cspec_l11Cut n)) (l := []) trivial
theorem inspec_l11Cut_l3 (n : Nat) (R : Type) : LoopsOk Tryd.prog (mkL (mkK [(58, Kspec_l11Last @spec_l11Last n)]) [] R) (loopIn 3 (bodyOf Tryd.f60)) := .eq (l := []) (by kernel_rfl) trivial
theorem lkspec_l11Cut_l3 (n : Nat) (R : Type) (L0 : LK R) (h0 : ∀ id, firstRegion (loopIn 3 (bodyOf Tryd.f60)) = some id → L0 id = Dspec_l11Cut_l3.oracle (mkK [(58, Kspec_l11Last @spec_l11Last n)] R) (Pspec_l11Cut_l3 @spec_l11Cut_l3 n R)) : LoopOk Tryd.prog L0 (loopIn 3 (bodyOf Tryd.f60)) :=
  lespec_l11Cut_l3.ok mixed ttok (fun n => mkK_nat (cspec_l11Cut n)) (fun n => mkK_ok (cspec_l11Cut n)) (fun n => inspec_l11Cut_l3 n R) (mkK_nat (cspec_l11Cut n)) h0
@[reducible] def Sspec_l11Cut : PkS := ⟨[.one (.ro (.pr (.int .i64) (.int .i64))), .one (.int .i64)], []⟩
@[reducible] def Tspec_l11Cut : PkS := ⟨[.one (.whole (300000, 0)), .one (.dead), .one (.dead)], [((300000, 0), .arr (.pr (.int .i64) (.int .i64)))]⟩
def Hspec_l11Cut : List Sh := [.one (.own (.pr (.int .i64) (.int .i64))), .skip, .skip]
def Kspec_l11Cut (g : ∀ {R : Type}, Nat → (List (Int × Int)) → Int → ((List (Int × Int)) → Option R) → Option R) (n : Nat) : KPs := fun R p k => match (PkS.un Sspec_l11Cut p : Option ((List (Int × Int)) × Int × Unit)) with
  | some (x0, x1, _) => g n x0 x1 (fun r0 => k (PkS.pack Tspec_l11Cut (r0, ())))
  | none => none
theorem espec_l11Cut (spec_l11Last : ∀ {R : Type}, Nat → (List (Int × Int)) → (Int → Option R) → Option R) (spec_l11Cut_l3 : ∀ {R : Type}, Nat → Int → (List (Int × Int)) → Int → Int → (List (Int × Int)) → ((List (Int × Int)) → Option R) → Option R) {R : Type} (n : Nat) (x0 : List (Int × Int)) (x1 : Int) (k : Pk → Option R) : evF tt sig (mkK [(58, Kspec_l11Last @spec_l11Last n)] R) (mkL (mkK [(58, Kspec_l11Last @spec_l11Last n)]) [(3, Dspec_l11Cut_l3, Pspec_l11Cut_l3 @spec_l11Cut_l3 n)] R) Tryd.f60 Hspec_l11Cut (PkS.pack Sspec_l11Cut (x0, x1, ())) k = (fun (k : (List (Int × Int)) → Option R) => (spec_l11Cut_l3 n x1 x0 (x0.length : Int) 0 ([] : List (Int × Int)) (fun r2 => k r2))) (fun r0 => k (PkS.pack Tspec_l11Cut (r0, ()))) := by kernel_rfl
theorem okspec_l11Cut (n : Nat) : FnOk Tryd.prog 60 (Kspec_l11Cut @spec_l11Cut n) := by
  refine fn_ok (sig := sig) mixed ttok (mkK_nat (cspec_l11Cut n)) (mkK_ok (cspec_l11Cut n)) (mkL_nat (mkK_nat (cspec_l11Cut n)) (l := [(3, Dspec_l11Cut_l3, Pspec_l11Cut_l3 @spec_l11Cut_l3 n)]) ⟨nlspec_l11Cut_l3 n, trivial⟩) (fn := Tryd.f60) (c := bodyOf Tryd.f60) (by kernel_rfl) (by kernel_rfl) (by kernel_rfl) (.eq (l := [.lo (loopIn 3 (bodyOf Tryd.f60))]) (by kernel_rfl) ⟨(lkspec_l11Cut_l3 n _ _ (at_id (i := 3) (by kernel_rfl) rfl)), trivial⟩) (shs := Hspec_l11Cut) (S := Sspec_l11Cut) (h1 := by kernel_rfl) fun R p k => ?_
  unfold Kspec_l11Cut
  cases h : (PkS.un Sspec_l11Cut p) with
  | none => rfl
  | some d =>
    obtain ⟨x0, x1, u⟩ := (d : (List (Int × Int)) × Int × Unit)
    have hp := PkS.un_pack h
    subst hp
    exact (espec_l11Cut @spec_l11Last @spec_l11Cut_l3 n x0 x1 k).symm

/-! ### loop.example/g00269/spec.CutItems -/
theorem cspec_CutItems (n : Nat) : AllOk Tryd.prog [(45, Kspec_GoodItems @spec_GoodItems n), (58, Kspec_l11Last @spec_l11Last n), (59, Kspec_l1In @spec_l1In n), (60, Kspec_l11Cut @spec_l11Cut n)] := ⟨okspec_GoodItems n, ⟨okspec_l11Last n, ⟨okspec_l1In n, ⟨okspec_l11Cut n, trivial⟩⟩⟩⟩
@[reducible] def Sspec_CutItems : PkS := ⟨[.one (.ro (.pr (.int .i64) (.int .i64))), .one (.int .i64)], []⟩
@[reducible] def Tspec_CutItems : PkS := ⟨[.tup [(false, [.whole (300000, 0)]), (false, [.bool])], .one (.dead), .one (.dead)], [((300000, 0), .arr (.pr (.int .i64) (.int .i64)))]⟩
def Hspec_CutItems : List Sh := [.tup [(false, [(.own (.pr (.int .i64) (.int .i64)))]), (false, [.any])], .skip, .skip]
def Kspec_CutItems (g : ∀ {R : Type}, Nat → (List (Int × Int)) → Int → (Bool → (List (Int × Int)) → Option R) → Option R) (n : Nat) : KPs := fun R p k => match (PkS.un Sspec_CutItems p : Option ((List (Int × Int)) × Int × Unit)) with
  | some (x0, x1, _) => g n x0 x1 (fun r0 r1 => k (PkS.pack Tspec_CutItems (r0, r1, ())))
  | none => none
theorem espec_CutItems (spec_GoodItems : ∀ {R : Type}, Nat → (List (Int × Int)) → (Bool → Option R) → Option R) (spec_l11Last : ∀ {R : Type}, Nat → (List (Int × Int)) → (Int → Option R) → Option R) (spec_l1In : ∀ {R : Type}, Nat → Int → Int → Int → (Bool → Option R) → Option R) (spec_l11Cut : ∀ {R : Type}, Nat → (List (Int × Int)) → Int → ((List (Int × Int)) → Option R) → Option R) {R : Type} (n : Nat) (x0 : List (Int × Int)) (x1 : Int) (k : Pk → Option R) : evF tt sig (mkK [(45, Kspec_GoodItems @spec_GoodItems n), (58, Kspec_l11Last @spec_l11Last n), (59, Kspec_l1In @spec_l1In n), (60, Kspec_l11Cut @spec_l11Cut n)] R) (mkL (mkK [(45, Kspec_GoodItems @spec_GoodItems n), (58, Kspec_l11Last @spec_l11Last n), (59, Kspec_l1In @spec_l1In n), (60, Kspec_l11Cut @spec_l11Cut n)]) [] R) Tryd.f25 Hspec_CutItems (PkS.pack Sspec_CutItems (x0, x1, ())) k = (fun (k : Bool → (List (Int × Int)) → Option R) => (spec_GoodItems n x0 fun r1 => (bif (!r1) then k false ([] : List (Int × Int)) else (spec_l11Last n x0 fun r2 => (spec_l1In n x1 0 r2 fun r3 => (bif (!r3) then k false ([] : List (Int × Int)) else (spec_l11Cut n x0 x1 fun r4 => k true r4))))))) (fun r0 r1 => k (PkS.pack Tspec_CutItems (r0, r1, ()))) := by kernel_rfl
theorem okspec_CutItems (n : Nat) : FnOk Tryd.prog 25 (Kspec_CutItems @spec_CutItems n) := by
  refine fn_ok (sig := sig) mixed ttok (mkK_nat (cspec_CutItems n)) (mkK_ok (cspec_CutItems n)) (mkL_nat (mkK_nat (cspec_CutItems n)) (l := []) trivial) (fn := Tryd.f25) (c := bodyOf Tryd.f25) (by kernel_rfl) (by kernel_rfl) (by kernel_rfl) (.eq (l := []) (by kernel_rfl) trivial) (shs := Hspec_CutItems) (S := Sspec_CutItems) (h1 := by kernel_rfl) fun R p k => ?_
  unfold Kspec_CutItems
  cases h : (PkS.un Sspec_CutItems p) with
  | none => rfl
  | some d =>
    obtain ⟨x0, x1, u⟩ := (d : (List (Int × Int)) × Int × Unit)
    have hp := PkS.un_pack h
    subst hp
    exact (espec_CutItems @spec_GoodItems @spec_l11Last @spec_l1In @spec_l11Cut n x0 x1 k).symm

/-! ### loop.example/g00269/impl.LastOf -/
theorem cimpl_LastOf (n : Nat) : AllOk Tryd.prog [(22, Kimpl_GoodItems @impl_GoodItems n), (54, Kimpl_last @impl_last n), (61, Kimpl_lastVersion @impl_lastVersion n)] := ⟨okimpl_GoodItems n, ⟨okimpl_last n, ⟨okimpl_lastVersion n, trivial⟩⟩⟩
@[reducible] def Simpl_LastOf : PkS := ⟨[.one (.ro (.pr (.int .i64) (.int .i64)))], []⟩
@[reducible] def Timpl_LastOf : PkS := ⟨[.tup [(false, [.int .i64]), (false, [.int .i64]), (false, [.bool])], .one (.dead)], []⟩
def Himpl_LastOf : List Sh := [.tup [(false, [.any]), (false, [.any]), (false, [.any])], .skip]
def Kimpl_LastOf (g : ∀ {R : Type}, Nat → (List (Int × Int)) → (Int → Int → Bool → Option R) → Option R) (n : Nat) : KPs := fun R p k => match (PkS.un Simpl_LastOf p : Option ((List (Int × Int)) × Unit)) with
  | some (x0, _) => g n x0 (fun r0 r1 r2 => k (PkS.pack Timpl_LastOf (r0, r1, r2, ())))
  | none => none
theorem eimpl_LastOf (impl_GoodItems : ∀ {R : Type}, Nat → (List (Int × Int)) → (Bool → Option R) → Option R) (impl_last : ∀ {R : Type}, Nat → (List (Int × Int)) → (Int → Option R) → Option R) (impl_lastVersion : ∀ {R : Type}, Nat → (List (Int × Int)) → (Int → Option R) → Option R) {R : Type} (n : Nat) (x0 : List (Int × Int)) (k : Pk → Option R) : evF tt sig (mkK [(22, Kimpl_GoodItems @impl_GoodItems n), (54, Kimpl_last @impl_last n), (61, Kimpl_lastVersion @impl_lastVersion n)] R) (mkL (mkK [(22, Kimpl_GoodItems @impl_GoodItems n), (54, Kimpl_last @impl_last n), (61, Kimpl_lastVersion @impl_lastVersion n)]) [] R) Tryd.f26 Himpl_LastOf (PkS.pack Simpl_LastOf (x0, ())) k = (fun (k : Int → Int → Bool → Option R) => (impl_GoodItems n x0 fun r1 => (bif (!r1) then k 0 0 false else (bif ((x0.length : Int) == 0) then k 0 0 false else (impl_last n x0 fun r2 => (impl_lastVersion n x0 fun r3 => k r2 r3 true)))))) (fun r0 r1 r2 => k (PkS.pack Timpl_LastOf (r0, r1, r2, ()))) := by kernel_rfl
theorem okimpl_LastOf (n : Nat) : FnOk Tryd.prog 26 (Kimpl_LastOf @impl_LastOf n) := by
  refine fn_ok (sig := sig) mixed ttok (mkK_nat (cimpl_LastOf n)) (mkK_ok (cimpl_LastOf n)) (mkL_nat (mkK_nat (cimpl_LastOf n)) (l := []) trivial) (fn := Tryd.f26) (c := bodyOf Tryd.f26) (by kernel_rfl) (by kernel_rfl) (by kernel_rfl) (.eq (l := []) (by kernel_rfl) trivial) (shs := Himpl_LastOf) (S := Simpl_LastOf) (h1 := by kernel_rfl) fun R p k => ?_
  unfold Kimpl_LastOf
  cases h : (PkS.un Simpl_LastOf p) with
  | none => rfl
  | some d =>
    obtain ⟨x0, u⟩ := (d : (List (Int × Int)) × Unit)
    have hp := PkS.un_pack h
    subst hp
    exact (eimpl_LastOf @impl_GoodItems @impl_last @impl_lastVersion n x0 k).symm

/-! ### loop.example/g00269/impl.common -/
theorem cimpl_common (n : Nat) : AllOk Tryd.prog [(54, Kimpl_last @impl_last n), (55, Kimpl_versionAt @impl_versionAt n)] := ⟨okimpl_last n, ⟨okimpl_versionAt n, trivial⟩⟩
@[reducible] def Simpl_common_l2 : PkS := ⟨[.one (.ro (.pr (.int .i64) (.int .i64))), .one (.ro (.pr (.int .i64) (.int .i64))), .one (.int .i64), .one (.dead), .one (.dead)], []⟩
@[reducible] def Timpl_common_l2_0 : PkS := ⟨[.one (.int .i64), .one (.dead), .one (.dead)], []⟩
def Dimpl_common_l2 : LoopD := ⟨27, [0, 1, 5], [.one (.ro (.pr (.int .i64) (.int .i64))), .one (.ro (.pr (.int .i64) (.int .i64))), .one .any, .skip, .skip], fun x => match x with
  | .exit 0 => some ([5], [.one .any, .skip, .skip])
  | _ => none⟩
def Pimpl_common_l2 (g : ∀ {R : Type}, Nat → (List (Int × Int)) → (List (Int × Int)) → Int → (Int → Option R) → Option R) (n : Nat) : LPs := fun R q kk => match (PkS.un Simpl_common_l2 q : Option ((List (Int × Int)) × (List (Int × Int)) × Int × Unit)) with
  | some (y2_0, y2_1, y2_2, _) => g n y2_0 y2_1 y2_2 (fun r0 => kk (.exit 0) (PkS.pack Timpl_common_l2_0 (r0, ())))
  | none => none
theorem eimpl_common_l2 (impl_last : ∀ {R : Type}, Nat → (List (Int × Int)) → (Int → Option R) → Option R) (impl_versionAt : ∀ {R : Type}, Nat → (List (Int × Int)) → Int → (Int → Option R) → Option R) (impl_common_l2 : ∀ {R : Type}, Nat → (List (Int × Int)) → (List (Int × Int)) → Int → (Int → Option R) → Option R) {R : Type} (n : Nat) (y2_0 : List (Int × Int)) (y2_1 : List (Int × Int)) (y2_2 : Int) (kk : Ex → Pk → Option R) : Dimpl_common_l2.step tt sig (mkK [(54, Kimpl_last @impl_last n), (55, Kimpl_versionAt @impl_versionAt n)] R) (mkL (mkK [(54, Kimpl_last @impl_last n), (55, Kimpl_versionAt @impl_versionAt n)]) [] R) (loopIn 2 (bodyOf Tryd.f62)) (fun q' => Pimpl_common_l2 @impl_common_l2 n R q' kk) (PkS.pack Simpl_common_l2 (y2_0, y2_1, y2_2, ())) kk = (fun (kexit0 : Int → Option R) => (impl_last n y2_0 fun r1 => (impl_last n y2_1 fun r2 => (bif (decide (y2_2 < (if r2 < r1 then r2 else r1))) then (impl_versionAt n y2_0 (IntKind.wrap .i64 (y2_2 + 1)) fun r3 => (impl_versionAt n y2_1 (IntKind.wrap .i64 (y2_2 + 1)) fun r4 => (bif (r3 == r4) then impl_common_l2 n y2_0 y2_1 (IntKind.wrap .i64 (y2_2 + 1)) kexit0 else kexit0 y2_2))) else kexit0 y2_2)))) (fun r0 => kk (.exit 0) (PkS.pack Timpl_common_l2_0 (r0, ()))) := by kernel_rfl
theorem leimpl_common_l2 : LoopEq tt sig (fun n => mkK [(54, Kimpl_last @impl_last n), (55, Kimpl_versionAt @impl_versionAt n)]) (fun n => mkL (mkK [(54, Kimpl_last @impl_last n), (55, Kimpl_versionAt @impl_versionAt n)]) []) Dimpl_common_l2 Simpl_common_l2 (loopIn 2 (bodyOf Tryd.f62)) (Pimpl_common_l2 @impl_common_l2) where
  zero R q kk := by unfold Pimpl_common_l2; cases (PkS.un Simpl_common_l2 q) <;> rfl
  succ n R q kk := by
    unfold Pimpl_common_l2
    cases h : (PkS.un Simpl_common_l2 q) with
    | none => rfl
    | some d =>
      obtain ⟨y2_0, y2_1, y2_2, u⟩ := (d : (List (Int × Int)) × (List (Int × Int)) × Int × Unit)
      have hp := PkS.un_pack h
      subst hp
      exact (eimpl_common_l2 @impl_last @impl_versionAt @impl_common_l2 n y2_0 y2_1 y2_2 kk).symm
theorem nlimpl_common_l2 : ∀ n, NatLP (Pimpl_common_l2 @impl_common_l2 n) := leimpl_common_l2.nat (fun n => mkK_nat (cimpl_common n)) fun n => mkL_nat (mkK_nat (cimpl_common n)) (l := []) trivial
theorem inimpl_common_l2 (n : Nat) (R : Type) : LoopsOk Tryd.prog (mkL (mkK [(54, Kimpl_last @impl_last n), (55, Kimpl_versionAt @impl_versionAt n)]) [] R) (loopIn 2 (bodyOf Tryd.f62)) := .eq (l := []) (by kernel_rfl) trivial
theorem lkimpl_common_l2 (n : Nat) (R : Type) (L0 : LK R) (h0 : ∀ id, firstRegion (loopIn 2 (bodyOf Tryd.f62)) = some id → L0 id = Dimpl_common_l2.oracle (mkK [(54, Kimpl_last @impl_last n), (55, Kimpl_versionAt @impl_versionAt n)] R) (Pimpl_common_l2 @impl_common_l2 n R)) : LoopOk Tryd.prog L0 (loopIn 2 (bodyOf Tryd.f62)) :=
  leimpl_common_l2.ok mixed ttok (fun n => mkK_nat (cimpl_common n)) (fun n => mkK_ok (cimpl_common n)) (fun n => inimpl_common_l2 n R) (mkK_nat (cimpl_common n)) h0
@[reducible] def Simpl_common : PkS := ⟨[.one (.ro (.pr (.int .i64) (.int .i64))), .one (.ro (.pr (.int .i64) (.int .i64)))], []⟩
@[reducible] def Timpl_common : PkS := ⟨[.one (.int .i64), .one (.dead), .one (.dead)], []⟩
def Himpl_common : List Sh := [.one .any, .skip, .skip]
def Kimpl_common (g : ∀ {R : Type}, Nat → (List (Int × Int)) → (List (Int × Int)) → (Int → Option R) → Option R) (n : Nat) : KPs := fun R p k => match (PkS.un Simpl_common p : Option ((List (Int × Int)) × (List (Int × Int)) × Unit)) with
  | some (x0, x1, _) => g n x0 x1 (fun r0 => k (PkS.pack Timpl_common (r0, ())))
  | none => none
theorem eimpl_common (impl_last : ∀ {R : Type}, Nat → (List (Int × Int)) → (Int → Option R) → Option R) (impl_versionAt : ∀ {R : Type}, Nat → (List (Int × Int)) → Int → (Int → Option R) → Option R) (impl_common_l2 : ∀ {R : Type}, Nat → (List (Int × Int)) → (List (Int × Int)) → Int → (Int → Option R) → Option R) {R : Type} (n : Nat) (x0 : List (Int × Int)) (x1 : List (Int × Int)) (k : Pk → Option R) : evF tt sig (mkK [(54, Kimpl_last @impl_last n), (55, Kimpl_versionAt @impl_versionAt n)] R) (mkL (mkK [(54, Kimpl_last @impl_last n), (55, Kimpl_versionAt @impl_versionAt n)]) [(2, Dimpl_common_l2, Pimpl_common_l2 @impl_common_l2 n)] R) Tryd.f62 Himpl_common (PkS.pack Simpl_common (x0, x1, ())) k = (fun (k : Int → Option R) => (impl_common_l2 n x0 x1 0 (fun r5 => k r5))) (fun r0 => k (PkS.pack Timpl_common (r0, ()))) := by kernel_rfl
theorem okimpl_common (n : Nat) : FnOk Tryd.prog 62 (Kimpl_common @impl_common n) := by
  refine fn_ok (sig := sig) mixed ttok (mkK_nat (cimpl_common n)) (mkK_ok (cimpl_common n)) (mkL_nat (mkK_nat (cimpl_common n)) (l := [(2, Dimpl_common_l2, Pimpl_common_l2 @impl_common_l2 n)]) ⟨nlimpl_common_l2 n, trivial⟩) (fn := Tryd.f62) (c := bodyOf Tryd.f62) (by kernel_rfl) (by kernel_rfl) (by kernel_rfl) (.eq (l := [.lo (loopIn 2 (bodyOf Tryd.f62))]) (by kernel_rfl) ⟨(lkimpl_common_l2 n _ _ (at_id (i := 2) (by kernel_rfl) rfl)), trivial⟩) (shs := Himpl_common) (S := Simpl_common) (h1 := by kernel_rfl) fun R p k => ?_
  unfold Kimpl_common
  cases h : (PkS.un Simpl_common p) with
  | none => rfl
  | some d =>
    obtain ⟨x0, x1, u⟩ := (d : (List (Int × Int)) × (List (Int × Int)) × Unit)
    have hp := PkS.un_pack h
    subst hp
    exact (eimpl_common @impl_last @impl_versionAt @impl_common_l2 n x0 x1 k).symm

/-! ### loop.example/g00269/impl.IsAhead -/
theorem cimpl_IsAhead (n : Nat) : AllOk Tryd.prog [(22, Kimpl_GoodItems @impl_GoodItems n), (62, Kimpl_common @impl_common n), (54, Kimpl_last @impl_last n)] := ⟨okimpl_GoodItems n, ⟨okimpl_common n, ⟨okimpl_last n, trivial⟩⟩⟩
@[reducible] def Simpl_IsAhead : PkS := ⟨[.one (.ro (.pr (.int .i64) (.int .i64))), .one (.ro (.pr (.int .i64) (.int .i64)))], []⟩
@[reducible] def Timpl_IsAhead : PkS := ⟨[.tup [(false, [.bool]), (false, [.bool])], .one (.dead), .one (.dead)], []⟩
def Himpl_IsAhead : List Sh := [.tup [(false, [.any]), (false, [.any])], .skip, .skip]
def Kimpl_IsAhead (g : ∀ {R : Type}, Nat → (List (Int × Int)) → (List (Int × Int)) → (Bool → Bool → Option R) → Option R) (n : Nat) : KPs := fun R p k => match (PkS.un Simpl_IsAhead p : Option ((List (Int × Int)) × (List (Int × Int)) × Unit)) with
  | some (x0, x1, _) => g n x0 x1 (fun r0 r1 => k (PkS.pack Timpl_IsAhead (r0, r1, ())))
  | none => none
theorem eimpl_IsAhead (impl_GoodItems : ∀ {R : Type}, Nat → (List (Int × Int)) → (Bool → Option R) → Option R) (impl_common : ∀ {R : Type}, Nat → (List (Int × Int)) → (List (Int × Int)) → (Int → Option R) → Option R) (impl_last : ∀ {R : Type}, Nat → (List (Int × Int)) → (Int → Option R) → Option R) {R : Type} (n : Nat) (x0 : List (Int × Int)) (x1 : List (Int × Int)) (k : Pk → Option R) : evF tt sig (mkK [(22, Kimpl_GoodItems @impl_GoodItems n), (62, Kimpl_common @impl_common n), (54, Kimpl_last @impl_last n)] R) (mkL (mkK [(22, Kimpl_GoodItems @impl_GoodItems n), (62, Kimpl_common @impl_common n), (54, Kimpl_last @impl_last n)]) [] R) Tryd.f27 Himpl_IsAhead (PkS.pack Simpl_IsAhead (x0, x1, ())) k = (fun (k : Bool → Bool → Option R) => (impl_GoodItems n x0 fun r1 => (bif (!r1) then k false false else (impl_GoodItems n x1 fun r2 => (bif (!r2) then k false false else (impl_common n x0 x1 fun r3 => (impl_last n x0 fun r4 => k (r3 == r4) true))))))) (fun r0 r1 => k (PkS.pack Timpl_IsAhead (r0, r1, ()))) := by kernel_rfl
theorem okimpl_IsAhead (n : Nat) : FnOk Tryd.prog 27 (Kimpl_IsAhead @impl_IsAhead n) := by
  refine fn_ok (sig := sig) mixed ttok (mkK_nat (cimpl_IsAhead n)) (mkK_ok (cimpl_IsAhead n)) (mkL_nat (mkK_nat (cimpl_IsAhead n)) (l := []) trivial) (fn := Tryd.f27) (c := bodyOf Tryd.f27) (by kernel_rfl) (by kernel_rfl) (by kernel_rfl) (.eq (l := []) (by kernel_rfl) trivial) (shs := Himpl_IsAhead) (S := Simpl_IsAhead) (h1 := by kernel_rfl) fun R p k => ?_
  unfold Kimpl_IsAhead
  cases h : (PkS.un Simpl_IsAhead p) with
  | none => rfl
  | some d =>
    obtain ⟨x0, x1, u⟩ := (d : (List (Int × Int)) × (List (Int × Int)) × Unit)
    have hp := PkS.un_pack h
    subst hp
    exact (eimpl_IsAhead @impl_GoodItems @impl_common @impl_last n x0 x1 k).symm

/-! ### loop.example/g00269/laws.FnItems -/
theorem claws_FnItems (n : Nat) : AllOk Tryd.prog [(18, Kspec_DrawItemsOf @spec_DrawItemsOf n), (12, Kimpl_ItemsOf @impl_ItemsOf n), (10, Kspec_ItemsOf @spec_ItemsOf n), (19, Klaws_sameItems @laws_sameItems n), (20, Kimpl_VersionAt @impl_VersionAt n), (21, Kimpl_AppendItem @impl_AppendItem n), (22, Kimpl_GoodItems @impl_GoodItems n), (23, Kspec_DrawCutItems @spec_DrawCutItems n), (24, Kimpl_CutItems @impl_CutItems n), (25, Kspec_CutItems @spec_CutItems n), (26, Kimpl_LastOf @impl_LastOf n), (27, Kimpl_IsAhead @impl_IsAhead n)] := ⟨okspec_DrawItemsOf n, ⟨okimpl_ItemsOf n, ⟨okspec_ItemsOf n, ⟨oklaws_sameItems n, ⟨okimpl_VersionAt n, ⟨okimpl_AppendItem n, ⟨okimpl_GoodItems n, ⟨okspec_DrawCutItems n, ⟨okimpl_CutItems n, ⟨okspec_CutItems n, ⟨okimpl_LastOf n, ⟨okimpl_IsAhead n, trivial⟩⟩⟩⟩⟩⟩⟩⟩⟩⟩⟩⟩
@[reducible] def Slaws_FnItems_l11 : PkS := ⟨[.one (.ro (.int .u8)), .one (.ro (.pr (.int .i64) (.int .i64))), .one (.whole (100000, 0)), .one (.ro (.pr (.int .i64) (.pr (.int .i64) (.pr (.int .i64) .str)))), .one (.int .i64), .one (.int .i64), .one (.dead), .one (.dead)], [((100000, 0), .arr (.pr (.int .i64) (.int .i64)))]⟩
@[reducible] def Tlaws_FnItems_l11_0 : PkS := ⟨[.one (.bool), .one (.dead), .one (.dead)], []⟩
@[reducible] def Tlaws_FnItems_l11_1 : PkS := ⟨[.one (.ro (.int .u8)), .one (.ro (.pr (.int .i64) (.int .i64))), .one (.ro (.pr (.int .i64) (.int .i64))), .one (.dead), .one (.dead)], []⟩
def Dlaws_FnItems_l11 : LoopD := ⟨192, [1, 6, 10, 61, 62, 63], [.one (.ro (.int .u8)), .one (.ro (.pr (.int .i64) (.int .i64))), .one (.own (.pr (.int .i64) (.int .i64))), .one (.ro (.pr (.int .i64) (.pr (.int .i64) (.pr (.int .i64) .str)))), .one .any, .one .any, .skip, .skip], fun x => match x with
  | .ret => some ([4], [.one .any, .skip, .skip])
  | .exit 0 => some ([1, 6, 10], [.one (.ro (.int .u8)), .one (.ro (.pr (.int .i64) (.int .i64))), .one (.ro (.pr (.int .i64) (.int .i64))), .skip, .skip])
  | _ => none⟩
def Plaws_FnItems_l11 (g : ∀ {R : Type}, Nat → (List Int) → (List (Int × Int)) → (List (Int × Int × Int × ByteArray)) → Int → Int → (List (Int × Int)) → (Bool → Option R) → ((List Int) → (List (Int × Int)) → (List (Int × Int)) → Option R) → Option R) (n : Nat) : LPs := fun R q kk => match (PkS.un Slaws_FnItems_l11 q : Option ((List Int) × (List (Int × Int)) × (List (Int × Int × Int × ByteArray)) × Int × Int × (List (Int × Int)) × Unit)) with
  | some (y11_0, y11_1, y11_2, y11_3, y11_4, y11_5, _) => g n y11_0 y11_1 y11_2 y11_3 y11_4 y11_5 (fun r0 => kk .ret (PkS.pack Tlaws_FnItems_l11_0 (r0, ()))) (fun r0 r1 r2 => kk (.exit 0) (PkS.pack Tlaws_FnItems_l11_1 (r0, r1, r2, ())))
  | none => none
theorem elaws_FnItems_l11 (spec_DrawItemsOf : ∀ {R : Type}, Nat → (List Int) → ((List (Int × Int × Int × ByteArray)) → Option R) → Option R) (impl_ItemsOf : ∀ {R : Type}, Nat → (List (Int × Int × Int × ByteArray)) → ((List (Int × Int)) → Bool → Option R) → Option R) (spec_ItemsOf : ∀ {R : Type}, Nat → (List (Int × Int × Int × ByteArray)) → ((List (Int × Int)) → Bool → Option R) → Option R) (laws_sameItems : ∀ {R : Type}, Nat → (List (Int × Int)) → (List (Int × Int)) → (Bool → Option R) → Option R) (impl_VersionAt : ∀ {R : Type}, Nat → (List (Int × Int)) → Int → (Int → Bool → Option R) → Option R) (impl_AppendItem : ∀ {R : Type}, Nat → (List (Int × Int)) → Int → Int → (Bool → (List (Int × Int)) → Option R) → Option R) (impl_GoodItems : ∀ {R : Type}, Nat → (List (Int × Int)) → (Bool → Option R) → Option R) (spec_DrawCutItems : ∀ {R : Type}, Nat → (List Int) → (Int → (List (Int × Int)) → Option R) → Option R) (impl_CutItems : ∀ {R : Type}, Nat → (List (Int × Int)) → Int → (Bool → (List (Int × Int)) → Option R) → Option R) (spec_CutItems : ∀ {R : Type}, Nat → (List (Int × Int)) → Int → (Bool → (List (Int × Int)) → Option R) → Option R) (impl_LastOf : ∀ {R : Type}, Nat → (List (Int × Int)) → (Int → Int → Bool → Option R) → Option R) (impl_IsAhead : ∀ {R : Type}, Nat → (List (Int × Int)) → (List (Int × Int)) → (Bool → Bool → Option R) → Option R) (laws_FnItems_l11 : ∀ {R : Type}, Nat → (List Int) → (List (Int × Int)) → (List (Int × Int × Int × ByteArray)) → Int → Int → (List (Int × Int)) → (Bool → Option R) → ((List Int) → (List (Int × Int)) → (List (Int × Int)) → Option R) → Option R) {R : Type} (n : Nat) (y11_0 : List Int) (y11_1 : List (Int × Int)) (y11_2 : List (Int × Int × Int × ByteArray)) (y11_3 : Int) (y11_4 : Int) (y11_5 : List (Int × Int)) (kk : Ex → Pk → Option R) : Dlaws_FnItems_l11.step tt sig (mkK [(18, Kspec_DrawItemsOf @spec_DrawItemsOf n), (12, Kimpl_ItemsOf @impl_ItemsOf n), (10, Kspec_ItemsOf @spec_ItemsOf n), (19, Klaws_sameItems @laws_sameItems n), (20, Kimpl_VersionAt @impl_VersionAt n), (21, Kimpl_AppendItem @impl_AppendItem n), (22, Kimpl_GoodItems @impl_GoodItems n), (23, Kspec_DrawCutItems @spec_DrawCutItems n), (24, Kimpl_CutItems @impl_CutItems n), (25, Kspec_CutItems @spec_CutItems n), (26, Kimpl_LastOf @impl_LastOf n), (27, Kimpl_IsAhead @impl_IsAhead n)] R) (mkL (mkK [(18, Kspec_DrawItemsOf @spec_DrawItemsOf n), (12, Kimpl_ItemsOf @impl_ItemsOf n), (10, Kspec_ItemsOf @spec_ItemsOf n), (19, Klaws_sameItems @laws_sameItems n), (20, Kimpl_VersionAt @impl_VersionAt n), (21, Kimpl_AppendItem @impl_AppendItem n), (22, Kimpl_GoodItems @impl_GoodItems n), (23, Kspec_DrawCutItems @spec_DrawCutItems n), (24, Kimpl_CutItems @impl_CutItems n), (25, Kspec_CutItems @spec_CutItems n), (26, Kimpl_LastOf @impl_LastOf n), (27, Kimpl_IsAhead @impl_IsAhead n)]) [] R) (loopIn 11 (bodyOf Tryd.f4)) (fun q' => Plaws_FnItems_l11 @laws_FnItems_l11 n R q' kk) (PkS.pack Slaws_FnItems_l11 (y11_0, y11_1, y11_2, y11_3, y11_4, y11_5, ())) kk = (fun (kret : Bool → Option R) (kexit0 : (List Int) → (List (Int × Int)) → (List (Int × Int)) → Option R) => (bif (decide (y11_4 < y11_3)) then (bif decide (0 ≤ y11_4) then (bif decide (y11_4 < (y11_2.length : Int)) then (impl_VersionAt n y11_1 ((y11_2.getD (Int.toNat y11_4) (0, (0, (0, ByteArray.empty)))).1) fun r7 r8 => (impl_AppendItem n y11_5 ((y11_2.getD (Int.toNat y11_4) (0, (0, (0, ByteArray.empty)))).1) ((y11_2.getD (Int.toNat y11_4) (0, (0, (0, ByteArray.empty)))).2.1) fun r9 r10 => (bif (!r8) then kret false else (bif (r7 != (y11_2.getD (Int.toNat y11_4) (0, (0, (0, ByteArray.empty)))).2.1) then kret false else (bif (!r9) then kret false else laws_FnItems_l11 n y11_0 y11_1 y11_2 y11_3 (IntKind.wrap .i64 (y11_4 + 1)) r10 kret kexit0))))) else none) else none) else kexit0 y11_0 y11_1 y11_5)) (fun r0 => kk .ret (PkS.pack Tlaws_FnItems_l11_0 (r0, ()))) (fun r0 r1 r2 => kk (.exit 0) (PkS.pack Tlaws_FnItems_l11_1 (r0, r1, r2, ()))) := by kernel_rfl
theorem lelaws_FnItems_l11 : LoopEq tt sig (fun n => mkK [(18, Kspec_DrawItemsOf @spec_DrawItemsOf n), (12, Kimpl_ItemsOf @impl_ItemsOf n), (10, Kspec_ItemsOf @spec_ItemsOf n), (19, Klaws_sameItems @laws_sameItems n), (20, Kimpl_VersionAt @impl_VersionAt n), (21, Kimpl_AppendItem @impl_AppendItem n), (22, Kimpl_GoodItems @impl_GoodItems n), (23, Kspec_DrawCutItems @spec_DrawCutItems n), (24, Kimpl_CutItems @impl_CutItems n), (25, Kspec_CutItems @spec_CutItems n), (26, Kimpl_LastOf @impl_LastOf n), (27, Kimpl_IsAhead @impl_IsAhead n)]) (fun n => mkL (mkK [(18, Kspec_DrawItemsOf @spec_DrawItemsOf n), (12, Kimpl_ItemsOf @impl_ItemsOf n), (10, Kspec_ItemsOf @spec_ItemsOf n), (19, Klaws_sameItems @laws_sameItems n), (20, Kimpl_VersionAt @impl_VersionAt n), (21, Kimpl_AppendItem @impl_AppendItem n), (22, Kimpl_GoodItems @impl_GoodItems n), (23, Kspec_DrawCutItems @spec_DrawCutItems n), (24, Kimpl_CutItems @impl_CutItems n), (25, Kspec_CutItems @spec_CutItems n), (26, Kimpl_LastOf @impl_LastOf n), (27, Kimpl_IsAhead @impl_IsAhead n)]) []) Dlaws_FnItems_l11 Slaws_FnItems_l11 (loopIn 11 (bodyOf Tryd.f4)) (Plaws_FnItems_l11 @laws_FnItems_l11) where
  zero R q kk := by unfold Plaws_FnItems_l11; cases (PkS.un Slaws_FnItems_l11 q) <;> rfl
  succ n R q kk := by
    unfold Plaws_FnItems_l11
    cases h : (PkS.un Slaws_FnItems_l11 q) with
    | none => rfl
    | some d =>
      obtain ⟨y11_0, y11_1, y11_2, y11_3, y11_4, y11_5, u⟩ := (d : (List Int) × (List (Int × Int)) × (List (Int × Int × Int × ByteArray)) × Int × Int × (List (Int × Int)) × Unit)
      have hp := PkS.un_pack h
      subst hp
      exact (elaws_FnItems_l11 @spec_DrawItemsOf @impl_ItemsOf @spec_ItemsOf @laws_sameItems @impl_VersionAt @impl_AppendItem @impl_GoodItems @spec_DrawCutItems @impl_CutItems @spec_CutItems @impl_LastOf @impl_IsAhead @laws_FnItems_l11 n y11_0 y11_1 y11_2 y11_3 y11_4 y11_5 kk).symm
theorem nllaws_FnItems_l11 : ∀ n, NatLP (Plaws_FnItems_l11 @laws_FnItems_l11 n) := lelaws_FnItems_l11.nat (fun n => mkK_nat (claws_FnItems n)) fun n => mkL_nat (mkK_nat (claws_FnItems n)) (l := []) trivial
theorem inlaws_FnItems_l11 (n : Nat) (R : Type) : LoopsOk Tryd.prog (mkL (mkK [(18, Kspec_DrawItemsOf @spec_DrawItemsOf n), (12, Kimpl_ItemsOf @impl_ItemsOf n), (10, Kspec_ItemsOf @spec_ItemsOf n), (19, Klaws_sameItems @laws_sameItems n), (20, Kimpl_VersionAt @impl_VersionAt n), (21, Kimpl_AppendItem @impl_AppendItem n), (22, Kimpl_GoodItems @impl_GoodItems n), (23, Kspec_DrawCutItems @spec_DrawCutItems n), (24, Kimpl_CutItems @impl_CutItems n), (25, Kspec_CutItems @spec_CutItems n), (26, Kimpl_LastOf @impl_LastOf n), (27, Kimpl_IsAhead @impl_IsAhead n)]) [] R) (loopIn 11 (bodyOf Tryd.f4)) := .eq (l := []) (by kernel_rfl) trivial
theorem lklaws_FnItems_l11 (n : Nat) (R : Type) (L0 : LK R) (h0 : ∀ id, firstRegion (loopIn 11 (bodyOf Tryd.f4)) = some id → L0 id = Dlaws_FnItems_l11.oracle (mkK [(18, Kspec_DrawItemsOf @spec_DrawItemsOf n), (12, Kimpl_ItemsOf @impl_ItemsOf n), (10, Kspec_ItemsOf @spec_ItemsOf n), (19, Klaws_sameItems @laws_sameItems n), (20, Kimpl_VersionAt @impl_VersionAt n), (21, Kimpl_AppendItem @impl_AppendItem n), (22, Kimpl_GoodItems @impl_GoodItems n), (23, Kspec_DrawCutItems @spec_DrawCutItems n), (24, Kimpl_CutItems @impl_CutItems n), (25, Kspec_CutItems @spec_CutItems n), (26, Kimpl_LastOf @impl_LastOf n), (27, Kimpl_IsAhead @impl_IsAhead n)] R) (Plaws_FnItems_l11 @laws_FnItems_l11 n R)) : LoopOk Tryd.prog L0 (loopIn 11 (bodyOf Tryd.f4)) :=
  lelaws_FnItems_l11.ok mixed ttok (fun n => mkK_nat (claws_FnItems n)) (fun n => mkK_ok (claws_FnItems n)) (fun n => inlaws_FnItems_l11 n R) (mkK_nat (claws_FnItems n)) h0
@[reducible] def Slaws_FnItems_l29 : PkS := ⟨[.one (.whole (100000, 0)), .one (.int .i64), .one (.whole (100000, 1)), .one (.int .i64), .one (.dead), .one (.dead)], [((100000, 0), .arr (.pr (.int .i64) (.int .i64))), ((100000, 1), .arr (.pr (.int .i64) (.int .i64)))]⟩
@[reducible] def Tlaws_FnItems_l29_0 : PkS := ⟨[.one (.bool), .one (.dead), .one (.dead)], []⟩
@[reducible] def Tlaws_FnItems_l29_1 : PkS := ⟨[.one (.whole (100000, 0)), .one (.int .i64), .one (.whole (100000, 1)), .one (.dead), .one (.dead)], [((100000, 0), .arr (.pr (.int .i64) (.int .i64))), ((100000, 1), .arr (.pr (.int .i64) (.int .i64)))]⟩
def Dlaws_FnItems_l29 : LoopD := ⟨192, [17, 18, 19, 23], [.one (.own (.pr (.int .i64) (.int .i64))), .one .any, .one (.own (.pr (.int .i64) (.int .i64))), .one .any, .skip, .skip], fun x => match x with
  | .ret => some ([4], [.one .any, .skip, .skip])
  | .exit 2 => some ([17, 18, 19], [.one (.own (.pr (.int .i64) (.int .i64))), .one .any, .one (.own (.pr (.int .i64) (.int .i64))), .skip, .skip])
  | _ => none⟩
def Plaws_FnItems_l29 (g : ∀ {R : Type}, Nat → Int → Int → (List (Int × Int)) → (List (Int × Int)) → (Bool → Option R) → (Int → (List (Int × Int)) → (List (Int × Int)) → Option R) → Option R) (n : Nat) : LPs := fun R q kk => match (PkS.un Slaws_FnItems_l29 q : Option (Int × Int × (List (Int × Int)) × (List (Int × Int)) × Unit)) with
  | some (y29_0, y29_1, y29_2, y29_3, _) => g n y29_0 y29_1 y29_2 y29_3 (fun r0 => kk .ret (PkS.pack Tlaws_FnItems_l29_0 (r0, ()))) (fun r0 r1 r2 => kk (.exit 2) (PkS.pack Tlaws_FnItems_l29_1 (r0, r1, r2, ())))
  | none => none
theorem elaws_FnItems_l29 (spec_DrawItemsOf : ∀ {R : Type}, Nat → (List Int) → ((List (Int × Int × Int × ByteArray)) → Option R) → Option R) (impl_ItemsOf : ∀ {R : Type}, Nat → (List (Int × Int × Int × ByteArray)) → ((List (Int × Int)) → Bool → Option R) → Option R) (spec_ItemsOf : ∀ {R : Type}, Nat → (List (Int × Int × Int × ByteArray)) → ((List (Int × Int)) → Bool → Option R) → Option R) (laws_sameItems : ∀ {R : Type}, Nat → (List (Int × Int)) → (List (Int × Int)) → (Bool → Option R) → Option R) (impl_VersionAt : ∀ {R : Type}, Nat → (List (Int × Int)) → Int → (Int → Bool → Option R) → Option R) (impl_AppendItem : ∀ {R : Type}, Nat → (List (Int × Int)) → Int → Int → (Bool → (List (Int × Int)) → Option R) → Option R) (impl_GoodItems : ∀ {R : Type}, Nat → (List (Int × Int)) → (Bool → Option R) → Option R) (spec_DrawCutItems : ∀ {R : Type}, Nat → (List Int) → (Int → (List (Int × Int)) → Option R) → Option R) (impl_CutItems : ∀ {R : Type}, Nat → (List (Int × Int)) → Int → (Bool → (List (Int × Int)) → Option R) → Option R) (spec_CutItems : ∀ {R : Type}, Nat → (List (Int × Int)) → Int → (Bool → (List (Int × Int)) → Option R) → Option R) (impl_LastOf : ∀ {R : Type}, Nat → (List (Int × Int)) → (Int → Int → Bool → Option R) → Option R) (impl_IsAhead : ∀ {R : Type}, Nat → (List (Int × Int)) → (List (Int × Int)) → (Bool → Bool → Option R) → Option R) (laws_FnItems_l11 : ∀ {R : Type}, Nat → (List Int) → (List (Int × Int)) → (List (Int × Int × Int × ByteArray)) → Int → Int → (List (Int × Int)) → (Bool → Option R) → ((List Int) → (List (Int × Int)) → (List (Int × Int)) → Option R) → Option R) (laws_FnItems_l29 : ∀ {R : Type}, Nat → Int → Int → (List (Int × Int)) → (List (Int × Int)) → (Bool → Option R) → (Int → (List (Int × Int)) → (List (Int × Int)) → Option R) → Option R) {R : Type} (n : Nat) (y29_0 : Int) (y29_1 : Int) (y29_2 : List (Int × Int)) (y29_3 : List (Int × Int)) (kk : Ex → Pk → Option R) : Dlaws_FnItems_l29.step tt sig (mkK [(18, Kspec_DrawItemsOf @spec_DrawItemsOf n), (12, Kimpl_ItemsOf @impl_ItemsOf n), (10, Kspec_ItemsOf @spec_ItemsOf n), (19, Klaws_sameItems @laws_sameItems n), (20, Kimpl_VersionAt @impl_VersionAt n), (21, Kimpl_AppendItem @impl_AppendItem n), (22, Kimpl_GoodItems @impl_GoodItems n), (23, Kspec_DrawCutItems @spec_DrawCutItems n), (24, Kimpl_CutItems @impl_CutItems n), (25, Kspec_CutItems @spec_CutItems n), (26, Kimpl_LastOf @impl_LastOf n), (27, Kimpl_IsAhead @impl_IsAhead n)] R) (mkL (mkK [(18, Kspec_DrawItemsOf @spec_DrawItemsOf n), (12, Kimpl_ItemsOf @impl_ItemsOf n), (10, Kspec_ItemsOf @spec_ItemsOf n), (19, Klaws_sameItems @laws_sameItems n), (20, Kimpl_VersionAt @impl_VersionAt n), (21, Kimpl_AppendItem @impl_AppendItem n), (22, Kimpl_GoodItems @impl_GoodItems n), (23, Kspec_DrawCutItems @spec_DrawCutItems n), (24, Kimpl_CutItems @impl_CutItems n), (25, Kspec_CutItems @spec_CutItems n), (26, Kimpl_LastOf @impl_LastOf n), (27, Kimpl_IsAhead @impl_IsAhead n)]) [(11, Dlaws_FnItems_l11, Plaws_FnItems_l11 @laws_FnItems_l11 n)] R) (loopIn 29 (bodyOf Tryd.f4)) (fun q' => Plaws_FnItems_l29 @laws_FnItems_l29 n R q' kk) (PkS.pack Slaws_FnItems_l29 (y29_0, y29_1, y29_2, y29_3, ())) kk = (fun (kret : Bool → Option R) (kexit2 : Int → (List (Int × Int)) → (List (Int × Int)) → Option R) => (bif (decide (y29_1 ≤ y29_0)) then (impl_VersionAt n y29_2 y29_1 fun r24 r25 => (impl_VersionAt n y29_3 y29_1 fun r26 r27 => (bif (!r25) then kret false else (bif (!r27) then kret false else (bif (r24 != r26) then kret false else laws_FnItems_l29 n y29_0 (IntKind.wrap .i64 (y29_1 + 1)) y29_2 y29_3 kret kexit2))))) else kexit2 y29_0 y29_2 y29_3)) (fun r0 => kk .ret (PkS.pack Tlaws_FnItems_l29_0 (r0, ()))) (fun r0 r1 r2 => kk (.exit 2) (PkS.pack Tlaws_FnItems_l29_1 (r0, r1, r2, ()))) := by kernel_rfl
theorem lelaws_FnItems_l29 : LoopEq tt sig (fun n => mkK [(18, Kspec_DrawItemsOf @spec_DrawItemsOf n), (12, Kimpl_ItemsOf @impl_ItemsOf n), (10, Kspec_ItemsOf @spec_ItemsOf n), (19, Klaws_sameItems @laws_sameItems n), (20, Kimpl_VersionAt @impl_VersionAt n), (21, Kimpl_AppendItem @impl_AppendItem n), (22, Kimpl_GoodItems @impl_GoodItems n), (23, Kspec_DrawCutItems @spec_DrawCutItems n), (24, Kimpl_CutItems @impl_CutItems n), (25, Kspec_CutItems @spec_CutItems n), (26, Kimpl_LastOf @impl_LastOf n), (27, Kimpl_IsAhead @impl_IsAhead n)]) (fun n => mkL (mkK [(18, Kspec_DrawItemsOf @spec_DrawItemsOf n), (12, Kimpl_ItemsOf @impl_ItemsOf n), (10, Kspec_ItemsOf @spec_ItemsOf n), (19, Klaws_sameItems @laws_sameItems n), (20, Kimpl_VersionAt @impl_VersionAt n), (21, Kimpl_AppendItem @impl_AppendItem n), (22, Kimpl_GoodItems @impl_GoodItems n), (23, Kspec_DrawCutItems @spec_DrawCutItems n), (24, Kimpl_CutItems @impl_CutItems n), (25, Kspec_CutItems @spec_CutItems n), (26, Kimpl_LastOf @impl_LastOf n), (27, Kimpl_IsAhead @impl_IsAhead n)]) [(11, Dlaws_FnItems_l11, Plaws_FnItems_l11 @laws_FnItems_l11 n)]) Dlaws_FnItems_l29 Slaws_FnItems_l29 (loopIn 29 (bodyOf Tryd.f4)) (Plaws_FnItems_l29 @laws_FnItems_l29) where
  zero R q kk := by unfold Plaws_FnItems_l29; cases (PkS.un Slaws_FnItems_l29 q) <;> rfl
  succ n R q kk := by
    unfold Plaws_FnItems_l29
    cases h : (PkS.un Slaws_FnItems_l29 q) with
    | none => rfl
    | some d =>
      obtain ⟨y29_0, y29_1, y29_2, y29_3, u⟩ := (d : Int × Int × (List (Int × Int)) × (List (Int × Int)) × Unit)
      have hp := PkS.un_pack h
      subst hp
      exact (elaws_FnItems_l29 @spec_DrawItemsOf @impl_ItemsOf @spec_ItemsOf @laws_sameItems @impl_VersionAt @impl_AppendItem @impl_GoodItems @spec_DrawCutItems @impl_CutItems @spec_CutItems @impl_LastOf @impl_IsAhead @laws_FnItems_l11 @laws_FnItems_l29 n y29_0 y29_1 y29_2 y29_3 kk).symm
theorem nllaws_FnItems_l29 : ∀ n, NatLP (Plaws_FnItems_l29 @laws_FnItems_l29 n) := lelaws_FnItems_l29.nat (fun n => mkK_nat (claws_FnItems n)) fun n => mkL_nat (mkK_nat (claws_FnItems n)) (l := [(11, Dlaws_FnItems_l11, Plaws_FnItems_l11 @laws_FnItems_l11 n)]) ⟨nllaws_FnItems_l11 n, trivial⟩
theorem inlaws_FnItems_l29 (n : Nat) (R : Type) : LoopsOk Tryd.prog (mkL (mkK [(18, Kspec_DrawItemsOf @spec_DrawItemsOf n), (12, Kimpl_ItemsOf @impl_ItemsOf n), (10, Kspec_ItemsOf @spec_ItemsOf n), (19, Klaws_sameItems @laws_sameItems n), (20, Kimpl_VersionAt @impl_VersionAt n), (21, Kimpl_AppendItem @impl_AppendItem n), (22, Kimpl_GoodItems @impl_GoodItems n), (23, Kspec_DrawCutItems @spec_DrawCutItems n), (24, Kimpl_CutItems @impl_CutItems n), (25, Kspec_CutItems @spec_CutItems n), (26, Kimpl_LastOf @impl_LastOf n), (27, Kimpl_IsAhead @impl_IsAhead n)]) [(11, Dlaws_FnItems_l11, Plaws_FnItems_l11 @laws_FnItems_l11 n)] R) (loopIn 29 (bodyOf Tryd.f4)) := .eq (l := []) (by kernel_rfl) trivial
theorem lklaws_FnItems_l29 (n : Nat) (R : Type) (L0 : LK R) (h0 : ∀ id, firstRegion (loopIn 29 (bodyOf Tryd.f4)) = some id → L0 id = Dlaws_FnItems_l29.oracle (mkK [(18, Kspec_DrawItemsOf @spec_DrawItemsOf n), (12, Kimpl_ItemsOf @impl_ItemsOf n), (10, Kspec_ItemsOf @spec_ItemsOf n), (19, Klaws_sameItems @laws_sameItems n), (20, Kimpl_VersionAt @impl_VersionAt n), (21, Kimpl_AppendItem @impl_AppendItem n), (22, Kimpl_GoodItems @impl_GoodItems n), (23, Kspec_DrawCutItems @spec_DrawCutItems n), (24, Kimpl_CutItems @impl_CutItems n), (25, Kspec_CutItems @spec_CutItems n), (26, Kimpl_LastOf @impl_LastOf n), (27, Kimpl_IsAhead @impl_IsAhead n)] R) (Plaws_FnItems_l29 @laws_FnItems_l29 n R)) : LoopOk Tryd.prog L0 (loopIn 29 (bodyOf Tryd.f4)) :=
  lelaws_FnItems_l29.ok mixed ttok (fun n => mkK_nat (claws_FnItems n)) (fun n => mkK_ok (claws_FnItems n)) (fun n => inlaws_FnItems_l29 n R) (mkK_nat (claws_FnItems n)) h0
@[reducible] def Slaws_FnItems : PkS := ⟨[.one (.ro (.int .u8)), .one (.ro (.int .u8))], []⟩
@[reducible] def Tlaws_FnItems : PkS := ⟨[.one (.bool), .one (.dead), .one (.dead)], []⟩
def Hlaws_FnItems : List Sh := [.one .any, .skip, .skip]
def Klaws_FnItems (g : ∀ {R : Type}, Nat → (List Int) → (List Int) → (Bool → Option R) → Option R) (n : Nat) : KPs := fun R p k => match (PkS.un Slaws_FnItems p : Option ((List Int) × (List Int) × Unit)) with
  | some (x0, x1, _) => g n x0 x1 (fun r0 => k (PkS.pack Tlaws_FnItems (r0, ())))
  | none => none
theorem elaws_FnItems (spec_DrawItemsOf : ∀ {R : Type}, Nat → (List Int) → ((List (Int × Int × Int × ByteArray)) → Option R) → Option R) (impl_ItemsOf : ∀ {R : Type}, Nat → (List (Int × Int × Int × ByteArray)) → ((List (Int × Int)) → Bool → Option R) → Option R) (spec_ItemsOf : ∀ {R : Type}, Nat → (List (Int × Int × Int × ByteArray)) → ((List (Int × Int)) → Bool → Option R) → Option R) (laws_sameItems : ∀ {R : Type}, Nat → (List (Int × Int)) → (List (Int × Int)) → (Bool → Option R) → Option R) (impl_VersionAt : ∀ {R : Type}, Nat → (List (Int × Int)) → Int → (Int → Bool → Option R) → Option R) (impl_AppendItem : ∀ {R : Type}, Nat → (List (Int × Int)) → Int → Int → (Bool → (List (Int × Int)) → Option R) → Option R) (impl_GoodItems : ∀ {R : Type}, Nat → (List (Int × Int)) → (Bool → Option R) → Option R) (spec_DrawCutItems : ∀ {R : Type}, Nat → (List Int) → (Int → (List (Int × Int)) → Option R) → Option R) (impl_CutItems : ∀ {R : Type}, Nat → (List (Int × Int)) → Int → (Bool → (List (Int × Int)) → Option R) → Option R) (spec_CutItems : ∀ {R : Type}, Nat → (List (Int × Int)) → Int → (Bool → (List (Int × Int)) → Option R) → Option R) (impl_LastOf : ∀ {R : Type}, Nat → (List (Int × Int)) → (Int → Int → Bool → Option R) → Option R) (impl_IsAhead : ∀ {R : Type}, Nat → (List (Int × Int)) → (List (Int × Int)) → (Bool → Bool → Option R) → Option R) (laws_FnItems_l11 : ∀ {R : Type}, Nat → (List Int) → (List (Int × Int)) → (List (Int × Int × Int × ByteArray)) → Int → Int → (List (Int × Int)) → (Bool → Option R) → ((List Int) → (List (Int × Int)) → (List (Int × Int)) → Option R) → Option R) (laws_FnItems_l29 : ∀ {R : Type}, Nat → Int → Int → (List (Int × Int)) → (List (Int × Int)) → (Bool → Option R) → (Int → (List (Int × Int)) → (List (Int × Int)) → Option R) → Option R) {R : Type} (n : Nat) (x0 : List Int) (x1 : List Int) (k : Pk → Option R) : evF tt sig (mkK [(18, Kspec_DrawItemsOf @spec_DrawItemsOf n), (12, Kimpl_ItemsOf @impl_ItemsOf n), (10, Kspec_ItemsOf @spec_ItemsOf n), (19, Klaws_sameItems @laws_sameItems n), (20, Kimpl_VersionAt @impl_VersionAt n), (21, Kimpl_AppendItem @impl_AppendItem n), (22, Kimpl_GoodItems @impl_GoodItems n), (23, Kspec_DrawCutItems @spec_DrawCutItems n), (24, Kimpl_CutItems @impl_CutItems n), (25, Kspec_CutItems @spec_CutItems n), (26, Kimpl_LastOf @impl_LastOf n), (27, Kimpl_IsAhead @impl_IsAhead n)] R) (mkL (mkK [(18, Kspec_DrawItemsOf @spec_DrawItemsOf n), (12, Kimpl_ItemsOf @impl_ItemsOf n), (10, Kspec_ItemsOf @spec_ItemsOf n), (19, Klaws_sameItems @laws_sameItems n), (20, Kimpl_VersionAt @impl_VersionAt n), (21, Kimpl_AppendItem @impl_AppendItem n), (22, Kimpl_GoodItems @impl_GoodItems n), (23, Kspec_DrawCutItems @spec_DrawCutItems n), (24, Kimpl_CutItems @impl_CutItems n), (25, Kspec_CutItems @spec_CutItems n), (26, Kimpl_LastOf @impl_LastOf n), (27, Kimpl_IsAhead @impl_IsAhead n)]) [(11, Dlaws_FnItems_l11, Plaws_FnItems_l11 @laws_FnItems_l11 n), (29, Dlaws_FnItems_l29, Plaws_FnItems_l29 @laws_FnItems_l29 n)] R) Tryd.f4 Hlaws_FnItems (PkS.pack Slaws_FnItems (x0, x1, ())) k = (fun (k : Bool → Option R) => (bif (decide ((IntKind.wrap .i64 ((x0.length : Int) + (x1.length : Int))) > 1048576)) then k true else (spec_DrawItemsOf n x0 fun r1 => (impl_ItemsOf n r1 fun r2 r3 => (spec_ItemsOf n r1 fun r4 r5 => (bif (!(r3 == r5)) then k false else (laws_sameItems n r2 r4 fun r6 => (bif (!r6) then k false else (bif r3 then (laws_FnItems_l11 n x1 r2 r1 (r1.length : Int) 0 ([] : List (Int × Int)) (fun r11 => k r11) (fun r12 r13 r14 => (laws_sameItems n r14 r13 fun r15 => (bif (!r15) then k false else (impl_GoodItems n r13 fun r16 => (bif (!r16) then k false else (spec_DrawCutItems n r12 fun r17 r18 => (impl_CutItems n r18 r17 fun r19 r20 => (spec_CutItems n r18 r17 fun r21 r22 => (bif (!(r19 == r21)) then k false else (laws_sameItems n r20 r22 fun r23 => (bif (!r23) then k false else (bif (!r19) then k ((r20.length : Int) == 0) else (laws_FnItems_l29 n r17 1 r18 r20 (fun r28 => k r28) (fun r29 r30 r31 => (impl_LastOf n r31 fun r32 r33 r34 => (impl_IsAhead n r31 r30 fun r35 r36 => (bif (r34 == (decide (r29 > 0))) then (bif (r32 == r29) then (bif r36 then k r35 else k false) else k false) else k false)))))))))))))))))) else (spec_DrawCutItems n x1 fun r37 r38 => (impl_CutItems n r38 r37 fun r39 r40 => (spec_CutItems n r38 r37 fun r41 r42 => (bif (!(r39 == r41)) then k false else (laws_sameItems n r40 r42 fun r43 => (bif (!r43) then k false else (bif (!r39) then k ((r40.length : Int) == 0) else (laws_FnItems_l29 n r37 1 r38 r40 (fun r44 => k r44) (fun r45 r46 r47 => (impl_LastOf n r47 fun r48 r49 r50 => (impl_IsAhead n r47 r46 fun r51 r52 => (bif (r50 == (decide (r45 > 0))) then (bif (r48 == r45) then (bif r52 then k r51 else k false) else k false) else k false))))))))))))))))))))) (fun r0 => k (PkS.pack Tlaws_FnItems (r0, ()))) := by kernel_rfl
theorem oklaws_FnItems (n : Nat) : FnOk Tryd.prog 4 (Klaws_FnItems @laws_FnItems n) := by
  refine fn_ok (sig := sig) mixed ttok (mkK_nat (claws_FnItems n)) (mkK_ok (claws_FnItems n)) (mkL_nat (mkK_nat (claws_FnItems n)) (l := [(11, Dlaws_FnItems_l11, Plaws_FnItems_l11 @laws_FnItems_l11 n), (29, Dlaws_FnItems_l29, Plaws_FnItems_l29 @laws_FnItems_l29 n)]) ⟨nllaws_FnItems_l11 n, ⟨nllaws_FnItems_l29 n, trivial⟩⟩) (fn := Tryd.f4) (c := bodyOf Tryd.f4) (by kernel_rfl) (by kernel_rfl) (by kernel_rfl) (.eq (l := [.lo (loopIn 11 (bodyOf Tryd.f4)), .lo (loopIn 29 (bodyOf Tryd.f4))]) (by kernel_rfl) ⟨(lklaws_FnItems_l11 n _ _ (at_id (i := 11) (by kernel_rfl) rfl)), ⟨(lklaws_FnItems_l29 n _ _ (at_id (i := 29) (by kernel_rfl) rfl)), trivial⟩⟩) (shs := Hlaws_FnItems) (S := Slaws_FnItems) (h1 := by kernel_rfl) fun R p k => ?_
  unfold Klaws_FnItems
  cases h : (PkS.un Slaws_FnItems p) with
  | none => rfl
  | some d =>
    obtain ⟨x0, x1, u⟩ := (d : (List Int) × (List Int) × Unit)
    have hp := PkS.un_pack h
    subst hp
    exact (elaws_FnItems @spec_DrawItemsOf @impl_ItemsOf @spec_ItemsOf @laws_sameItems @impl_VersionAt @impl_AppendItem @impl_GoodItems @spec_DrawCutItems @impl_CutItems @spec_CutItems @impl_LastOf @impl_IsAhead @laws_FnItems_l11 @laws_FnItems_l29 n x0 x1 k).symm
end Go.Am.G
