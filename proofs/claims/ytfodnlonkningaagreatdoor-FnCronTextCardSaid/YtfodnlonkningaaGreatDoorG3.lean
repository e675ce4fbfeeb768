/- What the row tells of package variables. -/
import Derived.Test.YtfodnlonkningaaGreatDoorF3
import Derived.Test.YtfodnlonkningaaGreatDoorAmP
import Derived.KernelRfl
import Derived.Test.YtfodnlonkningaaGreatDoorProg
set_option linter.unusedVariables false
set_option maxRecDepth 100000
namespace Go.Am.G
open Go Go.Am
open Go.Proofs
def tt : TT := [(3, ⟨1, false, (.int .i64), 0, [], [.int .i64 0], 8, true, false, [], none⟩), (4, ⟨1, false, .bool, 0, [], [.bool false], 1, true, false, [], none⟩), (5, ⟨1, false, (.int .u8), 0, [], [.int .u8 0], 1, true, false, [], none⟩), (9, ⟨1, false, .str, 0, [], [.str ByteArray.empty], 16, true, false, [], none⟩), (22, ⟨1, false, (.sl (.int .u8)), 5, [], [.nil], 24, true, true, [], none⟩), (23, ⟨1, false, (.sl (.int .i64)), 3, [], [.nil], 24, true, true, [], none⟩), (25, ⟨3, true, (.pr (.sl (.int .i64)) (.pr (.sl (.int .i64)) (.sl (.int .i64)))), 0, [(0, 1, false), (1, 1, false), (2, 1, false)], [.nil, .nil, .nil], 72, true, false, [], none⟩), (35, ⟨1, false, (.sl .str), 9, [], [.nil], 24, true, true, [], none⟩), (36, ⟨1, false, (.sl (.sl (.int .i64))), 23, [], [.nil], 24, true, true, [], none⟩), (48, ⟨1, false, (.int .u64), 0, [], [.int .u64 0], 8, true, false, [], none⟩), (50, ⟨3, true, (.pr (.sl (.int .u8)) (.pr (.int .i64) (.int .u64))), 0, [(0, 1, false), (1, 1, false), (2, 1, false)], [.nil, .int .i64 0, .int .u64 0], 40, true, false, [], none⟩), (69, ⟨1, false, (.sl .bool), 4, [], [.nil], 24, true, true, [], none⟩)]
def sig : Sig := sigOf [(3, [.one (.ro (.int .u8)), .one (.ro (.int .u8))]), (4, [.one (.ro (.int .u8))]), (5, [.agg [(.ro (.int .i64)), (.ro (.int .i64)), (.ro (.int .i64))]]), (6, [.agg [(.ro (.int .i64)), (.ro (.int .i64)), (.ro (.int .i64))]]), (7, [.agg [(.ro (.int .i64)), (.ro (.int .i64)), (.ro (.int .i64))]]), (8, [.one .any]), (9, [.agg [(.ro (.int .i64)), (.ro (.int .i64)), (.ro (.int .i64))], .agg [(.ro (.int .i64)), (.ro (.int .i64)), (.ro (.int .i64))]]), (10, [.one (.ro (.int .u8))]), (11, [.one .any]), (12, [.one (.ro (.int .u8))]), (13, [.box [(.ro (.int .i64)), (.ro (.int .i64)), (.ro (.int .i64))]]), (14, [.one .any]), (15, []), (16, [.one (.ro .str), .one .any]), (17, [.agg [(.ro (.int .i64)), (.ro (.int .i64)), (.ro (.int .i64))]]), (18, [.one (.ro (.int .i64)), .one .any]), (19, [.one (.ro (.int .i64)), .one .any]), (20, [.one .any, .one .any, .one .any]), (21, [.one .any, .one .any]), (22, [.one (.ro (.int .i64)), .one (.ro (.int .i64))]), (23, [.box [(.ro (.int .u8)), .any, .any], .one (.ro .str)]), (24, [.box [(.ro (.int .u8)), .any, .any], .one .any]), (25, [.box [(.ro (.int .u8)), .any, .any], .one .any, .one .any]), (26, [.one .any, .one .any]), (27, [.one .any, .one .any]), (28, [.box [(.ro (.int .u8)), .any, .any]]), (33, [.one (.ro (.int .i64)), .one .any]), (34, [.one .any]), (35, [.one .any, .one .any, .one .any]), (37, [.one .any, .one .any]), (38, [.one .any, .one .any]), (39, [.box [(.ro (.int .u8)), .any, .any], .one .any]), (40, [.one .any, .one .any]), (41, [.box [(.ro (.int .u8)), .any, .any], .one .any]), (45, [.one .any, .one .any, .one .any]), (49, [.one .any, .one .any]), (50, [.one .any]), (51, [.one .any]), (52, [.box [(.ro (.int .u8)), .any, .any]]), (53, [.one .any]), (65, [.one .any, .one .any])]
theorem ttok : TTok Tryz.prog tt := .of_chk (by kernel_rfl)
theorem mixed : Tryz.prog.follows .mixedOrders = true := by kernel_rfl

/-! ### (*loop.example/g00269/spec.l1Cur).next -/
theorem cspec_l1Cur_next (n : Nat) : AllOk Tryz.prog [] := trivial
@[reducible] def Sspec_l1Cur_next : PkS := ⟨[.one (.box (200000, 0) 0)], [((200000, 0), .box [.ro (.int .u8), .int .i64, .int .u64])]⟩
@[reducible] def Tspec_l1Cur_next : PkS := ⟨[.one (.int .i64), .one (.box (300000, 0) 0)], [((300000, 0), .box [.ro (.int .u8), .int .i64, .int .u64])]⟩
def Hspec_l1Cur_next : List Sh := [.one .any, .box [(.ro (.int .u8)), .any, .any]]
def Kspec_l1Cur_next (g : ∀ {R : Type}, Nat → (List Int) → Int → Int → (Int → (List Int) → Int → Int → Option R) → Option R) (n : Nat) : KPs := fun R p k => match (PkS.un Sspec_l1Cur_next p : Option ((List Int) × Int × Int × Unit)) with
  | some (x0, x1, x2, _) => g n x0 x1 x2 (fun r0 r1 r2 r3 => k (PkS.pack Tspec_l1Cur_next (r0, r1, r2, r3, ())))
  | none => none
theorem espec_l1Cur_next  {R : Type} (n : Nat) (x0 : List Int) (x1 : Int) (x2 : Int) (k : Pk → Option R) : evF tt sig (mkK [] R) (mkL (mkK []) [] R) Tryz.f52 Hspec_l1Cur_next (PkS.pack Sspec_l1Cur_next (x0, x1, x2, ())) k = (fun (k : Int → (List Int) → Int → Int → Option R) => (bif (decide (x1 < (x0.length : Int))) then (bif decide (0 ≤ x1) then (bif decide (x1 < (x0.length : Int)) then (bif (decide ((IntKind.wrap .i64 (x1 + 1)) ≤ (x0.length : Int))) then k (IntKind.wrap .i64 ((x0.getD (Int.toNat x1) 0))) x0 (IntKind.wrap .i64 (x1 + 1)) (IntKind.wrap .u64 ((IntKind.wrap .u64 ((IntKind.wrap .u64 (x2 * 6364136223846793005)) + (IntKind.wrap .u64 ((IntKind.wrap .i64 ((x0.getD (Int.toNat x1) 0))))))) + 1442695040888963407)) else k (IntKind.wrap .i64 ((IntKind.wrap .u64 (Int.ofNat (BitVec.toNat (BitVec.ofInt (IntKind.bits .u64) (Int.fdiv (IntKind.wrap .u64 ((IntKind.wrap .u64 ((IntKind.wrap .u64 (x2 * 6364136223846793005)) + (IntKind.wrap .u64 ((IntKind.wrap .i64 ((x0.getD (Int.toNat x1) 0))))))) + 1442695040888963407)) (2 ^ (min (Int.toNat 40) (IntKind.bits .u64)))) &&& BitVec.ofInt (IntKind.bits .u64) 255)))))) x0 (IntKind.wrap .i64 (x1 + 1)) (IntKind.wrap .u64 ((IntKind.wrap .u64 ((IntKind.wrap .u64 (x2 * 6364136223846793005)) + (IntKind.wrap .u64 ((IntKind.wrap .i64 ((x0.getD (Int.toNat x1) 0))))))) + 1442695040888963407))) else none) else none) else (bif (decide ((IntKind.wrap .i64 (x1 + 1)) ≤ (x0.length : Int))) then k 0 x0 (IntKind.wrap .i64 (x1 + 1)) (IntKind.wrap .u64 ((IntKind.wrap .u64 ((IntKind.wrap .u64 (x2 * 6364136223846793005)) + 0)) + 1442695040888963407)) else k (IntKind.wrap .i64 ((IntKind.wrap .u64 (Int.ofNat (BitVec.toNat (BitVec.ofInt (IntKind.bits .u64) (Int.fdiv (IntKind.wrap .u64 ((IntKind.wrap .u64 ((IntKind.wrap .u64 (x2 * 6364136223846793005)) + 0)) + 1442695040888963407)) (2 ^ (min (Int.toNat 40) (IntKind.bits .u64)))) &&& BitVec.ofInt (IntKind.bits .u64) 255)))))) x0 (IntKind.wrap .i64 (x1 + 1)) (IntKind.wrap .u64 ((IntKind.wrap .u64 ((IntKind.wrap .u64 (x2 * 6364136223846793005)) + 0)) + 1442695040888963407))))) (fun r0 r1 r2 r3 => k (PkS.pack Tspec_l1Cur_next (r0, r1, r2, r3, ()))) := by kernel_rfl
theorem okspec_l1Cur_next (n : Nat) : FnOk Tryz.prog 52 (Kspec_l1Cur_next @spec_l1Cur_next n) := by
  refine fn_ok (sig := sig) mixed ttok (mkK_nat (cspec_l1Cur_next n)) (mkK_ok (cspec_l1Cur_next n)) (mkL_nat (mkK_nat (cspec_l1Cur_next n)) (l := []) trivial) (fn := Tryz.f52) (c := bodyOf Tryz.f52) (by kernel_rfl) (by kernel_rfl) (by kernel_rfl) (.eq (l := []) (by kernel_rfl) trivial) (shs := Hspec_l1Cur_next) (S := Sspec_l1Cur_next) (h1 := by kernel_rfl) fun R p k => ?_
  unfold Kspec_l1Cur_next
  cases h : (PkS.un Sspec_l1Cur_next p) with
  | none => rfl
  | some d =>
    obtain ⟨x0, x1, x2, u⟩ := (d : (List Int) × Int × Int × Unit)
    have hp := PkS.un_pack h
    subst hp
    exact (espec_l1Cur_next  n x0 x1 x2 k).symm

/-! ### (*loop.example/g00269/spec.l1Cur).pick -/
theorem cspec_l1Cur_pick (n : Nat) : AllOk Tryz.prog [(52, Kspec_l1Cur_next @spec_l1Cur_next n)] := ⟨okspec_l1Cur_next n, trivial⟩
@[reducible] def Sspec_l1Cur_pick : PkS := ⟨[.one (.box (200000, 0) 0), .one (.int .i64)], [((200000, 0), .box [.ro (.int .u8), .int .i64, .int .u64])]⟩
@[reducible] def Tspec_l1Cur_pick : PkS := ⟨[.one (.int .i64), .one (.box (300000, 0) 0), .one (.dead)], [((300000, 0), .box [.ro (.int .u8), .int .i64, .int .u64])]⟩
def Hspec_l1Cur_pick : List Sh := [.one .any, .box [(.ro (.int .u8)), .any, .any], .skip]
def Kspec_l1Cur_pick (g : ∀ {R : Type}, Nat → Int → (List Int) → Int → Int → (Int → (List Int) → Int → Int → Option R) → Option R) (n : Nat) : KPs := fun R p k => match (PkS.un Sspec_l1Cur_pick p : Option (Int × (List Int) × Int × Int × Unit)) with
  | some (x0, x1, x2, x3, _) => g n x0 x1 x2 x3 (fun r0 r1 r2 r3 => k (PkS.pack Tspec_l1Cur_pick (r0, r1, r2, r3, ())))
  | none => none
theorem espec_l1Cur_pick (spec_l1Cur_next : ∀ {R : Type}, Nat → (List Int) → Int → Int → (Int → (List Int) → Int → Int → Option R) → Option R) {R : Type} (n : Nat) (x0 : Int) (x1 : List Int) (x2 : Int) (x3 : Int) (k : Pk → Option R) : evF tt sig (mkK [(52, Kspec_l1Cur_next @spec_l1Cur_next n)] R) (mkL (mkK [(52, Kspec_l1Cur_next @spec_l1Cur_next n)]) [] R) Tryz.f39 Hspec_l1Cur_pick (PkS.pack Sspec_l1Cur_pick (x0, x1, x2, x3, ())) k = (fun (k : Int → (List Int) → Int → Int → Option R) => (bif (decide (x0 ≤ 1)) then k 0 x1 x2 x3 else (spec_l1Cur_next n x1 x2 x3 fun r1 r2 r3 r4 => (bif (decide (x0 > 200)) then (spec_l1Cur_next n r2 r3 r4 fun r5 r6 r7 r8 => (bif decide (x0 ≠ 0) then k (Int.tmod (IntKind.wrap .i64 ((IntKind.wrap .i64 (r1 * 256)) + r5)) x0) r6 r7 r8 else none)) else (bif decide (x0 ≠ 0) then k (Int.tmod r1 x0) r2 r3 r4 else none))))) (fun r0 r1 r2 r3 => k (PkS.pack Tspec_l1Cur_pick (r0, r1, r2, r3, ()))) := by kernel_rfl
theorem okspec_l1Cur_pick (n : Nat) : FnOk Tryz.prog 39 (Kspec_l1Cur_pick @spec_l1Cur_pick n) := by
  refine fn_ok (sig := sig) mixed ttok (mkK_nat (cspec_l1Cur_pick n)) (mkK_ok (cspec_l1Cur_pick n)) (mkL_nat (mkK_nat (cspec_l1Cur_pick n)) (l := []) trivial) (fn := Tryz.f39) (c := bodyOf Tryz.f39) (by kernel_rfl) (by kernel_rfl) (by kernel_rfl) (.eq (l := []) (by kernel_rfl) trivial) (shs := Hspec_l1Cur_pick) (S := Sspec_l1Cur_pick) (h1 := by kernel_rfl) fun R p k => ?_
  unfold Kspec_l1Cur_pick
  cases h : (PkS.un Sspec_l1Cur_pick p) with
  | none => rfl
  | some d =>
    obtain ⟨x0, x1, x2, x3, u⟩ := (d : Int × (List Int) × Int × Int × Unit)
    have hp := PkS.un_pack h
    subst hp
    exact (espec_l1Cur_pick @spec_l1Cur_next n x0 x1 x2 x3 k).symm

/-! ### (*loop.example/g00269/spec.l1Cur).one -/
theorem cspec_l1Cur_one (n : Nat) : AllOk Tryz.prog [(39, Kspec_l1Cur_pick @spec_l1Cur_pick n)] := ⟨okspec_l1Cur_pick n, trivial⟩
@[reducible] def Sspec_l1Cur_one : PkS := ⟨[.one (.box (200000, 0) 0), .one (.int .i64)], [((200000, 0), .box [.ro (.int .u8), .int .i64, .int .u64])]⟩
@[reducible] def Tspec_l1Cur_one : PkS := ⟨[.one (.bool), .one (.box (300000, 0) 0), .one (.dead)], [((300000, 0), .box [.ro (.int .u8), .int .i64, .int .u64])]⟩
def Hspec_l1Cur_one : List Sh := [.one .any, .box [(.ro (.int .u8)), .any, .any], .skip]
def Kspec_l1Cur_one (g : ∀ {R : Type}, Nat → Int → (List Int) → Int → Int → (Bool → (List Int) → Int → Int → Option R) → Option R) (n : Nat) : KPs := fun R p k => match (PkS.un Sspec_l1Cur_one p : Option (Int × (List Int) × Int × Int × Unit)) with
  | some (x0, x1, x2, x3, _) => g n x0 x1 x2 x3 (fun r0 r1 r2 r3 => k (PkS.pack Tspec_l1Cur_one (r0, r1, r2, r3, ())))
  | none => none
theorem espec_l1Cur_one (spec_l1Cur_pick : ∀ {R : Type}, Nat → Int → (List Int) → Int → Int → (Int → (List Int) → Int → Int → Option R) → Option R) {R : Type} (n : Nat) (x0 : Int) (x1 : List Int) (x2 : Int) (x3 : Int) (k : Pk → Option R) : evF tt sig (mkK [(39, Kspec_l1Cur_pick @spec_l1Cur_pick n)] R) (mkL (mkK [(39, Kspec_l1Cur_pick @spec_l1Cur_pick n)]) [] R) Tryz.f24 Hspec_l1Cur_one (PkS.pack Sspec_l1Cur_one (x0, x1, x2, x3, ())) k = (fun (k : Bool → (List Int) → Int → Int → Option R) => (spec_l1Cur_pick n x0 x1 x2 x3 fun r1 r2 r3 r4 => k (r1 == 0) r2 r3 r4)) (fun r0 r1 r2 r3 => k (PkS.pack Tspec_l1Cur_one (r0, r1, r2, r3, ()))) := by kernel_rfl
theorem okspec_l1Cur_one (n : Nat) : FnOk Tryz.prog 24 (Kspec_l1Cur_one @spec_l1Cur_one n) := by
  refine fn_ok (sig := sig) mixed ttok (mkK_nat (cspec_l1Cur_one n)) (mkK_ok (cspec_l1Cur_one n)) (mkL_nat (mkK_nat (cspec_l1Cur_one n)) (l := []) trivial) (fn := Tryz.f24) (c := bodyOf Tryz.f24) (by kernel_rfl) (by kernel_rfl) (by kernel_rfl) (.eq (l := []) (by kernel_rfl) trivial) (shs := Hspec_l1Cur_one) (S := Sspec_l1Cur_one) (h1 := by kernel_rfl) fun R p k => ?_
  unfold Kspec_l1Cur_one
  cases h : (PkS.un Sspec_l1Cur_one p) with
  | none => rfl
  | some d =>
    obtain ⟨x0, x1, x2, x3, u⟩ := (d : Int × (List Int) × Int × Int × Unit)
    have hp := PkS.un_pack h
    subst hp
    exact (espec_l1Cur_one @spec_l1Cur_pick n x0 x1 x2 x3 k).symm

/-! ### loop.example/g00269/spec.l1Cut -/
theorem cspec_l1Cut (n : Nat) : AllOk Tryz.prog [] := trivial
@[reducible] def Sspec_l1Cut_l2 : PkS := ⟨[.one (.str), .one (.int .u8), .one (.int .i64), .one (.dead), .one (.dead)], []⟩
@[reducible] def Tspec_l1Cut_l2_0 : PkS := ⟨[.one (.str), .one (.str), .one (.bool), .one (.dead), .one (.dead)], []⟩
@[reducible] def Tspec_l1Cut_l2_1 : PkS := ⟨[.one (.str), .one (.dead), .one (.dead)], []⟩
def Dspec_l1Cut_l2 : LoopD := ⟨27, [0, 1, 7], [.one .any, .one .any, .one .any, .skip, .skip], fun x => match x with
  | .ret => some ([4, 5, 6], [.one .any, .one .any, .one .any, .skip, .skip])
  | .exit 0 => some ([0], [.one .any, .skip, .skip])
  | _ => none⟩
def Pspec_l1Cut_l2 (g : ∀ {R : Type}, Nat → ByteArray → Int → Int → (ByteArray → ByteArray → Bool → Option R) → (ByteArray → Option R) → Option R) (n : Nat) : LPs := fun R q kk => match (PkS.un Sspec_l1Cut_l2 q : Option (ByteArray × Int × Int × Unit)) with
  | some (y2_0, y2_1, y2_2, _) => g n y2_0 y2_1 y2_2 (fun r0 r1 r2 => kk .ret (PkS.pack Tspec_l1Cut_l2_0 (r0, r1, r2, ()))) (fun r0 => kk (.exit 0) (PkS.pack Tspec_l1Cut_l2_1 (r0, ())))
  | none => none
theorem espec_l1Cut_l2 (spec_l1Cut_l2 : ∀ {R : Type}, Nat → ByteArray → Int → Int → (ByteArray → ByteArray → Bool → Option R) → (ByteArray → Option R) → Option R) {R : Type} (n : Nat) (y2_0 : ByteArray) (y2_1 : Int) (y2_2 : Int) (kk : Ex → Pk → Option R) : Dspec_l1Cut_l2.step tt sig (mkK [] R) (mkL (mkK []) [] R) (loopIn 2 (bodyOf Tryz.f26)) (fun q' => Pspec_l1Cut_l2 @spec_l1Cut_l2 n R q' kk) (PkS.pack Sspec_l1Cut_l2 (y2_0, y2_1, y2_2, ())) kk = (fun (kret : ByteArray → ByteArray → Bool → Option R) (kexit0 : ByteArray → Option R) => (bif (decide (y2_2 < (y2_0.size : Int))) then (bif decide (0 ≤ y2_2) then (bif decide (y2_2 < (y2_0.size : Int)) then (bif (((y2_0.data.getD (Int.toNat y2_2) 0).toNat : Int) == y2_1) then (bif decide (0 ≤ y2_2) then (bif decide (y2_2 ≤ (y2_0.size : Int)) then (bif decide (0 ≤ (IntKind.wrap .i64 (y2_2 + 1))) then (bif decide ((IntKind.wrap .i64 (y2_2 + 1)) ≤ (y2_0.size : Int)) then (bif decide ((y2_0.size : Int) ≤ (y2_0.size : Int)) then kret (ByteArray.extract y2_0 0 (Int.toNat y2_2)) (ByteArray.extract y2_0 (Int.toNat (IntKind.wrap .i64 (y2_2 + 1))) (Int.toNat (y2_0.size : Int))) true else none) else none) else none) else none) else none) else spec_l1Cut_l2 n y2_0 y2_1 (IntKind.wrap .i64 (y2_2 + 1)) kret kexit0) else none) else none) else kexit0 y2_0)) (fun r0 r1 r2 => kk .ret (PkS.pack Tspec_l1Cut_l2_0 (r0, r1, r2, ()))) (fun r0 => kk (.exit 0) (PkS.pack Tspec_l1Cut_l2_1 (r0, ()))) := by kernel_rfl
theorem lespec_l1Cut_l2 : LoopEq tt sig (fun n => mkK []) (fun n => mkL (mkK []) []) Dspec_l1Cut_l2 Sspec_l1Cut_l2 (loopIn 2 (bodyOf Tryz.f26)) (Pspec_l1Cut_l2 @spec_l1Cut_l2) where
  zero R q kk := by unfold Pspec_l1Cut_l2; cases (PkS.un Sspec_l1Cut_l2 q) <;> rfl
  succ n R q kk := by
    unfold Pspec_l1Cut_l2
    cases h : (PkS.un Sspec_l1Cut_l2 q) with
    | none => rfl
    | some d =>
      obtain ⟨y2_0, y2_1, y2_2, u⟩ := (d : ByteArray × Int × Int × Unit)
      have hp := PkS.un_pack h
      subst hp
      exact (espec_l1Cut_l2 @spec_l1Cut_l2 n y2_0 y2_1 y2_2 kk).symm
theorem nlspec_l1Cut_l2 : ∀ n, NatLP (Pspec_l1Cut_l2 @spec_l1Cut_l2 n) := lespec_l1Cut_l2.nat (fun n => mkK_nat (cspec_l1Cut n)) fun n => mkL_nat (mkK_nat (cspec_l1Cut n)) (l := []) trivial
theorem inspec_l1Cut_l2 (n : Nat) (R : Type) : LoopsOk Tryz.prog (mkL (mkK []) [] R) (loopIn 2 (bodyOf Tryz.f26)) := .eq (l := []) (by kernel_rfl) trivial
theorem lkspec_l1Cut_l2 (n : Nat) (R : Type) (L0 : LK R) (h0 : ∀ id, firstRegion (loopIn 2 (bodyOf Tryz.f26)) = some id → L0 id = Dspec_l1Cut_l2.oracle (mkK [] R) (Pspec_l1Cut_l2 @spec_l1Cut_l2 n R)) : LoopOk Tryz.prog L0 (loopIn 2 (bodyOf Tryz.f26)) :=
  lespec_l1Cut_l2.ok mixed ttok (fun n => mkK_nat (cspec_l1Cut n)) (fun n => mkK_ok (cspec_l1Cut n)) (fun n => inspec_l1Cut_l2 n R) (mkK_nat (cspec_l1Cut n)) h0
@[reducible] def Sspec_l1Cut : PkS := ⟨[.one (.str), .one (.int .u8)], []⟩
@[reducible] def Tspec_l1Cut : PkS := ⟨[.tup [(false, [.str]), (false, [.str]), (false, [.bool])], .one (.dead), .one (.dead)], []⟩
def Hspec_l1Cut : List Sh := [.tup [(false, [.any]), (false, [.any]), (false, [.any])], .skip, .skip]
def Kspec_l1Cut (g : ∀ {R : Type}, Nat → ByteArray → Int → (ByteArray → ByteArray → Bool → Option R) → Option R) (n : Nat) : KPs := fun R p k => match (PkS.un Sspec_l1Cut p : Option (ByteArray × Int × Unit)) with
  | some (x0, x1, _) => g n x0 x1 (fun r0 r1 r2 => k (PkS.pack Tspec_l1Cut (r0, r1, r2, ())))
  | none => none
theorem espec_l1Cut (spec_l1Cut_l2 : ∀ {R : Type}, Nat → ByteArray → Int → Int → (ByteArray → ByteArray → Bool → Option R) → (ByteArray → Option R) → Option R) {R : Type} (n : Nat) (x0 : ByteArray) (x1 : Int) (k : Pk → Option R) : evF tt sig (mkK [] R) (mkL (mkK []) [(2, Dspec_l1Cut_l2, Pspec_l1Cut_l2 @spec_l1Cut_l2 n)] R) Tryz.f26 Hspec_l1Cut (PkS.pack Sspec_l1Cut (x0, x1, ())) k = (fun (k : ByteArray → ByteArray → Bool → Option R) => (spec_l1Cut_l2 n x0 x1 0 (fun r1 r2 r3 => k r1 r2 r3) (fun r4 => k r4 (ByteArray.mk #[]) false))) (fun r0 r1 r2 => k (PkS.pack Tspec_l1Cut (r0, r1, r2, ()))) := by kernel_rfl
theorem okspec_l1Cut (n : Nat) : FnOk Tryz.prog 26 (Kspec_l1Cut @spec_l1Cut n) := by
  refine fn_ok (sig := sig) mixed ttok (mkK_nat (cspec_l1Cut n)) (mkK_ok (cspec_l1Cut n)) (mkL_nat (mkK_nat (cspec_l1Cut n)) (l := [(2, Dspec_l1Cut_l2, Pspec_l1Cut_l2 @spec_l1Cut_l2 n)]) ⟨nlspec_l1Cut_l2 n, trivial⟩) (fn := Tryz.f26) (c := bodyOf Tryz.f26) (by kernel_rfl) (by kernel_rfl) (by kernel_rfl) (.eq (l := [.lo (loopIn 2 (bodyOf Tryz.f26))]) (by kernel_rfl) ⟨(lkspec_l1Cut_l2 n _ _ (at_id (i := 2) (by kernel_rfl) rfl)), trivial⟩) (shs := Hspec_l1Cut) (S := Sspec_l1Cut) (h1 := by kernel_rfl) fun R p k => ?_
  unfold Kspec_l1Cut
  cases h : (PkS.un Sspec_l1Cut p) with
  | none => rfl
  | some d =>
    obtain ⟨x0, x1, u⟩ := (d : ByteArray × Int × Unit)
    have hp := PkS.un_pack h
    subst hp
    exact (espec_l1Cut @spec_l1Cut_l2 n x0 x1 k).symm

/-! ### loop.example/g00269/spec.l1In -/
theorem cspec_l1In (n : Nat) : AllOk Tryz.prog [] := trivial
@[reducible] def Sspec_l1In : PkS := ⟨[.one (.int .i64), .one (.int .i64), .one (.int .i64)], []⟩
@[reducible] def Tspec_l1In : PkS := ⟨[.one (.bool), .one (.dead), .one (.dead), .one (.dead)], []⟩
def Hspec_l1In : List Sh := [.one .any, .skip, .skip, .skip]
def Kspec_l1In (g : ∀ {R : Type}, Nat → Int → Int → Int → (Bool → Option R) → Option R) (n : Nat) : KPs := fun R p k => match (PkS.un Sspec_l1In p : Option (Int × Int × Int × Unit)) with
  | some (x0, x1, x2, _) => g n x0 x1 x2 (fun r0 => k (PkS.pack Tspec_l1In (r0, ())))
  | none => none
theorem espec_l1In  {R : Type} (n : Nat) (x0 : Int) (x1 : Int) (x2 : Int) (k : Pk → Option R) : evF tt sig (mkK [] R) (mkL (mkK []) [] R) Tryz.f45 Hspec_l1In (PkS.pack Sspec_l1In (x0, x1, x2, ())) k = (fun (k : Bool → Option R) => (bif (decide (x0 ≥ x1)) then k (decide (x0 ≤ x2)) else k false)) (fun r0 => k (PkS.pack Tspec_l1In (r0, ()))) := by kernel_rfl
theorem okspec_l1In (n : Nat) : FnOk Tryz.prog 45 (Kspec_l1In @spec_l1In n) := by
  refine fn_ok (sig := sig) mixed ttok (mkK_nat (cspec_l1In n)) (mkK_ok (cspec_l1In n)) (mkL_nat (mkK_nat (cspec_l1In n)) (l := []) trivial) (fn := Tryz.f45) (c := bodyOf Tryz.f45) (by kernel_rfl) (by kernel_rfl) (by kernel_rfl) (.eq (l := []) (by kernel_rfl) trivial) (shs := Hspec_l1In) (S := Sspec_l1In) (h1 := by kernel_rfl) fun R p k => ?_
  unfold Kspec_l1In
  cases h : (PkS.un Sspec_l1In p) with
  | none => rfl
  | some d =>
    obtain ⟨x0, x1, x2, u⟩ := (d : Int × Int × Int × Unit)
    have hp := PkS.un_pack h
    subst hp
    exact (espec_l1In  n x0 x1 x2 k).symm

/-! ### loop.example/g00269/spec.l1Int -/
theorem cspec_l1Int (n : Nat) : AllOk Tryz.prog [(45, Kspec_l1In @spec_l1In n)] := ⟨okspec_l1In n, trivial⟩
@[reducible] def Sspec_l1Int_l5 : PkS := ⟨[.one (.str), .one (.int .i64), .one (.int .i64), .one (.dead)], []⟩
@[reducible] def Tspec_l1Int_l5_0 : PkS := ⟨[.one (.int .i64), .one (.dead)], []⟩
@[reducible] def Tspec_l1Int_l5_1 : PkS := ⟨[.one (.int .i64), .one (.dead)], []⟩
def Dspec_l1Int_l5 : LoopD := ⟨44, [0, 3, 4], [.one .any, .one .any, .one .any, .skip], fun x => match x with
  | .ret => some ([2], [.one .any, .skip])
  | .exit 0 => some ([3], [.one .any, .skip])
  | _ => none⟩
def Pspec_l1Int_l5 (g : ∀ {R : Type}, Nat → ByteArray → Int → Int → (Int → Option R) → (Int → Option R) → Option R) (n : Nat) : LPs := fun R q kk => match (PkS.un Sspec_l1Int_l5 q : Option (ByteArray × Int × Int × Unit)) with
  | some (y5_0, y5_1, y5_2, _) => g n y5_0 y5_1 y5_2 (fun r0 => kk .ret (PkS.pack Tspec_l1Int_l5_0 (r0, ()))) (fun r0 => kk (.exit 0) (PkS.pack Tspec_l1Int_l5_1 (r0, ())))
  | none => none
theorem espec_l1Int_l5 (spec_l1In : ∀ {R : Type}, Nat → Int → Int → Int → (Bool → Option R) → Option R) (spec_l1Int_l5 : ∀ {R : Type}, Nat → ByteArray → Int → Int → (Int → Option R) → (Int → Option R) → Option R) {R : Type} (n : Nat) (y5_0 : ByteArray) (y5_1 : Int) (y5_2 : Int) (kk : Ex → Pk → Option R) : Dspec_l1Int_l5.step tt sig (mkK [(45, Kspec_l1In @spec_l1In n)] R) (mkL (mkK [(45, Kspec_l1In @spec_l1In n)]) [] R) (loopIn 5 (bodyOf Tryz.f53)) (fun q' => Pspec_l1Int_l5 @spec_l1Int_l5 n R q' kk) (PkS.pack Sspec_l1Int_l5 (y5_0, y5_1, y5_2, ())) kk = (fun (kret : Int → Option R) (kexit0 : Int → Option R) => (bif (decide (y5_2 < (y5_0.size : Int))) then (bif decide (0 ≤ y5_2) then (bif decide (y5_2 < (y5_0.size : Int)) then (bif (decide (((y5_0.data.getD (Int.toNat y5_2) 0).toNat : Int) < 48)) then kret (-1) else (bif decide (0 ≤ y5_2) then (bif decide (y5_2 < (y5_0.size : Int)) then (bif (decide (((y5_0.data.getD (Int.toNat y5_2) 0).toNat : Int) > 57)) then kret (-1) else (bif decide (0 ≤ y5_2) then (bif decide (y5_2 < (y5_0.size : Int)) then spec_l1Int_l5 n y5_0 (IntKind.wrap .i64 ((IntKind.wrap .i64 (10 * y5_1)) + (IntKind.wrap .i64 ((IntKind.wrap .u8 (((y5_0.data.getD (Int.toNat y5_2) 0).toNat : Int) - 48)))))) (IntKind.wrap .i64 (y5_2 + 1)) kret kexit0 else none) else none)) else none) else none)) else none) else none) else kexit0 y5_1)) (fun r0 => kk .ret (PkS.pack Tspec_l1Int_l5_0 (r0, ()))) (fun r0 => kk (.exit 0) (PkS.pack Tspec_l1Int_l5_1 (r0, ()))) := by kernel_rfl
theorem lespec_l1Int_l5 : LoopEq tt sig (fun n => mkK [(45, Kspec_l1In @spec_l1In n)]) (fun n => mkL (mkK [(45, Kspec_l1In @spec_l1In n)]) []) Dspec_l1Int_l5 Sspec_l1Int_l5 (loopIn 5 (bodyOf Tryz.f53)) (Pspec_l1Int_l5 @spec_l1Int_l5) where
  zero R q kk := by unfold Pspec_l1Int_l5; cases (PkS.un Sspec_l1Int_l5 q) <;> rfl
  succ n R q kk := by
    unfold Pspec_l1Int_l5
    cases h : (PkS.un Sspec_l1Int_l5 q) with
    | none => rfl
    | some d =>
      obtain ⟨y5_0, y5_1, y5_2, u⟩ := (d : ByteArray × Int × Int × Unit)
      have hp := PkS.un_pack h
      subst hp
      exact (espec_l1Int_l5 @spec_l1In @spec_l1Int_l5 n y5_0 y5_1 y5_2 kk).symm
theorem nlspec_l1Int_l5 : ∀ n, NatLP (Pspec_l1Int_l5 @spec_l1Int_l5 n) := lespec_l1Int_l5.nat (fun n => mkK_nat (cspec_l1Int n)) fun n => mkL_nat (mkK_nat (cspec_l1Int n)) (l := []) trivial
theorem inspec_l1Int_l5 (n : Nat) (R : Type) : LoopsOk Tryz.prog (mkL (mkK [(45, Kspec_l1In @spec_l1In n)]) [] R) (loopIn 5 (bodyOf Tryz.f53)) := .eq (l := []) (by kernel_rfl) trivial
theorem lkspec_l1Int_l5 (n : Nat) (R : Type) (L0 : LK R) (h0 : ∀ id, firstRegion (loopIn 5 (bodyOf Tryz.f53)) = some id → L0 id = Dspec_l1Int_l5.oracle (mkK [(45, Kspec_l1In @spec_l1In n)] R) (Pspec_l1Int_l5 @spec_l1Int_l5 n R)) : LoopOk Tryz.prog L0 (loopIn 5 (bodyOf Tryz.f53)) :=
  lespec_l1Int_l5.ok mixed ttok (fun n => mkK_nat (cspec_l1Int n)) (fun n => mkK_ok (cspec_l1Int n)) (fun n => inspec_l1Int_l5 n R) (mkK_nat (cspec_l1Int n)) h0
@[reducible] def Sspec_l1Int : PkS := ⟨[.one (.str)], []⟩
@[reducible] def Tspec_l1Int : PkS := ⟨[.one (.int .i64), .one (.dead)], []⟩
def Hspec_l1Int : List Sh := [.one .any, .skip]
def Kspec_l1Int (g : ∀ {R : Type}, Nat → ByteArray → (Int → Option R) → Option R) (n : Nat) : KPs := fun R p k => match (PkS.un Sspec_l1Int p : Option (ByteArray × Unit)) with
  | some (x0, _) => g n x0 (fun r0 => k (PkS.pack Tspec_l1Int (r0, ())))
  | none => none
theorem espec_l1Int (spec_l1In : ∀ {R : Type}, Nat → Int → Int → Int → (Bool → Option R) → Option R) (spec_l1Int_l5 : ∀ {R : Type}, Nat → ByteArray → Int → Int → (Int → Option R) → (Int → Option R) → Option R) {R : Type} (n : Nat) (x0 : ByteArray) (k : Pk → Option R) : evF tt sig (mkK [(45, Kspec_l1In @spec_l1In n)] R) (mkL (mkK [(45, Kspec_l1In @spec_l1In n)]) [(5, Dspec_l1Int_l5, Pspec_l1Int_l5 @spec_l1Int_l5 n)] R) Tryz.f53 Hspec_l1Int (PkS.pack Sspec_l1Int (x0, ())) k = (fun (k : Int → Option R) => (spec_l1In n (x0.size : Int) 1 9 fun r1 => (bif (!r1) then k (-1) else (bif decide (0 < (x0.size : Int)) then (bif (((x0.data.getD 0 0).toNat : Int) == 48) then (bif (decide ((x0.size : Int) > 1)) then k (-1) else (spec_l1Int_l5 n x0 0 0 (fun r2 => k r2) (fun r3 => k r3))) else (spec_l1Int_l5 n x0 0 0 (fun r4 => k r4) (fun r5 => k r5))) else none)))) (fun r0 => k (PkS.pack Tspec_l1Int (r0, ()))) := by kernel_rfl
theorem okspec_l1Int (n : Nat) : FnOk Tryz.prog 53 (Kspec_l1Int @spec_l1Int n) := by
  refine fn_ok (sig := sig) mixed ttok (mkK_nat (cspec_l1Int n)) (mkK_ok (cspec_l1Int n)) (mkL_nat (mkK_nat (cspec_l1Int n)) (l := [(5, Dspec_l1Int_l5, Pspec_l1Int_l5 @spec_l1Int_l5 n)]) ⟨nlspec_l1Int_l5 n, trivial⟩) (fn := Tryz.f53) (c := bodyOf Tryz.f53) (by kernel_rfl) (by kernel_rfl) (by kernel_rfl) (.eq (l := [.lo (loopIn 5 (bodyOf Tryz.f53))]) (by kernel_rfl) ⟨(lkspec_l1Int_l5 n _ _ (at_id (i := 5) (by kernel_rfl) rfl)), trivial⟩) (shs := Hspec_l1Int) (S := Sspec_l1Int) (h1 := by kernel_rfl) fun R p k => ?_
  unfold Kspec_l1Int
  cases h : (PkS.un Sspec_l1Int p) with
  | none => rfl
  | some d =>
    obtain ⟨x0, u⟩ := (d : ByteArray × Unit)
    have hp := PkS.un_pack h
    subst hp
    exact (espec_l1Int @spec_l1In @spec_l1Int_l5 n x0 k).symm

/-! ### loop.example/g00269/spec.l6Item -/
theorem cspec_l6Item (n : Nat) : AllOk Tryz.prog [(26, Kspec_l1Cut @spec_l1Cut n), (53, Kspec_l1Int @spec_l1Int n), (45, Kspec_l1In @spec_l1In n)] := ⟨okspec_l1Cut n, ⟨okspec_l1Int n, ⟨okspec_l1In n, trivial⟩⟩⟩
@[reducible] def Sspec_l6Item : PkS := ⟨[.one (.str), .one (.int .i64)], []⟩
@[reducible] def Tspec_l6Item : PkS := ⟨[.tup [(false, [.int .i64]), (false, [.int .i64]), (false, [.int .i64]), (false, [.bool])], .one (.dead), .one (.dead)], []⟩
def Hspec_l6Item : List Sh := [.tup [(false, [.any]), (false, [.any]), (false, [.any]), (false, [.any])], .skip, .skip]
def Kspec_l6Item (g : ∀ {R : Type}, Nat → ByteArray → Int → (Int → Int → Int → Bool → Option R) → Option R) (n : Nat) : KPs := fun R p k => match (PkS.un Sspec_l6Item p : Option (ByteArray × Int × Unit)) with
  | some (x0, x1, _) => g n x0 x1 (fun r0 r1 r2 r3 => k (PkS.pack Tspec_l6Item (r0, r1, r2, r3, ())))
  | none => none
theorem espec_l6Item (spec_l1Cut : ∀ {R : Type}, Nat → ByteArray → Int → (ByteArray → ByteArray → Bool → Option R) → Option R) (spec_l1Int : ∀ {R : Type}, Nat → ByteArray → (Int → Option R) → Option R) (spec_l1In : ∀ {R : Type}, Nat → Int → Int → Int → (Bool → Option R) → Option R) {R : Type} (n : Nat) (x0 : ByteArray) (x1 : Int) (k : Pk → Option R) : evF tt sig (mkK [(26, Kspec_l1Cut @spec_l1Cut n), (53, Kspec_l1Int @spec_l1Int n), (45, Kspec_l1In @spec_l1In n)] R) (mkL (mkK [(26, Kspec_l1Cut @spec_l1Cut n), (53, Kspec_l1Int @spec_l1Int n), (45, Kspec_l1In @spec_l1In n)]) [] R) Tryz.f40 Hspec_l6Item (PkS.pack Sspec_l6Item (x0, x1, ())) k = (fun (k : Int → Int → Int → Bool → Option R) => (spec_l1Cut n x0 47 fun r1 r2 r3 => (bif r3 then (spec_l1Int n r2 fun r4 => (bif (decide (r4 < 1)) then k 0 0 0 false else (bif ((ByteArray.toList r1) == (ByteArray.toList (ByteArray.mk #[42]))) then k 0 x1 r4 true else (spec_l1Cut n r1 45 fun r5 r6 r7 => (spec_l1Int n r5 fun r8 => (bif r7 then (spec_l1Int n r6 fun r9 => (spec_l1In n r8 0 x1 fun r10 => (bif r10 then (spec_l1In n r9 r8 x1 fun r11 => k r8 r9 r4 r11) else k r8 r9 r4 false))) else (bif r3 then (spec_l1In n r8 0 x1 fun r12 => (bif r12 then (spec_l1In n x1 r8 x1 fun r13 => k r8 x1 r4 r13) else k r8 x1 r4 false)) else (spec_l1In n r8 0 x1 fun r14 => (bif r14 then (spec_l1In n r8 r8 x1 fun r15 => k r8 r8 r4 r15) else k r8 r8 r4 false))))))))) else (bif ((ByteArray.toList r1) == (ByteArray.toList (ByteArray.mk #[42]))) then k 0 x1 1 true else (spec_l1Cut n r1 45 fun r16 r17 r18 => (spec_l1Int n r16 fun r19 => (bif r18 then (spec_l1Int n r17 fun r20 => (spec_l1In n r19 0 x1 fun r21 => (bif r21 then (spec_l1In n r20 r19 x1 fun r22 => k r19 r20 1 r22) else k r19 r20 1 false))) else (bif r3 then (spec_l1In n r19 0 x1 fun r23 => (bif r23 then (spec_l1In n x1 r19 x1 fun r24 => k r19 x1 1 r24) else k r19 x1 1 false)) else (spec_l1In n r19 0 x1 fun r25 => (bif r25 then (spec_l1In n r19 r19 x1 fun r26 => k r19 r19 1 r26) else k r19 r19 1 false)))))))))) (fun r0 r1 r2 r3 => k (PkS.pack Tspec_l6Item (r0, r1, r2, r3, ()))) := by kernel_rfl
theorem okspec_l6Item (n : Nat) : FnOk Tryz.prog 40 (Kspec_l6Item @spec_l6Item n) := by
  refine fn_ok (sig := sig) mixed ttok (mkK_nat (cspec_l6Item n)) (mkK_ok (cspec_l6Item n)) (mkL_nat (mkK_nat (cspec_l6Item n)) (l := []) trivial) (fn := Tryz.f40) (c := bodyOf Tryz.f40) (by kernel_rfl) (by kernel_rfl) (by kernel_rfl) (.eq (l := []) (by kernel_rfl) trivial) (shs := Hspec_l6Item) (S := Sspec_l6Item) (h1 := by kernel_rfl) fun R p k => ?_
  unfold Kspec_l6Item
  cases h : (PkS.un Sspec_l6Item p) with
  | none => rfl
  | some d =>
    obtain ⟨x0, x1, u⟩ := (d : ByteArray × Int × Unit)
    have hp := PkS.un_pack h
    subst hp
    exact (espec_l6Item @spec_l1Cut @spec_l1Int @spec_l1In n x0 x1 k).symm

/-! ### loop.example/g00269/spec.l6Field -/
theorem cspec_l6Field (n : Nat) : AllOk Tryz.prog [(26, Kspec_l1Cut @spec_l1Cut n), (40, Kspec_l6Item @spec_l6Item n)] := ⟨okspec_l1Cut n, ⟨okspec_l6Item n, trivial⟩⟩
@[reducible] def Sspec_l6Field_l11 : PkS := ⟨[.one (.str), .one (.int .i64), .one (.whole (100000, 0)), .one (.bool), .one (.int .i64), .one (.int .i64), .one (.int .i64), .one (.dead), .one (.dead)], [((100000, 0), .arr .bool)]⟩
@[reducible] def Tspec_l6Field_l11_0 : PkS := ⟨[.one (.str), .one (.int .i64), .one (.whole (100000, 0)), .one (.bool), .one (.dead), .one (.dead)], [((100000, 0), .arr .bool)]⟩
def Dspec_l6Field_l11 : LoopD := ⟨65, [0, 1, 6, 7, 12, 13, 15], [.one .any, .one .any, .one (.own .bool), .one .any, .one .any, .one .any, .one .any, .skip, .skip], fun x => match x with
  | .exit 2 => some ([0, 1, 6, 7], [.one .any, .one .any, .one (.own .bool), .one .any, .skip, .skip])
  | _ => none⟩
def Pspec_l6Field_l11 (g : ∀ {R : Type}, Nat → ByteArray → Int → Bool → Int → Int → Int → (List Bool) → (ByteArray → Int → Bool → (List Bool) → Option R) → Option R) (n : Nat) : LPs := fun R q kk => match (PkS.un Sspec_l6Field_l11 q : Option (ByteArray × Int × Bool × Int × Int × Int × (List Bool) × Unit)) with
  | some (y11_0, y11_1, y11_2, y11_3, y11_4, y11_5, y11_6, _) => g n y11_0 y11_1 y11_2 y11_3 y11_4 y11_5 y11_6 (fun r0 r1 r2 r3 => kk (.exit 2) (PkS.pack Tspec_l6Field_l11_0 (r0, r1, r2, r3, ())))
  | none => none
theorem espec_l6Field_l11 (spec_l1Cut : ∀ {R : Type}, Nat → ByteArray → Int → (ByteArray → ByteArray → Bool → Option R) → Option R) (spec_l6Item : ∀ {R : Type}, Nat → ByteArray → Int → (Int → Int → Int → Bool → Option R) → Option R) (spec_l6Field_l11 : ∀ {R : Type}, Nat → ByteArray → Int → Bool → Int → Int → Int → (List Bool) → (ByteArray → Int → Bool → (List Bool) → Option R) → Option R) {R : Type} (n : Nat) (y11_0 : ByteArray) (y11_1 : Int) (y11_2 : Bool) (y11_3 : Int) (y11_4 : Int) (y11_5 : Int) (y11_6 : List Bool) (kk : Ex → Pk → Option R) : Dspec_l6Field_l11.step tt sig (mkK [(26, Kspec_l1Cut @spec_l1Cut n), (40, Kspec_l6Item @spec_l6Item n)] R) (mkL (mkK [(26, Kspec_l1Cut @spec_l1Cut n), (40, Kspec_l6Item @spec_l6Item n)]) [] R) (loopIn 11 (bodyOf Tryz.f27)) (fun q' => Pspec_l6Field_l11 @spec_l6Field_l11 n R q' kk) (PkS.pack Sspec_l6Field_l11 (y11_0, y11_1, y11_2, y11_3, y11_4, y11_5, y11_6, ())) kk = (fun (kexit2 : ByteArray → Int → Bool → (List Bool) → Option R) => (bif (decide (y11_5 ≤ y11_3)) then (bif decide (0 ≤ y11_5) then (bif decide (y11_5 < (y11_6.length : Int)) then spec_l6Field_l11 n y11_0 y11_1 y11_2 y11_3 y11_4 (IntKind.wrap .i64 (y11_5 + y11_4)) (y11_6.set (Int.toNat y11_5) true) kexit2 else none) else none) else kexit2 y11_0 y11_1 y11_2 y11_6)) (fun r0 r1 r2 r3 => kk (.exit 2) (PkS.pack Tspec_l6Field_l11_0 (r0, r1, r2, r3, ()))) := by kernel_rfl
theorem lespec_l6Field_l11 : LoopEq tt sig (fun n => mkK [(26, Kspec_l1Cut @spec_l1Cut n), (40, Kspec_l6Item @spec_l6Item n)]) (fun n => mkL (mkK [(26, Kspec_l1Cut @spec_l1Cut n), (40, Kspec_l6Item @spec_l6Item n)]) []) Dspec_l6Field_l11 Sspec_l6Field_l11 (loopIn 11 (bodyOf Tryz.f27)) (Pspec_l6Field_l11 @spec_l6Field_l11) where
  zero R q kk := by unfold Pspec_l6Field_l11; cases (PkS.un Sspec_l6Field_l11 q) <;> rfl
  succ n R q kk := by
    unfold Pspec_l6Field_l11
    cases h : (PkS.un Sspec_l6Field_l11 q) with
    | none => rfl
    | some d =>
      obtain ⟨y11_0, y11_1, y11_2, y11_3, y11_4, y11_5, y11_6, u⟩ := (d : ByteArray × Int × Bool × Int × Int × Int × (List Bool) × Unit)
      have hp := PkS.un_pack h
      subst hp
      exact (espec_l6Field_l11 @spec_l1Cut @spec_l6Item @spec_l6Field_l11 n y11_0 y11_1 y11_2 y11_3 y11_4 y11_5 y11_6 kk).symm
theorem nlspec_l6Field_l11 : ∀ n, NatLP (Pspec_l6Field_l11 @spec_l6Field_l11 n) := lespec_l6Field_l11.nat (fun n => mkK_nat (cspec_l6Field n)) fun n => mkL_nat (mkK_nat (cspec_l6Field n)) (l := []) trivial
theorem inspec_l6Field_l11 (n : Nat) (R : Type) : LoopsOk Tryz.prog (mkL (mkK [(26, Kspec_l1Cut @spec_l1Cut n), (40, Kspec_l6Item @spec_l6Item n)]) [] R) (loopIn 11 (bodyOf Tryz.f27)) := .eq (l := []) (by kernel_rfl) trivial
theorem lkspec_l6Field_l11 (n : Nat) (R : Type) (L0 : LK R) (h0 : ∀ id, firstRegion (loopIn 11 (bodyOf Tryz.f27)) = some id → L0 id = Dspec_l6Field_l11.oracle (mkK [(26, Kspec_l1Cut @spec_l1Cut n), (40, Kspec_l6Item @spec_l6Item n)] R) (Pspec_l6Field_l11 @spec_l6Field_l11 n R)) : LoopOk Tryz.prog L0 (loopIn 11 (bodyOf Tryz.f27)) :=
  lespec_l6Field_l11.ok mixed ttok (fun n => mkK_nat (cspec_l6Field n)) (fun n => mkK_ok (cspec_l6Field n)) (fun n => inspec_l6Field_l11 n R) (mkK_nat (cspec_l6Field n)) h0
@[reducible] def Sspec_l6Field_l3 : PkS := ⟨[.one (.str), .one (.int .i64), .one (.whole (100000, 0)), .one (.bool), .one (.dead), .one (.dead)], [((100000, 0), .arr .bool)]⟩
@[reducible] def Tspec_l6Field_l3_0 : PkS := ⟨[.one (.ro (.int .i64)), .one (.bool), .one (.dead), .one (.dead)], []⟩
@[reducible] def Tspec_l6Field_l3_1 : PkS := ⟨[.one (.whole (100000, 0)), .one (.dead), .one (.dead)], [((100000, 0), .arr .bool)]⟩
def Dspec_l6Field_l3 : LoopD := ⟨65, [0, 1, 6, 7], [.one .any, .one .any, .one (.own .bool), .one .any, .skip, .skip], fun x => match x with
  | .ret => some ([4, 5], [.one (.ro (.int .i64)), .one .any, .skip, .skip])
  | .exit 0 => some ([6], [.one (.own .bool), .skip, .skip])
  | _ => none⟩
def Pspec_l6Field_l3 (g : ∀ {R : Type}, Nat → ByteArray → Int → Bool → (List Bool) → ((List Int) → Bool → Option R) → ((List Bool) → Option R) → Option R) (n : Nat) : LPs := fun R q kk => match (PkS.un Sspec_l6Field_l3 q : Option (ByteArray × Int × Bool × (List Bool) × Unit)) with
  | some (y3_0, y3_1, y3_2, y3_3, _) => g n y3_0 y3_1 y3_2 y3_3 (fun r0 r1 => kk .ret (PkS.pack Tspec_l6Field_l3_0 (r0, r1, ()))) (fun r0 => kk (.exit 0) (PkS.pack Tspec_l6Field_l3_1 (r0, ())))
  | none => none
theorem espec_l6Field_l3 (spec_l1Cut : ∀ {R : Type}, Nat → ByteArray → Int → (ByteArray → ByteArray → Bool → Option R) → Option R) (spec_l6Item : ∀ {R : Type}, Nat → ByteArray → Int → (Int → Int → Int → Bool → Option R) → Option R) (spec_l6Field_l11 : ∀ {R : Type}, Nat → ByteArray → Int → Bool → Int → Int → Int → (List Bool) → (ByteArray → Int → Bool → (List Bool) → Option R) → Option R) (spec_l6Field_l3 : ∀ {R : Type}, Nat → ByteArray → Int → Bool → (List Bool) → ((List Int) → Bool → Option R) → ((List Bool) → Option R) → Option R) {R : Type} (n : Nat) (y3_0 : ByteArray) (y3_1 : Int) (y3_2 : Bool) (y3_3 : List Bool) (kk : Ex → Pk → Option R) : Dspec_l6Field_l3.step tt sig (mkK [(26, Kspec_l1Cut @spec_l1Cut n), (40, Kspec_l6Item @spec_l6Item n)] R) (mkL (mkK [(26, Kspec_l1Cut @spec_l1Cut n), (40, Kspec_l6Item @spec_l6Item n)]) [(11, Dspec_l6Field_l11, Pspec_l6Field_l11 @spec_l6Field_l11 n)] R) (loopIn 3 (bodyOf Tryz.f27)) (fun q' => Pspec_l6Field_l3 @spec_l6Field_l3 n R q' kk) (PkS.pack Sspec_l6Field_l3 (y3_0, y3_1, y3_2, y3_3, ())) kk = (fun (kret : (List Int) → Bool → Option R) (kexit0 : (List Bool) → Option R) => (bif y3_2 then (spec_l1Cut n y3_0 44 fun r1 r2 r3 => (spec_l6Item n r1 y3_1 fun r4 r5 r6 r7 => (bif (!r7) then kret ([] : List Int) false else (spec_l6Field_l11 n r2 y3_1 r3 r5 r6 r4 y3_3 (fun r8 r9 r10 r11 => spec_l6Field_l3 n r8 r9 r10 r11 kret kexit0))))) else kexit0 y3_3)) (fun r0 r1 => kk .ret (PkS.pack Tspec_l6Field_l3_0 (r0, r1, ()))) (fun r0 => kk (.exit 0) (PkS.pack Tspec_l6Field_l3_1 (r0, ()))) := by kernel_rfl
theorem lespec_l6Field_l3 : LoopEq tt sig (fun n => mkK [(26, Kspec_l1Cut @spec_l1Cut n), (40, Kspec_l6Item @spec_l6Item n)]) (fun n => mkL (mkK [(26, Kspec_l1Cut @spec_l1Cut n), (40, Kspec_l6Item @spec_l6Item n)]) [(11, Dspec_l6Field_l11, Pspec_l6Field_l11 @spec_l6Field_l11 n)]) Dspec_l6Field_l3 Sspec_l6Field_l3 (loopIn 3 (bodyOf Tryz.f27)) (Pspec_l6Field_l3 @spec_l6Field_l3) where
  zero R q kk := by unfold Pspec_l6Field_l3; cases (PkS.un Sspec_l6Field_l3 q) <;> rfl
  succ n R q kk := by
    unfold Pspec_l6Field_l3
    cases h : (PkS.un Sspec_l6Field_l3 q) with
    | none => rfl
    | some d =>
      obtain ⟨y3_0, y3_1, y3_2, y3_3, u⟩ := (d : ByteArray × Int × Bool × (List Bool) × Unit)
      have hp := PkS.un_pack h
      subst hp
      exact (espec_l6Field_l3 @spec_l1Cut @spec_l6Item @spec_l6Field_l11 @spec_l6Field_l3 n y3_0 y3_1 y3_2 y3_3 kk).symm
theorem nlspec_l6Field_l3 : ∀ n, NatLP (Pspec_l6Field_l3 @spec_l6Field_l3 n) := lespec_l6Field_l3.nat (fun n => mkK_nat (cspec_l6Field n)) fun n => mkL_nat (mkK_nat (cspec_l6Field n)) (l := [(11, Dspec_l6Field_l11, Pspec_l6Field_l11 @spec_l6Field_l11 n)]) ⟨nlspec_l6Field_l11 n, trivial⟩
theorem inspec_l6Field_l3 (n : Nat) (R : Type) : LoopsOk Tryz.prog (mkL (mkK [(26, Kspec_l1Cut @spec_l1Cut n), (40, Kspec_l6Item @spec_l6Item n)]) [(11, Dspec_l6Field_l11, Pspec_l6Field_l11 @spec_l6Field_l11 n)] R) (loopIn 3 (bodyOf Tryz.f27)) := .eq (l := [.lo (loopIn 11 (bodyOf Tryz.f27))]) (by kernel_rfl) ⟨(lkspec_l6Field_l11 n R _ (at_id (i := 11) (by kernel_rfl) rfl)), trivial⟩
theorem lkspec_l6Field_l3 (n : Nat) (R : Type) (L0 : LK R) (h0 : ∀ id, firstRegion (loopIn 3 (bodyOf Tryz.f27)) = some id → L0 id = Dspec_l6Field_l3.oracle (mkK [(26, Kspec_l1Cut @spec_l1Cut n), (40, Kspec_l6Item @spec_l6Item n)] R) (Pspec_l6Field_l3 @spec_l6Field_l3 n R)) : LoopOk Tryz.prog L0 (loopIn 3 (bodyOf Tryz.f27)) :=
  lespec_l6Field_l3.ok mixed ttok (fun n => mkK_nat (cspec_l6Field n)) (fun n => mkK_ok (cspec_l6Field n)) (fun n => inspec_l6Field_l3 n R) (mkK_nat (cspec_l6Field n)) h0
@[reducible] def Sspec_l6Field_l16 : PkS := ⟨[.one (.whole (100000, 0)), .one (.whole (100000, 1)), .one (.int .i64), .one (.int .i64), .one (.dead), .one (.dead)], [((100000, 0), .arr (.int .i64)), ((100000, 1), .arr .bool)]⟩
@[reducible] def Tspec_l6Field_l16_0 : PkS := ⟨[.one (.whole (100000, 0)), .one (.dead), .one (.dead)], [((100000, 0), .arr (.int .i64))]⟩
def Dspec_l6Field_l16 : LoopD := ⟨65, [16, 51, 52, 53], [.one (.own (.int .i64)), .one (.own .bool), .one .any, .one .any, .skip, .skip], fun x => match x with
  | .exit 4 => some ([16], [.one (.own (.int .i64)), .skip, .skip])
  | _ => none⟩
def Pspec_l6Field_l16 (g : ∀ {R : Type}, Nat → Int → Int → (List Int) → (List Bool) → ((List Int) → Option R) → Option R) (n : Nat) : LPs := fun R q kk => match (PkS.un Sspec_l6Field_l16 q : Option (Int × Int × (List Int) × (List Bool) × Unit)) with
  | some (y16_0, y16_1, y16_2, y16_3, _) => g n y16_0 y16_1 y16_2 y16_3 (fun r0 => kk (.exit 4) (PkS.pack Tspec_l6Field_l16_0 (r0, ())))
  | none => none
theorem espec_l6Field_l16 (spec_l1Cut : ∀ {R : Type}, Nat → ByteArray → Int → (ByteArray → ByteArray → Bool → Option R) → Option R) (spec_l6Item : ∀ {R : Type}, Nat → ByteArray → Int → (Int → Int → Int → Bool → Option R) → Option R) (spec_l6Field_l11 : ∀ {R : Type}, Nat → ByteArray → Int → Bool → Int → Int → Int → (List Bool) → (ByteArray → Int → Bool → (List Bool) → Option R) → Option R) (spec_l6Field_l3 : ∀ {R : Type}, Nat → ByteArray → Int → Bool → (List Bool) → ((List Int) → Bool → Option R) → ((List Bool) → Option R) → Option R) (spec_l6Field_l16 : ∀ {R : Type}, Nat → Int → Int → (List Int) → (List Bool) → ((List Int) → Option R) → Option R) {R : Type} (n : Nat) (y16_0 : Int) (y16_1 : Int) (y16_2 : List Int) (y16_3 : List Bool) (kk : Ex → Pk → Option R) : Dspec_l6Field_l16.step tt sig (mkK [(26, Kspec_l1Cut @spec_l1Cut n), (40, Kspec_l6Item @spec_l6Item n)] R) (mkL (mkK [(26, Kspec_l1Cut @spec_l1Cut n), (40, Kspec_l6Item @spec_l6Item n)]) [(11, Dspec_l6Field_l11, Pspec_l6Field_l11 @spec_l6Field_l11 n), (3, Dspec_l6Field_l3, Pspec_l6Field_l3 @spec_l6Field_l3 n)] R) (loopIn 16 (bodyOf Tryz.f27)) (fun q' => Pspec_l6Field_l16 @spec_l6Field_l16 n R q' kk) (PkS.pack Sspec_l6Field_l16 (y16_0, y16_1, y16_2, y16_3, ())) kk = (fun (kexit4 : (List Int) → Option R) => (bif (decide (y16_1 < y16_0)) then (bif decide (0 ≤ y16_1) then (bif decide (y16_1 < (y16_3.length : Int)) then (bif (y16_3.getD (Int.toNat y16_1) false) then (bif decide (y16_2.length + [y16_1].length ≤ LIM) then spec_l6Field_l16 n y16_0 (IntKind.wrap .i64 (y16_1 + 1)) (y16_2 ++ [y16_1]) y16_3 kexit4 else none) else spec_l6Field_l16 n y16_0 (IntKind.wrap .i64 (y16_1 + 1)) y16_2 y16_3 kexit4) else none) else none) else kexit4 y16_2)) (fun r0 => kk (.exit 4) (PkS.pack Tspec_l6Field_l16_0 (r0, ()))) := by kernel_rfl
theorem lespec_l6Field_l16 : LoopEq tt sig (fun n => mkK [(26, Kspec_l1Cut @spec_l1Cut n), (40, Kspec_l6Item @spec_l6Item n)]) (fun n => mkL (mkK [(26, Kspec_l1Cut @spec_l1Cut n), (40, Kspec_l6Item @spec_l6Item n)]) [(11, Dspec_l6Field_l11, Pspec_l6Field_l11 @spec_l6Field_l11 n), (3, Dspec_l6Field_l3, Pspec_l6Field_l3 @spec_l6Field_l3 n)]) Dspec_l6Field_l16 Sspec_l6Field_l16 (loopIn 16 (bodyOf Tryz.f27)) (Pspec_l6Field_l16 @spec_l6Field_l16) where
  zero R q kk := by unfold Pspec_l6Field_l16; cases (PkS.un Sspec_l6Field_l16 q) <;> rfl
  succ n R q kk := by
    unfold Pspec_l6Field_l16
    cases h : (PkS.un Sspec_l6Field_l16 q) with
    | none => rfl
    | some d =>
      obtain ⟨y16_0, y16_1, y16_2, y16_3, u⟩ := (d : Int × Int × (List Int) × (List Bool) × Unit)
      have hp := PkS.un_pack h
      subst hp
      exact (espec_l6Field_l16 @spec_l1Cut @spec_l6Item @spec_l6Field_l11 @spec_l6Field_l3 @spec_l6Field_l16 n y16_0 y16_1 y16_2 y16_3 kk).symm
theorem nlspec_l6Field_l16 : ∀ n, NatLP (Pspec_l6Field_l16 @spec_l6Field_l16 n) := lespec_l6Field_l16.nat (fun n => mkK_nat (cspec_l6Field n)) fun n => mkL_nat (mkK_nat (cspec_l6Field n)) (l := [(11, Dspec_l6Field_l11, Pspec_l6Field_l11 @spec_l6Field_l11 n), (3, Dspec_l6Field_l3, Pspec_l6Field_l3 @spec_l6Field_l3 n)]) ⟨nlspec_l6Field_l11 n, ⟨nlspec_l6Field_l3 n, trivial⟩⟩
theorem inspec_l6Field_l16 (n : Nat) (R : Type) : LoopsOk Tryz.prog (mkL (mkK [(26, Kspec_l1Cut @spec_l1Cut n), (40, Kspec_l6Item @spec_l6Item n)]) [(11, Dspec_l6Field_l11, Pspec_l6Field_l11 @spec_l6Field_l11 n), (3, Dspec_l6Field_l3, Pspec_l6Field_l3 @spec_l6Field_l3 n)] R) (loopIn 16 (bodyOf Tryz.f27)) := .eq (l := []) (by kernel_rfl) trivial
theorem lkspec_l6Field_l16 (n : Nat) (R : Type) (L0 : LK R) (h0 : ∀ id, firstRegion (loopIn 16 (bodyOf Tryz.f27)) = some id → L0 id = Dspec_l6Field_l16.oracle (mkK [(26, Kspec_l1Cut @spec_l1Cut n), (40, Kspec_l6Item @spec_l6Item n)] R) (Pspec_l6Field_l16 @spec_l6Field_l16 n R)) : LoopOk Tryz.prog L0 (loopIn 16 (bodyOf Tryz.f27)) :=
  lespec_l6Field_l16.ok mixed ttok (fun n => mkK_nat (cspec_l6Field n)) (fun n => mkK_ok (cspec_l6Field n)) (fun n => inspec_l6Field_l16 n R) (mkK_nat (cspec_l6Field n)) h0
@[reducible] def Sspec_l6Field : PkS := ⟨[.one (.str), .one (.int .i64)], []⟩
@[reducible] def Tspec_l6Field : PkS := ⟨[.tup [(false, [.ro (.int .i64)]), (false, [.bool])], .one (.dead), .one (.dead)], []⟩
def Hspec_l6Field : List Sh := [.tup [(false, [(.ro (.int .i64))]), (false, [.any])], .skip, .skip]
def Kspec_l6Field (g : ∀ {R : Type}, Nat → ByteArray → Int → ((List Int) → Bool → Option R) → Option R) (n : Nat) : KPs := fun R p k => match (PkS.un Sspec_l6Field p : Option (ByteArray × Int × Unit)) with
  | some (x0, x1, _) => g n x0 x1 (fun r0 r1 => k (PkS.pack Tspec_l6Field (r0, r1, ())))
  | none => none
theorem espec_l6Field (spec_l1Cut : ∀ {R : Type}, Nat → ByteArray → Int → (ByteArray → ByteArray → Bool → Option R) → Option R) (spec_l6Item : ∀ {R : Type}, Nat → ByteArray → Int → (Int → Int → Int → Bool → Option R) → Option R) (spec_l6Field_l11 : ∀ {R : Type}, Nat → ByteArray → Int → Bool → Int → Int → Int → (List Bool) → (ByteArray → Int → Bool → (List Bool) → Option R) → Option R) (spec_l6Field_l3 : ∀ {R : Type}, Nat → ByteArray → Int → Bool → (List Bool) → ((List Int) → Bool → Option R) → ((List Bool) → Option R) → Option R) (spec_l6Field_l16 : ∀ {R : Type}, Nat → Int → Int → (List Int) → (List Bool) → ((List Int) → Option R) → Option R) {R : Type} (n : Nat) (x0 : ByteArray) (x1 : Int) (k : Pk → Option R) : evF tt sig (mkK [(26, Kspec_l1Cut @spec_l1Cut n), (40, Kspec_l6Item @spec_l6Item n)] R) (mkL (mkK [(26, Kspec_l1Cut @spec_l1Cut n), (40, Kspec_l6Item @spec_l6Item n)]) [(11, Dspec_l6Field_l11, Pspec_l6Field_l11 @spec_l6Field_l11 n), (3, Dspec_l6Field_l3, Pspec_l6Field_l3 @spec_l6Field_l3 n), (16, Dspec_l6Field_l16, Pspec_l6Field_l16 @spec_l6Field_l16 n)] R) Tryz.f27 Hspec_l6Field (PkS.pack Sspec_l6Field (x0, x1, ())) k = (fun (k : (List Int) → Bool → Option R) => (bif decide (0 ≤ (IntKind.wrap .i64 (x1 + 1))) then (bif decide ((IntKind.wrap .i64 (x1 + 1)) ≤ (IntKind.wrap .i64 (x1 + 1))) then (bif decide ((IntKind.wrap .i64 (x1 + 1)) ≤ 1099511627776) then (spec_l6Field_l3 n x0 x1 true (List.replicate (Int.toNat (IntKind.wrap .i64 (x1 + 1))) false) (fun r12 r13 => k r12 r13) (fun r14 => (spec_l6Field_l16 n (r14.length : Int) 0 ([] : List Int) r14 (fun r15 => k r15 true)))) else none) else none) else none)) (fun r0 r1 => k (PkS.pack Tspec_l6Field (r0, r1, ()))) := by kernel_rfl
theorem okspec_l6Field (n : Nat) : FnOk Tryz.prog 27 (Kspec_l6Field @spec_l6Field n) := by
  refine fn_ok (sig := sig) mixed ttok (mkK_nat (cspec_l6Field n)) (mkK_ok (cspec_l6Field n)) (mkL_nat (mkK_nat (cspec_l6Field n)) (l := [(11, Dspec_l6Field_l11, Pspec_l6Field_l11 @spec_l6Field_l11 n), (3, Dspec_l6Field_l3, Pspec_l6Field_l3 @spec_l6Field_l3 n), (16, Dspec_l6Field_l16, Pspec_l6Field_l16 @spec_l6Field_l16 n)]) ⟨nlspec_l6Field_l11 n, ⟨nlspec_l6Field_l3 n, ⟨nlspec_l6Field_l16 n, trivial⟩⟩⟩) (fn := Tryz.f27) (c := bodyOf Tryz.f27) (by kernel_rfl) (by kernel_rfl) (by kernel_rfl) (.eq (l := [.lo (loopIn 3 (bodyOf Tryz.f27)), .lo (loopIn 16 (bodyOf Tryz.f27))]) (by kernel_rfl) ⟨(lkspec_l6Field_l3 n _ _ (at_id (i := 3) (by kernel_rfl) rfl)), ⟨(lkspec_l6Field_l16 n _ _ (at_id (i := 16) (by kernel_rfl) rfl)), trivial⟩⟩) (shs := Hspec_l6Field) (S := Sspec_l6Field) (h1 := by kernel_rfl) fun R p k => ?_
  unfold Kspec_l6Field
  cases h : (PkS.un Sspec_l6Field p) with
  | none => rfl
  | some d =>
    obtain ⟨x0, x1, u⟩ := (d : ByteArray × Int × Unit)
    have hp := PkS.un_pack h
    subst hp
    exact (espec_l6Field @spec_l1Cut @spec_l6Item @spec_l6Field_l11 @spec_l6Field_l3 @spec_l6Field_l16 n x0 x1 k).symm

/-! ### (*loop.example/g00269/spec.l1Cur).cronList -/
theorem cspec_l1Cur_cronList (n : Nat) : AllOk Tryz.prog [(24, Kspec_l1Cur_one @spec_l1Cur_one n), (27, Kspec_l6Field @spec_l6Field n), (39, Kspec_l1Cur_pick @spec_l1Cur_pick n)] := ⟨okspec_l1Cur_one n, ⟨okspec_l6Field n, ⟨okspec_l1Cur_pick n, trivial⟩⟩⟩
@[reducible] def Sspec_l1Cur_cronList_l7 : PkS := ⟨[.one (.box (100000, 0) 0), .one (.int .i64), .one (.whole (100000, 1)), .one (.int .i64), .one (.int .i64), .one (.box (100000, 0) 0), .one (.dead)], [((100000, 0), .box [.ro (.int .u8), .int .i64, .int .u64]), ((100000, 1), .arr (.int .i64))]⟩
@[reducible] def Tspec_l1Cur_cronList_l7_0 : PkS := ⟨[.one (.whole (100000, 0)), .one (.box (100000, 1) 0), .one (.dead)], [((100000, 0), .arr (.int .i64)), ((100000, 1), .box [.ro (.int .u8), .int .i64, .int .u64])]⟩
def Dspec_l1Cur_cronList_l7 : LoopD := ⟨44, [0, 1, 7, 8, 9], [.box [(.ro (.int .u8)), .any, .any], .one .any, .one (.own (.int .i64)), .one .any, .one .any, .box [(.ro (.int .u8)), .any, .any], .skip], fun x => match x with
  | .exit 0 => some ([7], [.one (.own (.int .i64)), .box [(.ro (.int .u8)), .any, .any], .skip])
  | _ => none⟩
def Pspec_l1Cur_cronList_l7 (g : ∀ {R : Type}, Nat → Int → Int → Int → (List Int) → Int → Int → (List Int) → ((List Int) → (List Int) → Int → Int → Option R) → Option R) (n : Nat) : LPs := fun R q kk => match (PkS.un Sspec_l1Cur_cronList_l7 q : Option (Int × Int × Int × (List Int) × Int × Int × (List Int) × Unit)) with
  | some (y7_0, y7_1, y7_2, y7_3, y7_4, y7_5, y7_6, _) => g n y7_0 y7_1 y7_2 y7_3 y7_4 y7_5 y7_6 (fun r0 r1 r2 r3 => kk (.exit 0) (PkS.pack Tspec_l1Cur_cronList_l7_0 (r0, r1, r2, r3, ())))
  | none => none
theorem espec_l1Cur_cronList_l7 (spec_l1Cur_one : ∀ {R : Type}, Nat → Int → (List Int) → Int → Int → (Bool → (List Int) → Int → Int → Option R) → Option R) (spec_l6Field : ∀ {R : Type}, Nat → ByteArray → Int → ((List Int) → Bool → Option R) → Option R) (spec_l1Cur_pick : ∀ {R : Type}, Nat → Int → (List Int) → Int → Int → (Int → (List Int) → Int → Int → Option R) → Option R) (spec_l1Cur_cronList_l7 : ∀ {R : Type}, Nat → Int → Int → Int → (List Int) → Int → Int → (List Int) → ((List Int) → (List Int) → Int → Int → Option R) → Option R) {R : Type} (n : Nat) (y7_0 : Int) (y7_1 : Int) (y7_2 : Int) (y7_3 : List Int) (y7_4 : Int) (y7_5 : Int) (y7_6 : List Int) (kk : Ex → Pk → Option R) : Dspec_l1Cur_cronList_l7.step tt sig (mkK [(24, Kspec_l1Cur_one @spec_l1Cur_one n), (27, Kspec_l6Field @spec_l6Field n), (39, Kspec_l1Cur_pick @spec_l1Cur_pick n)] R) (mkL (mkK [(24, Kspec_l1Cur_one @spec_l1Cur_one n), (27, Kspec_l6Field @spec_l6Field n), (39, Kspec_l1Cur_pick @spec_l1Cur_pick n)]) [] R) (loopIn 7 (bodyOf Tryz.f41)) (fun q' => Pspec_l1Cur_cronList_l7 @spec_l1Cur_cronList_l7 n R q' kk) (PkS.pack Sspec_l1Cur_cronList_l7 (y7_0, y7_1, y7_2, y7_3, y7_4, y7_5, y7_6, ())) kk = (fun (kexit0 : (List Int) → (List Int) → Int → Int → Option R) => (bif (decide (y7_2 > 0)) then (bif (decide (y7_1 ≤ y7_0)) then (bif decide (y7_6.length + [y7_1].length ≤ LIM) then (spec_l1Cur_pick n 20 y7_3 y7_4 y7_5 fun r15 r16 r17 r18 => spec_l1Cur_cronList_l7 n y7_0 (IntKind.wrap .i64 (y7_1 + (IntKind.wrap .i64 (1 + r15)))) (IntKind.wrap .i64 (y7_2 - 1)) r16 r17 r18 (y7_6 ++ [y7_1]) kexit0) else none) else kexit0 y7_6 y7_3 y7_4 y7_5) else kexit0 y7_6 y7_3 y7_4 y7_5)) (fun r0 r1 r2 r3 => kk (.exit 0) (PkS.pack Tspec_l1Cur_cronList_l7_0 (r0, r1, r2, r3, ()))) := by kernel_rfl
theorem lespec_l1Cur_cronList_l7 : LoopEq tt sig (fun n => mkK [(24, Kspec_l1Cur_one @spec_l1Cur_one n), (27, Kspec_l6Field @spec_l6Field n), (39, Kspec_l1Cur_pick @spec_l1Cur_pick n)]) (fun n => mkL (mkK [(24, Kspec_l1Cur_one @spec_l1Cur_one n), (27, Kspec_l6Field @spec_l6Field n), (39, Kspec_l1Cur_pick @spec_l1Cur_pick n)]) []) Dspec_l1Cur_cronList_l7 Sspec_l1Cur_cronList_l7 (loopIn 7 (bodyOf Tryz.f41)) (Pspec_l1Cur_cronList_l7 @spec_l1Cur_cronList_l7) where
  zero R q kk := by unfold Pspec_l1Cur_cronList_l7; cases (PkS.un Sspec_l1Cur_cronList_l7 q) <;> rfl
  succ n R q kk := by
    unfold Pspec_l1Cur_cronList_l7
    cases h : (PkS.un Sspec_l1Cur_cronList_l7 q) with
    | none => rfl
    | some d =>
      obtain ⟨y7_0, y7_1, y7_2, y7_3, y7_4, y7_5, y7_6, u⟩ := (d : Int × Int × Int × (List Int) × Int × Int × (List Int) × Unit)
      have hp := PkS.un_pack h
      subst hp
      exact (espec_l1Cur_cronList_l7 @spec_l1Cur_one @spec_l6Field @spec_l1Cur_pick @spec_l1Cur_cronList_l7 n y7_0 y7_1 y7_2 y7_3 y7_4 y7_5 y7_6 kk).symm
theorem nlspec_l1Cur_cronList_l7 : ∀ n, NatLP (Pspec_l1Cur_cronList_l7 @spec_l1Cur_cronList_l7 n) := lespec_l1Cur_cronList_l7.nat (fun n => mkK_nat (cspec_l1Cur_cronList n)) fun n => mkL_nat (mkK_nat (cspec_l1Cur_cronList n)) (l := []) trivial
theorem inspec_l1Cur_cronList_l7 (n : Nat) (R : Type) : LoopsOk Tryz.prog (mkL (mkK [(24, Kspec_l1Cur_one @spec_l1Cur_one n), (27, Kspec_l6Field @spec_l6Field n), (39, Kspec_l1Cur_pick @spec_l1Cur_pick n)]) [] R) (loopIn 7 (bodyOf Tryz.f41)) := .eq (l := []) (by kernel_rfl) trivial
theorem lkspec_l1Cur_cronList_l7 (n : Nat) (R : Type) (L0 : LK R) (h0 : ∀ id, firstRegion (loopIn 7 (bodyOf Tryz.f41)) = some id → L0 id = Dspec_l1Cur_cronList_l7.oracle (mkK [(24, Kspec_l1Cur_one @spec_l1Cur_one n), (27, Kspec_l6Field @spec_l6Field n), (39, Kspec_l1Cur_pick @spec_l1Cur_pick n)] R) (Pspec_l1Cur_cronList_l7 @spec_l1Cur_cronList_l7 n R)) : LoopOk Tryz.prog L0 (loopIn 7 (bodyOf Tryz.f41)) :=
  lespec_l1Cur_cronList_l7.ok mixed ttok (fun n => mkK_nat (cspec_l1Cur_cronList n)) (fun n => mkK_ok (cspec_l1Cur_cronList n)) (fun n => inspec_l1Cur_cronList_l7 n R) (mkK_nat (cspec_l1Cur_cronList n)) h0
@[reducible] def Sspec_l1Cur_cronList : PkS := ⟨[.one (.box (200000, 0) 0), .one (.int .i64)], [((200000, 0), .box [.ro (.int .u8), .int .i64, .int .u64])]⟩
@[reducible] def Tspec_l1Cur_cronList : PkS := ⟨[.one (.ro (.int .i64)), .one (.box (300000, 0) 0), .one (.dead)], [((300000, 0), .box [.ro (.int .u8), .int .i64, .int .u64])]⟩
def Hspec_l1Cur_cronList : List Sh := [.one (.ro (.int .i64)), .box [(.ro (.int .u8)), .any, .any], .skip]
def Kspec_l1Cur_cronList (g : ∀ {R : Type}, Nat → Int → (List Int) → Int → Int → ((List Int) → (List Int) → Int → Int → Option R) → Option R) (n : Nat) : KPs := fun R p k => match (PkS.un Sspec_l1Cur_cronList p : Option (Int × (List Int) × Int × Int × Unit)) with
  | some (x0, x1, x2, x3, _) => g n x0 x1 x2 x3 (fun r0 r1 r2 r3 => k (PkS.pack Tspec_l1Cur_cronList (r0, r1, r2, r3, ())))
  | none => none
theorem espec_l1Cur_cronList (spec_l1Cur_one : ∀ {R : Type}, Nat → Int → (List Int) → Int → Int → (Bool → (List Int) → Int → Int → Option R) → Option R) (spec_l6Field : ∀ {R : Type}, Nat → ByteArray → Int → ((List Int) → Bool → Option R) → Option R) (spec_l1Cur_pick : ∀ {R : Type}, Nat → Int → (List Int) → Int → Int → (Int → (List Int) → Int → Int → Option R) → Option R) (spec_l1Cur_cronList_l7 : ∀ {R : Type}, Nat → Int → Int → Int → (List Int) → Int → Int → (List Int) → ((List Int) → (List Int) → Int → Int → Option R) → Option R) {R : Type} (n : Nat) (x0 : Int) (x1 : List Int) (x2 : Int) (x3 : Int) (k : Pk → Option R) : evF tt sig (mkK [(24, Kspec_l1Cur_one @spec_l1Cur_one n), (27, Kspec_l6Field @spec_l6Field n), (39, Kspec_l1Cur_pick @spec_l1Cur_pick n)] R) (mkL (mkK [(24, Kspec_l1Cur_one @spec_l1Cur_one n), (27, Kspec_l6Field @spec_l6Field n), (39, Kspec_l1Cur_pick @spec_l1Cur_pick n)]) [(7, Dspec_l1Cur_cronList_l7, Pspec_l1Cur_cronList_l7 @spec_l1Cur_cronList_l7 n)] R) Tryz.f41 Hspec_l1Cur_cronList (PkS.pack Sspec_l1Cur_cronList (x0, x1, x2, x3, ())) k = (fun (k : (List Int) → (List Int) → Int → Int → Option R) => (spec_l1Cur_one n 4 x1 x2 x3 fun r1 r2 r3 r4 => (bif r1 then (spec_l6Field n (ByteArray.mk #[42]) x0 fun r5 r6 => k r5 r2 r3 r4) else (spec_l1Cur_pick n (IntKind.wrap .i64 (x0 + 1)) r2 r3 r4 fun r7 r8 r9 r10 => (spec_l1Cur_pick n 4 r8 r9 r10 fun r11 r12 r13 r14 => (spec_l1Cur_cronList_l7 n x0 r7 (IntKind.wrap .i64 (1 + r11)) r12 r13 r14 ([] : List Int) (fun r19 r20 r21 r22 => k r19 r20 r21 r22))))))) (fun r0 r1 r2 r3 => k (PkS.pack Tspec_l1Cur_cronList (r0, r1, r2, r3, ()))) := by kernel_rfl
theorem okspec_l1Cur_cronList (n : Nat) : FnOk Tryz.prog 41 (Kspec_l1Cur_cronList @spec_l1Cur_cronList n) := by
  refine fn_ok (sig := sig) mixed ttok (mkK_nat (cspec_l1Cur_cronList n)) (mkK_ok (cspec_l1Cur_cronList n)) (mkL_nat (mkK_nat (cspec_l1Cur_cronList n)) (l := [(7, Dspec_l1Cur_cronList_l7, Pspec_l1Cur_cronList_l7 @spec_l1Cur_cronList_l7 n)]) ⟨nlspec_l1Cur_cronList_l7 n, trivial⟩) (fn := Tryz.f41) (c := bodyOf Tryz.f41) (by kernel_rfl) (by kernel_rfl) (by kernel_rfl) (.eq (l := [.lo (loopIn 7 (bodyOf Tryz.f41))]) (by kernel_rfl) ⟨(lkspec_l1Cur_cronList_l7 n _ _ (at_id (i := 7) (by kernel_rfl) rfl)), trivial⟩) (shs := Hspec_l1Cur_cronList) (S := Sspec_l1Cur_cronList) (h1 := by kernel_rfl) fun R p k => ?_
  unfold Kspec_l1Cur_cronList
  cases h : (PkS.un Sspec_l1Cur_cronList p) with
  | none => rfl
  | some d =>
    obtain ⟨x0, x1, x2, x3, u⟩ := (d : Int × (List Int) × Int × Int × Unit)
    have hp := PkS.un_pack h
    subst hp
    exact (espec_l1Cur_cronList @spec_l1Cur_one @spec_l6Field @spec_l1Cur_pick @spec_l1Cur_cronList_l7 n x0 x1 x2 x3 k).symm

/-! ### (*loop.example/g00269/spec.l1Cur).cron -/
theorem cspec_l1Cur_cron (n : Nat) : AllOk Tryz.prog [(41, Kspec_l1Cur_cronList @spec_l1Cur_cronList n), (39, Kspec_l1Cur_pick @spec_l1Cur_pick n)] := ⟨okspec_l1Cur_cronList n, ⟨okspec_l1Cur_pick n, trivial⟩⟩
@[reducible] def Sspec_l1Cur_cron : PkS := ⟨[.one (.box (200000, 0) 0)], [((200000, 0), .box [.ro (.int .u8), .int .i64, .int .u64])]⟩
@[reducible] def Tspec_l1Cur_cron : PkS := ⟨[.agg [.ro (.int .i64), .ro (.int .i64), .ro (.int .i64)], .one (.box (300000, 0) 0)], [((300000, 0), .box [.ro (.int .u8), .int .i64, .int .u64])]⟩
def Hspec_l1Cur_cron : List Sh := [.agg [(.ro (.int .i64)), (.ro (.int .i64)), (.ro (.int .i64))], .box [(.ro (.int .u8)), .any, .any]]
def Kspec_l1Cur_cron (g : ∀ {R : Type}, Nat → (List Int) → Int → Int → ((List Int) → (List Int) → (List Int) → (List Int) → Int → Int → Option R) → Option R) (n : Nat) : KPs := fun R p k => match (PkS.un Sspec_l1Cur_cron p : Option ((List Int) × Int × Int × Unit)) with
  | some (x0, x1, x2, _) => g n x0 x1 x2 (fun r0 r1 r2 r3 r4 r5 => k (PkS.pack Tspec_l1Cur_cron (r0, r1, r2, r3, r4, r5, ())))
  | none => none
theorem espec_l1Cur_cron (spec_l1Cur_cronList : ∀ {R : Type}, Nat → Int → (List Int) → Int → Int → ((List Int) → (List Int) → Int → Int → Option R) → Option R) (spec_l1Cur_pick : ∀ {R : Type}, Nat → Int → (List Int) → Int → Int → (Int → (List Int) → Int → Int → Option R) → Option R) {R : Type} (n : Nat) (x0 : List Int) (x1 : Int) (x2 : Int) (k : Pk → Option R) : evF tt sig (mkK [(41, Kspec_l1Cur_cronList @spec_l1Cur_cronList n), (39, Kspec_l1Cur_pick @spec_l1Cur_pick n)] R) (mkL (mkK [(41, Kspec_l1Cur_cronList @spec_l1Cur_cronList n), (39, Kspec_l1Cur_pick @spec_l1Cur_pick n)]) [] R) Tryz.f28 Hspec_l1Cur_cron (PkS.pack Sspec_l1Cur_cron (x0, x1, x2, ())) k = (fun (k : (List Int) → (List Int) → (List Int) → (List Int) → Int → Int → Option R) => (spec_l1Cur_cronList n 59 x0 x1 x2 fun r1 r2 r3 r4 => (spec_l1Cur_cronList n 23 r2 r3 r4 fun r5 r6 r7 r8 => (spec_l1Cur_cronList n 6 r6 r7 r8 fun r9 r10 r11 r12 => (spec_l1Cur_pick n 40 r10 r11 r12 fun r13 r14 r15 r16 => (bif (r13 == 0) then k r1 ([] : List Int) r9 r14 r15 r16 else (bif (r13 == 1) then k r1 r5 [7] r14 r15 r16 else k r1 r5 r9 r14 r15 r16))))))) (fun r0 r1 r2 r3 r4 r5 => k (PkS.pack Tspec_l1Cur_cron (r0, r1, r2, r3, r4, r5, ()))) := by kernel_rfl
theorem okspec_l1Cur_cron (n : Nat) : FnOk Tryz.prog 28 (Kspec_l1Cur_cron @spec_l1Cur_cron n) := by
  refine fn_ok (sig := sig) mixed ttok (mkK_nat (cspec_l1Cur_cron n)) (mkK_ok (cspec_l1Cur_cron n)) (mkL_nat (mkK_nat (cspec_l1Cur_cron n)) (l := []) trivial) (fn := Tryz.f28) (c := bodyOf Tryz.f28) (by kernel_rfl) (by kernel_rfl) (by kernel_rfl) (.eq (l := []) (by kernel_rfl) trivial) (shs := Hspec_l1Cur_cron) (S := Sspec_l1Cur_cron) (h1 := by kernel_rfl) fun R p k => ?_
  unfold Kspec_l1Cur_cron
  cases h : (PkS.un Sspec_l1Cur_cron p) with
  | none => rfl
  | some d =>
    obtain ⟨x0, x1, x2, u⟩ := (d : (List Int) × Int × Int × Unit)
    have hp := PkS.un_pack h
    subst hp
    exact (espec_l1Cur_cron @spec_l1Cur_cronList @spec_l1Cur_pick n x0 x1 x2 k).symm

/-! ### loop.example/g00269/spec.DrawGoodCron -/
theorem cspec_DrawGoodCron (n : Nat) : AllOk Tryz.prog [(28, Kspec_l1Cur_cron @spec_l1Cur_cron n)] := ⟨okspec_l1Cur_cron n, trivial⟩
@[reducible] def Sspec_DrawGoodCron : PkS := ⟨[.one (.ro (.int .u8))], []⟩
@[reducible] def Tspec_DrawGoodCron : PkS := ⟨[.agg [.ro (.int .i64), .ro (.int .i64), .ro (.int .i64)], .one (.dead)], []⟩
def Hspec_DrawGoodCron : List Sh := [.agg [(.ro (.int .i64)), (.ro (.int .i64)), (.ro (.int .i64))], .skip]
def Kspec_DrawGoodCron (g : ∀ {R : Type}, Nat → (List Int) → ((List Int) → (List Int) → (List Int) → Option R) → Option R) (n : Nat) : KPs := fun R p k => match (PkS.un Sspec_DrawGoodCron p : Option ((List Int) × Unit)) with
  | some (x0, _) => g n x0 (fun r0 r1 r2 => k (PkS.pack Tspec_DrawGoodCron (r0, r1, r2, ())))
  | none => none
theorem espec_DrawGoodCron (spec_l1Cur_cron : ∀ {R : Type}, Nat → (List Int) → Int → Int → ((List Int) → (List Int) → (List Int) → (List Int) → Int → Int → Option R) → Option R) {R : Type} (n : Nat) (x0 : List Int) (k : Pk → Option R) : evF tt sig (mkK [(28, Kspec_l1Cur_cron @spec_l1Cur_cron n)] R) (mkL (mkK [(28, Kspec_l1Cur_cron @spec_l1Cur_cron n)]) [] R) Tryz.f12 Hspec_DrawGoodCron (PkS.pack Sspec_DrawGoodCron (x0, ())) k = (fun (k : (List Int) → (List Int) → (List Int) → Option R) => (spec_l1Cur_cron n x0 0 0 fun r1 r2 r3 r4 r5 r6 => k r1 r2 r3)) (fun r0 r1 r2 => k (PkS.pack Tspec_DrawGoodCron (r0, r1, r2, ()))) := by kernel_rfl
theorem okspec_DrawGoodCron (n : Nat) : FnOk Tryz.prog 12 (Kspec_DrawGoodCron @spec_DrawGoodCron n) := by
  refine fn_ok (sig := sig) mixed ttok (mkK_nat (cspec_DrawGoodCron n)) (mkK_ok (cspec_DrawGoodCron n)) (mkL_nat (mkK_nat (cspec_DrawGoodCron n)) (l := []) trivial) (fn := Tryz.f12) (c := bodyOf Tryz.f12) (by kernel_rfl) (by kernel_rfl) (by kernel_rfl) (.eq (l := []) (by kernel_rfl) trivial) (shs := Hspec_DrawGoodCron) (S := Sspec_DrawGoodCron) (h1 := by kernel_rfl) fun R p k => ?_
  unfold Kspec_DrawGoodCron
  cases h : (PkS.un Sspec_DrawGoodCron p) with
  | none => rfl
  | some d =>
    obtain ⟨x0, u⟩ := (d : (List Int) × Unit)
    have hp := PkS.un_pack h
    subst hp
    exact (espec_DrawGoodCron @spec_l1Cur_cron n x0 k).symm

/-! ### loop.example/g00269/spec.DrawCronText -/
theorem cspec_DrawCronText (n : Nat) : AllOk Tryz.prog [(12, Kspec_DrawGoodCron @spec_DrawGoodCron n)] := ⟨okspec_DrawGoodCron n, trivial⟩
@[reducible] def Sspec_DrawCronText : PkS := ⟨[.one (.ro (.int .u8))], []⟩
@[reducible] def Tspec_DrawCronText : PkS := ⟨[.agg [.ro (.int .i64), .ro (.int .i64), .ro (.int .i64)], .one (.dead)], []⟩
def Hspec_DrawCronText : List Sh := [.agg [(.ro (.int .i64)), (.ro (.int .i64)), (.ro (.int .i64))], .skip]
def Kspec_DrawCronText (g : ∀ {R : Type}, Nat → (List Int) → ((List Int) → (List Int) → (List Int) → Option R) → Option R) (n : Nat) : KPs := fun R p k => match (PkS.un Sspec_DrawCronText p : Option ((List Int) × Unit)) with
  | some (x0, _) => g n x0 (fun r0 r1 r2 => k (PkS.pack Tspec_DrawCronText (r0, r1, r2, ())))
  | none => none
theorem espec_DrawCronText (spec_DrawGoodCron : ∀ {R : Type}, Nat → (List Int) → ((List Int) → (List Int) → (List Int) → Option R) → Option R) {R : Type} (n : Nat) (x0 : List Int) (k : Pk → Option R) : evF tt sig (mkK [(12, Kspec_DrawGoodCron @spec_DrawGoodCron n)] R) (mkL (mkK [(12, Kspec_DrawGoodCron @spec_DrawGoodCron n)]) [] R) Tryz.f4 Hspec_DrawCronText (PkS.pack Sspec_DrawCronText (x0, ())) k = (fun (k : (List Int) → (List Int) → (List Int) → Option R) => (spec_DrawGoodCron n x0 fun r1 r2 r3 => k r1 r2 r3)) (fun r0 r1 r2 => k (PkS.pack Tspec_DrawCronText (r0, r1, r2, ()))) := by kernel_rfl
theorem okspec_DrawCronText (n : Nat) : FnOk Tryz.prog 4 (Kspec_DrawCronText @spec_DrawCronText n) := by
  refine fn_ok (sig := sig) mixed ttok (mkK_nat (cspec_DrawCronText n)) (mkK_ok (cspec_DrawCronText n)) (mkL_nat (mkK_nat (cspec_DrawCronText n)) (l := []) trivial) (fn := Tryz.f4) (c := bodyOf Tryz.f4) (by kernel_rfl) (by kernel_rfl) (by kernel_rfl) (.eq (l := []) (by kernel_rfl) trivial) (shs := Hspec_DrawCronText) (S := Sspec_DrawCronText) (h1 := by kernel_rfl) fun R p k => ?_
  unfold Kspec_DrawCronText
  cases h : (PkS.un Sspec_DrawCronText p) with
  | none => rfl
  | some d =>
    obtain ⟨x0, u⟩ := (d : (List Int) × Unit)
    have hp := PkS.un_pack h
    subst hp
    exact (espec_DrawCronText @spec_DrawGoodCron n x0 k).symm

/-! ### (*loop.example/g00269/impl.Cron).fields -/
theorem cimpl_Cron_fields (n : Nat) : AllOk Tryz.prog [] := trivial
@[reducible] def Simpl_Cron_fields : PkS := ⟨[.one (.box (200000, 0) 0)], [((200000, 0), .box [.ro (.int .i64), .ro (.int .i64), .ro (.int .i64)])]⟩
@[reducible] def Timpl_Cron_fields : PkS := ⟨[.one (.whole (300000, 0)), .one (.box (300000, 1) 0)], [((300000, 0), .arr (.sl (.int .i64))), ((300000, 1), .box [.ro (.int .i64), .ro (.int .i64), .ro (.int .i64)])]⟩
def Himpl_Cron_fields : List Sh := [.one (.own (.sl (.int .i64))), .box [(.ro (.int .i64)), (.ro (.int .i64)), (.ro (.int .i64))]]
def Kimpl_Cron_fields (g : ∀ {R : Type}, Nat → (List Int) → (List Int) → (List Int) → ((List (List Int)) → (List Int) → (List Int) → (List Int) → Option R) → Option R) (n : Nat) : KPs := fun R p k => match (PkS.un Simpl_Cron_fields p : Option ((List Int) × (List Int) × (List Int) × Unit)) with
  | some (x0, x1, x2, _) => g n x0 x1 x2 (fun r0 r1 r2 r3 => k (PkS.pack Timpl_Cron_fields (r0, r1, r2, r3, ())))
  | none => none
theorem eimpl_Cron_fields  {R : Type} (n : Nat) (x0 : List Int) (x1 : List Int) (x2 : List Int) (k : Pk → Option R) : evF tt sig (mkK [] R) (mkL (mkK []) [] R) Tryz.f13 Himpl_Cron_fields (PkS.pack Simpl_Cron_fields (x0, x1, x2, ())) k = (fun (k : (List (List Int)) → (List Int) → (List Int) → (List Int) → Option R) => k ([x0, x1, x2]) x0 x1 x2) (fun r0 r1 r2 r3 => k (PkS.pack Timpl_Cron_fields (r0, r1, r2, r3, ()))) := by kernel_rfl
theorem okimpl_Cron_fields (n : Nat) : FnOk Tryz.prog 13 (Kimpl_Cron_fields @impl_Cron_fields n) := by
  refine fn_ok (sig := sig) mixed ttok (mkK_nat (cimpl_Cron_fields n)) (mkK_ok (cimpl_Cron_fields n)) (mkL_nat (mkK_nat (cimpl_Cron_fields n)) (l := []) trivial) (fn := Tryz.f13) (c := bodyOf Tryz.f13) (by kernel_rfl) (by kernel_rfl) (by kernel_rfl) (.eq (l := []) (by kernel_rfl) trivial) (shs := Himpl_Cron_fields) (S := Simpl_Cron_fields) (h1 := by kernel_rfl) fun R p k => ?_
  unfold Kimpl_Cron_fields
  cases h : (PkS.un Simpl_Cron_fields p) with
  | none => rfl
  | some d =>
    obtain ⟨x0, x1, x2, u⟩ := (d : (List Int) × (List Int) × (List Int) × Unit)
    have hp := PkS.un_pack h
    subst hp
    exact (eimpl_Cron_fields  n x0 x1 x2 k).symm

/-! ### loop.example/g00269/impl.bounds -/
theorem cimpl_bounds (n : Nat) : AllOk Tryz.prog [] := trivial
@[reducible] def Simpl_bounds : PkS := ⟨[], []⟩
@[reducible] def Timpl_bounds : PkS := ⟨[.one (.whole (300000, 0))], [((300000, 0), .arr (.int .i64))]⟩
def Himpl_bounds : List Sh := [.one (.own (.int .i64))]
def Kimpl_bounds (g : ∀ {R : Type}, Nat → ((List Int) → Option R) → Option R) (n : Nat) : KPs := fun R p k => match (PkS.un Simpl_bounds p : Option (Unit)) with
  | some _ => g n  (fun r0 => k (PkS.pack Timpl_bounds (r0, ())))
  | none => none
theorem eimpl_bounds  {R : Type} (n : Nat)  (k : Pk → Option R) : evF tt sig (mkK [] R) (mkL (mkK []) [] R) Tryz.f15 Himpl_bounds (PkS.pack Simpl_bounds ()) k = (fun (k : (List Int) → Option R) => k ([60, 24, 7])) (fun r0 => k (PkS.pack Timpl_bounds (r0, ()))) := by kernel_rfl
theorem okimpl_bounds (n : Nat) : FnOk Tryz.prog 15 (Kimpl_bounds @impl_bounds n) := by
  refine fn_ok (sig := sig) mixed ttok (mkK_nat (cimpl_bounds n)) (mkK_ok (cimpl_bounds n)) (mkL_nat (mkK_nat (cimpl_bounds n)) (l := []) trivial) (fn := Tryz.f15) (c := bodyOf Tryz.f15) (by kernel_rfl) (by kernel_rfl) (by kernel_rfl) (.eq (l := []) (by kernel_rfl) trivial) (shs := Himpl_bounds) (S := Simpl_bounds) (h1 := by kernel_rfl) fun R p k => ?_
  unfold Kimpl_bounds
  cases h : (PkS.un Simpl_bounds p) with
  | none => rfl
  | some d =>
    obtain ⟨⟩ := (d : Unit)
    have hp := PkS.un_pack h
    subst hp
    exact (eimpl_bounds  n  k).symm

/-! ### loop.example/g00269/impl.in -/
theorem cimpl_in (n : Nat) : AllOk Tryz.prog [] := trivial
@[reducible] def Simpl_in : PkS := ⟨[.one (.int .i64), .one (.int .i64), .one (.int .i64)], []⟩
@[reducible] def Timpl_in : PkS := ⟨[.one (.bool), .one (.dead), .one (.dead), .one (.dead)], []⟩
def Himpl_in : List Sh := [.one .any, .skip, .skip, .skip]
def Kimpl_in (g : ∀ {R : Type}, Nat → Int → Int → Int → (Bool → Option R) → Option R) (n : Nat) : KPs := fun R p k => match (PkS.un Simpl_in p : Option (Int × Int × Int × Unit)) with
  | some (x0, x1, x2, _) => g n x0 x1 x2 (fun r0 => k (PkS.pack Timpl_in (r0, ())))
  | none => none
theorem eimpl_in  {R : Type} (n : Nat) (x0 : Int) (x1 : Int) (x2 : Int) (k : Pk → Option R) : evF tt sig (mkK [] R) (mkL (mkK []) [] R) Tryz.f35 Himpl_in (PkS.pack Simpl_in (x0, x1, x2, ())) k = (fun (k : Bool → Option R) => (bif (decide (x0 ≥ x1)) then k (decide (x0 ≤ x2)) else k false)) (fun r0 => k (PkS.pack Timpl_in (r0, ()))) := by kernel_rfl
theorem okimpl_in (n : Nat) : FnOk Tryz.prog 35 (Kimpl_in @impl_in n) := by
  refine fn_ok (sig := sig) mixed ttok (mkK_nat (cimpl_in n)) (mkK_ok (cimpl_in n)) (mkL_nat (mkK_nat (cimpl_in n)) (l := []) trivial) (fn := Tryz.f35) (c := bodyOf Tryz.f35) (by kernel_rfl) (by kernel_rfl) (by kernel_rfl) (.eq (l := []) (by kernel_rfl) trivial) (shs := Himpl_in) (S := Simpl_in) (h1 := by kernel_rfl) fun R p k => ?_
  unfold Kimpl_in
  cases h : (PkS.un Simpl_in p) with
  | none => rfl
  | some d =>
    obtain ⟨x0, x1, x2, u⟩ := (d : Int × Int × Int × Unit)
    have hp := PkS.un_pack h
    subst hp
    exact (eimpl_in  n x0 x1 x2 k).symm

/-! ### loop.example/g00269/impl.rising -/
theorem cimpl_rising (n : Nat) : AllOk Tryz.prog [(35, Kimpl_in @impl_in n)] := ⟨okimpl_in n, trivial⟩
@[reducible] def Simpl_rising_l2 : PkS := ⟨[.one (.ro (.int .i64)), .one (.int .i64), .one (.ro (.int .i64)), .one (.int .i64), .one (.int .i64), .one (.dead), .one (.dead)], []⟩
@[reducible] def Timpl_rising_l2_0 : PkS := ⟨[.one (.bool), .one (.dead), .one (.dead)], []⟩
@[reducible] def Timpl_rising_l2_1 : PkS := ⟨[.one (.dead), .one (.dead)], []⟩
def Dimpl_rising_l2 : LoopD := ⟨33, [0, 1, 7, 8, 9], [.one (.ro (.int .i64)), .one .any, .one (.ro (.int .i64)), .one .any, .one .any, .skip, .skip], fun x => match x with
  | .ret => some ([4], [.one .any, .skip, .skip])
  | .exit 0 => some ([], [.skip, .skip])
  | _ => none⟩
def Pimpl_rising_l2 (g : ∀ {R : Type}, Nat → (List Int) → Int → (List Int) → Int → Int → (Bool → Option R) → (Option R) → Option R) (n : Nat) : LPs := fun R q kk => match (PkS.un Simpl_rising_l2 q : Option ((List Int) × Int × (List Int) × Int × Int × Unit)) with
  | some (y2_0, y2_1, y2_2, y2_3, y2_4, _) => g n y2_0 y2_1 y2_2 y2_3 y2_4 (fun r0 => kk .ret (PkS.pack Timpl_rising_l2_0 (r0, ()))) (kk (.exit 0) (PkS.pack Timpl_rising_l2_1 ()))
  | none => none
theorem eimpl_rising_l2 (impl_in : ∀ {R : Type}, Nat → Int → Int → Int → (Bool → Option R) → Option R) (impl_rising_l2 : ∀ {R : Type}, Nat → (List Int) → Int → (List Int) → Int → Int → (Bool → Option R) → (Option R) → Option R) {R : Type} (n : Nat) (y2_0 : List Int) (y2_1 : Int) (y2_2 : List Int) (y2_3 : Int) (y2_4 : Int) (kk : Ex → Pk → Option R) : Dimpl_rising_l2.step tt sig (mkK [(35, Kimpl_in @impl_in n)] R) (mkL (mkK [(35, Kimpl_in @impl_in n)]) [] R) (loopIn 2 (bodyOf Tryz.f19)) (fun q' => Pimpl_rising_l2 @impl_rising_l2 n R q' kk) (PkS.pack Simpl_rising_l2 (y2_0, y2_1, y2_2, y2_3, y2_4, ())) kk = (fun (kret : Bool → Option R) (kexit0 : Option R) => (bif (decide (y2_4 < y2_3)) then (bif decide (0 ≤ y2_4) then (bif decide (y2_4 < (y2_2.length : Int)) then (impl_in n (y2_2.getD (Int.toNat y2_4) 0) 0 (IntKind.wrap .i64 (y2_1 - 1)) fun r1 => (bif (!r1) then kret false else (bif (decide (y2_4 > 0)) then (bif decide (0 ≤ (IntKind.wrap .i64 (y2_4 - 1))) then (bif decide ((IntKind.wrap .i64 (y2_4 - 1)) < (y2_0.length : Int)) then (bif (decide ((y2_0.getD (Int.toNat (IntKind.wrap .i64 (y2_4 - 1))) 0) ≥ (y2_2.getD (Int.toNat y2_4) 0))) then kret false else impl_rising_l2 n y2_0 y2_1 y2_2 y2_3 (IntKind.wrap .i64 (y2_4 + 1)) kret kexit0) else none) else none) else impl_rising_l2 n y2_0 y2_1 y2_2 y2_3 (IntKind.wrap .i64 (y2_4 + 1)) kret kexit0))) else none) else none) else kexit0)) (fun r0 => kk .ret (PkS.pack Timpl_rising_l2_0 (r0, ()))) (kk (.exit 0) (PkS.pack Timpl_rising_l2_1 ())) := by kernel_rfl
theorem leimpl_rising_l2 : LoopEq tt sig (fun n => mkK [(35, Kimpl_in @impl_in n)]) (fun n => mkL (mkK [(35, Kimpl_in @impl_in n)]) []) Dimpl_rising_l2 Simpl_rising_l2 (loopIn 2 (bodyOf Tryz.f19)) (Pimpl_rising_l2 @impl_rising_l2) where
  zero R q kk := by unfold Pimpl_rising_l2; cases (PkS.un Simpl_rising_l2 q) <;> rfl
  succ n R q kk := by
    unfold Pimpl_rising_l2
    cases h : (PkS.un Simpl_rising_l2 q) with
    | none => rfl
    | some d =>
      obtain ⟨y2_0, y2_1, y2_2, y2_3, y2_4, u⟩ := (d : (List Int) × Int × (List Int) × Int × Int × Unit)
      have hp := PkS.un_pack h
      subst hp
      exact (eimpl_rising_l2 @impl_in @impl_rising_l2 n y2_0 y2_1 y2_2 y2_3 y2_4 kk).symm
theorem nlimpl_rising_l2 : ∀ n, NatLP (Pimpl_rising_l2 @impl_rising_l2 n) := leimpl_rising_l2.nat (fun n => mkK_nat (cimpl_rising n)) fun n => mkL_nat (mkK_nat (cimpl_rising n)) (l := []) trivial
theorem inimpl_rising_l2 (n : Nat) (R : Type) : LoopsOk Tryz.prog (mkL (mkK [(35, Kimpl_in @impl_in n)]) [] R) (loopIn 2 (bodyOf Tryz.f19)) := .eq (l := []) (by kernel_rfl) trivial
theorem lkimpl_rising_l2 (n : Nat) (R : Type) (L0 : LK R) (h0 : ∀ id, firstRegion (loopIn 2 (bodyOf Tryz.f19)) = some id → L0 id = Dimpl_rising_l2.oracle (mkK [(35, Kimpl_in @impl_in n)] R) (Pimpl_rising_l2 @impl_rising_l2 n R)) : LoopOk Tryz.prog L0 (loopIn 2 (bodyOf Tryz.f19)) :=
  leimpl_rising_l2.ok mixed ttok (fun n => mkK_nat (cimpl_rising n)) (fun n => mkK_ok (cimpl_rising n)) (fun n => inimpl_rising_l2 n R) (mkK_nat (cimpl_rising n)) h0
@[reducible] def Simpl_rising : PkS := ⟨[.one (.ro (.int .i64)), .one (.int .i64)], []⟩
@[reducible] def Timpl_rising : PkS := ⟨[.one (.bool), .one (.dead), .one (.dead)], []⟩
def Himpl_rising : List Sh := [.one .any, .skip, .skip]
def Kimpl_rising (g : ∀ {R : Type}, Nat → (List Int) → Int → (Bool → Option R) → Option R) (n : Nat) : KPs := fun R p k => match (PkS.un Simpl_rising p : Option ((List Int) × Int × Unit)) with
  | some (x0, x1, _) => g n x0 x1 (fun r0 => k (PkS.pack Timpl_rising (r0, ())))
  | none => none
theorem eimpl_rising (impl_in : ∀ {R : Type}, Nat → Int → Int → Int → (Bool → Option R) → Option R) (impl_rising_l2 : ∀ {R : Type}, Nat → (List Int) → Int → (List Int) → Int → Int → (Bool → Option R) → (Option R) → Option R) {R : Type} (n : Nat) (x0 : List Int) (x1 : Int) (k : Pk → Option R) : evF tt sig (mkK [(35, Kimpl_in @impl_in n)] R) (mkL (mkK [(35, Kimpl_in @impl_in n)]) [(2, Dimpl_rising_l2, Pimpl_rising_l2 @impl_rising_l2 n)] R) Tryz.f19 Himpl_rising (PkS.pack Simpl_rising (x0, x1, ())) k = (fun (k : Bool → Option R) => (impl_rising_l2 n x0 x1 x0 (x0.length : Int) 0 (fun r2 => k r2) (k true))) (fun r0 => k (PkS.pack Timpl_rising (r0, ()))) := by kernel_rfl
theorem okimpl_rising (n : Nat) : FnOk Tryz.prog 19 (Kimpl_rising @impl_rising n) := by
  refine fn_ok (sig := sig) mixed ttok (mkK_nat (cimpl_rising n)) (mkK_ok (cimpl_rising n)) (mkL_nat (mkK_nat (cimpl_rising n)) (l := [(2, Dimpl_rising_l2, Pimpl_rising_l2 @impl_rising_l2 n)]) ⟨nlimpl_rising_l2 n, trivial⟩) (fn := Tryz.f19) (c := bodyOf Tryz.f19) (by kernel_rfl) (by kernel_rfl) (by kernel_rfl) (.eq (l := [.lo (loopIn 2 (bodyOf Tryz.f19))]) (by kernel_rfl) ⟨(lkimpl_rising_l2 n _ _ (at_id (i := 2) (by kernel_rfl) rfl)), trivial⟩) (shs := Himpl_rising) (S := Simpl_rising) (h1 := by kernel_rfl) fun R p k => ?_
  unfold Kimpl_rising
  cases h : (PkS.un Simpl_rising p) with
  | none => rfl
  | some d =>
    obtain ⟨x0, x1, u⟩ := (d : (List Int) × Int × Unit)
    have hp := PkS.un_pack h
    subst hp
    exact (eimpl_rising @impl_in @impl_rising_l2 n x0 x1 k).symm

/-! ### loop.example/g00269/impl.GoodCron -/
theorem cimpl_GoodCron (n : Nat) : AllOk Tryz.prog [(13, Kimpl_Cron_fields @impl_Cron_fields n), (15, Kimpl_bounds @impl_bounds n), (19, Kimpl_rising @impl_rising n)] := ⟨okimpl_Cron_fields n, ⟨okimpl_bounds n, ⟨okimpl_rising n, trivial⟩⟩⟩
@[reducible] def Simpl_GoodCron_l2 : PkS := ⟨[.one (.whole (100000, 0)), .one (.int .i64), .one (.int .i64), .one (.dead)], [((100000, 0), .arr (.sl (.int .i64)))]⟩
@[reducible] def Timpl_GoodCron_l2_0 : PkS := ⟨[.one (.bool), .one (.dead)], []⟩
@[reducible] def Timpl_GoodCron_l2_1 : PkS := ⟨[.one (.dead)], []⟩
def Dimpl_GoodCron_l2 : LoopD := ⟨25, [5, 6, 7], [.one (.own (.sl (.int .i64))), .one .any, .one .any, .skip], fun x => match x with
  | .ret => some ([2], [.one .any, .skip])
  | .exit 0 => some ([], [.skip])
  | _ => none⟩
def Pimpl_GoodCron_l2 (g : ∀ {R : Type}, Nat → Int → Int → (List (List Int)) → (Bool → Option R) → (Option R) → Option R) (n : Nat) : LPs := fun R q kk => match (PkS.un Simpl_GoodCron_l2 q : Option (Int × Int × (List (List Int)) × Unit)) with
  | some (y2_0, y2_1, y2_2, _) => g n y2_0 y2_1 y2_2 (fun r0 => kk .ret (PkS.pack Timpl_GoodCron_l2_0 (r0, ()))) (kk (.exit 0) (PkS.pack Timpl_GoodCron_l2_1 ()))
  | none => none
theorem eimpl_GoodCron_l2 (impl_Cron_fields : ∀ {R : Type}, Nat → (List Int) → (List Int) → (List Int) → ((List (List Int)) → (List Int) → (List Int) → (List Int) → Option R) → Option R) (impl_bounds : ∀ {R : Type}, Nat → ((List Int) → Option R) → Option R) (impl_rising : ∀ {R : Type}, Nat → (List Int) → Int → (Bool → Option R) → Option R) (impl_GoodCron_l2 : ∀ {R : Type}, Nat → Int → Int → (List (List Int)) → (Bool → Option R) → (Option R) → Option R) {R : Type} (n : Nat) (y2_0 : Int) (y2_1 : Int) (y2_2 : List (List Int)) (kk : Ex → Pk → Option R) : Dimpl_GoodCron_l2.step tt sig (mkK [(13, Kimpl_Cron_fields @impl_Cron_fields n), (15, Kimpl_bounds @impl_bounds n), (19, Kimpl_rising @impl_rising n)] R) (mkL (mkK [(13, Kimpl_Cron_fields @impl_Cron_fields n), (15, Kimpl_bounds @impl_bounds n), (19, Kimpl_rising @impl_rising n)]) [] R) (loopIn 2 (bodyOf Tryz.f7)) (fun q' => Pimpl_GoodCron_l2 @impl_GoodCron_l2 n R q' kk) (PkS.pack Simpl_GoodCron_l2 (y2_0, y2_1, y2_2, ())) kk = (fun (kret : Bool → Option R) (kexit0 : Option R) => (bif (decide (y2_1 < y2_0)) then (bif decide (0 ≤ y2_1) then (bif decide (y2_1 < (y2_2.length : Int)) then (bif (((y2_2.getD (Int.toNat y2_1) []).length : Int) == 0) then kret false else (impl_bounds n fun r5 => (bif decide (0 ≤ y2_1) then (bif decide (y2_1 < (r5.length : Int)) then (impl_rising n (y2_2.getD (Int.toNat y2_1) []) (r5.getD (Int.toNat y2_1) 0) fun r6 => (bif (!r6) then kret false else impl_GoodCron_l2 n y2_0 (IntKind.wrap .i64 (y2_1 + 1)) y2_2 kret kexit0)) else none) else none))) else none) else none) else kexit0)) (fun r0 => kk .ret (PkS.pack Timpl_GoodCron_l2_0 (r0, ()))) (kk (.exit 0) (PkS.pack Timpl_GoodCron_l2_1 ())) := by kernel_rfl
theorem leimpl_GoodCron_l2 : LoopEq tt sig (fun n => mkK [(13, Kimpl_Cron_fields @impl_Cron_fields n), (15, Kimpl_bounds @impl_bounds n), (19, Kimpl_rising @impl_rising n)]) (fun n => mkL (mkK [(13, Kimpl_Cron_fields @impl_Cron_fields n), (15, Kimpl_bounds @impl_bounds n), (19, Kimpl_rising @impl_rising n)]) []) Dimpl_GoodCron_l2 Simpl_GoodCron_l2 (loopIn 2 (bodyOf Tryz.f7)) (Pimpl_GoodCron_l2 @impl_GoodCron_l2) where
  zero R q kk := by unfold Pimpl_GoodCron_l2; cases (PkS.un Simpl_GoodCron_l2 q) <;> rfl
  succ n R q kk := by
    unfold Pimpl_GoodCron_l2
    cases h : (PkS.un Simpl_GoodCron_l2 q) with
    | none => rfl
    | some d =>
      obtain ⟨y2_0, y2_1, y2_2, u⟩ := (d : Int × Int × (List (List Int)) × Unit)
      have hp := PkS.un_pack h
      subst hp
      exact (eimpl_GoodCron_l2 @impl_Cron_fields @impl_bounds @impl_rising @impl_GoodCron_l2 n y2_0 y2_1 y2_2 kk).symm
theorem nlimpl_GoodCron_l2 : ∀ n, NatLP (Pimpl_GoodCron_l2 @impl_GoodCron_l2 n) := leimpl_GoodCron_l2.nat (fun n => mkK_nat (cimpl_GoodCron n)) fun n => mkL_nat (mkK_nat (cimpl_GoodCron n)) (l := []) trivial
theorem inimpl_GoodCron_l2 (n : Nat) (R : Type) : LoopsOk Tryz.prog (mkL (mkK [(13, Kimpl_Cron_fields @impl_Cron_fields n), (15, Kimpl_bounds @impl_bounds n), (19, Kimpl_rising @impl_rising n)]) [] R) (loopIn 2 (bodyOf Tryz.f7)) := .eq (l := []) (by kernel_rfl) trivial
theorem lkimpl_GoodCron_l2 (n : Nat) (R : Type) (L0 : LK R) (h0 : ∀ id, firstRegion (loopIn 2 (bodyOf Tryz.f7)) = some id → L0 id = Dimpl_GoodCron_l2.oracle (mkK [(13, Kimpl_Cron_fields @impl_Cron_fields n), (15, Kimpl_bounds @impl_bounds n), (19, Kimpl_rising @impl_rising n)] R) (Pimpl_GoodCron_l2 @impl_GoodCron_l2 n R)) : LoopOk Tryz.prog L0 (loopIn 2 (bodyOf Tryz.f7)) :=
  leimpl_GoodCron_l2.ok mixed ttok (fun n => mkK_nat (cimpl_GoodCron n)) (fun n => mkK_ok (cimpl_GoodCron n)) (fun n => inimpl_GoodCron_l2 n R) (mkK_nat (cimpl_GoodCron n)) h0
@[reducible] def Simpl_GoodCron : PkS := ⟨[.agg [.ro (.int .i64), .ro (.int .i64), .ro (.int .i64)]], []⟩
@[reducible] def Timpl_GoodCron : PkS := ⟨[.one (.bool), .one (.dead)], []⟩
def Himpl_GoodCron : List Sh := [.one .any, .skip]
def Kimpl_GoodCron (g : ∀ {R : Type}, Nat → (List Int) → (List Int) → (List Int) → (Bool → Option R) → Option R) (n : Nat) : KPs := fun R p k => match (PkS.un Simpl_GoodCron p : Option ((List Int) × (List Int) × (List Int) × Unit)) with
  | some (x0, x1, x2, _) => g n x0 x1 x2 (fun r0 => k (PkS.pack Timpl_GoodCron (r0, ())))
  | none => none
theorem eimpl_GoodCron (impl_Cron_fields : ∀ {R : Type}, Nat → (List Int) → (List Int) → (List Int) → ((List (List Int)) → (List Int) → (List Int) → (List Int) → Option R) → Option R) (impl_bounds : ∀ {R : Type}, Nat → ((List Int) → Option R) → Option R) (impl_rising : ∀ {R : Type}, Nat → (List Int) → Int → (Bool → Option R) → Option R) (impl_GoodCron_l2 : ∀ {R : Type}, Nat → Int → Int → (List (List Int)) → (Bool → Option R) → (Option R) → Option R) {R : Type} (n : Nat) (x0 : List Int) (x1 : List Int) (x2 : List Int) (k : Pk → Option R) : evF tt sig (mkK [(13, Kimpl_Cron_fields @impl_Cron_fields n), (15, Kimpl_bounds @impl_bounds n), (19, Kimpl_rising @impl_rising n)] R) (mkL (mkK [(13, Kimpl_Cron_fields @impl_Cron_fields n), (15, Kimpl_bounds @impl_bounds n), (19, Kimpl_rising @impl_rising n)]) [(2, Dimpl_GoodCron_l2, Pimpl_GoodCron_l2 @impl_GoodCron_l2 n)] R) Tryz.f7 Himpl_GoodCron (PkS.pack Simpl_GoodCron (x0, x1, x2, ())) k = (fun (k : Bool → Option R) => (impl_Cron_fields n x0 x1 x2 fun r1 r2 r3 r4 => (impl_GoodCron_l2 n (r1.length : Int) 0 r1 (fun r7 => k r7) (k true)))) (fun r0 => k (PkS.pack Timpl_GoodCron (r0, ()))) := by kernel_rfl
theorem okimpl_GoodCron (n : Nat) : FnOk Tryz.prog 7 (Kimpl_GoodCron @impl_GoodCron n) := by
  refine fn_ok (sig := sig) mixed ttok (mkK_nat (cimpl_GoodCron n)) (mkK_ok (cimpl_GoodCron n)) (mkL_nat (mkK_nat (cimpl_GoodCron n)) (l := [(2, Dimpl_GoodCron_l2, Pimpl_GoodCron_l2 @impl_GoodCron_l2 n)]) ⟨nlimpl_GoodCron_l2 n, trivial⟩) (fn := Tryz.f7) (c := bodyOf Tryz.f7) (by kernel_rfl) (by kernel_rfl) (by kernel_rfl) (.eq (l := [.lo (loopIn 2 (bodyOf Tryz.f7))]) (by kernel_rfl) ⟨(lkimpl_GoodCron_l2 n _ _ (at_id (i := 2) (by kernel_rfl) rfl)), trivial⟩) (shs := Himpl_GoodCron) (S := Simpl_GoodCron) (h1 := by kernel_rfl) fun R p k => ?_
  unfold Kimpl_GoodCron
  cases h : (PkS.un Simpl_GoodCron p) with
  | none => rfl
  | some d =>
    obtain ⟨x0, x1, x2, u⟩ := (d : (List Int) × (List Int) × (List Int) × Unit)
    have hp := PkS.un_pack h
    subst hp
    exact (eimpl_GoodCron @impl_Cron_fields @impl_bounds @impl_rising @impl_GoodCron_l2 n x0 x1 x2 k).symm

/-! ### strconv.Itoa -/
theorem cstrconv_Itoa (n : Nat) : AllOk Tryz.prog [] := trivial
@[reducible] def Sstrconv_Itoa : PkS := ⟨[.one (.int .i64)], []⟩
@[reducible] def Tstrconv_Itoa : PkS := ⟨[.one (.str), .one (.dead)], []⟩
def Kstrconv_Itoa (g : ∀ {R : Type}, Nat → Int → (ByteArray → Option R) → Option R) (n : Nat) : KPs := fun R p k => match (PkS.un Sstrconv_Itoa p : Option (Int × Unit)) with
  | some (x0, _) => g n x0 (fun r0 => k (PkS.pack Tstrconv_Itoa (r0, ())))
  | none => none
theorem okstrconv_Itoa (n : Nat) : FnOk Tryz.prog 14 (Kstrconv_Itoa @strconv_Itoa n) := by
  have e : Kstrconv_Itoa @strconv_Itoa n = itoaK := by kernel_rfl
  rw [e]
  exact itoa_ok laysItoa (g := 0) (by simp [glob]) named0 rfl (fn := Tryz.f14) (c := bodyOf Tryz.f14) (by kernel_rfl) (by kernel_rfl) (by kernel_rfl)

/-! ### strings.Join -/
theorem cstrings_Join (n : Nat) : AllOk Tryz.prog [] := trivial
@[reducible] def Sstrings_Join : PkS := ⟨[.one (.ro .str), .one (.str)], []⟩
@[reducible] def Tstrings_Join : PkS := ⟨[.one (.str), .one (.dead), .one (.dead)], []⟩
def Kstrings_Join (g : ∀ {R : Type}, Nat → (List ByteArray) → ByteArray → (ByteArray → Option R) → Option R) (n : Nat) : KPs := fun R p k => match (PkS.un Sstrings_Join p : Option ((List ByteArray) × ByteArray × Unit)) with
  | some (x0, x1, _) => g n x0 x1 (fun r0 => k (PkS.pack Tstrings_Join (r0, ())))
  | none => none
theorem okstrings_Join (n : Nat) : FnOk Tryz.prog 16 (Kstrings_Join @strings_Join n) := by
  have e : Kstrings_Join @strings_Join n = joinK := by kernel_rfl
  rw [e]
  exact join_ok laysJoin extraJoin rfl (fn := Tryz.f16) (c := bodyOf Tryz.f16) (by kernel_rfl) (by kernel_rfl) (by kernel_rfl)

/-! ### loop.example/g00269/impl.CronText -/
theorem cimpl_CronText (n : Nat) : AllOk Tryz.prog [(7, Kimpl_GoodCron @impl_GoodCron n), (13, Kimpl_Cron_fields @impl_Cron_fields n), (14, Kstrconv_Itoa @strconv_Itoa n), (15, Kimpl_bounds @impl_bounds n), (16, Kstrings_Join @strings_Join n)] := ⟨okimpl_GoodCron n, ⟨okimpl_Cron_fields n, ⟨okstrconv_Itoa n, ⟨okimpl_bounds n, ⟨okstrings_Join n, trivial⟩⟩⟩⟩⟩
@[reducible] def Simpl_CronText_l9 : PkS := ⟨[.one (.whole (100000, 0)), .one (.int .i64), .one (.ro (.int .i64)), .one (.whole (100000, 1)), .one (.whole (100000, 2)), .one (.int .i64), .one (.int .i64), .one (.ro (.int .i64)), .one (.int .i64), .one (.int .i64), .one (.dead)], [((100000, 0), .arr .str), ((100000, 1), .arr .str), ((100000, 2), .arr (.sl (.int .i64)))]⟩
@[reducible] def Timpl_CronText_l9_0 : PkS := ⟨[.one (.whole (100000, 0)), .one (.int .i64), .one (.ro (.int .i64)), .one (.whole (100000, 1)), .one (.whole (100000, 2)), .one (.int .i64), .one (.int .i64), .one (.dead)], [((100000, 0), .arr .str), ((100000, 1), .arr .str), ((100000, 2), .arr (.sl (.int .i64)))]⟩
def Dimpl_CronText_l9 : LoopD := ⟨50, [4, 5, 6, 7, 14, 15, 16, 22, 23, 24], [.one (.own .str), .one .any, .one (.ro (.int .i64)), .one (.own .str), .one (.own (.sl (.int .i64))), .one .any, .one .any, .one (.ro (.int .i64)), .one .any, .one .any, .skip], fun x => match x with
  | .exit 2 => some ([4, 5, 6, 7, 14, 15, 16], [.one (.own .str), .one .any, .one (.ro (.int .i64)), .one (.own .str), .one (.own (.sl (.int .i64))), .one .any, .one .any, .skip])
  | _ => none⟩
def Pimpl_CronText_l9 (g : ∀ {R : Type}, Nat → Int → (List Int) → Int → Int → (List Int) → Int → Int → (List ByteArray) → (List ByteArray) → (List (List Int)) → (Int → (List Int) → Int → Int → (List ByteArray) → (List ByteArray) → (List (List Int)) → Option R) → Option R) (n : Nat) : LPs := fun R q kk => match (PkS.un Simpl_CronText_l9 q : Option (Int × (List Int) × Int × Int × (List Int) × Int × Int × (List ByteArray) × (List ByteArray) × (List (List Int)) × Unit)) with
  | some (y9_0, y9_1, y9_2, y9_3, y9_4, y9_5, y9_6, y9_7, y9_8, y9_9, _) => g n y9_0 y9_1 y9_2 y9_3 y9_4 y9_5 y9_6 y9_7 y9_8 y9_9 (fun r0 r1 r2 r3 r4 r5 r6 => kk (.exit 2) (PkS.pack Timpl_CronText_l9_0 (r0, r1, r2, r3, r4, r5, r6, ())))
  | none => none
theorem eimpl_CronText_l9 (impl_GoodCron : ∀ {R : Type}, Nat → (List Int) → (List Int) → (List Int) → (Bool → Option R) → Option R) (impl_Cron_fields : ∀ {R : Type}, Nat → (List Int) → (List Int) → (List Int) → ((List (List Int)) → (List Int) → (List Int) → (List Int) → Option R) → Option R) (strconv_Itoa : ∀ {R : Type}, Nat → Int → (ByteArray → Option R) → Option R) (impl_bounds : ∀ {R : Type}, Nat → ((List Int) → Option R) → Option R) (strings_Join : ∀ {R : Type}, Nat → (List ByteArray) → ByteArray → (ByteArray → Option R) → Option R) (impl_CronText_l9 : ∀ {R : Type}, Nat → Int → (List Int) → Int → Int → (List Int) → Int → Int → (List ByteArray) → (List ByteArray) → (List (List Int)) → (Int → (List Int) → Int → Int → (List ByteArray) → (List ByteArray) → (List (List Int)) → Option R) → Option R) {R : Type} (n : Nat) (y9_0 : Int) (y9_1 : List Int) (y9_2 : Int) (y9_3 : Int) (y9_4 : List Int) (y9_5 : Int) (y9_6 : Int) (y9_7 : List ByteArray) (y9_8 : List ByteArray) (y9_9 : List (List Int)) (kk : Ex → Pk → Option R) : Dimpl_CronText_l9.step tt sig (mkK [(7, Kimpl_GoodCron @impl_GoodCron n), (13, Kimpl_Cron_fields @impl_Cron_fields n), (14, Kstrconv_Itoa @strconv_Itoa n), (15, Kimpl_bounds @impl_bounds n), (16, Kstrings_Join @strings_Join n)] R) (mkL (mkK [(7, Kimpl_GoodCron @impl_GoodCron n), (13, Kimpl_Cron_fields @impl_Cron_fields n), (14, Kstrconv_Itoa @strconv_Itoa n), (15, Kimpl_bounds @impl_bounds n), (16, Kstrings_Join @strings_Join n)]) [] R) (loopIn 9 (bodyOf Tryz.f5)) (fun q' => Pimpl_CronText_l9 @impl_CronText_l9 n R q' kk) (PkS.pack Simpl_CronText_l9 (y9_0, y9_1, y9_2, y9_3, y9_4, y9_5, y9_6, y9_7, y9_8, y9_9, ())) kk = (fun (kexit2 : Int → (List Int) → Int → Int → (List ByteArray) → (List ByteArray) → (List (List Int)) → Option R) => (bif (decide (y9_6 < y9_5)) then (bif decide (0 ≤ y9_6) then (bif decide (y9_6 < (y9_4.length : Int)) then (strconv_Itoa n (y9_4.getD (Int.toNat y9_6) 0) fun r6 => (bif decide (y9_8.length + [r6].length ≤ LIM) then impl_CronText_l9 n y9_0 y9_1 y9_2 y9_3 y9_4 y9_5 (IntKind.wrap .i64 (y9_6 + 1)) y9_7 (y9_8 ++ [r6]) y9_9 kexit2 else none)) else none) else none) else kexit2 y9_0 y9_1 y9_2 y9_3 y9_7 y9_8 y9_9)) (fun r0 r1 r2 r3 r4 r5 r6 => kk (.exit 2) (PkS.pack Timpl_CronText_l9_0 (r0, r1, r2, r3, r4, r5, r6, ()))) := by kernel_rfl
theorem leimpl_CronText_l9 : LoopEq tt sig (fun n => mkK [(7, Kimpl_GoodCron @impl_GoodCron n), (13, Kimpl_Cron_fields @impl_Cron_fields n), (14, Kstrconv_Itoa @strconv_Itoa n), (15, Kimpl_bounds @impl_bounds n), (16, Kstrings_Join @strings_Join n)]) (fun n => mkL (mkK [(7, Kimpl_GoodCron @impl_GoodCron n), (13, Kimpl_Cron_fields @impl_Cron_fields n), (14, Kstrconv_Itoa @strconv_Itoa n), (15, Kimpl_bounds @impl_bounds n), (16, Kstrings_Join @strings_Join n)]) []) Dimpl_CronText_l9 Simpl_CronText_l9 (loopIn 9 (bodyOf Tryz.f5)) (Pimpl_CronText_l9 @impl_CronText_l9) where
  zero R q kk := by unfold Pimpl_CronText_l9; cases (PkS.un Simpl_CronText_l9 q) <;> rfl
  succ n R q kk := by
    unfold Pimpl_CronText_l9
    cases h : (PkS.un Simpl_CronText_l9 q) with
    | none => rfl
    | some d =>
      obtain ⟨y9_0, y9_1, y9_2, y9_3, y9_4, y9_5, y9_6, y9_7, y9_8, y9_9, u⟩ := (d : Int × (List Int) × Int × Int × (List Int) × Int × Int × (List ByteArray) × (List ByteArray) × (List (List Int)) × Unit)
      have hp := PkS.un_pack h
      subst hp
      exact (eimpl_CronText_l9 @impl_GoodCron @impl_Cron_fields @strconv_Itoa @impl_bounds @strings_Join @impl_CronText_l9 n y9_0 y9_1 y9_2 y9_3 y9_4 y9_5 y9_6 y9_7 y9_8 y9_9 kk).symm
theorem nlimpl_CronText_l9 : ∀ n, NatLP (Pimpl_CronText_l9 @impl_CronText_l9 n) := leimpl_CronText_l9.nat (fun n => mkK_nat (cimpl_CronText n)) fun n => mkL_nat (mkK_nat (cimpl_CronText n)) (l := []) trivial
theorem inimpl_CronText_l9 (n : Nat) (R : Type) : LoopsOk Tryz.prog (mkL (mkK [(7, Kimpl_GoodCron @impl_GoodCron n), (13, Kimpl_Cron_fields @impl_Cron_fields n), (14, Kstrconv_Itoa @strconv_Itoa n), (15, Kimpl_bounds @impl_bounds n), (16, Kstrings_Join @strings_Join n)]) [] R) (loopIn 9 (bodyOf Tryz.f5)) := .eq (l := []) (by kernel_rfl) trivial
theorem lkimpl_CronText_l9 (n : Nat) (R : Type) (L0 : LK R) (h0 : ∀ id, firstRegion (loopIn 9 (bodyOf Tryz.f5)) = some id → L0 id = Dimpl_CronText_l9.oracle (mkK [(7, Kimpl_GoodCron @impl_GoodCron n), (13, Kimpl_Cron_fields @impl_Cron_fields n), (14, Kstrconv_Itoa @strconv_Itoa n), (15, Kimpl_bounds @impl_bounds n), (16, Kstrings_Join @strings_Join n)] R) (Pimpl_CronText_l9 @impl_CronText_l9 n R)) : LoopOk Tryz.prog L0 (loopIn 9 (bodyOf Tryz.f5)) :=
  leimpl_CronText_l9.ok mixed ttok (fun n => mkK_nat (cimpl_CronText n)) (fun n => mkK_ok (cimpl_CronText n)) (fun n => inimpl_CronText_l9 n R) (mkK_nat (cimpl_CronText n)) h0
@[reducible] def Simpl_CronText_l5 : PkS := ⟨[.one (.whole (100000, 0)), .one (.whole (100000, 1)), .one (.int .i64), .one (.int .i64), .one (.dead)], [((100000, 0), .arr .str), ((100000, 1), .arr (.sl (.int .i64)))]⟩
@[reducible] def Timpl_CronText_l5_0 : PkS := ⟨[.one (.whole (100000, 0)), .one (.dead)], [((100000, 0), .arr .str)]⟩
def Dimpl_CronText_l5 : LoopD := ⟨50, [4, 14, 15, 16], [.one (.own .str), .one (.own (.sl (.int .i64))), .one .any, .one .any, .skip], fun x => match x with
  | .exit 0 => some ([4], [.one (.own .str), .skip])
  | _ => none⟩
def Pimpl_CronText_l5 (g : ∀ {R : Type}, Nat → Int → Int → (List ByteArray) → (List (List Int)) → ((List ByteArray) → Option R) → Option R) (n : Nat) : LPs := fun R q kk => match (PkS.un Simpl_CronText_l5 q : Option (Int × Int × (List ByteArray) × (List (List Int)) × Unit)) with
  | some (y5_0, y5_1, y5_2, y5_3, _) => g n y5_0 y5_1 y5_2 y5_3 (fun r0 => kk (.exit 0) (PkS.pack Timpl_CronText_l5_0 (r0, ())))
  | none => none
theorem eimpl_CronText_l5 (impl_GoodCron : ∀ {R : Type}, Nat → (List Int) → (List Int) → (List Int) → (Bool → Option R) → Option R) (impl_Cron_fields : ∀ {R : Type}, Nat → (List Int) → (List Int) → (List Int) → ((List (List Int)) → (List Int) → (List Int) → (List Int) → Option R) → Option R) (strconv_Itoa : ∀ {R : Type}, Nat → Int → (ByteArray → Option R) → Option R) (impl_bounds : ∀ {R : Type}, Nat → ((List Int) → Option R) → Option R) (strings_Join : ∀ {R : Type}, Nat → (List ByteArray) → ByteArray → (ByteArray → Option R) → Option R) (impl_CronText_l9 : ∀ {R : Type}, Nat → Int → (List Int) → Int → Int → (List Int) → Int → Int → (List ByteArray) → (List ByteArray) → (List (List Int)) → (Int → (List Int) → Int → Int → (List ByteArray) → (List ByteArray) → (List (List Int)) → Option R) → Option R) (impl_CronText_l5 : ∀ {R : Type}, Nat → Int → Int → (List ByteArray) → (List (List Int)) → ((List ByteArray) → Option R) → Option R) {R : Type} (n : Nat) (y5_0 : Int) (y5_1 : Int) (y5_2 : List ByteArray) (y5_3 : List (List Int)) (kk : Ex → Pk → Option R) : Dimpl_CronText_l5.step tt sig (mkK [(7, Kimpl_GoodCron @impl_GoodCron n), (13, Kimpl_Cron_fields @impl_Cron_fields n), (14, Kstrconv_Itoa @strconv_Itoa n), (15, Kimpl_bounds @impl_bounds n), (16, Kstrings_Join @strings_Join n)] R) (mkL (mkK [(7, Kimpl_GoodCron @impl_GoodCron n), (13, Kimpl_Cron_fields @impl_Cron_fields n), (14, Kstrconv_Itoa @strconv_Itoa n), (15, Kimpl_bounds @impl_bounds n), (16, Kstrings_Join @strings_Join n)]) [(9, Dimpl_CronText_l9, Pimpl_CronText_l9 @impl_CronText_l9 n)] R) (loopIn 5 (bodyOf Tryz.f5)) (fun q' => Pimpl_CronText_l5 @impl_CronText_l5 n R q' kk) (PkS.pack Simpl_CronText_l5 (y5_0, y5_1, y5_2, y5_3, ())) kk = (fun (kexit0 : (List ByteArray) → Option R) => (bif (decide (y5_1 < y5_0)) then (bif decide (0 ≤ y5_1) then (bif decide (y5_1 < (y5_3.length : Int)) then (impl_CronText_l9 n y5_1 (y5_3.getD (Int.toNat y5_1) []) y5_0 y5_1 (y5_3.getD (Int.toNat y5_1) []) ((y5_3.getD (Int.toNat y5_1) []).length : Int) 0 y5_2 ([] : List ByteArray) y5_3 (fun r7 r8 r9 r10 r11 r12 r13 => (impl_bounds n fun r14 => (bif decide (0 ≤ r7) then (bif decide (r7 < (r14.length : Int)) then (bif ((r8.length : Int) == (r14.getD (Int.toNat r7) 0)) then (strings_Join n ([(ByteArray.mk #[42])]) (ByteArray.mk #[44]) fun r15 => (bif decide (r11.length + [r15].length ≤ LIM) then impl_CronText_l5 n r9 (IntKind.wrap .i64 (r10 + 1)) (r11 ++ [r15]) r13 kexit0 else none)) else (strings_Join n r12 (ByteArray.mk #[44]) fun r16 => (bif decide (r11.length + [r16].length ≤ LIM) then impl_CronText_l5 n r9 (IntKind.wrap .i64 (r10 + 1)) (r11 ++ [r16]) r13 kexit0 else none))) else none) else none)))) else none) else none) else kexit0 y5_2)) (fun r0 => kk (.exit 0) (PkS.pack Timpl_CronText_l5_0 (r0, ()))) := by kernel_rfl
theorem leimpl_CronText_l5 : LoopEq tt sig (fun n => mkK [(7, Kimpl_GoodCron @impl_GoodCron n), (13, Kimpl_Cron_fields @impl_Cron_fields n), (14, Kstrconv_Itoa @strconv_Itoa n), (15, Kimpl_bounds @impl_bounds n), (16, Kstrings_Join @strings_Join n)]) (fun n => mkL (mkK [(7, Kimpl_GoodCron @impl_GoodCron n), (13, Kimpl_Cron_fields @impl_Cron_fields n), (14, Kstrconv_Itoa @strconv_Itoa n), (15, Kimpl_bounds @impl_bounds n), (16, Kstrings_Join @strings_Join n)]) [(9, Dimpl_CronText_l9, Pimpl_CronText_l9 @impl_CronText_l9 n)]) Dimpl_CronText_l5 Simpl_CronText_l5 (loopIn 5 (bodyOf Tryz.f5)) (Pimpl_CronText_l5 @impl_CronText_l5) where
  zero R q kk := by unfold Pimpl_CronText_l5; cases (PkS.un Simpl_CronText_l5 q) <;> rfl
  succ n R q kk := by
    unfold Pimpl_CronText_l5
    cases h : (PkS.un Simpl_CronText_l5 q) with
    | none => rfl
    | some d =>
      obtain ⟨y5_0, y5_1, y5_2, y5_3, u⟩ := (d : Int × Int × (List ByteArray) × (List (List Int)) × Unit)
      have hp := PkS.un_pack h
      subst hp
      exact (eimpl_CronText_l5 @impl_GoodCron @impl_Cron_fields @strconv_Itoa @impl_bounds @strings_Join @impl_CronText_l9 @impl_CronText_l5 n y5_0 y5_1 y5_2 y5_3 kk).symm
theorem nlimpl_CronText_l5 : ∀ n, NatLP (Pimpl_CronText_l5 @impl_CronText_l5 n) := leimpl_CronText_l5.nat (fun n => mkK_nat (cimpl_CronText n)) fun n => mkL_nat (mkK_nat (cimpl_CronText n)) (l := [(9, Dimpl_CronText_l9, Pimpl_CronText_l9 @impl_CronText_l9 n)]) ⟨nlimpl_CronText_l9 n, trivial⟩
theorem inimpl_CronText_l5 (n : Nat) (R : Type) : LoopsOk Tryz.prog (mkL (mkK [(7, Kimpl_GoodCron @impl_GoodCron n), (13, Kimpl_Cron_fields @impl_Cron_fields n), (14, Kstrconv_Itoa @strconv_Itoa n), (15, Kimpl_bounds @impl_bounds n), (16, Kstrings_Join @strings_Join n)]) [(9, Dimpl_CronText_l9, Pimpl_CronText_l9 @impl_CronText_l9 n)] R) (loopIn 5 (bodyOf Tryz.f5)) := .eq (l := [.lo (loopIn 9 (bodyOf Tryz.f5))]) (by kernel_rfl) ⟨(lkimpl_CronText_l9 n R _ (at_id (i := 9) (by kernel_rfl) rfl)), trivial⟩
theorem lkimpl_CronText_l5 (n : Nat) (R : Type) (L0 : LK R) (h0 : ∀ id, firstRegion (loopIn 5 (bodyOf Tryz.f5)) = some id → L0 id = Dimpl_CronText_l5.oracle (mkK [(7, Kimpl_GoodCron @impl_GoodCron n), (13, Kimpl_Cron_fields @impl_Cron_fields n), (14, Kstrconv_Itoa @strconv_Itoa n), (15, Kimpl_bounds @impl_bounds n), (16, Kstrings_Join @strings_Join n)] R) (Pimpl_CronText_l5 @impl_CronText_l5 n R)) : LoopOk Tryz.prog L0 (loopIn 5 (bodyOf Tryz.f5)) :=
  leimpl_CronText_l5.ok mixed ttok (fun n => mkK_nat (cimpl_CronText n)) (fun n => mkK_ok (cimpl_CronText n)) (fun n => inimpl_CronText_l5 n R) (mkK_nat (cimpl_CronText n)) h0
@[reducible] def Simpl_CronText : PkS := ⟨[.agg [.ro (.int .i64), .ro (.int .i64), .ro (.int .i64)]], []⟩
@[reducible] def Timpl_CronText : PkS := ⟨[.tup [(false, [.str]), (false, [.bool])], .one (.dead)], []⟩
def Himpl_CronText : List Sh := [.tup [(false, [.any]), (false, [.any])], .skip]
def Kimpl_CronText (g : ∀ {R : Type}, Nat → (List Int) → (List Int) → (List Int) → (ByteArray → Bool → Option R) → Option R) (n : Nat) : KPs := fun R p k => match (PkS.un Simpl_CronText p : Option ((List Int) × (List Int) × (List Int) × Unit)) with
  | some (x0, x1, x2, _) => g n x0 x1 x2 (fun r0 r1 => k (PkS.pack Timpl_CronText (r0, r1, ())))
  | none => none
theorem eimpl_CronText (impl_GoodCron : ∀ {R : Type}, Nat → (List Int) → (List Int) → (List Int) → (Bool → Option R) → Option R) (impl_Cron_fields : ∀ {R : Type}, Nat → (List Int) → (List Int) → (List Int) → ((List (List Int)) → (List Int) → (List Int) → (List Int) → Option R) → Option R) (strconv_Itoa : ∀ {R : Type}, Nat → Int → (ByteArray → Option R) → Option R) (impl_bounds : ∀ {R : Type}, Nat → ((List Int) → Option R) → Option R) (strings_Join : ∀ {R : Type}, Nat → (List ByteArray) → ByteArray → (ByteArray → Option R) → Option R) (impl_CronText_l9 : ∀ {R : Type}, Nat → Int → (List Int) → Int → Int → (List Int) → Int → Int → (List ByteArray) → (List ByteArray) → (List (List Int)) → (Int → (List Int) → Int → Int → (List ByteArray) → (List ByteArray) → (List (List Int)) → Option R) → Option R) (impl_CronText_l5 : ∀ {R : Type}, Nat → Int → Int → (List ByteArray) → (List (List Int)) → ((List ByteArray) → Option R) → Option R) {R : Type} (n : Nat) (x0 : List Int) (x1 : List Int) (x2 : List Int) (k : Pk → Option R) : evF tt sig (mkK [(7, Kimpl_GoodCron @impl_GoodCron n), (13, Kimpl_Cron_fields @impl_Cron_fields n), (14, Kstrconv_Itoa @strconv_Itoa n), (15, Kimpl_bounds @impl_bounds n), (16, Kstrings_Join @strings_Join n)] R) (mkL (mkK [(7, Kimpl_GoodCron @impl_GoodCron n), (13, Kimpl_Cron_fields @impl_Cron_fields n), (14, Kstrconv_Itoa @strconv_Itoa n), (15, Kimpl_bounds @impl_bounds n), (16, Kstrings_Join @strings_Join n)]) [(9, Dimpl_CronText_l9, Pimpl_CronText_l9 @impl_CronText_l9 n), (5, Dimpl_CronText_l5, Pimpl_CronText_l5 @impl_CronText_l5 n)] R) Tryz.f5 Himpl_CronText (PkS.pack Simpl_CronText (x0, x1, x2, ())) k = (fun (k : ByteArray → Bool → Option R) => (impl_GoodCron n x0 x1 x2 fun r1 => (bif (!r1) then k (ByteArray.mk #[]) false else (impl_Cron_fields n x0 x1 x2 fun r2 r3 r4 r5 => (impl_CronText_l5 n (r2.length : Int) 0 ([] : List ByteArray) r2 (fun r17 => (strings_Join n r17 (ByteArray.mk #[32]) fun r18 => k r18 true))))))) (fun r0 r1 => k (PkS.pack Timpl_CronText (r0, r1, ()))) := by kernel_rfl
theorem okimpl_CronText (n : Nat) : FnOk Tryz.prog 5 (Kimpl_CronText @impl_CronText n) := by
  refine fn_ok (sig := sig) mixed ttok (mkK_nat (cimpl_CronText n)) (mkK_ok (cimpl_CronText n)) (mkL_nat (mkK_nat (cimpl_CronText n)) (l := [(9, Dimpl_CronText_l9, Pimpl_CronText_l9 @impl_CronText_l9 n), (5, Dimpl_CronText_l5, Pimpl_CronText_l5 @impl_CronText_l5 n)]) ⟨nlimpl_CronText_l9 n, ⟨nlimpl_CronText_l5 n, trivial⟩⟩) (fn := Tryz.f5) (c := bodyOf Tryz.f5) (by kernel_rfl) (by kernel_rfl) (by kernel_rfl) (.eq (l := [.lo (loopIn 5 (bodyOf Tryz.f5))]) (by kernel_rfl) ⟨(lkimpl_CronText_l5 n _ _ (at_id (i := 5) (by kernel_rfl) rfl)), trivial⟩) (shs := Himpl_CronText) (S := Simpl_CronText) (h1 := by kernel_rfl) fun R p k => ?_
  unfold Kimpl_CronText
  cases h : (PkS.un Simpl_CronText p) with
  | none => rfl
  | some d =>
    obtain ⟨x0, x1, x2, u⟩ := (d : (List Int) × (List Int) × (List Int) × Unit)
    have hp := PkS.un_pack h
    subst hp
    exact (eimpl_CronText @impl_GoodCron @impl_Cron_fields @strconv_Itoa @impl_bounds @strings_Join @impl_CronText_l9 @impl_CronText_l5 n x0 x1 x2 k).symm

/-! ### loop.example/g00269/spec.l6List -/
theorem cspec_l6List (n : Nat) : AllOk Tryz.prog [(45, Kspec_l1In @spec_l1In n)] := ⟨okspec_l1In n, trivial⟩
@[reducible] def Sspec_l6List_l2 : PkS := ⟨[.one (.ro (.int .i64)), .one (.int .i64), .one (.ro (.int .i64)), .one (.int .i64), .one (.int .i64), .one (.dead), .one (.dead)], []⟩
@[reducible] def Tspec_l6List_l2_0 : PkS := ⟨[.one (.bool), .one (.dead), .one (.dead)], []⟩
@[reducible] def Tspec_l6List_l2_1 : PkS := ⟨[.one (.ro (.int .i64)), .one (.dead), .one (.dead)], []⟩
def Dspec_l6List_l2 : LoopD := ⟨35, [0, 1, 7, 8, 9], [.one (.ro (.int .i64)), .one .any, .one (.ro (.int .i64)), .one .any, .one .any, .skip, .skip], fun x => match x with
  | .ret => some ([4], [.one .any, .skip, .skip])
  | .exit 0 => some ([0], [.one (.ro (.int .i64)), .skip, .skip])
  | _ => none⟩
def Pspec_l6List_l2 (g : ∀ {R : Type}, Nat → (List Int) → Int → (List Int) → Int → Int → (Bool → Option R) → ((List Int) → Option R) → Option R) (n : Nat) : LPs := fun R q kk => match (PkS.un Sspec_l6List_l2 q : Option ((List Int) × Int × (List Int) × Int × Int × Unit)) with
  | some (y2_0, y2_1, y2_2, y2_3, y2_4, _) => g n y2_0 y2_1 y2_2 y2_3 y2_4 (fun r0 => kk .ret (PkS.pack Tspec_l6List_l2_0 (r0, ()))) (fun r0 => kk (.exit 0) (PkS.pack Tspec_l6List_l2_1 (r0, ())))
  | none => none
theorem espec_l6List_l2 (spec_l1In : ∀ {R : Type}, Nat → Int → Int → Int → (Bool → Option R) → Option R) (spec_l6List_l2 : ∀ {R : Type}, Nat → (List Int) → Int → (List Int) → Int → Int → (Bool → Option R) → ((List Int) → Option R) → Option R) {R : Type} (n : Nat) (y2_0 : List Int) (y2_1 : Int) (y2_2 : List Int) (y2_3 : Int) (y2_4 : Int) (kk : Ex → Pk → Option R) : Dspec_l6List_l2.step tt sig (mkK [(45, Kspec_l1In @spec_l1In n)] R) (mkL (mkK [(45, Kspec_l1In @spec_l1In n)]) [] R) (loopIn 2 (bodyOf Tryz.f33)) (fun q' => Pspec_l6List_l2 @spec_l6List_l2 n R q' kk) (PkS.pack Sspec_l6List_l2 (y2_0, y2_1, y2_2, y2_3, y2_4, ())) kk = (fun (kret : Bool → Option R) (kexit0 : (List Int) → Option R) => (bif (decide (y2_4 < y2_3)) then (bif decide (0 ≤ y2_4) then (bif decide (y2_4 < (y2_2.length : Int)) then (spec_l1In n (y2_2.getD (Int.toNat y2_4) 0) 0 y2_1 fun r1 => (bif (!r1) then kret false else (bif (decide (y2_4 > 0)) then (bif decide (0 ≤ (IntKind.wrap .i64 (y2_4 - 1))) then (bif decide ((IntKind.wrap .i64 (y2_4 - 1)) < (y2_0.length : Int)) then (bif (decide ((y2_0.getD (Int.toNat (IntKind.wrap .i64 (y2_4 - 1))) 0) ≥ (y2_2.getD (Int.toNat y2_4) 0))) then kret false else spec_l6List_l2 n y2_0 y2_1 y2_2 y2_3 (IntKind.wrap .i64 (y2_4 + 1)) kret kexit0) else none) else none) else spec_l6List_l2 n y2_0 y2_1 y2_2 y2_3 (IntKind.wrap .i64 (y2_4 + 1)) kret kexit0))) else none) else none) else kexit0 y2_0)) (fun r0 => kk .ret (PkS.pack Tspec_l6List_l2_0 (r0, ()))) (fun r0 => kk (.exit 0) (PkS.pack Tspec_l6List_l2_1 (r0, ()))) := by kernel_rfl
theorem lespec_l6List_l2 : LoopEq tt sig (fun n => mkK [(45, Kspec_l1In @spec_l1In n)]) (fun n => mkL (mkK [(45, Kspec_l1In @spec_l1In n)]) []) Dspec_l6List_l2 Sspec_l6List_l2 (loopIn 2 (bodyOf Tryz.f33)) (Pspec_l6List_l2 @spec_l6List_l2) where
  zero R q kk := by unfold Pspec_l6List_l2; cases (PkS.un Sspec_l6List_l2 q) <;> rfl
  succ n R q kk := by
    unfold Pspec_l6List_l2
    cases h : (PkS.un Sspec_l6List_l2 q) with
    | none => rfl
    | some d =>
      obtain ⟨y2_0, y2_1, y2_2, y2_3, y2_4, u⟩ := (d : (List Int) × Int × (List Int) × Int × Int × Unit)
      have hp := PkS.un_pack h
      subst hp
      exact (espec_l6List_l2 @spec_l1In @spec_l6List_l2 n y2_0 y2_1 y2_2 y2_3 y2_4 kk).symm
theorem nlspec_l6List_l2 : ∀ n, NatLP (Pspec_l6List_l2 @spec_l6List_l2 n) := lespec_l6List_l2.nat (fun n => mkK_nat (cspec_l6List n)) fun n => mkL_nat (mkK_nat (cspec_l6List n)) (l := []) trivial
theorem inspec_l6List_l2 (n : Nat) (R : Type) : LoopsOk Tryz.prog (mkL (mkK [(45, Kspec_l1In @spec_l1In n)]) [] R) (loopIn 2 (bodyOf Tryz.f33)) := .eq (l := []) (by kernel_rfl) trivial
theorem lkspec_l6List_l2 (n : Nat) (R : Type) (L0 : LK R) (h0 : ∀ id, firstRegion (loopIn 2 (bodyOf Tryz.f33)) = some id → L0 id = Dspec_l6List_l2.oracle (mkK [(45, Kspec_l1In @spec_l1In n)] R) (Pspec_l6List_l2 @spec_l6List_l2 n R)) : LoopOk Tryz.prog L0 (loopIn 2 (bodyOf Tryz.f33)) :=
  lespec_l6List_l2.ok mixed ttok (fun n => mkK_nat (cspec_l6List n)) (fun n => mkK_ok (cspec_l6List n)) (fun n => inspec_l6List_l2 n R) (mkK_nat (cspec_l6List n)) h0
@[reducible] def Sspec_l6List : PkS := ⟨[.one (.ro (.int .i64)), .one (.int .i64)], []⟩
@[reducible] def Tspec_l6List : PkS := ⟨[.one (.bool), .one (.dead), .one (.dead)], []⟩
def Hspec_l6List : List Sh := [.one .any, .skip, .skip]
def Kspec_l6List (g : ∀ {R : Type}, Nat → (List Int) → Int → (Bool → Option R) → Option R) (n : Nat) : KPs := fun R p k => match (PkS.un Sspec_l6List p : Option ((List Int) × Int × Unit)) with
  | some (x0, x1, _) => g n x0 x1 (fun r0 => k (PkS.pack Tspec_l6List (r0, ())))
  | none => none
theorem espec_l6List (spec_l1In : ∀ {R : Type}, Nat → Int → Int → Int → (Bool → Option R) → Option R) (spec_l6List_l2 : ∀ {R : Type}, Nat → (List Int) → Int → (List Int) → Int → Int → (Bool → Option R) → ((List Int) → Option R) → Option R) {R : Type} (n : Nat) (x0 : List Int) (x1 : Int) (k : Pk → Option R) : evF tt sig (mkK [(45, Kspec_l1In @spec_l1In n)] R) (mkL (mkK [(45, Kspec_l1In @spec_l1In n)]) [(2, Dspec_l6List_l2, Pspec_l6List_l2 @spec_l6List_l2 n)] R) Tryz.f33 Hspec_l6List (PkS.pack Sspec_l6List (x0, x1, ())) k = (fun (k : Bool → Option R) => (spec_l6List_l2 n x0 x1 x0 (x0.length : Int) 0 (fun r2 => k r2) (fun r3 => k (decide ((r3.length : Int) > 0))))) (fun r0 => k (PkS.pack Tspec_l6List (r0, ()))) := by kernel_rfl
theorem okspec_l6List (n : Nat) : FnOk Tryz.prog 33 (Kspec_l6List @spec_l6List n) := by
  refine fn_ok (sig := sig) mixed ttok (mkK_nat (cspec_l6List n)) (mkK_ok (cspec_l6List n)) (mkL_nat (mkK_nat (cspec_l6List n)) (l := [(2, Dspec_l6List_l2, Pspec_l6List_l2 @spec_l6List_l2 n)]) ⟨nlspec_l6List_l2 n, trivial⟩) (fn := Tryz.f33) (c := bodyOf Tryz.f33) (by kernel_rfl) (by kernel_rfl) (by kernel_rfl) (.eq (l := [.lo (loopIn 2 (bodyOf Tryz.f33))]) (by kernel_rfl) ⟨(lkspec_l6List_l2 n _ _ (at_id (i := 2) (by kernel_rfl) rfl)), trivial⟩) (shs := Hspec_l6List) (S := Sspec_l6List) (h1 := by kernel_rfl) fun R p k => ?_
  unfold Kspec_l6List
  cases h : (PkS.un Sspec_l6List p) with
  | none => rfl
  | some d =>
    obtain ⟨x0, x1, u⟩ := (d : (List Int) × Int × Unit)
    have hp := PkS.un_pack h
    subst hp
    exact (espec_l6List @spec_l1In @spec_l6List_l2 n x0 x1 k).symm

/-! ### loop.example/g00269/spec.GoodCron -/
theorem cspec_GoodCron (n : Nat) : AllOk Tryz.prog [(33, Kspec_l6List @spec_l6List n)] := ⟨okspec_l6List n, trivial⟩
@[reducible] def Sspec_GoodCron : PkS := ⟨[.agg [.ro (.int .i64), .ro (.int .i64), .ro (.int .i64)]], []⟩
@[reducible] def Tspec_GoodCron : PkS := ⟨[.one (.bool), .one (.dead)], []⟩
def Hspec_GoodCron : List Sh := [.one .any, .skip]
def Kspec_GoodCron (g : ∀ {R : Type}, Nat → (List Int) → (List Int) → (List Int) → (Bool → Option R) → Option R) (n : Nat) : KPs := fun R p k => match (PkS.un Sspec_GoodCron p : Option ((List Int) × (List Int) × (List Int) × Unit)) with
  | some (x0, x1, x2, _) => g n x0 x1 x2 (fun r0 => k (PkS.pack Tspec_GoodCron (r0, ())))
  | none => none
theorem espec_GoodCron (spec_l6List : ∀ {R : Type}, Nat → (List Int) → Int → (Bool → Option R) → Option R) {R : Type} (n : Nat) (x0 : List Int) (x1 : List Int) (x2 : List Int) (k : Pk → Option R) : evF tt sig (mkK [(33, Kspec_l6List @spec_l6List n)] R) (mkL (mkK [(33, Kspec_l6List @spec_l6List n)]) [] R) Tryz.f17 Hspec_GoodCron (PkS.pack Sspec_GoodCron (x0, x1, x2, ())) k = (fun (k : Bool → Option R) => (spec_l6List n x0 59 fun r1 => (bif r1 then (spec_l6List n x1 23 fun r2 => (bif r2 then (spec_l6List n x2 6 fun r3 => k r3) else k false)) else k false))) (fun r0 => k (PkS.pack Tspec_GoodCron (r0, ()))) := by kernel_rfl
theorem okspec_GoodCron (n : Nat) : FnOk Tryz.prog 17 (Kspec_GoodCron @spec_GoodCron n) := by
  refine fn_ok (sig := sig) mixed ttok (mkK_nat (cspec_GoodCron n)) (mkK_ok (cspec_GoodCron n)) (mkL_nat (mkK_nat (cspec_GoodCron n)) (l := []) trivial) (fn := Tryz.f17) (c := bodyOf Tryz.f17) (by kernel_rfl) (by kernel_rfl) (by kernel_rfl) (.eq (l := []) (by kernel_rfl) trivial) (shs := Hspec_GoodCron) (S := Sspec_GoodCron) (h1 := by kernel_rfl) fun R p k => ?_
  unfold Kspec_GoodCron
  cases h : (PkS.un Sspec_GoodCron p) with
  | none => rfl
  | some d =>
    obtain ⟨x0, x1, x2, u⟩ := (d : (List Int) × (List Int) × (List Int) × Unit)
    have hp := PkS.un_pack h
    subst hp
    exact (espec_GoodCron @spec_l6List n x0 x1 x2 k).symm

/-! ### loop.example/g00269/spec.l1Num -/
theorem cspec_l1Num (n : Nat) : AllOk Tryz.prog [] := trivial
@[reducible] def Sspec_l1Num : PkS := ⟨[.one (.int .i64)], []⟩
@[reducible] def Tspec_l1Num : PkS := ⟨[.one (.str), .one (.dead)], []⟩
def Hspec_l1Num : List Sh := [.one .any, .skip]
def Kspec_l1Num (g : ∀ {R : Type}, Nat → Int → (ByteArray → Option R) → Option R) (n : Nat) : KPs := fun R p k => match (PkS.un Sspec_l1Num p : Option (Int × Unit)) with
  | some (x0, _) => g n x0 (fun r0 => k (PkS.pack Tspec_l1Num (r0, ())))
  | none => none
theorem dspec_l1Num (n : Nat) (ih : FnOk Tryz.prog 34 (Kspec_l1Num @spec_l1Num n)) : AllOk Tryz.prog [(34, Kspec_l1Num @spec_l1Num n)] := ⟨ih, trivial⟩
theorem espec_l1Num (spec_l1Num : ∀ {R : Type}, Nat → Int → (ByteArray → Option R) → Option R) {R : Type} (n : Nat) (x0 : Int) (k : Pk → Option R) : evF tt sig (mkK [(34, Kspec_l1Num @spec_l1Num n)] R) (mkL (mkK []) [] R) Tryz.f34 Hspec_l1Num (PkS.pack Sspec_l1Num (x0, ())) k = (fun (k : ByteArray → Option R) => (bif (decide (x0 < 10)) then k (bytesOf ([(IntKind.wrap .u8 ((IntKind.wrap .i64 (48 + x0))))])) else (spec_l1Num n (IntKind.wrap .i64 (Int.tdiv x0 10)) fun r1 => (bif decide (r1.size + (bytesOf ([(IntKind.wrap .u8 ((IntKind.wrap .i64 (48 + (Int.tmod x0 10)))))])).size ≤ STR) then k (r1 ++ (bytesOf ([(IntKind.wrap .u8 ((IntKind.wrap .i64 (48 + (Int.tmod x0 10)))))]))) else none)))) (fun r0 => k (PkS.pack Tspec_l1Num (r0, ()))) := by kernel_rfl
theorem okspec_l1Num : ∀ n, FnOk Tryz.prog 34 (Kspec_l1Num @spec_l1Num n)
  | 0 => fn_none fun R p k => by unfold Kspec_l1Num; cases (PkS.un Sspec_l1Num p : Option (Int × Unit)) <;> rfl
  | n + 1 => by
    refine fn_ok (sig := sig) mixed ttok (mkK_nat (dspec_l1Num n (okspec_l1Num n))) (mkK_ok (dspec_l1Num n (okspec_l1Num n))) (mkL_nat (mkK_nat (cspec_l1Num n)) (l := []) trivial) (fn := Tryz.f34) (c := bodyOf Tryz.f34) (by kernel_rfl) (by kernel_rfl) (by kernel_rfl) (.eq (l := []) (by kernel_rfl) trivial) (shs := Hspec_l1Num) (S := Sspec_l1Num) (h1 := by kernel_rfl) fun R p k => ?_
    unfold Kspec_l1Num
    cases h : (PkS.un Sspec_l1Num p) with
    | none => rfl
    | some d =>
      obtain ⟨x0, u⟩ := (d : Int × Unit)
      have hp := PkS.un_pack h
      subst hp
      exact (espec_l1Num @spec_l1Num n x0 k).symm

/-! ### loop.example/g00269/spec.l6Text -/
theorem cspec_l6Text (n : Nat) : AllOk Tryz.prog [(34, Kspec_l1Num @spec_l1Num n)] := ⟨okspec_l1Num n, trivial⟩
@[reducible] def Sspec_l6Text_l5 : PkS := ⟨[.one (.str), .one (.ro (.int .i64)), .one (.int .i64), .one (.int .i64), .one (.dead), .one (.dead)], []⟩
@[reducible] def Tspec_l6Text_l5_0 : PkS := ⟨[.one (.str), .one (.dead), .one (.dead)], []⟩
def Dspec_l6Text_l5 : LoopD := ⟨30, [5, 13, 14, 15], [.one .any, .one (.ro (.int .i64)), .one .any, .one .any, .skip, .skip], fun x => match x with
  | .exit 0 => some ([5], [.one .any, .skip, .skip])
  | _ => none⟩
def Pspec_l6Text_l5 (g : ∀ {R : Type}, Nat → ByteArray → (List Int) → Int → Int → (ByteArray → Option R) → Option R) (n : Nat) : LPs := fun R q kk => match (PkS.un Sspec_l6Text_l5 q : Option (ByteArray × (List Int) × Int × Int × Unit)) with
  | some (y5_0, y5_1, y5_2, y5_3, _) => g n y5_0 y5_1 y5_2 y5_3 (fun r0 => kk (.exit 0) (PkS.pack Tspec_l6Text_l5_0 (r0, ())))
  | none => none
theorem espec_l6Text_l5 (spec_l1Num : ∀ {R : Type}, Nat → Int → (ByteArray → Option R) → Option R) (spec_l6Text_l5 : ∀ {R : Type}, Nat → ByteArray → (List Int) → Int → Int → (ByteArray → Option R) → Option R) {R : Type} (n : Nat) (y5_0 : ByteArray) (y5_1 : List Int) (y5_2 : Int) (y5_3 : Int) (kk : Ex → Pk → Option R) : Dspec_l6Text_l5.step tt sig (mkK [(34, Kspec_l1Num @spec_l1Num n)] R) (mkL (mkK [(34, Kspec_l1Num @spec_l1Num n)]) [] R) (loopIn 5 (bodyOf Tryz.f18)) (fun q' => Pspec_l6Text_l5 @spec_l6Text_l5 n R q' kk) (PkS.pack Sspec_l6Text_l5 (y5_0, y5_1, y5_2, y5_3, ())) kk = (fun (kexit0 : ByteArray → Option R) => (bif (decide (y5_3 < y5_2)) then (bif decide (0 ≤ y5_3) then (bif decide (y5_3 < (y5_1.length : Int)) then (bif (decide (y5_3 > 0)) then (bif decide (y5_0.size + (ByteArray.mk #[44]).size ≤ STR) then (spec_l1Num n (y5_1.getD (Int.toNat y5_3) 0) fun r1 => (bif decide ((y5_0 ++ (ByteArray.mk #[44])).size + r1.size ≤ STR) then spec_l6Text_l5 n ((y5_0 ++ (ByteArray.mk #[44])) ++ r1) y5_1 y5_2 (IntKind.wrap .i64 (y5_3 + 1)) kexit0 else none)) else none) else (spec_l1Num n (y5_1.getD (Int.toNat y5_3) 0) fun r2 => (bif decide (y5_0.size + r2.size ≤ STR) then spec_l6Text_l5 n (y5_0 ++ r2) y5_1 y5_2 (IntKind.wrap .i64 (y5_3 + 1)) kexit0 else none))) else none) else none) else kexit0 y5_0)) (fun r0 => kk (.exit 0) (PkS.pack Tspec_l6Text_l5_0 (r0, ()))) := by kernel_rfl
theorem lespec_l6Text_l5 : LoopEq tt sig (fun n => mkK [(34, Kspec_l1Num @spec_l1Num n)]) (fun n => mkL (mkK [(34, Kspec_l1Num @spec_l1Num n)]) []) Dspec_l6Text_l5 Sspec_l6Text_l5 (loopIn 5 (bodyOf Tryz.f18)) (Pspec_l6Text_l5 @spec_l6Text_l5) where
  zero R q kk := by unfold Pspec_l6Text_l5; cases (PkS.un Sspec_l6Text_l5 q) <;> rfl
  succ n R q kk := by
    unfold Pspec_l6Text_l5
    cases h : (PkS.un Sspec_l6Text_l5 q) with
    | none => rfl
    | some d =>
      obtain ⟨y5_0, y5_1, y5_2, y5_3, u⟩ := (d : ByteArray × (List Int) × Int × Int × Unit)
      have hp := PkS.un_pack h
      subst hp
      exact (espec_l6Text_l5 @spec_l1Num @spec_l6Text_l5 n y5_0 y5_1 y5_2 y5_3 kk).symm
theorem nlspec_l6Text_l5 : ∀ n, NatLP (Pspec_l6Text_l5 @spec_l6Text_l5 n) := lespec_l6Text_l5.nat (fun n => mkK_nat (cspec_l6Text n)) fun n => mkL_nat (mkK_nat (cspec_l6Text n)) (l := []) trivial
theorem inspec_l6Text_l5 (n : Nat) (R : Type) : LoopsOk Tryz.prog (mkL (mkK [(34, Kspec_l1Num @spec_l1Num n)]) [] R) (loopIn 5 (bodyOf Tryz.f18)) := .eq (l := []) (by kernel_rfl) trivial
theorem lkspec_l6Text_l5 (n : Nat) (R : Type) (L0 : LK R) (h0 : ∀ id, firstRegion (loopIn 5 (bodyOf Tryz.f18)) = some id → L0 id = Dspec_l6Text_l5.oracle (mkK [(34, Kspec_l1Num @spec_l1Num n)] R) (Pspec_l6Text_l5 @spec_l6Text_l5 n R)) : LoopOk Tryz.prog L0 (loopIn 5 (bodyOf Tryz.f18)) :=
  lespec_l6Text_l5.ok mixed ttok (fun n => mkK_nat (cspec_l6Text n)) (fun n => mkK_ok (cspec_l6Text n)) (fun n => inspec_l6Text_l5 n R) (mkK_nat (cspec_l6Text n)) h0
@[reducible] def Sspec_l6Text : PkS := ⟨[.one (.ro (.int .i64)), .one (.int .i64)], []⟩
@[reducible] def Tspec_l6Text : PkS := ⟨[.one (.str), .one (.dead), .one (.dead)], []⟩
def Hspec_l6Text : List Sh := [.one .any, .skip, .skip]
def Kspec_l6Text (g : ∀ {R : Type}, Nat → (List Int) → Int → (ByteArray → Option R) → Option R) (n : Nat) : KPs := fun R p k => match (PkS.un Sspec_l6Text p : Option ((List Int) × Int × Unit)) with
  | some (x0, x1, _) => g n x0 x1 (fun r0 => k (PkS.pack Tspec_l6Text (r0, ())))
  | none => none
theorem espec_l6Text (spec_l1Num : ∀ {R : Type}, Nat → Int → (ByteArray → Option R) → Option R) (spec_l6Text_l5 : ∀ {R : Type}, Nat → ByteArray → (List Int) → Int → Int → (ByteArray → Option R) → Option R) {R : Type} (n : Nat) (x0 : List Int) (x1 : Int) (k : Pk → Option R) : evF tt sig (mkK [(34, Kspec_l1Num @spec_l1Num n)] R) (mkL (mkK [(34, Kspec_l1Num @spec_l1Num n)]) [(5, Dspec_l6Text_l5, Pspec_l6Text_l5 @spec_l6Text_l5 n)] R) Tryz.f18 Hspec_l6Text (PkS.pack Sspec_l6Text (x0, x1, ())) k = (fun (k : ByteArray → Option R) => (bif ((x0.length : Int) == (IntKind.wrap .i64 (x1 + 1))) then k (ByteArray.mk #[42]) else (spec_l6Text_l5 n (ByteArray.mk #[]) x0 (x0.length : Int) 0 (fun r3 => k r3)))) (fun r0 => k (PkS.pack Tspec_l6Text (r0, ()))) := by kernel_rfl
theorem okspec_l6Text (n : Nat) : FnOk Tryz.prog 18 (Kspec_l6Text @spec_l6Text n) := by
  refine fn_ok (sig := sig) mixed ttok (mkK_nat (cspec_l6Text n)) (mkK_ok (cspec_l6Text n)) (mkL_nat (mkK_nat (cspec_l6Text n)) (l := [(5, Dspec_l6Text_l5, Pspec_l6Text_l5 @spec_l6Text_l5 n)]) ⟨nlspec_l6Text_l5 n, trivial⟩) (fn := Tryz.f18) (c := bodyOf Tryz.f18) (by kernel_rfl) (by kernel_rfl) (by kernel_rfl) (.eq (l := [.lo (loopIn 5 (bodyOf Tryz.f18))]) (by kernel_rfl) ⟨(lkspec_l6Text_l5 n _ _ (at_id (i := 5) (by kernel_rfl) rfl)), trivial⟩) (shs := Hspec_l6Text) (S := Sspec_l6Text) (h1 := by kernel_rfl) fun R p k => ?_
  unfold Kspec_l6Text
  cases h : (PkS.un Sspec_l6Text p) with
  | none => rfl
  | some d =>
    obtain ⟨x0, x1, u⟩ := (d : (List Int) × Int × Unit)
    have hp := PkS.un_pack h
    subst hp
    exact (espec_l6Text @spec_l1Num @spec_l6Text_l5 n x0 x1 k).symm

/-! ### loop.example/g00269/spec.CronText -/
theorem cspec_CronText (n : Nat) : AllOk Tryz.prog [(17, Kspec_GoodCron @spec_GoodCron n), (18, Kspec_l6Text @spec_l6Text n)] := ⟨okspec_GoodCron n, ⟨okspec_l6Text n, trivial⟩⟩
@[reducible] def Sspec_CronText : PkS := ⟨[.agg [.ro (.int .i64), .ro (.int .i64), .ro (.int .i64)]], []⟩
@[reducible] def Tspec_CronText : PkS := ⟨[.tup [(false, [.str]), (false, [.bool])], .one (.dead)], []⟩
def Hspec_CronText : List Sh := [.tup [(false, [.any]), (false, [.any])], .skip]
def Kspec_CronText (g : ∀ {R : Type}, Nat → (List Int) → (List Int) → (List Int) → (ByteArray → Bool → Option R) → Option R) (n : Nat) : KPs := fun R p k => match (PkS.un Sspec_CronText p : Option ((List Int) × (List Int) × (List Int) × Unit)) with
  | some (x0, x1, x2, _) => g n x0 x1 x2 (fun r0 r1 => k (PkS.pack Tspec_CronText (r0, r1, ())))
  | none => none
theorem espec_CronText (spec_GoodCron : ∀ {R : Type}, Nat → (List Int) → (List Int) → (List Int) → (Bool → Option R) → Option R) (spec_l6Text : ∀ {R : Type}, Nat → (List Int) → Int → (ByteArray → Option R) → Option R) {R : Type} (n : Nat) (x0 : List Int) (x1 : List Int) (x2 : List Int) (k : Pk → Option R) : evF tt sig (mkK [(17, Kspec_GoodCron @spec_GoodCron n), (18, Kspec_l6Text @spec_l6Text n)] R) (mkL (mkK [(17, Kspec_GoodCron @spec_GoodCron n), (18, Kspec_l6Text @spec_l6Text n)]) [] R) Tryz.f6 Hspec_CronText (PkS.pack Sspec_CronText (x0, x1, x2, ())) k = (fun (k : ByteArray → Bool → Option R) => (spec_GoodCron n x0 x1 x2 fun r1 => (bif (!r1) then k (ByteArray.mk #[]) false else (spec_l6Text n x0 59 fun r2 => (bif decide (r2.size + (ByteArray.mk #[32]).size ≤ STR) then (spec_l6Text n x1 23 fun r3 => (bif decide ((r2 ++ (ByteArray.mk #[32])).size + r3.size ≤ STR) then (bif decide (((r2 ++ (ByteArray.mk #[32])) ++ r3).size + (ByteArray.mk #[32]).size ≤ STR) then (spec_l6Text n x2 6 fun r4 => (bif decide ((((r2 ++ (ByteArray.mk #[32])) ++ r3) ++ (ByteArray.mk #[32])).size + r4.size ≤ STR) then k ((((r2 ++ (ByteArray.mk #[32])) ++ r3) ++ (ByteArray.mk #[32])) ++ r4) true else none)) else none) else none)) else none))))) (fun r0 r1 => k (PkS.pack Tspec_CronText (r0, r1, ()))) := by kernel_rfl
theorem okspec_CronText (n : Nat) : FnOk Tryz.prog 6 (Kspec_CronText @spec_CronText n) := by
  refine fn_ok (sig := sig) mixed ttok (mkK_nat (cspec_CronText n)) (mkK_ok (cspec_CronText n)) (mkL_nat (mkK_nat (cspec_CronText n)) (l := []) trivial) (fn := Tryz.f6) (c := bodyOf Tryz.f6) (by kernel_rfl) (by kernel_rfl) (by kernel_rfl) (.eq (l := []) (by kernel_rfl) trivial) (shs := Hspec_CronText) (S := Sspec_CronText) (h1 := by kernel_rfl) fun R p k => ?_
  unfold Kspec_CronText
  cases h : (PkS.un Sspec_CronText p) with
  | none => rfl
  | some d =>
    obtain ⟨x0, x1, x2, u⟩ := (d : (List Int) × (List Int) × (List Int) × Unit)
    have hp := PkS.un_pack h
    subst hp
    exact (espec_CronText @spec_GoodCron @spec_l6Text n x0 x1 x2 k).symm

/-! ### strings.SplitN -/
theorem cstrings_SplitN (n : Nat) : AllOk Tryz.prog [] := trivial
@[reducible] def Sstrings_SplitN : PkS := ⟨[.one (.str), .one (.str), .one (.int .i64)], []⟩
@[reducible] def Tstrings_SplitN : PkS := ⟨[.one (.whole (300000, 0)), .one (.dead), .one (.dead), .one (.dead)], [((300000, 0), .arr .str)]⟩
def Kstrings_SplitN (g : ∀ {R : Type}, Nat → ByteArray → ByteArray → Int → ((List ByteArray) → Option R) → Option R) (n : Nat) : KPs := fun R p k => match (PkS.un Sstrings_SplitN p : Option (ByteArray × ByteArray × Int × Unit)) with
  | some (x0, x1, x2, _) => g n x0 x1 x2 (fun r0 => k (PkS.pack Tstrings_SplitN (r0, ())))
  | none => none
theorem okstrings_SplitN (n : Nat) : FnOk Tryz.prog 20 (Kstrings_SplitN @strings_SplitN n) := by
  have e : Kstrings_SplitN @strings_SplitN n = splitK := by kernel_rfl
  rw [e]
  exact splitN_ok laysSplitN (by kernel_rfl) (by show (1, isInt) ∈ glob; simp [glob]) rfl (fn := Tryz.f20) (c := bodyOf Tryz.f20) (by kernel_rfl) (by kernel_rfl) (by kernel_rfl)

/-! ### strings.Split -/
theorem cstrings_Split (n : Nat) : AllOk Tryz.prog [] := trivial
@[reducible] def Sstrings_Split : PkS := ⟨[.one (.str), .one (.str)], []⟩
@[reducible] def Tstrings_Split : PkS := ⟨[.one (.whole (300000, 0)), .one (.dead), .one (.dead)], [((300000, 0), .arr .str)]⟩
def Kstrings_Split (g : ∀ {R : Type}, Nat → ByteArray → ByteArray → ((List ByteArray) → Option R) → Option R) (n : Nat) : KPs := fun R p k => match (PkS.un Sstrings_Split p : Option (ByteArray × ByteArray × Unit)) with
  | some (x0, x1, _) => g n x0 x1 (fun r0 => k (PkS.pack Tstrings_Split (r0, ())))
  | none => none
theorem okstrings_Split (n : Nat) : FnOk Tryz.prog 37 (Kstrings_Split @strings_Split n) := by
  have e : Kstrings_Split @strings_Split n = splitAK := by kernel_rfl
  rw [e]
  exact splitA_ok laysSplit (by kernel_rfl) (by show (1, isInt) ∈ glob; simp [glob]) rfl (fn := Tryz.f37) (c := bodyOf Tryz.f37) (by kernel_rfl) (by kernel_rfl) (by kernel_rfl)

/-! ### strings.Cut -/
theorem cstrings_Cut (n : Nat) : AllOk Tryz.prog [] := trivial
@[reducible] def Sstrings_Cut : PkS := ⟨[.one (.str), .one (.str)], []⟩
@[reducible] def Tstrings_Cut : PkS := ⟨[.tup [(false, [.str]), (false, [.str]), (false, [.bool])], .one (.dead), .one (.dead)], []⟩
def Kstrings_Cut (g : ∀ {R : Type}, Nat → ByteArray → ByteArray → (ByteArray → ByteArray → Bool → Option R) → Option R) (n : Nat) : KPs := fun R p k => match (PkS.un Sstrings_Cut p : Option (ByteArray × ByteArray × Unit)) with
  | some (x0, x1, _) => g n x0 x1 (fun r0 r1 r2 => k (PkS.pack Tstrings_Cut (r0, r1, r2, ())))
  | none => none
theorem okstrings_Cut (n : Nat) : FnOk Tryz.prog 49 (Kstrings_Cut @strings_Cut n) := by
  have e : Kstrings_Cut @strings_Cut n = cutK := by kernel_rfl
  rw [e]
  exact cut_ok laysCut (by show (1, isInt) ∈ glob; simp [glob]) rfl (fn := Tryz.f49) (c := bodyOf Tryz.f49) (by kernel_rfl) (by kernel_rfl) (by kernel_rfl)

/-! ### strings.Trim -/
theorem cstrings_Trim (n : Nat) : AllOk Tryz.prog [] := trivial
@[reducible] def Sstrings_Trim : PkS := ⟨[.one (.str), .one (.str)], []⟩
@[reducible] def Tstrings_Trim : PkS := ⟨[.one (.str), .one (.dead), .one (.dead)], []⟩
def Kstrings_Trim (g : ∀ {R : Type}, Nat → ByteArray → ByteArray → (ByteArray → Option R) → Option R) (n : Nat) : KPs := fun R p k => match (PkS.un Sstrings_Trim p : Option (ByteArray × ByteArray × Unit)) with
  | some (x0, x1, _) => g n x0 x1 (fun r0 => k (PkS.pack Tstrings_Trim (r0, ())))
  | none => none
def ren160 : Go.Shelf.Ren := ⟨fun n => match n with
  | 160 => 65
  | 232 => 78
  | 231 => 77
  | 227 => 79
  | 234 => 81
  | 233 => 80
  | 236 => 83
  | 235 => 82
  | 228 => 90
  | 271 => 92
  | 151 => 91
  | 197 => 61
  | 120 => 99
  | 152 => 98
  | 260 => 72
  | 137 => 103
  | 119 => 104
  | 224 => 75
  | 225 => 74
  | 217 => 73
  | 266 => 88
  | _ => 0, fun n => match n with
  | 0 => 0
  | 3 => 3
  | 4 => 4
  | 5 => 5
  | 9 => 9
  | 21 => 21
  | 46 => 95
  | 105 => 92
  | 116 => 103
  | 117 => 104
  | 119 => 110
  | 124 => 107
  | 138 => 112
  | 139 => 113
  | _ => 0, fun n => match n with
  | 3 => 2
  | 4 => 3
  | _ => 0⟩
theorem lays160 : Go.Proofs.Lays.n160 Tryz.prog ren160 where
  mixed := by kernel_rfl
  f119 := by kernel_rfl
  f120 := by kernel_rfl
  f137 := by kernel_rfl
  f151 := by kernel_rfl
  f152 := by kernel_rfl
  f160 := by kernel_rfl
  f197 := by kernel_rfl
  f217 := by kernel_rfl
  f224 := by kernel_rfl
  f225 := by kernel_rfl
  f227 := by kernel_rfl
  f228 := by kernel_rfl
  f231 := by kernel_rfl
  f232 := by kernel_rfl
  f233 := by kernel_rfl
  f234 := by kernel_rfl
  f235 := by kernel_rfl
  f236 := by kernel_rfl
  f260 := by kernel_rfl
  f266 := by kernel_rfl
  f271 := by kernel_rfl
  t0 := by kernel_rfl
  a0 w := by kernel_rfl
  z0 w := by kernel_rfl
  v0 w := by kernel_rfl
  t3 := by kernel_rfl
  a3 w := by kernel_rfl
  z3 w := by kernel_rfl
  v3 w := by kernel_rfl
  t4 := by kernel_rfl
  a4 w := by kernel_rfl
  z4 w := by kernel_rfl
  v4 w := by kernel_rfl
  t5 := by kernel_rfl
  a5 w := by kernel_rfl
  z5 w := by kernel_rfl
  v5 w := by kernel_rfl
  t9 := by kernel_rfl
  a9 w := by kernel_rfl
  z9 w := by kernel_rfl
  v9 w := by kernel_rfl
  t21 := by kernel_rfl
  a21 w := by kernel_rfl
  z21 w := by kernel_rfl
  v21 w := by kernel_rfl
  t46 := by kernel_rfl
  a46 w := by kernel_rfl
  z46 w := by kernel_rfl
  v46 w := by kernel_rfl
  t105 := by kernel_rfl
  a105 w := by kernel_rfl
  z105 w := by kernel_rfl
  v105 w := by kernel_rfl
  t116 := by kernel_rfl
  a116 w := by kernel_rfl
  z116 w := by kernel_rfl
  t117 := by kernel_rfl
  a117 w := by kernel_rfl
  z117 w := by kernel_rfl
  v117 w := by kernel_rfl
  t119 := by kernel_rfl
  a119 w := by kernel_rfl
  z119 w := by kernel_rfl
  t124 := by kernel_rfl
  a124 w := by kernel_rfl
  z124 w := by kernel_rfl
  v124 w := by kernel_rfl
  t138 := by kernel_rfl
  a138 w := by kernel_rfl
  z138 w := by kernel_rfl
  v138 w := by kernel_rfl
  t139 := by kernel_rfl
  a139 w := by kernel_rfl
  z139 w := by kernel_rfl
  v139 w := by kernel_rfl
  g3 := by kernel_rfl
  g4 := by kernel_rfl
theorem okstrings_Trim (n : Nat) : FnOk Tryz.prog 65 (Kstrings_Trim @strings_Trim n) := by
  have e : Kstrings_Trim @strings_Trim n = trimK := by kernel_rfl
  rw [e]
  exact trim_ok lays160 (by kernel_rfl) rfl (fn := Tryz.f65) (c := bodyOf Tryz.f65) (by kernel_rfl) (by kernel_rfl) (by kernel_rfl)

/-! ### loop.example/g00269/impl.number -/
theorem cimpl_number (n : Nat) : AllOk Tryz.prog [] := trivial
@[reducible] def Simpl_number : PkS := ⟨[.one (.str)], []⟩
@[reducible] def Timpl_number : PkS := ⟨[.tup [(false, [.int .i64]), (false, [.bool])], .one (.dead)], []⟩
def Kimpl_number (g : ∀ {R : Type}, Nat → ByteArray → (Int → Bool → Option R) → Option R) (n : Nat) : KPs := fun R p k => match (PkS.un Simpl_number p : Option (ByteArray × Unit)) with
  | some (x0, _) => g n x0 (fun r0 r1 => k (PkS.pack Timpl_number (r0, r1, ())))
  | none => none
theorem okimpl_number (n : Nat) : FnOk Tryz.prog 51 (Kimpl_number @impl_number n) := by
  have e : Kimpl_number @impl_number n = numK := by kernel_rfl
  rw [e]
  exact number_ok (by simp [glob]) (by simp [glob]) (fn := Tryz.f51) (c := bodyOf Tryz.f51) (by kernel_rfl) (by kernel_rfl) (by kernel_rfl)

/-! ### loop.example/g00269/impl.stepOf -/
theorem cimpl_stepOf (n : Nat) : AllOk Tryz.prog [(65, Kstrings_Trim @strings_Trim n), (51, Kimpl_number @impl_number n)] := ⟨okstrings_Trim n, ⟨okimpl_number n, trivial⟩⟩
@[reducible] def Simpl_stepOf : PkS := ⟨[.one (.str)], []⟩
@[reducible] def Timpl_stepOf : PkS := ⟨[.tup [(false, [.int .i64]), (false, [.bool])], .one (.dead)], []⟩
def Himpl_stepOf : List Sh := [.tup [(false, [.any]), (false, [.any])], .skip]
def Kimpl_stepOf (g : ∀ {R : Type}, Nat → ByteArray → (Int → Bool → Option R) → Option R) (n : Nat) : KPs := fun R p k => match (PkS.un Simpl_stepOf p : Option (ByteArray × Unit)) with
  | some (x0, _) => g n x0 (fun r0 r1 => k (PkS.pack Timpl_stepOf (r0, r1, ())))
  | none => none
theorem eimpl_stepOf (strings_Trim : ∀ {R : Type}, Nat → ByteArray → ByteArray → (ByteArray → Option R) → Option R) (impl_number : ∀ {R : Type}, Nat → ByteArray → (Int → Bool → Option R) → Option R) {R : Type} (n : Nat) (x0 : ByteArray) (k : Pk → Option R) : evF tt sig (mkK [(65, Kstrings_Trim @strings_Trim n), (51, Kimpl_number @impl_number n)] R) (mkL (mkK [(65, Kstrings_Trim @strings_Trim n), (51, Kimpl_number @impl_number n)]) [] R) Tryz.f50 Himpl_stepOf (PkS.pack Simpl_stepOf (x0, ())) k = (fun (k : Int → Bool → Option R) => (bif (decide ((x0.size : Int) > 9)) then (strings_Trim n x0 (ByteArray.mk #[48, 49, 50, 51, 52, 53, 54, 55, 56, 57]) fun r1 => (bif ((ByteArray.toList r1) == (ByteArray.toList (ByteArray.mk #[]))) then (bif decide (0 < (x0.size : Int)) then (bif (((x0.data.getD 0 0).toNat : Int) != 48) then k 420 true else (impl_number n x0 fun r2 r3 => (bif r3 then k r2 (decide (r2 > 0)) else k r2 false))) else none) else (impl_number n x0 fun r4 r5 => (bif r5 then k r4 (decide (r4 > 0)) else k r4 false)))) else (impl_number n x0 fun r6 r7 => (bif r7 then k r6 (decide (r6 > 0)) else k r6 false)))) (fun r0 r1 => k (PkS.pack Timpl_stepOf (r0, r1, ()))) := by kernel_rfl
theorem okimpl_stepOf (n : Nat) : FnOk Tryz.prog 50 (Kimpl_stepOf @impl_stepOf n) := by
  refine fn_ok (sig := sig) mixed ttok (mkK_nat (cimpl_stepOf n)) (mkK_ok (cimpl_stepOf n)) (mkL_nat (mkK_nat (cimpl_stepOf n)) (l := []) trivial) (fn := Tryz.f50) (c := bodyOf Tryz.f50) (by kernel_rfl) (by kernel_rfl) (by kernel_rfl) (.eq (l := []) (by kernel_rfl) trivial) (shs := Himpl_stepOf) (S := Simpl_stepOf) (h1 := by kernel_rfl) fun R p k => ?_
  unfold Kimpl_stepOf
  cases h : (PkS.un Simpl_stepOf p) with
  | none => rfl
  | some d =>
    obtain ⟨x0, u⟩ := (d : ByteArray × Unit)
    have hp := PkS.un_pack h
    subst hp
    exact (eimpl_stepOf @strings_Trim @impl_number n x0 k).symm

/-! ### loop.example/g00269/impl.item -/
theorem cimpl_item (n : Nat) : AllOk Tryz.prog [(49, Kstrings_Cut @strings_Cut n), (50, Kimpl_stepOf @impl_stepOf n), (51, Kimpl_number @impl_number n)] := ⟨okstrings_Cut n, ⟨okimpl_stepOf n, ⟨okimpl_number n, trivial⟩⟩⟩
@[reducible] def Simpl_item : PkS := ⟨[.one (.str), .one (.int .i64)], []⟩
@[reducible] def Timpl_item : PkS := ⟨[.tup [(false, [.int .i64]), (false, [.int .i64]), (false, [.int .i64]), (false, [.bool])], .one (.dead), .one (.dead)], []⟩
def Himpl_item : List Sh := [.tup [(false, [.any]), (false, [.any]), (false, [.any]), (false, [.any])], .skip, .skip]
def Kimpl_item (g : ∀ {R : Type}, Nat → ByteArray → Int → (Int → Int → Int → Bool → Option R) → Option R) (n : Nat) : KPs := fun R p k => match (PkS.un Simpl_item p : Option (ByteArray × Int × Unit)) with
  | some (x0, x1, _) => g n x0 x1 (fun r0 r1 r2 r3 => k (PkS.pack Timpl_item (r0, r1, r2, r3, ())))
  | none => none
theorem eimpl_item (strings_Cut : ∀ {R : Type}, Nat → ByteArray → ByteArray → (ByteArray → ByteArray → Bool → Option R) → Option R) (impl_stepOf : ∀ {R : Type}, Nat → ByteArray → (Int → Bool → Option R) → Option R) (impl_number : ∀ {R : Type}, Nat → ByteArray → (Int → Bool → Option R) → Option R) {R : Type} (n : Nat) (x0 : ByteArray) (x1 : Int) (k : Pk → Option R) : evF tt sig (mkK [(49, Kstrings_Cut @strings_Cut n), (50, Kimpl_stepOf @impl_stepOf n), (51, Kimpl_number @impl_number n)] R) (mkL (mkK [(49, Kstrings_Cut @strings_Cut n), (50, Kimpl_stepOf @impl_stepOf n), (51, Kimpl_number @impl_number n)]) [] R) Tryz.f38 Himpl_item (PkS.pack Simpl_item (x0, x1, ())) k = (fun (k : Int → Int → Int → Bool → Option R) => (strings_Cut n x0 (ByteArray.mk #[47]) fun r1 r2 r3 => (bif r3 then (impl_stepOf n r2 fun r4 r5 => (bif (!r5) then k 0 0 0 false else (bif ((ByteArray.toList r1) == (ByteArray.toList (ByteArray.mk #[42]))) then k 0 (IntKind.wrap .i64 (x1 - 1)) r4 true else (strings_Cut n r1 (ByteArray.mk #[45]) fun r6 r7 r8 => (impl_number n r6 fun r9 r10 => (bif r8 then (impl_number n r7 fun r11 r12 => (bif r10 then (bif r12 then (bif (decide (r9 ≤ r11)) then k r9 r11 r4 (decide (r11 < x1)) else k r9 r11 r4 false) else k r9 r11 r4 false) else k r9 r11 r4 false)) else (bif r3 then (bif r10 then (bif (decide (r9 ≤ (IntKind.wrap .i64 (x1 - 1)))) then k r9 (IntKind.wrap .i64 (x1 - 1)) r4 (decide ((IntKind.wrap .i64 (x1 - 1)) < x1)) else k r9 (IntKind.wrap .i64 (x1 - 1)) r4 false) else k r9 (IntKind.wrap .i64 (x1 - 1)) r4 false) else (bif r10 then (bif (decide (r9 ≤ r9)) then k r9 r9 r4 (decide (r9 < x1)) else k r9 r9 r4 false) else k r9 r9 r4 false)))))))) else (bif ((ByteArray.toList r1) == (ByteArray.toList (ByteArray.mk #[42]))) then k 0 (IntKind.wrap .i64 (x1 - 1)) 1 true else (strings_Cut n r1 (ByteArray.mk #[45]) fun r13 r14 r15 => (impl_number n r13 fun r16 r17 => (bif r15 then (impl_number n r14 fun r18 r19 => (bif r17 then (bif r19 then (bif (decide (r16 ≤ r18)) then k r16 r18 1 (decide (r18 < x1)) else k r16 r18 1 false) else k r16 r18 1 false) else k r16 r18 1 false)) else (bif r3 then (bif r17 then (bif (decide (r16 ≤ (IntKind.wrap .i64 (x1 - 1)))) then k r16 (IntKind.wrap .i64 (x1 - 1)) 1 (decide ((IntKind.wrap .i64 (x1 - 1)) < x1)) else k r16 (IntKind.wrap .i64 (x1 - 1)) 1 false) else k r16 (IntKind.wrap .i64 (x1 - 1)) 1 false) else (bif r17 then (bif (decide (r16 ≤ r16)) then k r16 r16 1 (decide (r16 < x1)) else k r16 r16 1 false) else k r16 r16 1 false))))))))) (fun r0 r1 r2 r3 => k (PkS.pack Timpl_item (r0, r1, r2, r3, ()))) := by kernel_rfl
theorem okimpl_item (n : Nat) : FnOk Tryz.prog 38 (Kimpl_item @impl_item n) := by
  refine fn_ok (sig := sig) mixed ttok (mkK_nat (cimpl_item n)) (mkK_ok (cimpl_item n)) (mkL_nat (mkK_nat (cimpl_item n)) (l := []) trivial) (fn := Tryz.f38) (c := bodyOf Tryz.f38) (by kernel_rfl) (by kernel_rfl) (by kernel_rfl) (.eq (l := []) (by kernel_rfl) trivial) (shs := Himpl_item) (S := Simpl_item) (h1 := by kernel_rfl) fun R p k => ?_
  unfold Kimpl_item
  cases h : (PkS.un Simpl_item p) with
  | none => rfl
  | some d =>
    obtain ⟨x0, x1, u⟩ := (d : ByteArray × Int × Unit)
    have hp := PkS.un_pack h
    subst hp
    exact (eimpl_item @strings_Cut @impl_stepOf @impl_number n x0 x1 k).symm

/-! ### loop.example/g00269/impl.field -/
theorem cimpl_field (n : Nat) : AllOk Tryz.prog [(37, Kstrings_Split @strings_Split n), (38, Kimpl_item @impl_item n)] := ⟨okstrings_Split n, ⟨okimpl_item n, trivial⟩⟩
@[reducible] def Simpl_field_l9 : PkS := ⟨[.one (.int .i64), .one (.whole (100000, 0)), .one (.whole (100000, 1)), .one (.int .i64), .one (.int .i64), .one (.int .i64), .one (.whole (100000, 2)), .one (.int .i64), .one (.int .i64), .one (.dead), .one (.dead)], [((100000, 0), .arr .bool), ((100000, 1), .arr (.int .i64)), ((100000, 2), .arr .str)]⟩
@[reducible] def Timpl_field_l9_0 : PkS := ⟨[.one (.int .i64), .one (.whole (100000, 0)), .one (.whole (100000, 1)), .one (.whole (100000, 2)), .one (.int .i64), .one (.int .i64), .one (.dead), .one (.dead)], [((100000, 0), .arr .bool), ((100000, 1), .arr (.int .i64)), ((100000, 2), .arr .str)]⟩
def Dimpl_field_l9 : LoopD := ⟨62, [1, 6, 7, 11, 12, 14, 21, 22, 23], [.one .any, .one (.own .bool), .one (.own (.int .i64)), .one .any, .one .any, .one .any, .one (.own .str), .one .any, .one .any, .skip, .skip], fun x => match x with
  | .exit 2 => some ([1, 6, 7, 21, 22, 23], [.one .any, .one (.own .bool), .one (.own (.int .i64)), .one (.own .str), .one .any, .one .any, .skip, .skip])
  | _ => none⟩
def Pimpl_field_l9 (g : ∀ {R : Type}, Nat → Int → Int → Int → Int → Int → Int → (List Bool) → (List Int) → (List ByteArray) → (Int → Int → Int → (List Bool) → (List Int) → (List ByteArray) → Option R) → Option R) (n : Nat) : LPs := fun R q kk => match (PkS.un Simpl_field_l9 q : Option (Int × Int × Int × Int × Int × Int × (List Bool) × (List Int) × (List ByteArray) × Unit)) with
  | some (y9_0, y9_1, y9_2, y9_3, y9_4, y9_5, y9_6, y9_7, y9_8, _) => g n y9_0 y9_1 y9_2 y9_3 y9_4 y9_5 y9_6 y9_7 y9_8 (fun r0 r1 r2 r3 r4 r5 => kk (.exit 2) (PkS.pack Timpl_field_l9_0 (r0, r1, r2, r3, r4, r5, ())))
  | none => none
theorem eimpl_field_l9 (strings_Split : ∀ {R : Type}, Nat → ByteArray → ByteArray → ((List ByteArray) → Option R) → Option R) (impl_item : ∀ {R : Type}, Nat → ByteArray → Int → (Int → Int → Int → Bool → Option R) → Option R) (impl_field_l9 : ∀ {R : Type}, Nat → Int → Int → Int → Int → Int → Int → (List Bool) → (List Int) → (List ByteArray) → (Int → Int → Int → (List Bool) → (List Int) → (List ByteArray) → Option R) → Option R) {R : Type} (n : Nat) (y9_0 : Int) (y9_1 : Int) (y9_2 : Int) (y9_3 : Int) (y9_4 : Int) (y9_5 : Int) (y9_6 : List Bool) (y9_7 : List Int) (y9_8 : List ByteArray) (kk : Ex → Pk → Option R) : Dimpl_field_l9.step tt sig (mkK [(37, Kstrings_Split @strings_Split n), (38, Kimpl_item @impl_item n)] R) (mkL (mkK [(37, Kstrings_Split @strings_Split n), (38, Kimpl_item @impl_item n)]) [] R) (loopIn 9 (bodyOf Tryz.f21)) (fun q' => Pimpl_field_l9 @impl_field_l9 n R q' kk) (PkS.pack Simpl_field_l9 (y9_0, y9_1, y9_2, y9_3, y9_4, y9_5, y9_6, y9_7, y9_8, ())) kk = (fun (kexit2 : Int → Int → Int → (List Bool) → (List Int) → (List ByteArray) → Option R) => (bif (decide (y9_3 ≤ y9_1)) then (bif decide (0 ≤ y9_3) then (bif decide (y9_3 < (y9_6.length : Int)) then impl_field_l9 n y9_0 y9_1 y9_2 (IntKind.wrap .i64 (y9_3 + y9_2)) y9_4 y9_5 (y9_6.set (Int.toNat y9_3) true) y9_7 y9_8 kexit2 else none) else none) else kexit2 y9_0 y9_4 y9_5 y9_6 y9_7 y9_8)) (fun r0 r1 r2 r3 r4 r5 => kk (.exit 2) (PkS.pack Timpl_field_l9_0 (r0, r1, r2, r3, r4, r5, ()))) := by kernel_rfl
theorem leimpl_field_l9 : LoopEq tt sig (fun n => mkK [(37, Kstrings_Split @strings_Split n), (38, Kimpl_item @impl_item n)]) (fun n => mkL (mkK [(37, Kstrings_Split @strings_Split n), (38, Kimpl_item @impl_item n)]) []) Dimpl_field_l9 Simpl_field_l9 (loopIn 9 (bodyOf Tryz.f21)) (Pimpl_field_l9 @impl_field_l9) where
  zero R q kk := by unfold Pimpl_field_l9; cases (PkS.un Simpl_field_l9 q) <;> rfl
  succ n R q kk := by
    unfold Pimpl_field_l9
    cases h : (PkS.un Simpl_field_l9 q) with
    | none => rfl
    | some d =>
      obtain ⟨y9_0, y9_1, y9_2, y9_3, y9_4, y9_5, y9_6, y9_7, y9_8, u⟩ := (d : Int × Int × Int × Int × Int × Int × (List Bool) × (List Int) × (List ByteArray) × Unit)
      have hp := PkS.un_pack h
      subst hp
      exact (eimpl_field_l9 @strings_Split @impl_item @impl_field_l9 n y9_0 y9_1 y9_2 y9_3 y9_4 y9_5 y9_6 y9_7 y9_8 kk).symm
theorem nlimpl_field_l9 : ∀ n, NatLP (Pimpl_field_l9 @impl_field_l9 n) := leimpl_field_l9.nat (fun n => mkK_nat (cimpl_field n)) fun n => mkL_nat (mkK_nat (cimpl_field n)) (l := []) trivial
theorem inimpl_field_l9 (n : Nat) (R : Type) : LoopsOk Tryz.prog (mkL (mkK [(37, Kstrings_Split @strings_Split n), (38, Kimpl_item @impl_item n)]) [] R) (loopIn 9 (bodyOf Tryz.f21)) := .eq (l := []) (by kernel_rfl) trivial
theorem lkimpl_field_l9 (n : Nat) (R : Type) (L0 : LK R) (h0 : ∀ id, firstRegion (loopIn 9 (bodyOf Tryz.f21)) = some id → L0 id = Dimpl_field_l9.oracle (mkK [(37, Kstrings_Split @strings_Split n), (38, Kimpl_item @impl_item n)] R) (Pimpl_field_l9 @impl_field_l9 n R)) : LoopOk Tryz.prog L0 (loopIn 9 (bodyOf Tryz.f21)) :=
  leimpl_field_l9.ok mixed ttok (fun n => mkK_nat (cimpl_field n)) (fun n => mkK_ok (cimpl_field n)) (fun n => inimpl_field_l9 n R) (mkK_nat (cimpl_field n)) h0
@[reducible] def Simpl_field_l3 : PkS := ⟨[.one (.int .i64), .one (.whole (100000, 0)), .one (.whole (100000, 1)), .one (.whole (100000, 2)), .one (.int .i64), .one (.int .i64), .one (.dead), .one (.dead)], [((100000, 0), .arr .bool), ((100000, 1), .arr (.int .i64)), ((100000, 2), .arr .str)]⟩
@[reducible] def Timpl_field_l3_0 : PkS := ⟨[.one (.ro (.int .i64)), .one (.bool), .one (.dead), .one (.dead)], []⟩
@[reducible] def Timpl_field_l3_1 : PkS := ⟨[.one (.whole (100000, 0)), .one (.whole (100000, 1)), .one (.dead), .one (.dead)], [((100000, 0), .arr .bool), ((100000, 1), .arr (.int .i64))]⟩
def Dimpl_field_l3 : LoopD := ⟨62, [1, 6, 7, 21, 22, 23], [.one .any, .one (.own .bool), .one (.own (.int .i64)), .one (.own .str), .one .any, .one .any, .skip, .skip], fun x => match x with
  | .ret => some ([4, 5], [.one (.ro (.int .i64)), .one .any, .skip, .skip])
  | .exit 0 => some ([6, 7], [.one (.own .bool), .one (.own (.int .i64)), .skip, .skip])
  | _ => none⟩
def Pimpl_field_l3 (g : ∀ {R : Type}, Nat → Int → Int → Int → (List Bool) → (List Int) → (List ByteArray) → ((List Int) → Bool → Option R) → ((List Bool) → (List Int) → Option R) → Option R) (n : Nat) : LPs := fun R q kk => match (PkS.un Simpl_field_l3 q : Option (Int × Int × Int × (List Bool) × (List Int) × (List ByteArray) × Unit)) with
  | some (y3_0, y3_1, y3_2, y3_3, y3_4, y3_5, _) => g n y3_0 y3_1 y3_2 y3_3 y3_4 y3_5 (fun r0 r1 => kk .ret (PkS.pack Timpl_field_l3_0 (r0, r1, ()))) (fun r0 r1 => kk (.exit 0) (PkS.pack Timpl_field_l3_1 (r0, r1, ())))
  | none => none
theorem eimpl_field_l3 (strings_Split : ∀ {R : Type}, Nat → ByteArray → ByteArray → ((List ByteArray) → Option R) → Option R) (impl_item : ∀ {R : Type}, Nat → ByteArray → Int → (Int → Int → Int → Bool → Option R) → Option R) (impl_field_l9 : ∀ {R : Type}, Nat → Int → Int → Int → Int → Int → Int → (List Bool) → (List Int) → (List ByteArray) → (Int → Int → Int → (List Bool) → (List Int) → (List ByteArray) → Option R) → Option R) (impl_field_l3 : ∀ {R : Type}, Nat → Int → Int → Int → (List Bool) → (List Int) → (List ByteArray) → ((List Int) → Bool → Option R) → ((List Bool) → (List Int) → Option R) → Option R) {R : Type} (n : Nat) (y3_0 : Int) (y3_1 : Int) (y3_2 : Int) (y3_3 : List Bool) (y3_4 : List Int) (y3_5 : List ByteArray) (kk : Ex → Pk → Option R) : Dimpl_field_l3.step tt sig (mkK [(37, Kstrings_Split @strings_Split n), (38, Kimpl_item @impl_item n)] R) (mkL (mkK [(37, Kstrings_Split @strings_Split n), (38, Kimpl_item @impl_item n)]) [(9, Dimpl_field_l9, Pimpl_field_l9 @impl_field_l9 n)] R) (loopIn 3 (bodyOf Tryz.f21)) (fun q' => Pimpl_field_l3 @impl_field_l3 n R q' kk) (PkS.pack Simpl_field_l3 (y3_0, y3_1, y3_2, y3_3, y3_4, y3_5, ())) kk = (fun (kret : (List Int) → Bool → Option R) (kexit0 : (List Bool) → (List Int) → Option R) => (bif (decide (y3_2 < y3_1)) then (bif decide (0 ≤ y3_2) then (bif decide (y3_2 < (y3_5.length : Int)) then (impl_item n (y3_5.getD (Int.toNat y3_2) ByteArray.empty) y3_0 fun r2 r3 r4 r5 => (bif (!r5) then kret ([] : List Int) false else (impl_field_l9 n y3_0 r3 r4 r2 y3_1 y3_2 y3_3 y3_4 y3_5 (fun r6 r7 r8 r9 r10 r11 => impl_field_l3 n r6 r7 (IntKind.wrap .i64 (r8 + 1)) r9 r10 r11 kret kexit0)))) else none) else none) else kexit0 y3_3 y3_4)) (fun r0 r1 => kk .ret (PkS.pack Timpl_field_l3_0 (r0, r1, ()))) (fun r0 r1 => kk (.exit 0) (PkS.pack Timpl_field_l3_1 (r0, r1, ()))) := by kernel_rfl
theorem leimpl_field_l3 : LoopEq tt sig (fun n => mkK [(37, Kstrings_Split @strings_Split n), (38, Kimpl_item @impl_item n)]) (fun n => mkL (mkK [(37, Kstrings_Split @strings_Split n), (38, Kimpl_item @impl_item n)]) [(9, Dimpl_field_l9, Pimpl_field_l9 @impl_field_l9 n)]) Dimpl_field_l3 Simpl_field_l3 (loopIn 3 (bodyOf Tryz.f21)) (Pimpl_field_l3 @impl_field_l3) where
  zero R q kk := by unfold Pimpl_field_l3; cases (PkS.un Simpl_field_l3 q) <;> rfl
  succ n R q kk := by
    unfold Pimpl_field_l3
    cases h : (PkS.un Simpl_field_l3 q) with
    | none => rfl
    | some d =>
      obtain ⟨y3_0, y3_1, y3_2, y3_3, y3_4, y3_5, u⟩ := (d : Int × Int × Int × (List Bool) × (List Int) × (List ByteArray) × Unit)
      have hp := PkS.un_pack h
      subst hp
      exact (eimpl_field_l3 @strings_Split @impl_item @impl_field_l9 @impl_field_l3 n y3_0 y3_1 y3_2 y3_3 y3_4 y3_5 kk).symm
theorem nlimpl_field_l3 : ∀ n, NatLP (Pimpl_field_l3 @impl_field_l3 n) := leimpl_field_l3.nat (fun n => mkK_nat (cimpl_field n)) fun n => mkL_nat (mkK_nat (cimpl_field n)) (l := [(9, Dimpl_field_l9, Pimpl_field_l9 @impl_field_l9 n)]) ⟨nlimpl_field_l9 n, trivial⟩
theorem inimpl_field_l3 (n : Nat) (R : Type) : LoopsOk Tryz.prog (mkL (mkK [(37, Kstrings_Split @strings_Split n), (38, Kimpl_item @impl_item n)]) [(9, Dimpl_field_l9, Pimpl_field_l9 @impl_field_l9 n)] R) (loopIn 3 (bodyOf Tryz.f21)) := .eq (l := [.lo (loopIn 9 (bodyOf Tryz.f21))]) (by kernel_rfl) ⟨(lkimpl_field_l9 n R _ (at_id (i := 9) (by kernel_rfl) rfl)), trivial⟩
theorem lkimpl_field_l3 (n : Nat) (R : Type) (L0 : LK R) (h0 : ∀ id, firstRegion (loopIn 3 (bodyOf Tryz.f21)) = some id → L0 id = Dimpl_field_l3.oracle (mkK [(37, Kstrings_Split @strings_Split n), (38, Kimpl_item @impl_item n)] R) (Pimpl_field_l3 @impl_field_l3 n R)) : LoopOk Tryz.prog L0 (loopIn 3 (bodyOf Tryz.f21)) :=
  leimpl_field_l3.ok mixed ttok (fun n => mkK_nat (cimpl_field n)) (fun n => mkK_ok (cimpl_field n)) (fun n => inimpl_field_l3 n R) (mkK_nat (cimpl_field n)) h0
@[reducible] def Simpl_field_l14 : PkS := ⟨[.one (.whole (100000, 0)), .one (.whole (100000, 1)), .one (.int .i64), .one (.int .i64), .one (.dead), .one (.dead)], [((100000, 0), .arr (.int .i64)), ((100000, 1), .arr .bool)]⟩
@[reducible] def Timpl_field_l14_0 : PkS := ⟨[.one (.whole (100000, 0)), .one (.dead), .one (.dead)], [((100000, 0), .arr (.int .i64))]⟩
def Dimpl_field_l14 : LoopD := ⟨62, [7, 48, 49, 50], [.one (.own (.int .i64)), .one (.own .bool), .one .any, .one .any, .skip, .skip], fun x => match x with
  | .exit 4 => some ([7], [.one (.own (.int .i64)), .skip, .skip])
  | _ => none⟩
def Pimpl_field_l14 (g : ∀ {R : Type}, Nat → Int → Int → (List Int) → (List Bool) → ((List Int) → Option R) → Option R) (n : Nat) : LPs := fun R q kk => match (PkS.un Simpl_field_l14 q : Option (Int × Int × (List Int) × (List Bool) × Unit)) with
  | some (y14_0, y14_1, y14_2, y14_3, _) => g n y14_0 y14_1 y14_2 y14_3 (fun r0 => kk (.exit 4) (PkS.pack Timpl_field_l14_0 (r0, ())))
  | none => none
theorem eimpl_field_l14 (strings_Split : ∀ {R : Type}, Nat → ByteArray → ByteArray → ((List ByteArray) → Option R) → Option R) (impl_item : ∀ {R : Type}, Nat → ByteArray → Int → (Int → Int → Int → Bool → Option R) → Option R) (impl_field_l9 : ∀ {R : Type}, Nat → Int → Int → Int → Int → Int → Int → (List Bool) → (List Int) → (List ByteArray) → (Int → Int → Int → (List Bool) → (List Int) → (List ByteArray) → Option R) → Option R) (impl_field_l3 : ∀ {R : Type}, Nat → Int → Int → Int → (List Bool) → (List Int) → (List ByteArray) → ((List Int) → Bool → Option R) → ((List Bool) → (List Int) → Option R) → Option R) (impl_field_l14 : ∀ {R : Type}, Nat → Int → Int → (List Int) → (List Bool) → ((List Int) → Option R) → Option R) {R : Type} (n : Nat) (y14_0 : Int) (y14_1 : Int) (y14_2 : List Int) (y14_3 : List Bool) (kk : Ex → Pk → Option R) : Dimpl_field_l14.step tt sig (mkK [(37, Kstrings_Split @strings_Split n), (38, Kimpl_item @impl_item n)] R) (mkL (mkK [(37, Kstrings_Split @strings_Split n), (38, Kimpl_item @impl_item n)]) [(9, Dimpl_field_l9, Pimpl_field_l9 @impl_field_l9 n), (3, Dimpl_field_l3, Pimpl_field_l3 @impl_field_l3 n)] R) (loopIn 14 (bodyOf Tryz.f21)) (fun q' => Pimpl_field_l14 @impl_field_l14 n R q' kk) (PkS.pack Simpl_field_l14 (y14_0, y14_1, y14_2, y14_3, ())) kk = (fun (kexit4 : (List Int) → Option R) => (bif (decide (y14_1 < y14_0)) then (bif decide (0 ≤ y14_1) then (bif decide (y14_1 < (y14_3.length : Int)) then (bif (y14_3.getD (Int.toNat y14_1) false) then (bif decide (y14_2.length + [y14_1].length ≤ LIM) then impl_field_l14 n y14_0 (IntKind.wrap .i64 (y14_1 + 1)) (y14_2 ++ [y14_1]) y14_3 kexit4 else none) else impl_field_l14 n y14_0 (IntKind.wrap .i64 (y14_1 + 1)) y14_2 y14_3 kexit4) else none) else none) else kexit4 y14_2)) (fun r0 => kk (.exit 4) (PkS.pack Timpl_field_l14_0 (r0, ()))) := by kernel_rfl
theorem leimpl_field_l14 : LoopEq tt sig (fun n => mkK [(37, Kstrings_Split @strings_Split n), (38, Kimpl_item @impl_item n)]) (fun n => mkL (mkK [(37, Kstrings_Split @strings_Split n), (38, Kimpl_item @impl_item n)]) [(9, Dimpl_field_l9, Pimpl_field_l9 @impl_field_l9 n), (3, Dimpl_field_l3, Pimpl_field_l3 @impl_field_l3 n)]) Dimpl_field_l14 Simpl_field_l14 (loopIn 14 (bodyOf Tryz.f21)) (Pimpl_field_l14 @impl_field_l14) where
  zero R q kk := by unfold Pimpl_field_l14; cases (PkS.un Simpl_field_l14 q) <;> rfl
  succ n R q kk := by
    unfold Pimpl_field_l14
    cases h : (PkS.un Simpl_field_l14 q) with
    | none => rfl
    | some d =>
      obtain ⟨y14_0, y14_1, y14_2, y14_3, u⟩ := (d : Int × Int × (List Int) × (List Bool) × Unit)
      have hp := PkS.un_pack h
      subst hp
      exact (eimpl_field_l14 @strings_Split @impl_item @impl_field_l9 @impl_field_l3 @impl_field_l14 n y14_0 y14_1 y14_2 y14_3 kk).symm
theorem nlimpl_field_l14 : ∀ n, NatLP (Pimpl_field_l14 @impl_field_l14 n) := leimpl_field_l14.nat (fun n => mkK_nat (cimpl_field n)) fun n => mkL_nat (mkK_nat (cimpl_field n)) (l := [(9, Dimpl_field_l9, Pimpl_field_l9 @impl_field_l9 n), (3, Dimpl_field_l3, Pimpl_field_l3 @impl_field_l3 n)]) ⟨nlimpl_field_l9 n, ⟨nlimpl_field_l3 n, trivial⟩⟩
theorem inimpl_field_l14 (n : Nat) (R : Type) : LoopsOk Tryz.prog (mkL (mkK [(37, Kstrings_Split @strings_Split n), (38, Kimpl_item @impl_item n)]) [(9, Dimpl_field_l9, Pimpl_field_l9 @impl_field_l9 n), (3, Dimpl_field_l3, Pimpl_field_l3 @impl_field_l3 n)] R) (loopIn 14 (bodyOf Tryz.f21)) := .eq (l := []) (by kernel_rfl) trivial
theorem lkimpl_field_l14 (n : Nat) (R : Type) (L0 : LK R) (h0 : ∀ id, firstRegion (loopIn 14 (bodyOf Tryz.f21)) = some id → L0 id = Dimpl_field_l14.oracle (mkK [(37, Kstrings_Split @strings_Split n), (38, Kimpl_item @impl_item n)] R) (Pimpl_field_l14 @impl_field_l14 n R)) : LoopOk Tryz.prog L0 (loopIn 14 (bodyOf Tryz.f21)) :=
  leimpl_field_l14.ok mixed ttok (fun n => mkK_nat (cimpl_field n)) (fun n => mkK_ok (cimpl_field n)) (fun n => inimpl_field_l14 n R) (mkK_nat (cimpl_field n)) h0
@[reducible] def Simpl_field : PkS := ⟨[.one (.str), .one (.int .i64)], []⟩
@[reducible] def Timpl_field : PkS := ⟨[.tup [(false, [.ro (.int .i64)]), (false, [.bool])], .one (.dead), .one (.dead)], []⟩
def Himpl_field : List Sh := [.tup [(false, [(.ro (.int .i64))]), (false, [.any])], .skip, .skip]
def Kimpl_field (g : ∀ {R : Type}, Nat → ByteArray → Int → ((List Int) → Bool → Option R) → Option R) (n : Nat) : KPs := fun R p k => match (PkS.un Simpl_field p : Option (ByteArray × Int × Unit)) with
  | some (x0, x1, _) => g n x0 x1 (fun r0 r1 => k (PkS.pack Timpl_field (r0, r1, ())))
  | none => none
theorem eimpl_field (strings_Split : ∀ {R : Type}, Nat → ByteArray → ByteArray → ((List ByteArray) → Option R) → Option R) (impl_item : ∀ {R : Type}, Nat → ByteArray → Int → (Int → Int → Int → Bool → Option R) → Option R) (impl_field_l9 : ∀ {R : Type}, Nat → Int → Int → Int → Int → Int → Int → (List Bool) → (List Int) → (List ByteArray) → (Int → Int → Int → (List Bool) → (List Int) → (List ByteArray) → Option R) → Option R) (impl_field_l3 : ∀ {R : Type}, Nat → Int → Int → Int → (List Bool) → (List Int) → (List ByteArray) → ((List Int) → Bool → Option R) → ((List Bool) → (List Int) → Option R) → Option R) (impl_field_l14 : ∀ {R : Type}, Nat → Int → Int → (List Int) → (List Bool) → ((List Int) → Option R) → Option R) {R : Type} (n : Nat) (x0 : ByteArray) (x1 : Int) (k : Pk → Option R) : evF tt sig (mkK [(37, Kstrings_Split @strings_Split n), (38, Kimpl_item @impl_item n)] R) (mkL (mkK [(37, Kstrings_Split @strings_Split n), (38, Kimpl_item @impl_item n)]) [(9, Dimpl_field_l9, Pimpl_field_l9 @impl_field_l9 n), (3, Dimpl_field_l3, Pimpl_field_l3 @impl_field_l3 n), (14, Dimpl_field_l14, Pimpl_field_l14 @impl_field_l14 n)] R) Tryz.f21 Himpl_field (PkS.pack Simpl_field (x0, x1, ())) k = (fun (k : (List Int) → Bool → Option R) => (bif decide (0 ≤ x1) then (bif decide (x1 ≤ x1) then (bif decide (x1 ≤ 1099511627776) then (strings_Split n x0 (ByteArray.mk #[44]) fun r1 => (impl_field_l3 n x1 (r1.length : Int) 0 (List.replicate (Int.toNat x1) false) ([] : List Int) r1 (fun r12 r13 => k r12 r13) (fun r14 r15 => (impl_field_l14 n (r14.length : Int) 0 r15 r14 (fun r16 => k r16 true))))) else none) else none) else none)) (fun r0 r1 => k (PkS.pack Timpl_field (r0, r1, ()))) := by kernel_rfl
theorem okimpl_field (n : Nat) : FnOk Tryz.prog 21 (Kimpl_field @impl_field n) := by
  refine fn_ok (sig := sig) mixed ttok (mkK_nat (cimpl_field n)) (mkK_ok (cimpl_field n)) (mkL_nat (mkK_nat (cimpl_field n)) (l := [(9, Dimpl_field_l9, Pimpl_field_l9 @impl_field_l9 n), (3, Dimpl_field_l3, Pimpl_field_l3 @impl_field_l3 n), (14, Dimpl_field_l14, Pimpl_field_l14 @impl_field_l14 n)]) ⟨nlimpl_field_l9 n, ⟨nlimpl_field_l3 n, ⟨nlimpl_field_l14 n, trivial⟩⟩⟩) (fn := Tryz.f21) (c := bodyOf Tryz.f21) (by kernel_rfl) (by kernel_rfl) (by kernel_rfl) (.eq (l := [.lo (loopIn 3 (bodyOf Tryz.f21)), .lo (loopIn 14 (bodyOf Tryz.f21))]) (by kernel_rfl) ⟨(lkimpl_field_l3 n _ _ (at_id (i := 3) (by kernel_rfl) rfl)), ⟨(lkimpl_field_l14 n _ _ (at_id (i := 14) (by kernel_rfl) rfl)), trivial⟩⟩) (shs := Himpl_field) (S := Simpl_field) (h1 := by kernel_rfl) fun R p k => ?_
  unfold Kimpl_field
  cases h : (PkS.un Simpl_field p) with
  | none => rfl
  | some d =>
    obtain ⟨x0, x1, u⟩ := (d : ByteArray × Int × Unit)
    have hp := PkS.un_pack h
    subst hp
    exact (eimpl_field @strings_Split @impl_item @impl_field_l9 @impl_field_l3 @impl_field_l14 n x0 x1 k).symm

/-! ### loop.example/g00269/impl.ReadCron -/
theorem cimpl_ReadCron (n : Nat) : AllOk Tryz.prog [(20, Kstrings_SplitN @strings_SplitN n), (15, Kimpl_bounds @impl_bounds n), (21, Kimpl_field @impl_field n)] := ⟨okstrings_SplitN n, ⟨okimpl_bounds n, ⟨okimpl_field n, trivial⟩⟩⟩
@[reducible] def Simpl_ReadCron_l5 : PkS := ⟨[.one (.box (100000, 3) 0), .one (.whole (100000, 4)), .one (.whole (100000, 5)), .one (.int .i64), .one (.int .i64), .one (.dead)], [((100000, 0), .arr (.int .i64)), ((100000, 1), .arr (.int .i64)), ((100000, 2), .arr (.int .i64)), ((100000, 3), .box [.whole (100000, 0), .whole (100000, 1), .whole (100000, 2)]), ((100000, 4), .arr (.sl (.int .i64))), ((100000, 5), .arr .str)]⟩
@[reducible] def Timpl_ReadCron_l5_0 : PkS := ⟨[.one (.box (100000, 3) 0), .one (.bool), .one (.dead)], [((100000, 0), .arr (.int .i64)), ((100000, 1), .arr (.int .i64)), ((100000, 2), .arr (.int .i64)), ((100000, 3), .box [.whole (100000, 0), .whole (100000, 1), .whole (100000, 2)])]⟩
@[reducible] def Timpl_ReadCron_l5_1 : PkS := ⟨[.one (.box (100000, 3) 0), .one (.whole (100000, 4)), .one (.dead)], [((100000, 0), .arr (.int .i64)), ((100000, 1), .arr (.int .i64)), ((100000, 2), .arr (.int .i64)), ((100000, 3), .box [.whole (100000, 0), .whole (100000, 1), .whole (100000, 2)]), ((100000, 4), .arr (.sl (.int .i64)))]⟩
def Dimpl_ReadCron_l5 : LoopD := ⟨53, [2, 5, 19, 20, 21], [.box [(.own (.int .i64)), (.own (.int .i64)), (.own (.int .i64))], .one (.own (.sl (.int .i64))), .one (.own .str), .one .any, .one .any, .skip], fun x => match x with
  | .ret => some ([2, 3], [.box [(.own (.int .i64)), (.own (.int .i64)), (.own (.int .i64))], .one .any, .skip])
  | .exit 0 => some ([2, 5], [.box [(.own (.int .i64)), (.own (.int .i64)), (.own (.int .i64))], .one (.own (.sl (.int .i64))), .skip])
  | _ => none⟩
def Pimpl_ReadCron_l5 (g : ∀ {R : Type}, Nat → Int → Int → (List Int) → (List Int) → (List Int) → (List (List Int)) → (List ByteArray) → (Bool → (List Int) → (List Int) → (List Int) → Option R) → ((List Int) → (List Int) → (List Int) → (List (List Int)) → Option R) → Option R) (n : Nat) : LPs := fun R q kk => match (PkS.un Simpl_ReadCron_l5 q : Option (Int × Int × (List Int) × (List Int) × (List Int) × (List (List Int)) × (List ByteArray) × Unit)) with
  | some (y5_0, y5_1, y5_2, y5_3, y5_4, y5_5, y5_6, _) => g n y5_0 y5_1 y5_2 y5_3 y5_4 y5_5 y5_6 (fun r0 r1 r2 r3 => kk .ret (PkS.pack Timpl_ReadCron_l5_0 (r0, r1, r2, r3, ()))) (fun r0 r1 r2 r3 => kk (.exit 0) (PkS.pack Timpl_ReadCron_l5_1 (r0, r1, r2, r3, ())))
  | none => none
theorem eimpl_ReadCron_l5 (strings_SplitN : ∀ {R : Type}, Nat → ByteArray → ByteArray → Int → ((List ByteArray) → Option R) → Option R) (impl_bounds : ∀ {R : Type}, Nat → ((List Int) → Option R) → Option R) (impl_field : ∀ {R : Type}, Nat → ByteArray → Int → ((List Int) → Bool → Option R) → Option R) (impl_ReadCron_l5 : ∀ {R : Type}, Nat → Int → Int → (List Int) → (List Int) → (List Int) → (List (List Int)) → (List ByteArray) → (Bool → (List Int) → (List Int) → (List Int) → Option R) → ((List Int) → (List Int) → (List Int) → (List (List Int)) → Option R) → Option R) {R : Type} (n : Nat) (y5_0 : Int) (y5_1 : Int) (y5_2 : List Int) (y5_3 : List Int) (y5_4 : List Int) (y5_5 : List (List Int)) (y5_6 : List ByteArray) (kk : Ex → Pk → Option R) : Dimpl_ReadCron_l5.step tt sig (mkK [(20, Kstrings_SplitN @strings_SplitN n), (15, Kimpl_bounds @impl_bounds n), (21, Kimpl_field @impl_field n)] R) (mkL (mkK [(20, Kstrings_SplitN @strings_SplitN n), (15, Kimpl_bounds @impl_bounds n), (21, Kimpl_field @impl_field n)]) [] R) (loopIn 5 (bodyOf Tryz.f8)) (fun q' => Pimpl_ReadCron_l5 @impl_ReadCron_l5 n R q' kk) (PkS.pack Simpl_ReadCron_l5 (y5_0, y5_1, y5_2, y5_3, y5_4, y5_5, y5_6, ())) kk = (fun (kret : Bool → (List Int) → (List Int) → (List Int) → Option R) (kexit0 : (List Int) → (List Int) → (List Int) → (List (List Int)) → Option R) => (bif (decide (y5_1 < y5_0)) then (bif decide (0 ≤ y5_1) then (bif decide (y5_1 < (y5_6.length : Int)) then (impl_bounds n fun r3 => (bif decide (0 ≤ y5_1) then (bif decide (y5_1 < (r3.length : Int)) then (impl_field n (y5_6.getD (Int.toNat y5_1) ByteArray.empty) (r3.getD (Int.toNat y5_1) 0) fun r4 r5 => (bif (!r5) then kret false ([] : List Int) ([] : List Int) ([] : List Int) else (bif decide (y5_5.length + [r4].length ≤ LIM) then impl_ReadCron_l5 n y5_0 (IntKind.wrap .i64 (y5_1 + 1)) y5_2 y5_3 y5_4 (y5_5 ++ [r4]) y5_6 kret kexit0 else none))) else none) else none)) else none) else none) else kexit0 y5_2 y5_3 y5_4 y5_5)) (fun r0 r1 r2 r3 => kk .ret (PkS.pack Timpl_ReadCron_l5_0 (r0, r1, r2, r3, ()))) (fun r0 r1 r2 r3 => kk (.exit 0) (PkS.pack Timpl_ReadCron_l5_1 (r0, r1, r2, r3, ()))) := by kernel_rfl
theorem leimpl_ReadCron_l5 : LoopEq tt sig (fun n => mkK [(20, Kstrings_SplitN @strings_SplitN n), (15, Kimpl_bounds @impl_bounds n), (21, Kimpl_field @impl_field n)]) (fun n => mkL (mkK [(20, Kstrings_SplitN @strings_SplitN n), (15, Kimpl_bounds @impl_bounds n), (21, Kimpl_field @impl_field n)]) []) Dimpl_ReadCron_l5 Simpl_ReadCron_l5 (loopIn 5 (bodyOf Tryz.f8)) (Pimpl_ReadCron_l5 @impl_ReadCron_l5) where
  zero R q kk := by unfold Pimpl_ReadCron_l5; cases (PkS.un Simpl_ReadCron_l5 q) <;> rfl
  succ n R q kk := by
    unfold Pimpl_ReadCron_l5
    cases h : (PkS.un Simpl_ReadCron_l5 q) with
    | none => rfl
    | some d =>
      obtain ⟨y5_0, y5_1, y5_2, y5_3, y5_4, y5_5, y5_6, u⟩ := (d : Int × Int × (List Int) × (List Int) × (List Int) × (List (List Int)) × (List ByteArray) × Unit)
      have hp := PkS.un_pack h
      subst hp
      exact (eimpl_ReadCron_l5 @strings_SplitN @impl_bounds @impl_field @impl_ReadCron_l5 n y5_0 y5_1 y5_2 y5_3 y5_4 y5_5 y5_6 kk).symm
theorem nlimpl_ReadCron_l5 : ∀ n, NatLP (Pimpl_ReadCron_l5 @impl_ReadCron_l5 n) := leimpl_ReadCron_l5.nat (fun n => mkK_nat (cimpl_ReadCron n)) fun n => mkL_nat (mkK_nat (cimpl_ReadCron n)) (l := []) trivial
theorem inimpl_ReadCron_l5 (n : Nat) (R : Type) : LoopsOk Tryz.prog (mkL (mkK [(20, Kstrings_SplitN @strings_SplitN n), (15, Kimpl_bounds @impl_bounds n), (21, Kimpl_field @impl_field n)]) [] R) (loopIn 5 (bodyOf Tryz.f8)) := .eq (l := []) (by kernel_rfl) trivial
theorem lkimpl_ReadCron_l5 (n : Nat) (R : Type) (L0 : LK R) (h0 : ∀ id, firstRegion (loopIn 5 (bodyOf Tryz.f8)) = some id → L0 id = Dimpl_ReadCron_l5.oracle (mkK [(20, Kstrings_SplitN @strings_SplitN n), (15, Kimpl_bounds @impl_bounds n), (21, Kimpl_field @impl_field n)] R) (Pimpl_ReadCron_l5 @impl_ReadCron_l5 n R)) : LoopOk Tryz.prog L0 (loopIn 5 (bodyOf Tryz.f8)) :=
  leimpl_ReadCron_l5.ok mixed ttok (fun n => mkK_nat (cimpl_ReadCron n)) (fun n => mkK_ok (cimpl_ReadCron n)) (fun n => inimpl_ReadCron_l5 n R) (mkK_nat (cimpl_ReadCron n)) h0
@[reducible] def Simpl_ReadCron : PkS := ⟨[.one (.str)], []⟩
@[reducible] def Timpl_ReadCron : PkS := ⟨[.tup [(true, [.ro (.int .i64), .ro (.int .i64), .ro (.int .i64)]), (false, [.bool])], .one (.dead)], []⟩
def Himpl_ReadCron : List Sh := [.tup [(true, [(.ro (.int .i64)), (.ro (.int .i64)), (.ro (.int .i64))]), (false, [.any])], .skip]
def Kimpl_ReadCron (g : ∀ {R : Type}, Nat → ByteArray → ((List Int) → (List Int) → (List Int) → Bool → Option R) → Option R) (n : Nat) : KPs := fun R p k => match (PkS.un Simpl_ReadCron p : Option (ByteArray × Unit)) with
  | some (x0, _) => g n x0 (fun r0 r1 r2 r3 => k (PkS.pack Timpl_ReadCron (r0, r1, r2, r3, ())))
  | none => none
theorem eimpl_ReadCron (strings_SplitN : ∀ {R : Type}, Nat → ByteArray → ByteArray → Int → ((List ByteArray) → Option R) → Option R) (impl_bounds : ∀ {R : Type}, Nat → ((List Int) → Option R) → Option R) (impl_field : ∀ {R : Type}, Nat → ByteArray → Int → ((List Int) → Bool → Option R) → Option R) (impl_ReadCron_l5 : ∀ {R : Type}, Nat → Int → Int → (List Int) → (List Int) → (List Int) → (List (List Int)) → (List ByteArray) → (Bool → (List Int) → (List Int) → (List Int) → Option R) → ((List Int) → (List Int) → (List Int) → (List (List Int)) → Option R) → Option R) {R : Type} (n : Nat) (x0 : ByteArray) (k : Pk → Option R) : evF tt sig (mkK [(20, Kstrings_SplitN @strings_SplitN n), (15, Kimpl_bounds @impl_bounds n), (21, Kimpl_field @impl_field n)] R) (mkL (mkK [(20, Kstrings_SplitN @strings_SplitN n), (15, Kimpl_bounds @impl_bounds n), (21, Kimpl_field @impl_field n)]) [(5, Dimpl_ReadCron_l5, Pimpl_ReadCron_l5 @impl_ReadCron_l5 n)] R) Tryz.f8 Himpl_ReadCron (PkS.pack Simpl_ReadCron (x0, ())) k = (fun (k : (List Int) → (List Int) → (List Int) → Bool → Option R) => (strings_SplitN n x0 (ByteArray.mk #[32]) 7 fun r1 => (impl_bounds n fun r2 => (bif ((r1.length : Int) != (r2.length : Int)) then k ([] : List Int) ([] : List Int) ([] : List Int) false else (impl_ReadCron_l5 n (r1.length : Int) 0 ([] : List Int) ([] : List Int) ([] : List Int) ([] : List (List Int)) r1 (fun r6 r7 r8 r9 => k r7 r8 r9 r6) (fun r10 r11 r12 r13 => (bif decide (0 < (r13.length : Int)) then (bif decide (1 < (r13.length : Int)) then (bif decide (2 < (r13.length : Int)) then k (r13.getD 0 []) (r13.getD 1 []) (r13.getD 2 []) true else none) else none) else none))))))) (fun r0 r1 r2 r3 => k (PkS.pack Timpl_ReadCron (r0, r1, r2, r3, ()))) := by kernel_rfl
theorem okimpl_ReadCron (n : Nat) : FnOk Tryz.prog 8 (Kimpl_ReadCron @impl_ReadCron n) := by
  refine fn_ok (sig := sig) mixed ttok (mkK_nat (cimpl_ReadCron n)) (mkK_ok (cimpl_ReadCron n)) (mkL_nat (mkK_nat (cimpl_ReadCron n)) (l := [(5, Dimpl_ReadCron_l5, Pimpl_ReadCron_l5 @impl_ReadCron_l5 n)]) ⟨nlimpl_ReadCron_l5 n, trivial⟩) (fn := Tryz.f8) (c := bodyOf Tryz.f8) (by kernel_rfl) (by kernel_rfl) (by kernel_rfl) (.eq (l := [.lo (loopIn 5 (bodyOf Tryz.f8))]) (by kernel_rfl) ⟨(lkimpl_ReadCron_l5 n _ _ (at_id (i := 5) (by kernel_rfl) rfl)), trivial⟩) (shs := Himpl_ReadCron) (S := Simpl_ReadCron) (h1 := by kernel_rfl) fun R p k => ?_
  unfold Kimpl_ReadCron
  cases h : (PkS.un Simpl_ReadCron p) with
  | none => rfl
  | some d =>
    obtain ⟨x0, u⟩ := (d : ByteArray × Unit)
    have hp := PkS.un_pack h
    subst hp
    exact (eimpl_ReadCron @strings_SplitN @impl_bounds @impl_field @impl_ReadCron_l5 n x0 k).symm

/-! ### loop.example/g00269/laws.sameInts -/
theorem claws_sameInts (n : Nat) : AllOk Tryz.prog [] := trivial
@[reducible] def Slaws_sameInts_l4 : PkS := ⟨[.one (.ro (.int .i64)), .one (.ro (.int .i64)), .one (.int .i64), .one (.int .i64), .one (.dead), .one (.dead)], []⟩
@[reducible] def Tlaws_sameInts_l4_0 : PkS := ⟨[.one (.bool), .one (.dead), .one (.dead)], []⟩
@[reducible] def Tlaws_sameInts_l4_1 : PkS := ⟨[.one (.dead), .one (.dead)], []⟩
def Dlaws_sameInts_l4 : LoopD := ⟨26, [0, 1, 12, 13], [.one (.ro (.int .i64)), .one (.ro (.int .i64)), .one .any, .one .any, .skip, .skip], fun x => match x with
  | .ret => some ([4], [.one .any, .skip, .skip])
  | .exit 0 => some ([], [.skip, .skip])
  | _ => none⟩
def Plaws_sameInts_l4 (g : ∀ {R : Type}, Nat → (List Int) → (List Int) → Int → Int → (Bool → Option R) → (Option R) → Option R) (n : Nat) : LPs := fun R q kk => match (PkS.un Slaws_sameInts_l4 q : Option ((List Int) × (List Int) × Int × Int × Unit)) with
  | some (y4_0, y4_1, y4_2, y4_3, _) => g n y4_0 y4_1 y4_2 y4_3 (fun r0 => kk .ret (PkS.pack Tlaws_sameInts_l4_0 (r0, ()))) (kk (.exit 0) (PkS.pack Tlaws_sameInts_l4_1 ()))
  | none => none
theorem elaws_sameInts_l4 (laws_sameInts_l4 : ∀ {R : Type}, Nat → (List Int) → (List Int) → Int → Int → (Bool → Option R) → (Option R) → Option R) {R : Type} (n : Nat) (y4_0 : List Int) (y4_1 : List Int) (y4_2 : Int) (y4_3 : Int) (kk : Ex → Pk → Option R) : Dlaws_sameInts_l4.step tt sig (mkK [] R) (mkL (mkK []) [] R) (loopIn 4 (bodyOf Tryz.f22)) (fun q' => Plaws_sameInts_l4 @laws_sameInts_l4 n R q' kk) (PkS.pack Slaws_sameInts_l4 (y4_0, y4_1, y4_2, y4_3, ())) kk = (fun (kret : Bool → Option R) (kexit0 : Option R) => (bif (decide (y4_3 < y4_2)) then (bif decide (0 ≤ y4_3) then (bif decide (y4_3 < (y4_0.length : Int)) then (bif decide (0 ≤ y4_3) then (bif decide (y4_3 < (y4_1.length : Int)) then (bif ((y4_0.getD (Int.toNat y4_3) 0) != (y4_1.getD (Int.toNat y4_3) 0)) then kret false else laws_sameInts_l4 n y4_0 y4_1 y4_2 (IntKind.wrap .i64 (y4_3 + 1)) kret kexit0) else none) else none) else none) else none) else kexit0)) (fun r0 => kk .ret (PkS.pack Tlaws_sameInts_l4_0 (r0, ()))) (kk (.exit 0) (PkS.pack Tlaws_sameInts_l4_1 ())) := by kernel_rfl
theorem lelaws_sameInts_l4 : LoopEq tt sig (fun n => mkK []) (fun n => mkL (mkK []) []) Dlaws_sameInts_l4 Slaws_sameInts_l4 (loopIn 4 (bodyOf Tryz.f22)) (Plaws_sameInts_l4 @laws_sameInts_l4) where
  zero R q kk := by unfold Plaws_sameInts_l4; cases (PkS.un Slaws_sameInts_l4 q) <;> rfl
  succ n R q kk := by
    unfold Plaws_sameInts_l4
    cases h : (PkS.un Slaws_sameInts_l4 q) with
    | none => rfl
    | some d =>
      obtain ⟨y4_0, y4_1, y4_2, y4_3, u⟩ := (d : (List Int) × (List Int) × Int × Int × Unit)
      have hp := PkS.un_pack h
      subst hp
      exact (elaws_sameInts_l4 @laws_sameInts_l4 n y4_0 y4_1 y4_2 y4_3 kk).symm
theorem nllaws_sameInts_l4 : ∀ n, NatLP (Plaws_sameInts_l4 @laws_sameInts_l4 n) := lelaws_sameInts_l4.nat (fun n => mkK_nat (claws_sameInts n)) fun n => mkL_nat (mkK_nat (claws_sameInts n)) (l := []) trivial
theorem inlaws_sameInts_l4 (n : Nat) (R : Type) : LoopsOk Tryz.prog (mkL (mkK []) [] R) (loopIn 4 (bodyOf Tryz.f22)) := .eq (l := []) (by kernel_rfl) trivial
theorem lklaws_sameInts_l4 (n : Nat) (R : Type) (L0 : LK R) (h0 : ∀ id, firstRegion (loopIn 4 (bodyOf Tryz.f22)) = some id → L0 id = Dlaws_sameInts_l4.oracle (mkK [] R) (Plaws_sameInts_l4 @laws_sameInts_l4 n R)) : LoopOk Tryz.prog L0 (loopIn 4 (bodyOf Tryz.f22)) :=
  lelaws_sameInts_l4.ok mixed ttok (fun n => mkK_nat (claws_sameInts n)) (fun n => mkK_ok (claws_sameInts n)) (fun n => inlaws_sameInts_l4 n R) (mkK_nat (claws_sameInts n)) h0
@[reducible] def Slaws_sameInts : PkS := ⟨[.one (.ro (.int .i64)), .one (.ro (.int .i64))], []⟩
@[reducible] def Tlaws_sameInts : PkS := ⟨[.one (.bool), .one (.dead), .one (.dead)], []⟩
def Hlaws_sameInts : List Sh := [.one .any, .skip, .skip]
def Klaws_sameInts (g : ∀ {R : Type}, Nat → (List Int) → (List Int) → (Bool → Option R) → Option R) (n : Nat) : KPs := fun R p k => match (PkS.un Slaws_sameInts p : Option ((List Int) × (List Int) × Unit)) with
  | some (x0, x1, _) => g n x0 x1 (fun r0 => k (PkS.pack Tlaws_sameInts (r0, ())))
  | none => none
theorem elaws_sameInts (laws_sameInts_l4 : ∀ {R : Type}, Nat → (List Int) → (List Int) → Int → Int → (Bool → Option R) → (Option R) → Option R) {R : Type} (n : Nat) (x0 : List Int) (x1 : List Int) (k : Pk → Option R) : evF tt sig (mkK [] R) (mkL (mkK []) [(4, Dlaws_sameInts_l4, Plaws_sameInts_l4 @laws_sameInts_l4 n)] R) Tryz.f22 Hlaws_sameInts (PkS.pack Slaws_sameInts (x0, x1, ())) k = (fun (k : Bool → Option R) => (bif ((x0.length : Int) != (x1.length : Int)) then k false else (laws_sameInts_l4 n x0 x1 (x0.length : Int) 0 (fun r1 => k r1) (k true)))) (fun r0 => k (PkS.pack Tlaws_sameInts (r0, ()))) := by kernel_rfl
theorem oklaws_sameInts (n : Nat) : FnOk Tryz.prog 22 (Klaws_sameInts @laws_sameInts n) := by
  refine fn_ok (sig := sig) mixed ttok (mkK_nat (claws_sameInts n)) (mkK_ok (claws_sameInts n)) (mkL_nat (mkK_nat (claws_sameInts n)) (l := [(4, Dlaws_sameInts_l4, Plaws_sameInts_l4 @laws_sameInts_l4 n)]) ⟨nllaws_sameInts_l4 n, trivial⟩) (fn := Tryz.f22) (c := bodyOf Tryz.f22) (by kernel_rfl) (by kernel_rfl) (by kernel_rfl) (.eq (l := [.lo (loopIn 4 (bodyOf Tryz.f22))]) (by kernel_rfl) ⟨(lklaws_sameInts_l4 n _ _ (at_id (i := 4) (by kernel_rfl) rfl)), trivial⟩) (shs := Hlaws_sameInts) (S := Slaws_sameInts) (h1 := by kernel_rfl) fun R p k => ?_
  unfold Klaws_sameInts
  cases h : (PkS.un Slaws_sameInts p) with
  | none => rfl
  | some d =>
    obtain ⟨x0, x1, u⟩ := (d : (List Int) × (List Int) × Unit)
    have hp := PkS.un_pack h
    subst hp
    exact (elaws_sameInts @laws_sameInts_l4 n x0 x1 k).symm

/-! ### loop.example/g00269/laws.sameCrons -/
theorem claws_sameCrons (n : Nat) : AllOk Tryz.prog [(22, Klaws_sameInts @laws_sameInts n)] := ⟨oklaws_sameInts n, trivial⟩
@[reducible] def Slaws_sameCrons : PkS := ⟨[.agg [.ro (.int .i64), .ro (.int .i64), .ro (.int .i64)], .agg [.ro (.int .i64), .ro (.int .i64), .ro (.int .i64)]], []⟩
@[reducible] def Tlaws_sameCrons : PkS := ⟨[.one (.bool), .one (.dead), .one (.dead)], []⟩
def Hlaws_sameCrons : List Sh := [.one .any, .skip, .skip]
def Klaws_sameCrons (g : ∀ {R : Type}, Nat → (List Int) → (List Int) → (List Int) → (List Int) → (List Int) → (List Int) → (Bool → Option R) → Option R) (n : Nat) : KPs := fun R p k => match (PkS.un Slaws_sameCrons p : Option ((List Int) × (List Int) × (List Int) × (List Int) × (List Int) × (List Int) × Unit)) with
  | some (x0, x1, x2, x3, x4, x5, _) => g n x0 x1 x2 x3 x4 x5 (fun r0 => k (PkS.pack Tlaws_sameCrons (r0, ())))
  | none => none
theorem elaws_sameCrons (laws_sameInts : ∀ {R : Type}, Nat → (List Int) → (List Int) → (Bool → Option R) → Option R) {R : Type} (n : Nat) (x0 : List Int) (x1 : List Int) (x2 : List Int) (x3 : List Int) (x4 : List Int) (x5 : List Int) (k : Pk → Option R) : evF tt sig (mkK [(22, Klaws_sameInts @laws_sameInts n)] R) (mkL (mkK [(22, Klaws_sameInts @laws_sameInts n)]) [] R) Tryz.f9 Hlaws_sameCrons (PkS.pack Slaws_sameCrons (x0, x1, x2, x3, x4, x5, ())) k = (fun (k : Bool → Option R) => (laws_sameInts n x0 x3 fun r1 => (bif r1 then (laws_sameInts n x1 x4 fun r2 => (bif r2 then (laws_sameInts n x2 x5 fun r3 => k r3) else k false)) else k false))) (fun r0 => k (PkS.pack Tlaws_sameCrons (r0, ()))) := by kernel_rfl
theorem oklaws_sameCrons (n : Nat) : FnOk Tryz.prog 9 (Klaws_sameCrons @laws_sameCrons n) := by
  refine fn_ok (sig := sig) mixed ttok (mkK_nat (claws_sameCrons n)) (mkK_ok (claws_sameCrons n)) (mkL_nat (mkK_nat (claws_sameCrons n)) (l := []) trivial) (fn := Tryz.f9) (c := bodyOf Tryz.f9) (by kernel_rfl) (by kernel_rfl) (by kernel_rfl) (.eq (l := []) (by kernel_rfl) trivial) (shs := Hlaws_sameCrons) (S := Slaws_sameCrons) (h1 := by kernel_rfl) fun R p k => ?_
  unfold Klaws_sameCrons
  cases h : (PkS.un Slaws_sameCrons p) with
  | none => rfl
  | some d =>
    obtain ⟨x0, x1, x2, x3, x4, x5, u⟩ := (d : (List Int) × (List Int) × (List Int) × (List Int) × (List Int) × (List Int) × Unit)
    have hp := PkS.un_pack h
    subst hp
    exact (elaws_sameCrons @laws_sameInts n x0 x1 x2 x3 x4 x5 k).symm

/-! ### (*loop.example/g00269/spec.l1Cur).of -/
theorem cspec_l1Cur_of (n : Nat) : AllOk Tryz.prog [(39, Kspec_l1Cur_pick @spec_l1Cur_pick n)] := ⟨okspec_l1Cur_pick n, trivial⟩
@[reducible] def Sspec_l1Cur_of : PkS := ⟨[.one (.box (200000, 0) 0), .one (.ro .str)], [((200000, 0), .box [.ro (.int .u8), .int .i64, .int .u64])]⟩
@[reducible] def Tspec_l1Cur_of : PkS := ⟨[.one (.str), .one (.box (300000, 0) 0), .one (.dead)], [((300000, 0), .box [.ro (.int .u8), .int .i64, .int .u64])]⟩
def Hspec_l1Cur_of : List Sh := [.one .any, .box [(.ro (.int .u8)), .any, .any], .skip]
def Kspec_l1Cur_of (g : ∀ {R : Type}, Nat → (List ByteArray) → (List Int) → Int → Int → (ByteArray → (List Int) → Int → Int → Option R) → Option R) (n : Nat) : KPs := fun R p k => match (PkS.un Sspec_l1Cur_of p : Option ((List ByteArray) × (List Int) × Int × Int × Unit)) with
  | some (x0, x1, x2, x3, _) => g n x0 x1 x2 x3 (fun r0 r1 r2 r3 => k (PkS.pack Tspec_l1Cur_of (r0, r1, r2, r3, ())))
  | none => none
theorem espec_l1Cur_of (spec_l1Cur_pick : ∀ {R : Type}, Nat → Int → (List Int) → Int → Int → (Int → (List Int) → Int → Int → Option R) → Option R) {R : Type} (n : Nat) (x0 : List ByteArray) (x1 : List Int) (x2 : Int) (x3 : Int) (k : Pk → Option R) : evF tt sig (mkK [(39, Kspec_l1Cur_pick @spec_l1Cur_pick n)] R) (mkL (mkK [(39, Kspec_l1Cur_pick @spec_l1Cur_pick n)]) [] R) Tryz.f23 Hspec_l1Cur_of (PkS.pack Sspec_l1Cur_of (x0, x1, x2, x3, ())) k = (fun (k : ByteArray → (List Int) → Int → Int → Option R) => (spec_l1Cur_pick n (x0.length : Int) x1 x2 x3 fun r1 r2 r3 r4 => (bif decide (0 ≤ r1) then (bif decide (r1 < (x0.length : Int)) then k (x0.getD (Int.toNat r1) ByteArray.empty) r2 r3 r4 else none) else none))) (fun r0 r1 r2 r3 => k (PkS.pack Tspec_l1Cur_of (r0, r1, r2, r3, ()))) := by kernel_rfl
theorem okspec_l1Cur_of (n : Nat) : FnOk Tryz.prog 23 (Kspec_l1Cur_of @spec_l1Cur_of n) := by
  refine fn_ok (sig := sig) mixed ttok (mkK_nat (cspec_l1Cur_of n)) (mkK_ok (cspec_l1Cur_of n)) (mkL_nat (mkK_nat (cspec_l1Cur_of n)) (l := []) trivial) (fn := Tryz.f23) (c := bodyOf Tryz.f23) (by kernel_rfl) (by kernel_rfl) (by kernel_rfl) (.eq (l := []) (by kernel_rfl) trivial) (shs := Hspec_l1Cur_of) (S := Sspec_l1Cur_of) (h1 := by kernel_rfl) fun R p k => ?_
  unfold Kspec_l1Cur_of
  cases h : (PkS.un Sspec_l1Cur_of p) with
  | none => rfl
  | some d =>
    obtain ⟨x0, x1, x2, x3, u⟩ := (d : (List ByteArray) × (List Int) × Int × Int × Unit)
    have hp := PkS.un_pack h
    subst hp
    exact (espec_l1Cur_of @spec_l1Cur_pick n x0 x1 x2 x3 k).symm

/-! ### (*loop.example/g00269/spec.l1Cur).spoilt -/
theorem cspec_l1Cur_spoilt (n : Nat) : AllOk Tryz.prog [(39, Kspec_l1Cur_pick @spec_l1Cur_pick n)] := ⟨okspec_l1Cur_pick n, trivial⟩
@[reducible] def Sspec_l1Cur_spoilt_l2 : PkS := ⟨[.one (.box (100000, 0) 0), .one (.str), .one (.str), .one (.int .i64), .one (.box (100000, 0) 0), .one (.dead), .one (.dead)], [((100000, 0), .box [.ro (.int .u8), .int .i64, .int .u64])]⟩
@[reducible] def Tspec_l1Cur_spoilt_l2_0 : PkS := ⟨[.one (.str), .one (.box (100000, 0) 0), .one (.dead), .one (.dead)], [((100000, 0), .box [.ro (.int .u8), .int .i64, .int .u64])]⟩
def Dspec_l1Cur_spoilt_l2 : LoopD := ⟨67, [0, 1, 2, 7], [.box [(.ro (.int .u8)), .any, .any], .one .any, .one .any, .one .any, .box [(.ro (.int .u8)), .any, .any], .skip, .skip], fun x => match x with
  | .exit 0 => some ([1], [.one .any, .box [(.ro (.int .u8)), .any, .any], .skip, .skip])
  | _ => none⟩
def Pspec_l1Cur_spoilt_l2 (g : ∀ {R : Type}, Nat → ByteArray → ByteArray → Int → (List Int) → Int → Int → (ByteArray → (List Int) → Int → Int → Option R) → Option R) (n : Nat) : LPs := fun R q kk => match (PkS.un Sspec_l1Cur_spoilt_l2 q : Option (ByteArray × ByteArray × Int × (List Int) × Int × Int × Unit)) with
  | some (y2_0, y2_1, y2_2, y2_3, y2_4, y2_5, _) => g n y2_0 y2_1 y2_2 y2_3 y2_4 y2_5 (fun r0 r1 r2 r3 => kk (.exit 0) (PkS.pack Tspec_l1Cur_spoilt_l2_0 (r0, r1, r2, r3, ())))
  | none => none
theorem espec_l1Cur_spoilt_l2 (spec_l1Cur_pick : ∀ {R : Type}, Nat → Int → (List Int) → Int → Int → (Int → (List Int) → Int → Int → Option R) → Option R) (spec_l1Cur_spoilt_l2 : ∀ {R : Type}, Nat → ByteArray → ByteArray → Int → (List Int) → Int → Int → (ByteArray → (List Int) → Int → Int → Option R) → Option R) {R : Type} (n : Nat) (y2_0 : ByteArray) (y2_1 : ByteArray) (y2_2 : Int) (y2_3 : List Int) (y2_4 : Int) (y2_5 : Int) (kk : Ex → Pk → Option R) : Dspec_l1Cur_spoilt_l2.step tt sig (mkK [(39, Kspec_l1Cur_pick @spec_l1Cur_pick n)] R) (mkL (mkK [(39, Kspec_l1Cur_pick @spec_l1Cur_pick n)]) [] R) (loopIn 2 (bodyOf Tryz.f25)) (fun q' => Pspec_l1Cur_spoilt_l2 @spec_l1Cur_spoilt_l2 n R q' kk) (PkS.pack Sspec_l1Cur_spoilt_l2 (y2_0, y2_1, y2_2, y2_3, y2_4, y2_5, ())) kk = (fun (kexit0 : ByteArray → (List Int) → Int → Int → Option R) => (bif (decide (y2_2 > 0)) then (bif (decide ((y2_0.size : Int) > 0)) then (spec_l1Cur_pick n (y2_0.size : Int) y2_3 y2_4 y2_5 fun r5 r6 r7 r8 => (spec_l1Cur_pick n (y2_1.size : Int) r6 r7 r8 fun r9 r10 r11 r12 => (bif decide (0 ≤ r9) then (bif decide (r9 < (y2_1.size : Int)) then (spec_l1Cur_pick n 3 r10 r11 r12 fun r13 r14 r15 r16 => (bif (r13 == 0) then (bif decide (0 ≤ r5) then (bif decide (r5 ≤ (y2_0.size : Int)) then (bif decide ((ByteArray.extract y2_0 0 (Int.toNat r5)).size + (bytesOf ([((y2_1.data.getD (Int.toNat r9) 0).toNat : Int)])).size ≤ STR) then (bif decide (0 ≤ r5) then (bif decide (r5 ≤ (y2_0.size : Int)) then (bif decide ((y2_0.size : Int) ≤ (y2_0.size : Int)) then (bif decide (((ByteArray.extract y2_0 0 (Int.toNat r5)) ++ (bytesOf ([((y2_1.data.getD (Int.toNat r9) 0).toNat : Int)]))).size + (ByteArray.extract y2_0 (Int.toNat r5) (Int.toNat (y2_0.size : Int))).size ≤ STR) then spec_l1Cur_spoilt_l2 n (((ByteArray.extract y2_0 0 (Int.toNat r5)) ++ (bytesOf ([((y2_1.data.getD (Int.toNat r9) 0).toNat : Int)]))) ++ (ByteArray.extract y2_0 (Int.toNat r5) (Int.toNat (y2_0.size : Int)))) y2_1 (IntKind.wrap .i64 (y2_2 - 1)) r14 r15 r16 kexit0 else none) else none) else none) else none) else none) else none) else none) else (bif (r13 == 1) then (bif decide (0 ≤ r5) then (bif decide (r5 ≤ (y2_0.size : Int)) then (bif decide ((ByteArray.extract y2_0 0 (Int.toNat r5)).size + (bytesOf ([((y2_1.data.getD (Int.toNat r9) 0).toNat : Int)])).size ≤ STR) then (bif decide (0 ≤ (IntKind.wrap .i64 (r5 + 1))) then (bif decide ((IntKind.wrap .i64 (r5 + 1)) ≤ (y2_0.size : Int)) then (bif decide ((y2_0.size : Int) ≤ (y2_0.size : Int)) then (bif decide (((ByteArray.extract y2_0 0 (Int.toNat r5)) ++ (bytesOf ([((y2_1.data.getD (Int.toNat r9) 0).toNat : Int)]))).size + (ByteArray.extract y2_0 (Int.toNat (IntKind.wrap .i64 (r5 + 1))) (Int.toNat (y2_0.size : Int))).size ≤ STR) then spec_l1Cur_spoilt_l2 n (((ByteArray.extract y2_0 0 (Int.toNat r5)) ++ (bytesOf ([((y2_1.data.getD (Int.toNat r9) 0).toNat : Int)]))) ++ (ByteArray.extract y2_0 (Int.toNat (IntKind.wrap .i64 (r5 + 1))) (Int.toNat (y2_0.size : Int)))) y2_1 (IntKind.wrap .i64 (y2_2 - 1)) r14 r15 r16 kexit0 else none) else none) else none) else none) else none) else none) else none) else (bif decide (0 ≤ r5) then (bif decide (r5 ≤ (y2_0.size : Int)) then (bif decide (0 ≤ (IntKind.wrap .i64 (r5 + 1))) then (bif decide ((IntKind.wrap .i64 (r5 + 1)) ≤ (y2_0.size : Int)) then (bif decide ((y2_0.size : Int) ≤ (y2_0.size : Int)) then (bif decide ((ByteArray.extract y2_0 0 (Int.toNat r5)).size + (ByteArray.extract y2_0 (Int.toNat (IntKind.wrap .i64 (r5 + 1))) (Int.toNat (y2_0.size : Int))).size ≤ STR) then spec_l1Cur_spoilt_l2 n ((ByteArray.extract y2_0 0 (Int.toNat r5)) ++ (ByteArray.extract y2_0 (Int.toNat (IntKind.wrap .i64 (r5 + 1))) (Int.toNat (y2_0.size : Int)))) y2_1 (IntKind.wrap .i64 (y2_2 - 1)) r14 r15 r16 kexit0 else none) else none) else none) else none) else none) else none)))) else none) else none))) else kexit0 y2_0 y2_3 y2_4 y2_5) else kexit0 y2_0 y2_3 y2_4 y2_5)) (fun r0 r1 r2 r3 => kk (.exit 0) (PkS.pack Tspec_l1Cur_spoilt_l2_0 (r0, r1, r2, r3, ()))) := by kernel_rfl
theorem lespec_l1Cur_spoilt_l2 : LoopEq tt sig (fun n => mkK [(39, Kspec_l1Cur_pick @spec_l1Cur_pick n)]) (fun n => mkL (mkK [(39, Kspec_l1Cur_pick @spec_l1Cur_pick n)]) []) Dspec_l1Cur_spoilt_l2 Sspec_l1Cur_spoilt_l2 (loopIn 2 (bodyOf Tryz.f25)) (Pspec_l1Cur_spoilt_l2 @spec_l1Cur_spoilt_l2) where
  zero R q kk := by unfold Pspec_l1Cur_spoilt_l2; cases (PkS.un Sspec_l1Cur_spoilt_l2 q) <;> rfl
  succ n R q kk := by
    unfold Pspec_l1Cur_spoilt_l2
    cases h : (PkS.un Sspec_l1Cur_spoilt_l2 q) with
    | none => rfl
    | some d =>
      obtain ⟨y2_0, y2_1, y2_2, y2_3, y2_4, y2_5, u⟩ := (d : ByteArray × ByteArray × Int × (List Int) × Int × Int × Unit)
      have hp := PkS.un_pack h
      subst hp
      exact (espec_l1Cur_spoilt_l2 @spec_l1Cur_pick @spec_l1Cur_spoilt_l2 n y2_0 y2_1 y2_2 y2_3 y2_4 y2_5 kk).symm
theorem nlspec_l1Cur_spoilt_l2 : ∀ n, NatLP (Pspec_l1Cur_spoilt_l2 @spec_l1Cur_spoilt_l2 n) := lespec_l1Cur_spoilt_l2.nat (fun n => mkK_nat (cspec_l1Cur_spoilt n)) fun n => mkL_nat (mkK_nat (cspec_l1Cur_spoilt n)) (l := []) trivial
theorem inspec_l1Cur_spoilt_l2 (n : Nat) (R : Type) : LoopsOk Tryz.prog (mkL (mkK [(39, Kspec_l1Cur_pick @spec_l1Cur_pick n)]) [] R) (loopIn 2 (bodyOf Tryz.f25)) := .eq (l := []) (by kernel_rfl) trivial
theorem lkspec_l1Cur_spoilt_l2 (n : Nat) (R : Type) (L0 : LK R) (h0 : ∀ id, firstRegion (loopIn 2 (bodyOf Tryz.f25)) = some id → L0 id = Dspec_l1Cur_spoilt_l2.oracle (mkK [(39, Kspec_l1Cur_pick @spec_l1Cur_pick n)] R) (Pspec_l1Cur_spoilt_l2 @spec_l1Cur_spoilt_l2 n R)) : LoopOk Tryz.prog L0 (loopIn 2 (bodyOf Tryz.f25)) :=
  lespec_l1Cur_spoilt_l2.ok mixed ttok (fun n => mkK_nat (cspec_l1Cur_spoilt n)) (fun n => mkK_ok (cspec_l1Cur_spoilt n)) (fun n => inspec_l1Cur_spoilt_l2 n R) (mkK_nat (cspec_l1Cur_spoilt n)) h0
@[reducible] def Sspec_l1Cur_spoilt : PkS := ⟨[.one (.box (200000, 0) 0), .one (.str), .one (.str)], [((200000, 0), .box [.ro (.int .u8), .int .i64, .int .u64])]⟩
@[reducible] def Tspec_l1Cur_spoilt : PkS := ⟨[.one (.str), .one (.box (300000, 0) 0), .one (.dead), .one (.dead)], [((300000, 0), .box [.ro (.int .u8), .int .i64, .int .u64])]⟩
def Hspec_l1Cur_spoilt : List Sh := [.one .any, .box [(.ro (.int .u8)), .any, .any], .skip, .skip]
def Kspec_l1Cur_spoilt (g : ∀ {R : Type}, Nat → ByteArray → ByteArray → (List Int) → Int → Int → (ByteArray → (List Int) → Int → Int → Option R) → Option R) (n : Nat) : KPs := fun R p k => match (PkS.un Sspec_l1Cur_spoilt p : Option (ByteArray × ByteArray × (List Int) × Int × Int × Unit)) with
  | some (x0, x1, x2, x3, x4, _) => g n x0 x1 x2 x3 x4 (fun r0 r1 r2 r3 => k (PkS.pack Tspec_l1Cur_spoilt (r0, r1, r2, r3, ())))
  | none => none
theorem espec_l1Cur_spoilt (spec_l1Cur_pick : ∀ {R : Type}, Nat → Int → (List Int) → Int → Int → (Int → (List Int) → Int → Int → Option R) → Option R) (spec_l1Cur_spoilt_l2 : ∀ {R : Type}, Nat → ByteArray → ByteArray → Int → (List Int) → Int → Int → (ByteArray → (List Int) → Int → Int → Option R) → Option R) {R : Type} (n : Nat) (x0 : ByteArray) (x1 : ByteArray) (x2 : List Int) (x3 : Int) (x4 : Int) (k : Pk → Option R) : evF tt sig (mkK [(39, Kspec_l1Cur_pick @spec_l1Cur_pick n)] R) (mkL (mkK [(39, Kspec_l1Cur_pick @spec_l1Cur_pick n)]) [(2, Dspec_l1Cur_spoilt_l2, Pspec_l1Cur_spoilt_l2 @spec_l1Cur_spoilt_l2 n)] R) Tryz.f25 Hspec_l1Cur_spoilt (PkS.pack Sspec_l1Cur_spoilt (x0, x1, x2, x3, x4, ())) k = (fun (k : ByteArray → (List Int) → Int → Int → Option R) => (spec_l1Cur_pick n 3 x2 x3 x4 fun r1 r2 r3 r4 => (spec_l1Cur_spoilt_l2 n x0 x1 r1 r2 r3 r4 (fun r17 r18 r19 r20 => k r17 r18 r19 r20)))) (fun r0 r1 r2 r3 => k (PkS.pack Tspec_l1Cur_spoilt (r0, r1, r2, r3, ()))) := by kernel_rfl
theorem okspec_l1Cur_spoilt (n : Nat) : FnOk Tryz.prog 25 (Kspec_l1Cur_spoilt @spec_l1Cur_spoilt n) := by
  refine fn_ok (sig := sig) mixed ttok (mkK_nat (cspec_l1Cur_spoilt n)) (mkK_ok (cspec_l1Cur_spoilt n)) (mkL_nat (mkK_nat (cspec_l1Cur_spoilt n)) (l := [(2, Dspec_l1Cur_spoilt_l2, Pspec_l1Cur_spoilt_l2 @spec_l1Cur_spoilt_l2 n)]) ⟨nlspec_l1Cur_spoilt_l2 n, trivial⟩) (fn := Tryz.f25) (c := bodyOf Tryz.f25) (by kernel_rfl) (by kernel_rfl) (by kernel_rfl) (.eq (l := [.lo (loopIn 2 (bodyOf Tryz.f25))]) (by kernel_rfl) ⟨(lkspec_l1Cur_spoilt_l2 n _ _ (at_id (i := 2) (by kernel_rfl) rfl)), trivial⟩) (shs := Hspec_l1Cur_spoilt) (S := Sspec_l1Cur_spoilt) (h1 := by kernel_rfl) fun R p k => ?_
  unfold Kspec_l1Cur_spoilt
  cases h : (PkS.un Sspec_l1Cur_spoilt p) with
  | none => rfl
  | some d =>
    obtain ⟨x0, x1, x2, x3, x4, u⟩ := (d : ByteArray × ByteArray × (List Int) × Int × Int × Unit)
    have hp := PkS.un_pack h
    subst hp
    exact (espec_l1Cur_spoilt @spec_l1Cur_pick @spec_l1Cur_spoilt_l2 n x0 x1 x2 x3 x4 k).symm

/-! ### loop.example/g00269/spec.DrawReadCron -/
theorem cspec_DrawReadCron (n : Nat) : AllOk Tryz.prog [(23, Kspec_l1Cur_of @spec_l1Cur_of n), (24, Kspec_l1Cur_one @spec_l1Cur_one n), (25, Kspec_l1Cur_spoilt @spec_l1Cur_spoilt n)] := ⟨okspec_l1Cur_of n, ⟨okspec_l1Cur_one n, ⟨okspec_l1Cur_spoilt n, trivial⟩⟩⟩
@[reducible] def Sspec_DrawReadCron : PkS := ⟨[.one (.ro (.int .u8))], []⟩
@[reducible] def Tspec_DrawReadCron : PkS := ⟨[.one (.str), .one (.dead)], []⟩
def Hspec_DrawReadCron : List Sh := [.one .any, .skip]
def Kspec_DrawReadCron (g : ∀ {R : Type}, Nat → (List Int) → (ByteArray → Option R) → Option R) (n : Nat) : KPs := fun R p k => match (PkS.un Sspec_DrawReadCron p : Option ((List Int) × Unit)) with
  | some (x0, _) => g n x0 (fun r0 => k (PkS.pack Tspec_DrawReadCron (r0, ())))
  | none => none
theorem espec_DrawReadCron (spec_l1Cur_of : ∀ {R : Type}, Nat → (List ByteArray) → (List Int) → Int → Int → (ByteArray → (List Int) → Int → Int → Option R) → Option R) (spec_l1Cur_one : ∀ {R : Type}, Nat → Int → (List Int) → Int → Int → (Bool → (List Int) → Int → Int → Option R) → Option R) (spec_l1Cur_spoilt : ∀ {R : Type}, Nat → ByteArray → ByteArray → (List Int) → Int → Int → (ByteArray → (List Int) → Int → Int → Option R) → Option R) {R : Type} (n : Nat) (x0 : List Int) (k : Pk → Option R) : evF tt sig (mkK [(23, Kspec_l1Cur_of @spec_l1Cur_of n), (24, Kspec_l1Cur_one @spec_l1Cur_one n), (25, Kspec_l1Cur_spoilt @spec_l1Cur_spoilt n)] R) (mkL (mkK [(23, Kspec_l1Cur_of @spec_l1Cur_of n), (24, Kspec_l1Cur_one @spec_l1Cur_one n), (25, Kspec_l1Cur_spoilt @spec_l1Cur_spoilt n)]) [] R) Tryz.f10 Hspec_DrawReadCron (PkS.pack Sspec_DrawReadCron (x0, ())) k = (fun (k : ByteArray → Option R) => (spec_l1Cur_of n ([(ByteArray.mk #[42]), (ByteArray.mk #[53]), (ByteArray.mk #[42, 47, 49, 53]), (ByteArray.mk #[49, 45, 57]), (ByteArray.mk #[48, 44, 51, 48]), (ByteArray.mk #[49, 48, 45, 53, 48, 47, 50, 48]), (ByteArray.mk #[55, 47, 50, 48])]) x0 0 0 fun r1 r2 r3 r4 => (bif decide (r1.size + (ByteArray.mk #[32]).size ≤ STR) then (spec_l1Cur_of n ([(ByteArray.mk #[42]), (ByteArray.mk #[51]), (ByteArray.mk #[56, 45, 49, 55]), (ByteArray.mk #[42, 47, 54]), (ByteArray.mk #[50, 50, 47, 49])]) r2 r3 r4 fun r5 r6 r7 r8 => (bif decide ((r1 ++ (ByteArray.mk #[32])).size + r5.size ≤ STR) then (bif decide (((r1 ++ (ByteArray.mk #[32])) ++ r5).size + (ByteArray.mk #[32]).size ≤ STR) then (spec_l1Cur_of n ([(ByteArray.mk #[42]), (ByteArray.mk #[49, 45, 53]), (ByteArray.mk #[48, 44, 54]), (ByteArray.mk #[51])]) r6 r7 r8 fun r9 r10 r11 r12 => (bif decide ((((r1 ++ (ByteArray.mk #[32])) ++ r5) ++ (ByteArray.mk #[32])).size + r9.size ≤ STR) then (spec_l1Cur_one n 4 r10 r11 r12 fun r13 r14 r15 r16 => (bif r13 then (spec_l1Cur_spoilt n ((((r1 ++ (ByteArray.mk #[32])) ++ r5) ++ (ByteArray.mk #[32])) ++ r9) (ByteArray.mk #[42, 47, 45, 44, 48, 55, 32]) r14 r15 r16 fun r17 r18 r19 r20 => k r17) else k ((((r1 ++ (ByteArray.mk #[32])) ++ r5) ++ (ByteArray.mk #[32])) ++ r9))) else none)) else none) else none)) else none))) (fun r0 => k (PkS.pack Tspec_DrawReadCron (r0, ()))) := by kernel_rfl
theorem okspec_DrawReadCron (n : Nat) : FnOk Tryz.prog 10 (Kspec_DrawReadCron @spec_DrawReadCron n) := by
  refine fn_ok (sig := sig) mixed ttok (mkK_nat (cspec_DrawReadCron n)) (mkK_ok (cspec_DrawReadCron n)) (mkL_nat (mkK_nat (cspec_DrawReadCron n)) (l := []) trivial) (fn := Tryz.f10) (c := bodyOf Tryz.f10) (by kernel_rfl) (by kernel_rfl) (by kernel_rfl) (.eq (l := []) (by kernel_rfl) trivial) (shs := Hspec_DrawReadCron) (S := Sspec_DrawReadCron) (h1 := by kernel_rfl) fun R p k => ?_
  unfold Kspec_DrawReadCron
  cases h : (PkS.un Sspec_DrawReadCron p) with
  | none => rfl
  | some d =>
    obtain ⟨x0, u⟩ := (d : (List Int) × Unit)
    have hp := PkS.un_pack h
    subst hp
    exact (espec_DrawReadCron @spec_l1Cur_of @spec_l1Cur_one @spec_l1Cur_spoilt n x0 k).symm

/-! ### loop.example/g00269/spec.ReadCron -/
theorem cspec_ReadCron (n : Nat) : AllOk Tryz.prog [(26, Kspec_l1Cut @spec_l1Cut n), (27, Kspec_l6Field @spec_l6Field n)] := ⟨okspec_l1Cut n, ⟨okspec_l6Field n, trivial⟩⟩
@[reducible] def Sspec_ReadCron : PkS := ⟨[.one (.str)], []⟩
@[reducible] def Tspec_ReadCron : PkS := ⟨[.tup [(true, [.ro (.int .i64), .ro (.int .i64), .ro (.int .i64)]), (false, [.bool])], .one (.dead)], []⟩
def Hspec_ReadCron : List Sh := [.tup [(true, [(.ro (.int .i64)), (.ro (.int .i64)), (.ro (.int .i64))]), (false, [.any])], .skip]
def Kspec_ReadCron (g : ∀ {R : Type}, Nat → ByteArray → ((List Int) → (List Int) → (List Int) → Bool → Option R) → Option R) (n : Nat) : KPs := fun R p k => match (PkS.un Sspec_ReadCron p : Option (ByteArray × Unit)) with
  | some (x0, _) => g n x0 (fun r0 r1 r2 r3 => k (PkS.pack Tspec_ReadCron (r0, r1, r2, r3, ())))
  | none => none
theorem espec_ReadCron (spec_l1Cut : ∀ {R : Type}, Nat → ByteArray → Int → (ByteArray → ByteArray → Bool → Option R) → Option R) (spec_l6Field : ∀ {R : Type}, Nat → ByteArray → Int → ((List Int) → Bool → Option R) → Option R) {R : Type} (n : Nat) (x0 : ByteArray) (k : Pk → Option R) : evF tt sig (mkK [(26, Kspec_l1Cut @spec_l1Cut n), (27, Kspec_l6Field @spec_l6Field n)] R) (mkL (mkK [(26, Kspec_l1Cut @spec_l1Cut n), (27, Kspec_l6Field @spec_l6Field n)]) [] R) Tryz.f11 Hspec_ReadCron (PkS.pack Sspec_ReadCron (x0, ())) k = (fun (k : (List Int) → (List Int) → (List Int) → Bool → Option R) => (spec_l1Cut n x0 32 fun r1 r2 r3 => (spec_l1Cut n r2 32 fun r4 r5 r6 => (spec_l6Field n r1 59 fun r7 r8 => (spec_l6Field n r4 23 fun r9 r10 => (spec_l6Field n r5 6 fun r11 r12 => (bif (!r3) then k ([] : List Int) ([] : List Int) ([] : List Int) false else (bif (!r6) then k ([] : List Int) ([] : List Int) ([] : List Int) false else (bif (!r8) then k ([] : List Int) ([] : List Int) ([] : List Int) false else (bif (!r10) then k ([] : List Int) ([] : List Int) ([] : List Int) false else (bif (!r12) then k ([] : List Int) ([] : List Int) ([] : List Int) false else k r7 r9 r11 true))))))))))) (fun r0 r1 r2 r3 => k (PkS.pack Tspec_ReadCron (r0, r1, r2, r3, ()))) := by kernel_rfl
theorem okspec_ReadCron (n : Nat) : FnOk Tryz.prog 11 (Kspec_ReadCron @spec_ReadCron n) := by
  refine fn_ok (sig := sig) mixed ttok (mkK_nat (cspec_ReadCron n)) (mkK_ok (cspec_ReadCron n)) (mkL_nat (mkK_nat (cspec_ReadCron n)) (l := []) trivial) (fn := Tryz.f11) (c := bodyOf Tryz.f11) (by kernel_rfl) (by kernel_rfl) (by kernel_rfl) (.eq (l := []) (by kernel_rfl) trivial) (shs := Hspec_ReadCron) (S := Sspec_ReadCron) (h1 := by kernel_rfl) fun R p k => ?_
  unfold Kspec_ReadCron
  cases h : (PkS.un Sspec_ReadCron p) with
  | none => rfl
  | some d =>
    obtain ⟨x0, u⟩ := (d : ByteArray × Unit)
    have hp := PkS.un_pack h
    subst hp
    exact (espec_ReadCron @spec_l1Cut @spec_l6Field n x0 k).symm

/-! ### loop.example/g00269/laws.FnCronText -/
theorem claws_FnCronText (n : Nat) : AllOk Tryz.prog [(4, Kspec_DrawCronText @spec_DrawCronText n), (5, Kimpl_CronText @impl_CronText n), (6, Kspec_CronText @spec_CronText n), (7, Kimpl_GoodCron @impl_GoodCron n), (8, Kimpl_ReadCron @impl_ReadCron n), (9, Klaws_sameCrons @laws_sameCrons n), (10, Kspec_DrawReadCron @spec_DrawReadCron n), (11, Kspec_ReadCron @spec_ReadCron n)] := ⟨okspec_DrawCronText n, ⟨okimpl_CronText n, ⟨okspec_CronText n, ⟨okimpl_GoodCron n, ⟨okimpl_ReadCron n, ⟨oklaws_sameCrons n, ⟨okspec_DrawReadCron n, ⟨okspec_ReadCron n, trivial⟩⟩⟩⟩⟩⟩⟩⟩
@[reducible] def Slaws_FnCronText : PkS := ⟨[.one (.ro (.int .u8)), .one (.ro (.int .u8))], []⟩
@[reducible] def Tlaws_FnCronText : PkS := ⟨[.one (.bool), .one (.dead), .one (.dead)], []⟩
def Hlaws_FnCronText : List Sh := [.one .any, .skip, .skip]
def Klaws_FnCronText (g : ∀ {R : Type}, Nat → (List Int) → (List Int) → (Bool → Option R) → Option R) (n : Nat) : KPs := fun R p k => match (PkS.un Slaws_FnCronText p : Option ((List Int) × (List Int) × Unit)) with
  | some (x0, x1, _) => g n x0 x1 (fun r0 => k (PkS.pack Tlaws_FnCronText (r0, ())))
  | none => none
theorem elaws_FnCronText (spec_DrawCronText : ∀ {R : Type}, Nat → (List Int) → ((List Int) → (List Int) → (List Int) → Option R) → Option R) (impl_CronText : ∀ {R : Type}, Nat → (List Int) → (List Int) → (List Int) → (ByteArray → Bool → Option R) → Option R) (spec_CronText : ∀ {R : Type}, Nat → (List Int) → (List Int) → (List Int) → (ByteArray → Bool → Option R) → Option R) (impl_GoodCron : ∀ {R : Type}, Nat → (List Int) → (List Int) → (List Int) → (Bool → Option R) → Option R) (impl_ReadCron : ∀ {R : Type}, Nat → ByteArray → ((List Int) → (List Int) → (List Int) → Bool → Option R) → Option R) (laws_sameCrons : ∀ {R : Type}, Nat → (List Int) → (List Int) → (List Int) → (List Int) → (List Int) → (List Int) → (Bool → Option R) → Option R) (spec_DrawReadCron : ∀ {R : Type}, Nat → (List Int) → (ByteArray → Option R) → Option R) (spec_ReadCron : ∀ {R : Type}, Nat → ByteArray → ((List Int) → (List Int) → (List Int) → Bool → Option R) → Option R) {R : Type} (n : Nat) (x0 : List Int) (x1 : List Int) (k : Pk → Option R) : evF tt sig (mkK [(4, Kspec_DrawCronText @spec_DrawCronText n), (5, Kimpl_CronText @impl_CronText n), (6, Kspec_CronText @spec_CronText n), (7, Kimpl_GoodCron @impl_GoodCron n), (8, Kimpl_ReadCron @impl_ReadCron n), (9, Klaws_sameCrons @laws_sameCrons n), (10, Kspec_DrawReadCron @spec_DrawReadCron n), (11, Kspec_ReadCron @spec_ReadCron n)] R) (mkL (mkK [(4, Kspec_DrawCronText @spec_DrawCronText n), (5, Kimpl_CronText @impl_CronText n), (6, Kspec_CronText @spec_CronText n), (7, Kimpl_GoodCron @impl_GoodCron n), (8, Kimpl_ReadCron @impl_ReadCron n), (9, Klaws_sameCrons @laws_sameCrons n), (10, Kspec_DrawReadCron @spec_DrawReadCron n), (11, Kspec_ReadCron @spec_ReadCron n)]) [] R) Tryz.f3 Hlaws_FnCronText (PkS.pack Slaws_FnCronText (x0, x1, ())) k = (fun (k : Bool → Option R) => (bif (decide ((IntKind.wrap .i64 ((x0.length : Int) + (x1.length : Int))) > 1048576)) then k true else (spec_DrawCronText n x0 fun r1 r2 r3 => (impl_CronText n r1 r2 r3 fun r4 r5 => (spec_CronText n r1 r2 r3 fun r6 r7 => (bif (!(r5 == r7)) then k false else (bif (!((ByteArray.toList r4) == (ByteArray.toList r6))) then k false else (impl_GoodCron n r1 r2 r3 fun r8 => (bif (!(r8 == r7)) then k false else (bif r5 then (impl_ReadCron n r4 fun r9 r10 r11 r12 => (bif (!r12) then k false else (laws_sameCrons n r9 r10 r11 r1 r2 r3 fun r13 => (bif (!r13) then k false else (spec_DrawReadCron n x1 fun r14 => (impl_ReadCron n r14 fun r15 r16 r17 r18 => (spec_ReadCron n r14 fun r19 r20 r21 r22 => (bif (!(r18 == r22)) then k false else (laws_sameCrons n r15 r16 r17 r19 r20 r21 fun r23 => (bif (!r23) then k false else (bif (!r18) then k ((r17.length : Int) == 0) else (impl_CronText n r15 r16 r17 fun r24 r25 => (impl_ReadCron n r24 fun r26 r27 r28 r29 => (bif r25 then (bif r29 then (laws_sameCrons n r26 r27 r28 r15 r16 r17 fun r30 => k r30) else k false) else k false)))))))))))))) else (spec_DrawReadCron n x1 fun r31 => (impl_ReadCron n r31 fun r32 r33 r34 r35 => (spec_ReadCron n r31 fun r36 r37 r38 r39 => (bif (!(r35 == r39)) then k false else (laws_sameCrons n r32 r33 r34 r36 r37 r38 fun r40 => (bif (!r40) then k false else (bif (!r35) then k ((r34.length : Int) == 0) else (impl_CronText n r32 r33 r34 fun r41 r42 => (impl_ReadCron n r41 fun r43 r44 r45 r46 => (bif r42 then (bif r46 then (laws_sameCrons n r43 r44 r45 r32 r33 r34 fun r47 => k r47) else k false) else k false)))))))))))))))))))) (fun r0 => k (PkS.pack Tlaws_FnCronText (r0, ()))) := by kernel_rfl
theorem oklaws_FnCronText (n : Nat) : FnOk Tryz.prog 3 (Klaws_FnCronText @laws_FnCronText n) := by
  refine fn_ok (sig := sig) mixed ttok (mkK_nat (claws_FnCronText n)) (mkK_ok (claws_FnCronText n)) (mkL_nat (mkK_nat (claws_FnCronText n)) (l := []) trivial) (fn := Tryz.f3) (c := bodyOf Tryz.f3) (by kernel_rfl) (by kernel_rfl) (by kernel_rfl) (.eq (l := []) (by kernel_rfl) trivial) (shs := Hlaws_FnCronText) (S := Slaws_FnCronText) (h1 := by kernel_rfl) fun R p k => ?_
  unfold Klaws_FnCronText
  cases h : (PkS.un Slaws_FnCronText p) with
  | none => rfl
  | some d =>
    obtain ⟨x0, x1, u⟩ := (d : (List Int) × (List Int) × Unit)
    have hp := PkS.un_pack h
    subst hp
    exact (elaws_FnCronText @spec_DrawCronText @impl_CronText @spec_CronText @impl_GoodCron @impl_ReadCron @laws_sameCrons @spec_DrawReadCron @spec_ReadCron n x0 x1 k).symm
end Go.Am.G
