/- The code of the functions that the law reaches does what the plain functions say. -/
import Derived.Test.YtclmflfhhdcipaaF5
import Derived.Test.YtclmflfhhdcipaaAmC
import Derived.KernelRfl
import Derived.Test.YtclmflfhhdcipaaProg
set_option linter.unusedVariables false
set_option maxRecDepth 100000
namespace Go.Am.G
open Go Go.Am
open Go.Proofs
def tt : TT := [(3, ⟨1, false, (.int .i64), 0, [], [.int .i64 0], 8, true, false, [], none⟩), (4, ⟨1, false, .bool, 0, [], [.bool false], 1, true, false, [], none⟩), (5, ⟨1, false, (.int .u8), 0, [], [.int .u8 0], 1, true, false, [], none⟩), (9, ⟨1, false, .str, 0, [], [.str ByteArray.empty], 16, true, false, [], none⟩), (27, ⟨1, false, (.sl (.pr (.int .i64) (.pr (.int .i64) (.int .i64)))), 79, [], [.nil], 24, true, true, [], none⟩), (29, ⟨2, true, (.pr (.sl (.pr (.int .i64) (.pr (.int .i64) (.int .i64)))) (.int .i64)), 0, [(0, 1, false), (1, 1, false)], [.nil, .int .i64 0], 32, true, false, [], none⟩), (51, ⟨1, false, (.int .u64), 0, [], [.int .u64 0], 8, true, false, [], none⟩), (61, ⟨1, false, (.int .u64), 0, [], [.int .u64 0], 8, true, false, [], none⟩), (79, ⟨3, true, (.pr (.int .i64) (.pr (.int .i64) (.int .i64))), 0, [(0, 1, false), (1, 1, false), (2, 1, false)], [.int .i64 0, .int .i64 0, .int .i64 0], 24, true, false, [(.int .i64), (.int .i64), (.int .i64)], none⟩), (87, ⟨3, true, (.pr .str (.pr (.int .i64) .bool)), 0, [(0, 1, false), (1, 1, false), (2, 1, false)], [.str ByteArray.empty, .int .i64 0, .bool false], 32, true, false, [.str, (.int .i64), .bool], none⟩), (93, ⟨2, true, (.pr .str .bool), 0, [(0, 1, false), (1, 1, false)], [.str ByteArray.empty, .bool false], 24, true, false, [.str, .bool], none⟩), (96, ⟨1, false, .bool, 0, [], [.dead], 8, false, false, [], some (61, 3)⟩), (98, ⟨2, true, .bool, 0, [(0, 1, false), (1, 1, false)], [.nil, .dead], 32, false, false, [], none⟩)]
def sig : Sig := sigOf [(5, [.one .any]), (16, [.agg [(.ro (.pr (.int .i64) (.pr (.int .i64) (.int .i64)))), .any], .agg [(.ro (.pr (.int .i64) (.pr (.int .i64) (.int .i64)))), .any]]), (19, [.one .any]), (20, [.one .any]), (21, [.agg [(.own (.pr (.int .i64) (.pr (.int .i64) (.int .i64)))), .any], .one .any]), (22, [.agg [(.ro (.pr (.int .i64) (.pr (.int .i64) (.int .i64)))), .any], .one .any]), (43, [.one (.ro (.pr (.int .i64) (.pr (.int .i64) (.int .i64)))), .one (.ro (.pr (.int .i64) (.pr (.int .i64) (.int .i64))))]), (46, [.one .any]), (47, [.one .any]), (48, [.one .any]), (49, [.one .any]), (50, [.one (.own (.pr (.int .i64) (.pr (.int .i64) (.int .i64)))), .one .any]), (51, [.one (.ro (.pr (.int .i64) (.pr (.int .i64) (.int .i64)))), .one .any]), (54, [.one .any, .one .any, .one .any]), (55, [.one .any, .one .any, .one .any]), (61, [.one .any]), (63, [.agg [.any, .any, .any], .agg [.any, .any, .any]]), (64, [.box [.any, .any, .any]]), (65, [.one .any, .one .any, .one (.own (.pr (.int .i64) (.pr (.int .i64) (.int .i64))))]), (66, [.box [.any, .any]]), (67, [.box [(.own (.pr (.int .i64) (.pr (.int .i64) (.int .i64)))), .map], .one .any]), (68, [.one .any]), (73, [.box [.any, .any, .any]]), (74, [.box [.any, .any, .any], .one .any]), (75, [.box [.any, .any]]), (76, [.one .any, .one .any]), (79, [.one .any, .one .any]), (80, [.one .any, .one .any])]
theorem ttok : TTok Try.prog tt := .of_chk (by kernel_rfl)
theorem mixed : Try.prog.follows .mixedOrders = true := by kernel_rfl

/-! ### (*loop.example/g00269/spec.l7R).next -/
theorem cspec_l7R_next (n : Nat) : AllOk Try.prog [] := trivial
@[reducible] def Sspec_l7R_next : PkS := ⟨[.one (.box (200000, 0) 0)], [((200000, 0), .box [.str, .int .i64, .bool])]⟩
@[reducible] def Tspec_l7R_next : PkS := ⟨[.one (.int .u8), .one (.box (300000, 0) 0)], [((300000, 0), .box [.str, .int .i64, .bool])]⟩
def Hspec_l7R_next : List Sh := [.one .any, .box [.any, .any, .any]]
def Kspec_l7R_next (g : ∀ {R : Type}, Nat → ByteArray → Int → Bool → (Int → ByteArray → Int → Bool → Option R) → Option R) (n : Nat) : KPs := fun R p k => match (PkS.un Sspec_l7R_next p : Option (ByteArray × Int × Bool × Unit)) with
  | some (x0, x1, x2, _) => g n x0 x1 x2 (fun r0 r1 r2 r3 => k (PkS.pack Tspec_l7R_next (r0, r1, r2, r3, ())))
  | none => none
theorem espec_l7R_next  {R : Type} (n : Nat) (x0 : ByteArray) (x1 : Int) (x2 : Bool) (k : Pk → Option R) : evF tt sig (mkK [] R) (mkL (mkK []) [] R) Try.f73 Hspec_l7R_next (PkS.pack Sspec_l7R_next (x0, x1, x2, ())) k = (fun (k : Int → ByteArray → Int → Bool → Option R) => (bif (decide (x1 < (x0.size : Int))) then (bif decide (0 ≤ x1) then (bif decide (x1 < (x0.size : Int)) then k ((x0.data.getD (Int.toNat x1) 0).toNat : Int) x0 x1 x2 else none) else none) else k 0 x0 x1 x2)) (fun r0 r1 r2 r3 => k (PkS.pack Tspec_l7R_next (r0, r1, r2, r3, ()))) := by kernel_rfl
theorem okspec_l7R_next (n : Nat) : FnOk Try.prog 73 (Kspec_l7R_next @spec_l7R_next n) := by
  refine fn_ok (sig := sig) mixed ttok (mkK_nat (cspec_l7R_next n)) (mkK_ok (cspec_l7R_next n)) (mkL_nat (mkK_nat (cspec_l7R_next n)) (l := []) trivial) (fn := Try.f73) (c := bodyOf Try.f73) (by kernel_rfl) (by kernel_rfl) (by kernel_rfl) (.eq (l := []) (by kernel_rfl) trivial) (shs := Hspec_l7R_next) (S := Sspec_l7R_next) (h1 := by kernel_rfl) fun R p k => ?_
  unfold Kspec_l7R_next
  cases h : (PkS.un Sspec_l7R_next p) with
  | none => rfl
  | some d =>
    obtain ⟨x0, x1, x2, u⟩ := (d : ByteArray × Int × Bool × Unit)
    have hp := PkS.un_pack h
    subst hp
    exact (espec_l7R_next  n x0 x1 x2 k).symm

/-! ### loop.example/g00269/spec.l7Var -/
theorem cspec_l7Var (n : Nat) : AllOk Try.prog [] := trivial
@[reducible] def Sspec_l7Var_l3 : PkS := ⟨[.one (.int .i64), .one (.int .u64), .one (.int .i64), .one (.dead)], []⟩
@[reducible] def Tspec_l7Var_l3_0 : PkS := ⟨[.one (.int .u64), .one (.dead)], []⟩
def Dspec_l7Var_l3 : LoopD := ⟨21, [0, 3, 4], [.one .any, .one .any, .one .any, .skip], fun x => match x with
  | .exit 0 => some ([3], [.one .any, .skip])
  | _ => none⟩
def Pspec_l7Var_l3 (g : ∀ {R : Type}, Nat → Int → Int → Int → (Int → Option R) → Option R) (n : Nat) : LPs := fun R q kk => match (PkS.un Sspec_l7Var_l3 q : Option (Int × Int × Int × Unit)) with
  | some (y3_0, y3_1, y3_2, _) => g n y3_0 y3_1 y3_2 (fun r0 => kk (.exit 0) (PkS.pack Tspec_l7Var_l3_0 (r0, ())))
  | none => none
theorem espec_l7Var_l3 (spec_l7Var_l3 : ∀ {R : Type}, Nat → Int → Int → Int → (Int → Option R) → Option R) {R : Type} (n : Nat) (y3_0 : Int) (y3_1 : Int) (y3_2 : Int) (kk : Ex → Pk → Option R) : Dspec_l7Var_l3.step tt sig (mkK [] R) (mkL (mkK []) [] R) (loopIn 3 (bodyOf Try.f68)) (fun q' => Pspec_l7Var_l3 @spec_l7Var_l3 n R q' kk) (PkS.pack Sspec_l7Var_l3 (y3_0, y3_1, y3_2, ())) kk = (fun (kexit0 : Int → Option R) => (bif (decide (y3_2 < 64)) then (bif decide (0 ≤ (IntKind.wrap .u64 (y3_0))) then (bif ((IntKind.wrap .i64 (Int.ofNat (BitVec.toNat (BitVec.ofInt (IntKind.bits .i64) (Int.fdiv y3_2 (2 ^ (min (Int.toNat (IntKind.wrap .u64 (y3_0))) (IntKind.bits .i64)))) &&& BitVec.ofInt (IntKind.bits .i64) 1)))) == 1) then (bif decide (0 ≤ (IntKind.wrap .u64 (y3_2))) then spec_l7Var_l3 n y3_0 (IntKind.wrap .u64 (Int.ofNat (BitVec.toNat (BitVec.ofInt (IntKind.bits .u64) y3_1 ||| BitVec.ofInt (IntKind.bits .u64) (IntKind.wrap .u64 (1 * 2 ^ (min (Int.toNat (IntKind.wrap .u64 (y3_2))) (IntKind.bits .u64)))))))) (IntKind.wrap .i64 (y3_2 + 1)) kexit0 else none) else spec_l7Var_l3 n y3_0 y3_1 (IntKind.wrap .i64 (y3_2 + 1)) kexit0) else none) else kexit0 y3_1)) (fun r0 => kk (.exit 0) (PkS.pack Tspec_l7Var_l3_0 (r0, ()))) := by kernel_rfl
theorem lespec_l7Var_l3 : LoopEq tt sig (fun n => mkK []) (fun n => mkL (mkK []) []) Dspec_l7Var_l3 Sspec_l7Var_l3 (loopIn 3 (bodyOf Try.f68)) (Pspec_l7Var_l3 @spec_l7Var_l3) where
  zero R q kk := by unfold Pspec_l7Var_l3; cases (PkS.un Sspec_l7Var_l3 q) <;> rfl
  succ n R q kk := by
    unfold Pspec_l7Var_l3
    cases h : (PkS.un Sspec_l7Var_l3 q) with
    | none => rfl
    | some d =>
      obtain ⟨y3_0, y3_1, y3_2, u⟩ := (d : Int × Int × Int × Unit)
      have hp := PkS.un_pack h
      subst hp
      exact (espec_l7Var_l3 @spec_l7Var_l3 n y3_0 y3_1 y3_2 kk).symm
theorem nlspec_l7Var_l3 : ∀ n, NatLP (Pspec_l7Var_l3 @spec_l7Var_l3 n) := lespec_l7Var_l3.nat (fun n => mkK_nat (cspec_l7Var n)) fun n => mkL_nat (mkK_nat (cspec_l7Var n)) (l := []) trivial
theorem inspec_l7Var_l3 (n : Nat) (R : Type) : LoopsOk Try.prog (mkL (mkK []) [] R) (loopIn 3 (bodyOf Try.f68)) := .eq (l := []) (by kernel_rfl) trivial
theorem lkspec_l7Var_l3 (n : Nat) (R : Type) (L0 : LK R) (h0 : ∀ id, firstRegion (loopIn 3 (bodyOf Try.f68)) = some id → L0 id = Dspec_l7Var_l3.oracle (mkK [] R) (Pspec_l7Var_l3 @spec_l7Var_l3 n R)) : LoopOk Try.prog L0 (loopIn 3 (bodyOf Try.f68)) :=
  lespec_l7Var_l3.ok mixed ttok (fun n => mkK_nat (cspec_l7Var n)) (fun n => mkK_ok (cspec_l7Var n)) (fun n => inspec_l7Var_l3 n R) (mkK_nat (cspec_l7Var n)) h0
@[reducible] def Sspec_l7Var : PkS := ⟨[.one (.int .i64)], []⟩
@[reducible] def Tspec_l7Var : PkS := ⟨[.one (.int .u64), .one (.dead)], []⟩
def Hspec_l7Var : List Sh := [.one .any, .skip]
def Kspec_l7Var (g : ∀ {R : Type}, Nat → Int → (Int → Option R) → Option R) (n : Nat) : KPs := fun R p k => match (PkS.un Sspec_l7Var p : Option (Int × Unit)) with
  | some (x0, _) => g n x0 (fun r0 => k (PkS.pack Tspec_l7Var (r0, ())))
  | none => none
theorem espec_l7Var (spec_l7Var_l3 : ∀ {R : Type}, Nat → Int → Int → Int → (Int → Option R) → Option R) {R : Type} (n : Nat) (x0 : Int) (k : Pk → Option R) : evF tt sig (mkK [] R) (mkL (mkK []) [(3, Dspec_l7Var_l3, Pspec_l7Var_l3 @spec_l7Var_l3 n)] R) Try.f68 Hspec_l7Var (PkS.pack Sspec_l7Var (x0, ())) k = (fun (k : Int → Option R) => (spec_l7Var_l3 n x0 0 0 (fun r1 => k r1))) (fun r0 => k (PkS.pack Tspec_l7Var (r0, ()))) := by kernel_rfl
theorem okspec_l7Var (n : Nat) : FnOk Try.prog 68 (Kspec_l7Var @spec_l7Var n) := by
  refine fn_ok (sig := sig) mixed ttok (mkK_nat (cspec_l7Var n)) (mkK_ok (cspec_l7Var n)) (mkL_nat (mkK_nat (cspec_l7Var n)) (l := [(3, Dspec_l7Var_l3, Pspec_l7Var_l3 @spec_l7Var_l3 n)]) ⟨nlspec_l7Var_l3 n, trivial⟩) (fn := Try.f68) (c := bodyOf Try.f68) (by kernel_rfl) (by kernel_rfl) (by kernel_rfl) (.eq (l := [.lo (loopIn 3 (bodyOf Try.f68))]) (by kernel_rfl) ⟨(lkspec_l7Var_l3 n _ _ (at_id (i := 3) (by kernel_rfl) rfl)), trivial⟩) (shs := Hspec_l7Var) (S := Sspec_l7Var) (h1 := by kernel_rfl) fun R p k => ?_
  unfold Kspec_l7Var
  cases h : (PkS.un Sspec_l7Var p) with
  | none => rfl
  | some d =>
    obtain ⟨x0, u⟩ := (d : Int × Unit)
    have hp := PkS.un_pack h
    subst hp
    exact (espec_l7Var @spec_l7Var_l3 n x0 k).symm

/-! ### (*loop.example/g00269/spec.l7R).want -/
theorem cspec_l7R_want (n : Nat) : AllOk Try.prog [(73, Kspec_l7R_next @spec_l7R_next n)] := ⟨okspec_l7R_next n, trivial⟩
@[reducible] def Sspec_l7R_want : PkS := ⟨[.one (.box (200000, 0) 0), .one (.int .u8)], [((200000, 0), .box [.str, .int .i64, .bool])]⟩
@[reducible] def Tspec_l7R_want : PkS := ⟨[.tup [], .one (.box (300000, 0) 0), .one (.dead)], [((300000, 0), .box [.str, .int .i64, .bool])]⟩
def Hspec_l7R_want : List Sh := [.tup [], .box [.any, .any, .any], .skip]
def Kspec_l7R_want (g : ∀ {R : Type}, Nat → Int → ByteArray → Int → Bool → (ByteArray → Int → Bool → Option R) → Option R) (n : Nat) : KPs := fun R p k => match (PkS.un Sspec_l7R_want p : Option (Int × ByteArray × Int × Bool × Unit)) with
  | some (x0, x1, x2, x3, _) => g n x0 x1 x2 x3 (fun r0 r1 r2 => k (PkS.pack Tspec_l7R_want (r0, r1, r2, ())))
  | none => none
theorem espec_l7R_want (spec_l7R_next : ∀ {R : Type}, Nat → ByteArray → Int → Bool → (Int → ByteArray → Int → Bool → Option R) → Option R) {R : Type} (n : Nat) (x0 : Int) (x1 : ByteArray) (x2 : Int) (x3 : Bool) (k : Pk → Option R) : evF tt sig (mkK [(73, Kspec_l7R_next @spec_l7R_next n)] R) (mkL (mkK [(73, Kspec_l7R_next @spec_l7R_next n)]) [] R) Try.f74 Hspec_l7R_want (PkS.pack Sspec_l7R_want (x0, x1, x2, x3, ())) k = (fun (k : ByteArray → Int → Bool → Option R) => (spec_l7R_next n x1 x2 x3 fun r1 r2 r3 r4 => (bif (r1 != x0) then k r2 (IntKind.wrap .i64 (r3 + 1)) true else k r2 (IntKind.wrap .i64 (r3 + 1)) r4))) (fun r0 r1 r2 => k (PkS.pack Tspec_l7R_want (r0, r1, r2, ()))) := by kernel_rfl
theorem okspec_l7R_want (n : Nat) : FnOk Try.prog 74 (Kspec_l7R_want @spec_l7R_want n) := by
  refine fn_ok (sig := sig) mixed ttok (mkK_nat (cspec_l7R_want n)) (mkK_ok (cspec_l7R_want n)) (mkL_nat (mkK_nat (cspec_l7R_want n)) (l := []) trivial) (fn := Try.f74) (c := bodyOf Try.f74) (by kernel_rfl) (by kernel_rfl) (by kernel_rfl) (.eq (l := []) (by kernel_rfl) trivial) (shs := Hspec_l7R_want) (S := Sspec_l7R_want) (h1 := by kernel_rfl) fun R p k => ?_
  unfold Kspec_l7R_want
  cases h : (PkS.un Sspec_l7R_want p) with
  | none => rfl
  | some d =>
    obtain ⟨x0, x1, x2, x3, u⟩ := (d : Int × ByteArray × Int × Bool × Unit)
    have hp := PkS.un_pack h
    subst hp
    exact (espec_l7R_want @spec_l7R_next n x0 x1 x2 x3 k).symm

/-! ### (*loop.example/g00269/spec.l7R).form -/
theorem cspec_l7R_form (n : Nat) : AllOk Try.prog [(73, Kspec_l7R_next @spec_l7R_next n), (68, Kspec_l7Var @spec_l7Var n), (74, Kspec_l7R_want @spec_l7R_want n)] := ⟨okspec_l7R_next n, ⟨okspec_l7Var n, ⟨okspec_l7R_want n, trivial⟩⟩⟩
@[reducible] def Sspec_l7R_form : PkS := ⟨[.one (.box (200000, 0) 0)], [((200000, 0), .box [.str, .int .i64, .bool])]⟩
@[reducible] def Tspec_l7R_form : PkS := ⟨[.one (.int .u64), .one (.box (300000, 0) 0)], [((300000, 0), .box [.str, .int .i64, .bool])]⟩
def Hspec_l7R_form : List Sh := [.one .any, .box [.any, .any, .any]]
def Kspec_l7R_form (g : ∀ {R : Type}, Nat → ByteArray → Int → Bool → (Int → ByteArray → Int → Bool → Option R) → Option R) (n : Nat) : KPs := fun R p k => match (PkS.un Sspec_l7R_form p : Option (ByteArray × Int × Bool × Unit)) with
  | some (x0, x1, x2, _) => g n x0 x1 x2 (fun r0 r1 r2 r3 => k (PkS.pack Tspec_l7R_form (r0, r1, r2, r3, ())))
  | none => none
theorem dspec_l7R_form (n : Nat) (ih : FnOk Try.prog 64 (Kspec_l7R_form @spec_l7R_form n)) : AllOk Try.prog [(73, Kspec_l7R_next @spec_l7R_next n), (68, Kspec_l7Var @spec_l7Var n), (74, Kspec_l7R_want @spec_l7R_want n), (64, Kspec_l7R_form @spec_l7R_form n)] := ⟨okspec_l7R_next n, ⟨okspec_l7Var n, ⟨okspec_l7R_want n, ⟨ih, trivial⟩⟩⟩⟩
theorem espec_l7R_form (spec_l7R_next : ∀ {R : Type}, Nat → ByteArray → Int → Bool → (Int → ByteArray → Int → Bool → Option R) → Option R) (spec_l7Var : ∀ {R : Type}, Nat → Int → (Int → Option R) → Option R) (spec_l7R_want : ∀ {R : Type}, Nat → Int → ByteArray → Int → Bool → (ByteArray → Int → Bool → Option R) → Option R) (spec_l7R_form : ∀ {R : Type}, Nat → ByteArray → Int → Bool → (Int → ByteArray → Int → Bool → Option R) → Option R) {R : Type} (n : Nat) (x0 : ByteArray) (x1 : Int) (x2 : Bool) (k : Pk → Option R) : evF tt sig (mkK [(73, Kspec_l7R_next @spec_l7R_next n), (68, Kspec_l7Var @spec_l7Var n), (74, Kspec_l7R_want @spec_l7R_want n), (64, Kspec_l7R_form @spec_l7R_form n)] R) (mkL (mkK [(73, Kspec_l7R_next @spec_l7R_next n), (68, Kspec_l7Var @spec_l7Var n), (74, Kspec_l7R_want @spec_l7R_want n)]) [] R) Try.f64 Hspec_l7R_form (PkS.pack Sspec_l7R_form (x0, x1, x2, ())) k = (fun (k : Int → ByteArray → Int → Bool → Option R) => (spec_l7R_next n x0 x1 x2 fun r1 r2 r3 r4 => (bif r4 then k 0 r2 (IntKind.wrap .i64 (r3 + 1)) r4 else (bif (r1 == 48) then k 0 r2 (IntKind.wrap .i64 (r3 + 1)) r4 else (bif (r1 == 49) then k 18446744073709551615 r2 (IntKind.wrap .i64 (r3 + 1)) r4 else (bif (decide (r1 ≥ 97)) then (bif (decide (r1 ≤ 102)) then (spec_l7Var n (IntKind.wrap .i64 ((IntKind.wrap .u8 (r1 - 97)))) fun r5 => k r5 r2 (IntKind.wrap .i64 (r3 + 1)) r4) else (bif (r1 == 33) then (spec_l7R_form n r2 (IntKind.wrap .i64 (r3 + 1)) r4 fun r6 r7 r8 r9 => k (IntKind.wrap .u64 (BitVec.toNat (BitVec.ofInt (IntKind.bits .u64) (18446744073709551615) ^^^ BitVec.ofInt (IntKind.bits .u64) r6))) r7 r8 r9) else (bif (r1 == 40) then (spec_l7R_form n r2 (IntKind.wrap .i64 (r3 + 1)) r4 fun r10 r11 r12 r13 => (spec_l7R_next n r11 r12 r13 fun r14 r15 r16 r17 => (spec_l7R_form n r15 (IntKind.wrap .i64 (r16 + 1)) r17 fun r18 r19 r20 r21 => (spec_l7R_want n 41 r19 r20 r21 fun r22 r23 r24 => (bif (r14 == 38) then k (IntKind.wrap .u64 (Int.ofNat (BitVec.toNat (BitVec.ofInt (IntKind.bits .u64) r10 &&& BitVec.ofInt (IntKind.bits .u64) r18)))) r22 r23 r24 else (bif (r14 == 124) then k (IntKind.wrap .u64 (Int.ofNat (BitVec.toNat (BitVec.ofInt (IntKind.bits .u64) r10 ||| BitVec.ofInt (IntKind.bits .u64) r18)))) r22 r23 r24 else (bif (r14 == 94) then k (IntKind.wrap .u64 (Int.ofNat (BitVec.toNat (BitVec.ofInt (IntKind.bits .u64) r10 ^^^ BitVec.ofInt (IntKind.bits .u64) r18)))) r22 r23 r24 else k 0 r22 r23 true))))))) else k 0 r2 (IntKind.wrap .i64 (r3 + 1)) true))) else (bif (r1 == 33) then (spec_l7R_form n r2 (IntKind.wrap .i64 (r3 + 1)) r4 fun r25 r26 r27 r28 => k (IntKind.wrap .u64 (BitVec.toNat (BitVec.ofInt (IntKind.bits .u64) (18446744073709551615) ^^^ BitVec.ofInt (IntKind.bits .u64) r25))) r26 r27 r28) else (bif (r1 == 40) then (spec_l7R_form n r2 (IntKind.wrap .i64 (r3 + 1)) r4 fun r29 r30 r31 r32 => (spec_l7R_next n r30 r31 r32 fun r33 r34 r35 r36 => (spec_l7R_form n r34 (IntKind.wrap .i64 (r35 + 1)) r36 fun r37 r38 r39 r40 => (spec_l7R_want n 41 r38 r39 r40 fun r41 r42 r43 => (bif (r33 == 38) then k (IntKind.wrap .u64 (Int.ofNat (BitVec.toNat (BitVec.ofInt (IntKind.bits .u64) r29 &&& BitVec.ofInt (IntKind.bits .u64) r37)))) r41 r42 r43 else (bif (r33 == 124) then k (IntKind.wrap .u64 (Int.ofNat (BitVec.toNat (BitVec.ofInt (IntKind.bits .u64) r29 ||| BitVec.ofInt (IntKind.bits .u64) r37)))) r41 r42 r43 else (bif (r33 == 94) then k (IntKind.wrap .u64 (Int.ofNat (BitVec.toNat (BitVec.ofInt (IntKind.bits .u64) r29 ^^^ BitVec.ofInt (IntKind.bits .u64) r37)))) r41 r42 r43 else k 0 r41 r42 true))))))) else k 0 r2 (IntKind.wrap .i64 (r3 + 1)) true)))))))) (fun r0 r1 r2 r3 => k (PkS.pack Tspec_l7R_form (r0, r1, r2, r3, ()))) := by kernel_rfl
theorem okspec_l7R_form : ∀ n, FnOk Try.prog 64 (Kspec_l7R_form @spec_l7R_form n)
  | 0 => fn_none fun R p k => by unfold Kspec_l7R_form; cases (PkS.un Sspec_l7R_form p : Option (ByteArray × Int × Bool × Unit)) <;> rfl
  | n + 1 => by
    refine fn_ok (sig := sig) mixed ttok (mkK_nat (dspec_l7R_form n (okspec_l7R_form n))) (mkK_ok (dspec_l7R_form n (okspec_l7R_form n))) (mkL_nat (mkK_nat (cspec_l7R_form n)) (l := []) trivial) (fn := Try.f64) (c := bodyOf Try.f64) (by kernel_rfl) (by kernel_rfl) (by kernel_rfl) (.eq (l := []) (by kernel_rfl) trivial) (shs := Hspec_l7R_form) (S := Sspec_l7R_form) (h1 := by kernel_rfl) fun R p k => ?_
    unfold Kspec_l7R_form
    cases h : (PkS.un Sspec_l7R_form p) with
    | none => rfl
    | some d =>
      obtain ⟨x0, x1, x2, u⟩ := (d : ByteArray × Int × Bool × Unit)
      have hp := PkS.un_pack h
      subst hp
      exact (espec_l7R_form @spec_l7R_next @spec_l7Var @spec_l7R_want @spec_l7R_form n x0 x1 x2 k).symm

/-! ### loop.example/g00269/spec.l7Table -/
theorem cspec_l7Table (n : Nat) : AllOk Try.prog [(64, Kspec_l7R_form @spec_l7R_form n)] := ⟨okspec_l7R_form n, trivial⟩
@[reducible] def Sspec_l7Table : PkS := ⟨[.one (.str)], []⟩
@[reducible] def Tspec_l7Table : PkS := ⟨[.tup [(false, [.int .u64]), (false, [.bool])], .one (.dead)], []⟩
def Hspec_l7Table : List Sh := [.tup [(false, [.any]), (false, [.any])], .skip]
def Kspec_l7Table (g : ∀ {R : Type}, Nat → ByteArray → (Int → Bool → Option R) → Option R) (n : Nat) : KPs := fun R p k => match (PkS.un Sspec_l7Table p : Option (ByteArray × Unit)) with
  | some (x0, _) => g n x0 (fun r0 r1 => k (PkS.pack Tspec_l7Table (r0, r1, ())))
  | none => none
theorem espec_l7Table (spec_l7R_form : ∀ {R : Type}, Nat → ByteArray → Int → Bool → (Int → ByteArray → Int → Bool → Option R) → Option R) {R : Type} (n : Nat) (x0 : ByteArray) (k : Pk → Option R) : evF tt sig (mkK [(64, Kspec_l7R_form @spec_l7R_form n)] R) (mkL (mkK [(64, Kspec_l7R_form @spec_l7R_form n)]) [] R) Try.f46 Hspec_l7Table (PkS.pack Sspec_l7Table (x0, ())) k = (fun (k : Int → Bool → Option R) => (bif (decide ((x0.size : Int) > 60)) then k 0 false else (spec_l7R_form n x0 0 false fun r1 r2 r3 r4 => (bif (!r4) then k r1 (r3 == (x0.size : Int)) else k r1 false)))) (fun r0 r1 => k (PkS.pack Tspec_l7Table (r0, r1, ()))) := by kernel_rfl
theorem okspec_l7Table (n : Nat) : FnOk Try.prog 46 (Kspec_l7Table @spec_l7Table n) := by
  refine fn_ok (sig := sig) mixed ttok (mkK_nat (cspec_l7Table n)) (mkK_ok (cspec_l7Table n)) (mkL_nat (mkK_nat (cspec_l7Table n)) (l := []) trivial) (fn := Try.f46) (c := bodyOf Try.f46) (by kernel_rfl) (by kernel_rfl) (by kernel_rfl) (.eq (l := []) (by kernel_rfl) trivial) (shs := Hspec_l7Table) (S := Sspec_l7Table) (h1 := by kernel_rfl) fun R p k => ?_
  unfold Kspec_l7Table
  cases h : (PkS.un Sspec_l7Table p) with
  | none => rfl
  | some d =>
    obtain ⟨x0, u⟩ := (d : ByteArray × Unit)
    have hp := PkS.un_pack h
    subst hp
    exact (espec_l7Table @spec_l7R_form n x0 k).symm

/-! ### loop.example/g00269/spec.l7Half -/
theorem cspec_l7Half (n : Nat) : AllOk Try.prog [(68, Kspec_l7Var @spec_l7Var n)] := ⟨okspec_l7Var n, trivial⟩
@[reducible] def Sspec_l7Half : PkS := ⟨[.one (.int .u64), .one (.int .i64), .one (.bool)], []⟩
@[reducible] def Tspec_l7Half : PkS := ⟨[.one (.int .u64), .one (.dead), .one (.dead), .one (.dead)], []⟩
def Hspec_l7Half : List Sh := [.one .any, .skip, .skip, .skip]
def Kspec_l7Half (g : ∀ {R : Type}, Nat → Int → Int → Bool → (Int → Option R) → Option R) (n : Nat) : KPs := fun R p k => match (PkS.un Sspec_l7Half p : Option (Int × Int × Bool × Unit)) with
  | some (x0, x1, x2, _) => g n x0 x1 x2 (fun r0 => k (PkS.pack Tspec_l7Half (r0, ())))
  | none => none
theorem espec_l7Half (spec_l7Var : ∀ {R : Type}, Nat → Int → (Int → Option R) → Option R) {R : Type} (n : Nat) (x0 : Int) (x1 : Int) (x2 : Bool) (k : Pk → Option R) : evF tt sig (mkK [(68, Kspec_l7Var @spec_l7Var n)] R) (mkL (mkK [(68, Kspec_l7Var @spec_l7Var n)]) [] R) Try.f54 Hspec_l7Half (PkS.pack Sspec_l7Half (x0, x1, x2, ())) k = (fun (k : Int → Option R) => (spec_l7Var n x1 fun r1 => (bif decide (0 ≤ (IntKind.wrap .u64 (x1))) then (bif x2 then (bif decide (0 ≤ (IntKind.wrap .u64 (1 * 2 ^ (min (Int.toNat (IntKind.wrap .u64 (x1))) (IntKind.bits .u64))))) then k (IntKind.wrap .u64 (Int.ofNat (BitVec.toNat (BitVec.ofInt (IntKind.bits .u64) (IntKind.wrap .u64 (Int.ofNat (BitVec.toNat (BitVec.ofInt (IntKind.bits .u64) x0 &&& BitVec.ofInt (IntKind.bits .u64) r1)))) ||| BitVec.ofInt (IntKind.bits .u64) (Int.fdiv (IntKind.wrap .u64 (Int.ofNat (BitVec.toNat (BitVec.ofInt (IntKind.bits .u64) x0 &&& BitVec.ofInt (IntKind.bits .u64) r1)))) (2 ^ (min (Int.toNat (IntKind.wrap .u64 (1 * 2 ^ (min (Int.toNat (IntKind.wrap .u64 (x1))) (IntKind.bits .u64))))) (IntKind.bits .u64)))))))) else none) else (bif decide (0 ≤ (IntKind.wrap .u64 (1 * 2 ^ (min (Int.toNat (IntKind.wrap .u64 (x1))) (IntKind.bits .u64))))) then k (IntKind.wrap .u64 (Int.ofNat (BitVec.toNat (BitVec.ofInt (IntKind.bits .u64) (IntKind.wrap .u64 (Int.ofNat (BitVec.toNat (BitVec.ofInt (IntKind.bits .u64) x0 &&& ~~~ BitVec.ofInt (IntKind.bits .u64) r1)))) ||| BitVec.ofInt (IntKind.bits .u64) (IntKind.wrap .u64 ((IntKind.wrap .u64 (Int.ofNat (BitVec.toNat (BitVec.ofInt (IntKind.bits .u64) x0 &&& ~~~ BitVec.ofInt (IntKind.bits .u64) r1)))) * 2 ^ (min (Int.toNat (IntKind.wrap .u64 (1 * 2 ^ (min (Int.toNat (IntKind.wrap .u64 (x1))) (IntKind.bits .u64))))) (IntKind.bits .u64)))))))) else none)) else none))) (fun r0 => k (PkS.pack Tspec_l7Half (r0, ()))) := by kernel_rfl
theorem okspec_l7Half (n : Nat) : FnOk Try.prog 54 (Kspec_l7Half @spec_l7Half n) := by
  refine fn_ok (sig := sig) mixed ttok (mkK_nat (cspec_l7Half n)) (mkK_ok (cspec_l7Half n)) (mkL_nat (mkK_nat (cspec_l7Half n)) (l := []) trivial) (fn := Try.f54) (c := bodyOf Try.f54) (by kernel_rfl) (by kernel_rfl) (by kernel_rfl) (.eq (l := []) (by kernel_rfl) trivial) (shs := Hspec_l7Half) (S := Sspec_l7Half) (h1 := by kernel_rfl) fun R p k => ?_
  unfold Kspec_l7Half
  cases h : (PkS.un Sspec_l7Half p) with
  | none => rfl
  | some d =>
    obtain ⟨x0, x1, x2, u⟩ := (d : Int × Int × Bool × Unit)
    have hp := PkS.un_pack h
    subst hp
    exact (espec_l7Half @spec_l7Var n x0 x1 x2 k).symm

/-! ### loop.example/g00269/spec.l7Build -/
theorem cspec_l7Build (n : Nat) : AllOk Try.prog [(54, Kspec_l7Half @spec_l7Half n)] := ⟨okspec_l7Half n, trivial⟩
@[reducible] def Sspec_l7Build_l14 : PkS := ⟨[.one (.whole (100000, 0)), .one (.box (100000, 1) 0), .one (.whole (100000, 0)), .one (.int .i64), .one (.int .i64), .one (.dead), .one (.dead), .one (.dead)], [((100000, 0), .arr (.pr (.int .i64) (.pr (.int .i64) (.int .i64)))), ((100000, 1), .box [.int .i64, .int .i64, .int .i64])]⟩
@[reducible] def Tspec_l7Build_l14_0 : PkS := ⟨[.one (.int .i64), .one (.whole (100000, 0)), .one (.dead), .one (.dead), .one (.dead)], [((100000, 0), .arr (.pr (.int .i64) (.pr (.int .i64) (.int .i64))))]⟩
@[reducible] def Tspec_l7Build_l14_1 : PkS := ⟨[.one (.whole (100000, 0)), .one (.box (100000, 1) 0), .one (.dead), .one (.dead), .one (.dead)], [((100000, 0), .arr (.pr (.int .i64) (.pr (.int .i64) (.int .i64)))), ((100000, 1), .box [.int .i64, .int .i64, .int .i64])]⟩
def Dspec_l7Build_l14 : LoopD := ⟨77, [2, 12, 58, 59, 60], [.one (.own (.pr (.int .i64) (.pr (.int .i64) (.int .i64)))), .box [.any, .any, .any], .one (.own (.pr (.int .i64) (.pr (.int .i64) (.int .i64)))), .one .any, .one .any, .skip, .skip, .skip], fun x => match x with
  | .ret => some ([6, 7], [.one .any, .one (.own (.pr (.int .i64) (.pr (.int .i64) (.int .i64)))), .skip, .skip, .skip])
  | .exit 1 => some ([2, 12], [.one (.own (.pr (.int .i64) (.pr (.int .i64) (.int .i64)))), .box [.any, .any, .any], .skip, .skip, .skip])
  | _ => none⟩
def Pspec_l7Build_l14 (g : ∀ {R : Type}, Nat → Int → Int → (List (Int × Int × Int)) → Int → Int → Int → (Int → (List (Int × Int × Int)) → Option R) → ((List (Int × Int × Int)) → Int → Int → Int → Option R) → Option R) (n : Nat) : LPs := fun R q kk => match (PkS.un Sspec_l7Build_l14 q : Option (Int × Int × (List (Int × Int × Int)) × Int × Int × Int × Unit)) with
  | some (y14_0, y14_1, y14_2, y14_3, y14_4, y14_5, _) => g n y14_0 y14_1 y14_2 y14_3 y14_4 y14_5 (fun r0 r1 => kk .ret (PkS.pack Tspec_l7Build_l14_0 (r0, r1, ()))) (fun r0 r1 r2 r3 => kk (.exit 1) (PkS.pack Tspec_l7Build_l14_1 (r0, r1, r2, r3, ())))
  | none => none
theorem espec_l7Build_l14 (spec_l7Half : ∀ {R : Type}, Nat → Int → Int → Bool → (Int → Option R) → Option R) (spec_l7Build_l14 : ∀ {R : Type}, Nat → Int → Int → (List (Int × Int × Int)) → Int → Int → Int → (Int → (List (Int × Int × Int)) → Option R) → ((List (Int × Int × Int)) → Int → Int → Int → Option R) → Option R) {R : Type} (n : Nat) (y14_0 : Int) (y14_1 : Int) (y14_2 : List (Int × Int × Int)) (y14_3 : Int) (y14_4 : Int) (y14_5 : Int) (kk : Ex → Pk → Option R) : Dspec_l7Build_l14.step tt sig (mkK [(54, Kspec_l7Half @spec_l7Half n)] R) (mkL (mkK [(54, Kspec_l7Half @spec_l7Half n)]) [] R) (loopIn 14 (bodyOf Try.f65)) (fun q' => Pspec_l7Build_l14 @spec_l7Build_l14 n R q' kk) (PkS.pack Sspec_l7Build_l14 (y14_0, y14_1, y14_2, y14_3, y14_4, y14_5, ())) kk = (fun (kret : Int → (List (Int × Int × Int)) → Option R) (kexit1 : (List (Int × Int × Int)) → Int → Int → Int → Option R) => (bif (decide (y14_1 < y14_0)) then (bif decide (0 ≤ y14_1) then (bif decide (y14_1 < (y14_2.length : Int)) then (bif (((y14_2.getD (Int.toNat y14_1) (0, (0, 0))).1 == y14_3) && (((y14_2.getD (Int.toNat y14_1) (0, (0, 0))).2.1 == y14_4) && (((y14_2.getD (Int.toNat y14_1) (0, (0, 0))).2.2 == y14_5) && true))) then kret y14_1 y14_2 else spec_l7Build_l14 n y14_0 (IntKind.wrap .i64 (y14_1 + 1)) y14_2 y14_3 y14_4 y14_5 kret kexit1) else none) else none) else kexit1 y14_2 y14_3 y14_4 y14_5)) (fun r0 r1 => kk .ret (PkS.pack Tspec_l7Build_l14_0 (r0, r1, ()))) (fun r0 r1 r2 r3 => kk (.exit 1) (PkS.pack Tspec_l7Build_l14_1 (r0, r1, r2, r3, ()))) := by kernel_rfl
theorem lespec_l7Build_l14 : LoopEq tt sig (fun n => mkK [(54, Kspec_l7Half @spec_l7Half n)]) (fun n => mkL (mkK [(54, Kspec_l7Half @spec_l7Half n)]) []) Dspec_l7Build_l14 Sspec_l7Build_l14 (loopIn 14 (bodyOf Try.f65)) (Pspec_l7Build_l14 @spec_l7Build_l14) where
  zero R q kk := by unfold Pspec_l7Build_l14; cases (PkS.un Sspec_l7Build_l14 q) <;> rfl
  succ n R q kk := by
    unfold Pspec_l7Build_l14
    cases h : (PkS.un Sspec_l7Build_l14 q) with
    | none => rfl
    | some d =>
      obtain ⟨y14_0, y14_1, y14_2, y14_3, y14_4, y14_5, u⟩ := (d : Int × Int × (List (Int × Int × Int)) × Int × Int × Int × Unit)
      have hp := PkS.un_pack h
      subst hp
      exact (espec_l7Build_l14 @spec_l7Half @spec_l7Build_l14 n y14_0 y14_1 y14_2 y14_3 y14_4 y14_5 kk).symm
theorem nlspec_l7Build_l14 : ∀ n, NatLP (Pspec_l7Build_l14 @spec_l7Build_l14 n) := lespec_l7Build_l14.nat (fun n => mkK_nat (cspec_l7Build n)) fun n => mkL_nat (mkK_nat (cspec_l7Build n)) (l := []) trivial
theorem inspec_l7Build_l14 (n : Nat) (R : Type) : LoopsOk Try.prog (mkL (mkK [(54, Kspec_l7Half @spec_l7Half n)]) [] R) (loopIn 14 (bodyOf Try.f65)) := .eq (l := []) (by kernel_rfl) trivial
theorem lkspec_l7Build_l14 (n : Nat) (R : Type) (L0 : LK R) (h0 : ∀ id, firstRegion (loopIn 14 (bodyOf Try.f65)) = some id → L0 id = Dspec_l7Build_l14.oracle (mkK [(54, Kspec_l7Half @spec_l7Half n)] R) (Pspec_l7Build_l14 @spec_l7Build_l14 n R)) : LoopOk Try.prog L0 (loopIn 14 (bodyOf Try.f65)) :=
  lespec_l7Build_l14.ok mixed ttok (fun n => mkK_nat (cspec_l7Build n)) (fun n => mkK_ok (cspec_l7Build n)) (fun n => inspec_l7Build_l14 n R) (mkK_nat (cspec_l7Build n)) h0
@[reducible] def Sspec_l7Build : PkS := ⟨[.one (.int .u64), .one (.int .i64), .one (.whole (200000, 0))], [((200000, 0), .arr (.pr (.int .i64) (.pr (.int .i64) (.int .i64))))]⟩
@[reducible] def Tspec_l7Build : PkS := ⟨[.tup [(false, [.int .i64]), (false, [.whole (300000, 0)])], .one (.dead), .one (.dead), .one (.dead)], [((300000, 0), .arr (.pr (.int .i64) (.pr (.int .i64) (.int .i64))))]⟩
def Hspec_l7Build : List Sh := [.tup [(false, [.any]), (false, [(.own (.pr (.int .i64) (.pr (.int .i64) (.int .i64))))])], .skip, .skip, .skip]
def Kspec_l7Build (g : ∀ {R : Type}, Nat → Int → Int → (List (Int × Int × Int)) → (Int → (List (Int × Int × Int)) → Option R) → Option R) (n : Nat) : KPs := fun R p k => match (PkS.un Sspec_l7Build p : Option (Int × Int × (List (Int × Int × Int)) × Unit)) with
  | some (x0, x1, x2, _) => g n x0 x1 x2 (fun r0 r1 => k (PkS.pack Tspec_l7Build (r0, r1, ())))
  | none => none
theorem dspec_l7Build (n : Nat) (ih : FnOk Try.prog 65 (Kspec_l7Build @spec_l7Build n)) : AllOk Try.prog [(54, Kspec_l7Half @spec_l7Half n), (65, Kspec_l7Build @spec_l7Build n)] := ⟨okspec_l7Half n, ⟨ih, trivial⟩⟩
theorem espec_l7Build (spec_l7Half : ∀ {R : Type}, Nat → Int → Int → Bool → (Int → Option R) → Option R) (spec_l7Build : ∀ {R : Type}, Nat → Int → Int → (List (Int × Int × Int)) → (Int → (List (Int × Int × Int)) → Option R) → Option R) (spec_l7Build_l14 : ∀ {R : Type}, Nat → Int → Int → (List (Int × Int × Int)) → Int → Int → Int → (Int → (List (Int × Int × Int)) → Option R) → ((List (Int × Int × Int)) → Int → Int → Int → Option R) → Option R) {R : Type} (n : Nat) (x0 : Int) (x1 : Int) (x2 : List (Int × Int × Int)) (k : Pk → Option R) : evF tt sig (mkK [(54, Kspec_l7Half @spec_l7Half n), (65, Kspec_l7Build @spec_l7Build n)] R) (mkL (mkK [(54, Kspec_l7Half @spec_l7Half n)]) [(14, Dspec_l7Build_l14, Pspec_l7Build_l14 @spec_l7Build_l14 n)] R) Try.f65 Hspec_l7Build (PkS.pack Sspec_l7Build (x0, x1, x2, ())) k = (fun (k : Int → (List (Int × Int × Int)) → Option R) => (bif (x0 == 0) then k (-2) x2 else (bif (x0 == 18446744073709551615) then k (-1) x2 else (spec_l7Half n x0 x1 false fun r1 => (spec_l7Half n x0 x1 true fun r2 => (bif (r1 == r2) then (spec_l7Build n x0 (IntKind.wrap .i64 (x1 + 1)) x2 fun r3 r4 => k r3 r4) else (spec_l7Build n r1 (IntKind.wrap .i64 (x1 + 1)) x2 fun r5 r6 => (spec_l7Build n r2 (IntKind.wrap .i64 (x1 + 1)) r6 fun r7 r8 => (spec_l7Build_l14 n (r8.length : Int) 0 r8 x1 r5 r7 (fun r9 r10 => k r9 r10) (fun r11 r12 r13 r14 => (bif decide (r11.length + ([(r12, (r13, r14))]).length ≤ LIM) then k (r11.length : Int) (r11 ++ [(r12, (r13, r14))]) else none))))))))))) (fun r0 r1 => k (PkS.pack Tspec_l7Build (r0, r1, ()))) := by kernel_rfl
theorem okspec_l7Build : ∀ n, FnOk Try.prog 65 (Kspec_l7Build @spec_l7Build n)
  | 0 => fn_none fun R p k => by unfold Kspec_l7Build; cases (PkS.un Sspec_l7Build p : Option (Int × Int × (List (Int × Int × Int)) × Unit)) <;> rfl
  | n + 1 => by
    refine fn_ok (sig := sig) mixed ttok (mkK_nat (dspec_l7Build n (okspec_l7Build n))) (mkK_ok (dspec_l7Build n (okspec_l7Build n))) (mkL_nat (mkK_nat (cspec_l7Build n)) (l := [(14, Dspec_l7Build_l14, Pspec_l7Build_l14 @spec_l7Build_l14 n)]) ⟨nlspec_l7Build_l14 n, trivial⟩) (fn := Try.f65) (c := bodyOf Try.f65) (by kernel_rfl) (by kernel_rfl) (by kernel_rfl) (.eq (l := [.lo (loopIn 14 (bodyOf Try.f65))]) (by kernel_rfl) ⟨(lkspec_l7Build_l14 n _ _ (at_id (i := 14) (by kernel_rfl) rfl)), trivial⟩) (shs := Hspec_l7Build) (S := Sspec_l7Build) (h1 := by kernel_rfl) fun R p k => ?_
    unfold Kspec_l7Build
    cases h : (PkS.un Sspec_l7Build p) with
    | none => rfl
    | some d =>
      obtain ⟨x0, x1, x2, u⟩ := (d : Int × Int × (List (Int × Int × Int)) × Unit)
      have hp := PkS.un_pack h
      subst hp
      exact (espec_l7Build @spec_l7Half @spec_l7Build @spec_l7Build_l14 n x0 x1 x2 k).symm

/-! ### loop.example/g00269/spec.l7Diagram -/
theorem cspec_l7Diagram (n : Nat) : AllOk Try.prog [(65, Kspec_l7Build @spec_l7Build n)] := ⟨okspec_l7Build n, trivial⟩
@[reducible] def Sspec_l7Diagram : PkS := ⟨[.one (.int .u64)], []⟩
@[reducible] def Tspec_l7Diagram : PkS := ⟨[.tup [(true, [.whole (300000, 0), .int .i64]), (false, [.bool])], .one (.dead)], [((300000, 0), .arr (.pr (.int .i64) (.pr (.int .i64) (.int .i64))))]⟩
def Hspec_l7Diagram : List Sh := [.tup [(true, [(.own (.pr (.int .i64) (.pr (.int .i64) (.int .i64)))), .any]), (false, [.any])], .skip]
def Kspec_l7Diagram (g : ∀ {R : Type}, Nat → Int → (Int → Bool → (List (Int × Int × Int)) → Option R) → Option R) (n : Nat) : KPs := fun R p k => match (PkS.un Sspec_l7Diagram p : Option (Int × Unit)) with
  | some (x0, _) => g n x0 (fun r0 r1 r2 => k (PkS.pack Tspec_l7Diagram (r0, r1, r2, ())))
  | none => none
theorem espec_l7Diagram (spec_l7Build : ∀ {R : Type}, Nat → Int → Int → (List (Int × Int × Int)) → (Int → (List (Int × Int × Int)) → Option R) → Option R) {R : Type} (n : Nat) (x0 : Int) (k : Pk → Option R) : evF tt sig (mkK [(65, Kspec_l7Build @spec_l7Build n)] R) (mkL (mkK [(65, Kspec_l7Build @spec_l7Build n)]) [] R) Try.f47 Hspec_l7Diagram (PkS.pack Sspec_l7Diagram (x0, ())) k = (fun (k : Int → Bool → (List (Int × Int × Int)) → Option R) => (spec_l7Build n x0 0 ([] : List (Int × Int × Int)) fun r1 r2 => k r1 (decide ((r2.length : Int) ≤ 70)) r2)) (fun r0 r1 r2 => k (PkS.pack Tspec_l7Diagram (r0, r1, r2, ()))) := by kernel_rfl
theorem okspec_l7Diagram (n : Nat) : FnOk Try.prog 47 (Kspec_l7Diagram @spec_l7Diagram n) := by
  refine fn_ok (sig := sig) mixed ttok (mkK_nat (cspec_l7Diagram n)) (mkK_ok (cspec_l7Diagram n)) (mkL_nat (mkK_nat (cspec_l7Diagram n)) (l := []) trivial) (fn := Try.f47) (c := bodyOf Try.f47) (by kernel_rfl) (by kernel_rfl) (by kernel_rfl) (.eq (l := []) (by kernel_rfl) trivial) (shs := Hspec_l7Diagram) (S := Sspec_l7Diagram) (h1 := by kernel_rfl) fun R p k => ?_
  unfold Kspec_l7Diagram
  cases h : (PkS.un Sspec_l7Diagram p) with
  | none => rfl
  | some d =>
    obtain ⟨x0, u⟩ := (d : Int × Unit)
    have hp := PkS.un_pack h
    subst hp
    exact (espec_l7Diagram @spec_l7Build n x0 k).symm

/-! ### loop.example/g00269/spec.DiagramOf -/
theorem cspec_DiagramOf (n : Nat) : AllOk Try.prog [(46, Kspec_l7Table @spec_l7Table n), (47, Kspec_l7Diagram @spec_l7Diagram n)] := ⟨okspec_l7Table n, ⟨okspec_l7Diagram n, trivial⟩⟩
@[reducible] def Sspec_DiagramOf : PkS := ⟨[.one (.str)], []⟩
@[reducible] def Tspec_DiagramOf : PkS := ⟨[.tup [(true, [.whole (300000, 0), .int .i64]), (false, [.bool])], .one (.dead)], [((300000, 0), .arr (.pr (.int .i64) (.pr (.int .i64) (.int .i64))))]⟩
def Hspec_DiagramOf : List Sh := [.tup [(true, [(.own (.pr (.int .i64) (.pr (.int .i64) (.int .i64)))), .any]), (false, [.any])], .skip]
def Kspec_DiagramOf (g : ∀ {R : Type}, Nat → ByteArray → (Int → Bool → (List (Int × Int × Int)) → Option R) → Option R) (n : Nat) : KPs := fun R p k => match (PkS.un Sspec_DiagramOf p : Option (ByteArray × Unit)) with
  | some (x0, _) => g n x0 (fun r0 r1 r2 => k (PkS.pack Tspec_DiagramOf (r0, r1, r2, ())))
  | none => none
theorem espec_DiagramOf (spec_l7Table : ∀ {R : Type}, Nat → ByteArray → (Int → Bool → Option R) → Option R) (spec_l7Diagram : ∀ {R : Type}, Nat → Int → (Int → Bool → (List (Int × Int × Int)) → Option R) → Option R) {R : Type} (n : Nat) (x0 : ByteArray) (k : Pk → Option R) : evF tt sig (mkK [(46, Kspec_l7Table @spec_l7Table n), (47, Kspec_l7Diagram @spec_l7Diagram n)] R) (mkL (mkK [(46, Kspec_l7Table @spec_l7Table n), (47, Kspec_l7Diagram @spec_l7Diagram n)]) [] R) Try.f19 Hspec_DiagramOf (PkS.pack Sspec_DiagramOf (x0, ())) k = (fun (k : Int → Bool → (List (Int × Int × Int)) → Option R) => (spec_l7Table n x0 fun r1 r2 => (bif (!r2) then k 0 false ([] : List (Int × Int × Int)) else (spec_l7Diagram n r1 fun r3 r4 r5 => (bif (!r4) then k 0 false ([] : List (Int × Int × Int)) else k r3 true r5))))) (fun r0 r1 r2 => k (PkS.pack Tspec_DiagramOf (r0, r1, r2, ()))) := by kernel_rfl
theorem okspec_DiagramOf (n : Nat) : FnOk Try.prog 19 (Kspec_DiagramOf @spec_DiagramOf n) := by
  refine fn_ok (sig := sig) mixed ttok (mkK_nat (cspec_DiagramOf n)) (mkK_ok (cspec_DiagramOf n)) (mkL_nat (mkK_nat (cspec_DiagramOf n)) (l := []) trivial) (fn := Try.f19) (c := bodyOf Try.f19) (by kernel_rfl) (by kernel_rfl) (by kernel_rfl) (.eq (l := []) (by kernel_rfl) trivial) (shs := Hspec_DiagramOf) (S := Sspec_DiagramOf) (h1 := by kernel_rfl) fun R p k => ?_
  unfold Kspec_DiagramOf
  cases h : (PkS.un Sspec_DiagramOf p) with
  | none => rfl
  | some d =>
    obtain ⟨x0, u⟩ := (d : ByteArray × Unit)
    have hp := PkS.un_pack h
    subst hp
    exact (espec_DiagramOf @spec_l7Table @spec_l7Diagram n x0 k).symm

/-! ### (*loop.example/g00269/impl.formReader).next -/
theorem cimpl_formReader_next (n : Nat) : AllOk Try.prog [] := trivial
@[reducible] def Simpl_formReader_next : PkS := ⟨[.one (.box (200000, 0) 0)], [((200000, 0), .box [.str, .bool])]⟩
@[reducible] def Timpl_formReader_next : PkS := ⟨[.one (.int .u8), .one (.box (300000, 0) 0)], [((300000, 0), .box [.str, .bool])]⟩
def Himpl_formReader_next : List Sh := [.one .any, .box [.any, .any]]
def Kimpl_formReader_next (g : ∀ {R : Type}, Nat → ByteArray → Bool → (Int → ByteArray → Bool → Option R) → Option R) (n : Nat) : KPs := fun R p k => match (PkS.un Simpl_formReader_next p : Option (ByteArray × Bool × Unit)) with
  | some (x0, x1, _) => g n x0 x1 (fun r0 r1 r2 => k (PkS.pack Timpl_formReader_next (r0, r1, r2, ())))
  | none => none
theorem eimpl_formReader_next  {R : Type} (n : Nat) (x0 : ByteArray) (x1 : Bool) (k : Pk → Option R) : evF tt sig (mkK [] R) (mkL (mkK []) [] R) Try.f75 Himpl_formReader_next (PkS.pack Simpl_formReader_next (x0, x1, ())) k = (fun (k : Int → ByteArray → Bool → Option R) => (bif ((ByteArray.toList x0) == (ByteArray.toList (ByteArray.mk #[]))) then k 0 x0 true else (bif decide (0 < (x0.size : Int)) then (bif decide (1 ≤ (x0.size : Int)) then (bif decide ((x0.size : Int) ≤ (x0.size : Int)) then k ((x0.data.getD 0 0).toNat : Int) (ByteArray.extract x0 1 (Int.toNat (x0.size : Int))) x1 else none) else none) else none))) (fun r0 r1 r2 => k (PkS.pack Timpl_formReader_next (r0, r1, r2, ()))) := by kernel_rfl
theorem okimpl_formReader_next (n : Nat) : FnOk Try.prog 75 (Kimpl_formReader_next @impl_formReader_next n) := by
  refine fn_ok (sig := sig) mixed ttok (mkK_nat (cimpl_formReader_next n)) (mkK_ok (cimpl_formReader_next n)) (mkL_nat (mkK_nat (cimpl_formReader_next n)) (l := []) trivial) (fn := Try.f75) (c := bodyOf Try.f75) (by kernel_rfl) (by kernel_rfl) (by kernel_rfl) (.eq (l := []) (by kernel_rfl) trivial) (shs := Himpl_formReader_next) (S := Simpl_formReader_next) (h1 := by kernel_rfl) fun R p k => ?_
  unfold Kimpl_formReader_next
  cases h : (PkS.un Simpl_formReader_next p) with
  | none => rfl
  | some d =>
    obtain ⟨x0, x1, u⟩ := (d : ByteArray × Bool × Unit)
    have hp := PkS.un_pack h
    subst hp
    exact (eimpl_formReader_next  n x0 x1 k).symm

/-! ### internal/bytealg.IndexByteString -/
theorem cbytealg_IndexByteString (n : Nat) : AllOk Try.prog [] := trivial
@[reducible] def Sbytealg_IndexByteString : PkS := ⟨[.one (.str), .one (.int .u8)], []⟩
@[reducible] def Tbytealg_IndexByteString : PkS := ⟨[.one (.int .i64), .one (.dead), .one (.dead)], []⟩
def Kbytealg_IndexByteString (g : ∀ {R : Type}, Nat → ByteArray → Int → (Int → Option R) → Option R) (n : Nat) : KPs := fun R p k => match (PkS.un Sbytealg_IndexByteString p : Option (ByteArray × Int × Unit)) with
  | some (x0, x1, _) => g n x0 x1 (fun r0 => k (PkS.pack Tbytealg_IndexByteString (r0, ())))
  | none => none
theorem idxF_eq : ∀ (l : List UInt8) (c : UInt8), idxF l c = Go.Lib.indexByte l c
  | [], _ => rfl
  | b :: l, c => by rw [idxF, Go.Lib.indexByte, idxF_eq l c]
theorem okbytealg_IndexByteString (n : Nat) : FnOk Try.prog 80 (Kbytealg_IndexByteString @bytealg_IndexByteString n) := by
  have e : Kbytealg_IndexByteString @bytealg_IndexByteString n = idxK := by
    funext R p k
    unfold Kbytealg_IndexByteString bytealg_IndexByteString idxK
    simp only [idxF_eq]
    rfl
  rw [e]
  exact idx_ok (fn := Try.f80) (by kernel_rfl) (by kernel_rfl) (by kernel_rfl) (by kernel_rfl) (by kernel_rfl)

/-! ### internal/stringslite.IndexByte -/
theorem cstringslite_IndexByte (n : Nat) : AllOk Try.prog [(80, Kbytealg_IndexByteString @bytealg_IndexByteString n)] := ⟨okbytealg_IndexByteString n, trivial⟩
@[reducible] def Sstringslite_IndexByte : PkS := ⟨[.one (.str), .one (.int .u8)], []⟩
@[reducible] def Tstringslite_IndexByte : PkS := ⟨[.one (.int .i64), .one (.dead), .one (.dead)], []⟩
def Hstringslite_IndexByte : List Sh := [.one .any, .skip, .skip]
def Kstringslite_IndexByte (g : ∀ {R : Type}, Nat → ByteArray → Int → (Int → Option R) → Option R) (n : Nat) : KPs := fun R p k => match (PkS.un Sstringslite_IndexByte p : Option (ByteArray × Int × Unit)) with
  | some (x0, x1, _) => g n x0 x1 (fun r0 => k (PkS.pack Tstringslite_IndexByte (r0, ())))
  | none => none
theorem estringslite_IndexByte (bytealg_IndexByteString : ∀ {R : Type}, Nat → ByteArray → Int → (Int → Option R) → Option R) {R : Type} (n : Nat) (x0 : ByteArray) (x1 : Int) (k : Pk → Option R) : evF tt sig (mkK [(80, Kbytealg_IndexByteString @bytealg_IndexByteString n)] R) (mkL (mkK [(80, Kbytealg_IndexByteString @bytealg_IndexByteString n)]) [] R) Try.f79 Hstringslite_IndexByte (PkS.pack Sstringslite_IndexByte (x0, x1, ())) k = (fun (k : Int → Option R) => (bytealg_IndexByteString n x0 x1 fun r1 => k r1)) (fun r0 => k (PkS.pack Tstringslite_IndexByte (r0, ()))) := by kernel_rfl
theorem okstringslite_IndexByte (n : Nat) : FnOk Try.prog 79 (Kstringslite_IndexByte @stringslite_IndexByte n) := by
  refine fn_ok (sig := sig) mixed ttok (mkK_nat (cstringslite_IndexByte n)) (mkK_ok (cstringslite_IndexByte n)) (mkL_nat (mkK_nat (cstringslite_IndexByte n)) (l := []) trivial) (fn := Try.f79) (c := bodyOf Try.f79) (by kernel_rfl) (by kernel_rfl) (by kernel_rfl) (.eq (l := []) (by kernel_rfl) trivial) (shs := Hstringslite_IndexByte) (S := Sstringslite_IndexByte) (h1 := by kernel_rfl) fun R p k => ?_
  unfold Kstringslite_IndexByte
  cases h : (PkS.un Sstringslite_IndexByte p) with
  | none => rfl
  | some d =>
    obtain ⟨x0, x1, u⟩ := (d : ByteArray × Int × Unit)
    have hp := PkS.un_pack h
    subst hp
    exact (estringslite_IndexByte @bytealg_IndexByteString n x0 x1 k).symm

/-! ### strings.IndexByte -/
theorem cstrings_IndexByte (n : Nat) : AllOk Try.prog [(79, Kstringslite_IndexByte @stringslite_IndexByte n)] := ⟨okstringslite_IndexByte n, trivial⟩
@[reducible] def Sstrings_IndexByte : PkS := ⟨[.one (.str), .one (.int .u8)], []⟩
@[reducible] def Tstrings_IndexByte : PkS := ⟨[.one (.int .i64), .one (.dead), .one (.dead)], []⟩
def Hstrings_IndexByte : List Sh := [.one .any, .skip, .skip]
def Kstrings_IndexByte (g : ∀ {R : Type}, Nat → ByteArray → Int → (Int → Option R) → Option R) (n : Nat) : KPs := fun R p k => match (PkS.un Sstrings_IndexByte p : Option (ByteArray × Int × Unit)) with
  | some (x0, x1, _) => g n x0 x1 (fun r0 => k (PkS.pack Tstrings_IndexByte (r0, ())))
  | none => none
theorem estrings_IndexByte (stringslite_IndexByte : ∀ {R : Type}, Nat → ByteArray → Int → (Int → Option R) → Option R) {R : Type} (n : Nat) (x0 : ByteArray) (x1 : Int) (k : Pk → Option R) : evF tt sig (mkK [(79, Kstringslite_IndexByte @stringslite_IndexByte n)] R) (mkL (mkK [(79, Kstringslite_IndexByte @stringslite_IndexByte n)]) [] R) Try.f76 Hstrings_IndexByte (PkS.pack Sstrings_IndexByte (x0, x1, ())) k = (fun (k : Int → Option R) => (stringslite_IndexByte n x0 x1 fun r1 => k r1)) (fun r0 => k (PkS.pack Tstrings_IndexByte (r0, ()))) := by kernel_rfl
theorem okstrings_IndexByte (n : Nat) : FnOk Try.prog 76 (Kstrings_IndexByte @strings_IndexByte n) := by
  refine fn_ok (sig := sig) mixed ttok (mkK_nat (cstrings_IndexByte n)) (mkK_ok (cstrings_IndexByte n)) (mkL_nat (mkK_nat (cstrings_IndexByte n)) (l := []) trivial) (fn := Try.f76) (c := bodyOf Try.f76) (by kernel_rfl) (by kernel_rfl) (by kernel_rfl) (.eq (l := []) (by kernel_rfl) trivial) (shs := Hstrings_IndexByte) (S := Sstrings_IndexByte) (h1 := by kernel_rfl) fun R p k => ?_
  unfold Kstrings_IndexByte
  cases h : (PkS.un Sstrings_IndexByte p) with
  | none => rfl
  | some d =>
    obtain ⟨x0, x1, u⟩ := (d : ByteArray × Int × Unit)
    have hp := PkS.un_pack h
    subst hp
    exact (estrings_IndexByte @stringslite_IndexByte n x0 x1 k).symm

/-! ### loop.example/g00269/impl.varTruth -/
theorem cimpl_varTruth (n : Nat) : AllOk Try.prog [] := trivial
@[reducible] def Simpl_varTruth_l3 : PkS := ⟨[.one (.int .i64), .one (.int .u64), .one (.int .i64), .one (.dead)], []⟩
@[reducible] def Timpl_varTruth_l3_0 : PkS := ⟨[.one (.int .u64), .one (.dead)], []⟩
def Dimpl_varTruth_l3 : LoopD := ⟨19, [0, 3, 5], [.one .any, .one .any, .one .any, .skip], fun x => match x with
  | .exit 0 => some ([3], [.one .any, .skip])
  | _ => none⟩
def Pimpl_varTruth_l3 (g : ∀ {R : Type}, Nat → Int → Int → Int → (Int → Option R) → Option R) (n : Nat) : LPs := fun R q kk => match (PkS.un Simpl_varTruth_l3 q : Option (Int × Int × Int × Unit)) with
  | some (y3_0, y3_1, y3_2, _) => g n y3_0 y3_1 y3_2 (fun r0 => kk (.exit 0) (PkS.pack Timpl_varTruth_l3_0 (r0, ())))
  | none => none
theorem eimpl_varTruth_l3 (impl_varTruth_l3 : ∀ {R : Type}, Nat → Int → Int → Int → (Int → Option R) → Option R) {R : Type} (n : Nat) (y3_0 : Int) (y3_1 : Int) (y3_2 : Int) (kk : Ex → Pk → Option R) : Dimpl_varTruth_l3.step tt sig (mkK [] R) (mkL (mkK []) [] R) (loopIn 3 (bodyOf Try.f61)) (fun q' => Pimpl_varTruth_l3 @impl_varTruth_l3 n R q' kk) (PkS.pack Simpl_varTruth_l3 (y3_0, y3_1, y3_2, ())) kk = (fun (kexit0 : Int → Option R) => (bif (decide (y3_2 < 64)) then (bif decide (0 ≤ y3_0) then (bif ((IntKind.wrap .i64 (Int.ofNat (BitVec.toNat (BitVec.ofInt (IntKind.bits .i64) (Int.fdiv y3_2 (2 ^ (min (Int.toNat y3_0) (IntKind.bits .i64)))) &&& BitVec.ofInt (IntKind.bits .i64) 1)))) == 1) then (bif decide (0 ≤ y3_2) then impl_varTruth_l3 n y3_0 (IntKind.wrap .u64 (Int.ofNat (BitVec.toNat (BitVec.ofInt (IntKind.bits .u64) y3_1 ||| BitVec.ofInt (IntKind.bits .u64) (IntKind.wrap .u64 (1 * 2 ^ (min (Int.toNat y3_2) (IntKind.bits .u64)))))))) (IntKind.wrap .i64 (y3_2 + 1)) kexit0 else none) else impl_varTruth_l3 n y3_0 y3_1 (IntKind.wrap .i64 (y3_2 + 1)) kexit0) else none) else kexit0 y3_1)) (fun r0 => kk (.exit 0) (PkS.pack Timpl_varTruth_l3_0 (r0, ()))) := by kernel_rfl
theorem leimpl_varTruth_l3 : LoopEq tt sig (fun n => mkK []) (fun n => mkL (mkK []) []) Dimpl_varTruth_l3 Simpl_varTruth_l3 (loopIn 3 (bodyOf Try.f61)) (Pimpl_varTruth_l3 @impl_varTruth_l3) where
  zero R q kk := by unfold Pimpl_varTruth_l3; cases (PkS.un Simpl_varTruth_l3 q) <;> rfl
  succ n R q kk := by
    unfold Pimpl_varTruth_l3
    cases h : (PkS.un Simpl_varTruth_l3 q) with
    | none => rfl
    | some d =>
      obtain ⟨y3_0, y3_1, y3_2, u⟩ := (d : Int × Int × Int × Unit)
      have hp := PkS.un_pack h
      subst hp
      exact (eimpl_varTruth_l3 @impl_varTruth_l3 n y3_0 y3_1 y3_2 kk).symm
theorem nlimpl_varTruth_l3 : ∀ n, NatLP (Pimpl_varTruth_l3 @impl_varTruth_l3 n) := leimpl_varTruth_l3.nat (fun n => mkK_nat (cimpl_varTruth n)) fun n => mkL_nat (mkK_nat (cimpl_varTruth n)) (l := []) trivial
theorem inimpl_varTruth_l3 (n : Nat) (R : Type) : LoopsOk Try.prog (mkL (mkK []) [] R) (loopIn 3 (bodyOf Try.f61)) := .eq (l := []) (by kernel_rfl) trivial
theorem lkimpl_varTruth_l3 (n : Nat) (R : Type) (L0 : LK R) (h0 : ∀ id, firstRegion (loopIn 3 (bodyOf Try.f61)) = some id → L0 id = Dimpl_varTruth_l3.oracle (mkK [] R) (Pimpl_varTruth_l3 @impl_varTruth_l3 n R)) : LoopOk Try.prog L0 (loopIn 3 (bodyOf Try.f61)) :=
  leimpl_varTruth_l3.ok mixed ttok (fun n => mkK_nat (cimpl_varTruth n)) (fun n => mkK_ok (cimpl_varTruth n)) (fun n => inimpl_varTruth_l3 n R) (mkK_nat (cimpl_varTruth n)) h0
@[reducible] def Simpl_varTruth : PkS := ⟨[.one (.int .i64)], []⟩
@[reducible] def Timpl_varTruth : PkS := ⟨[.one (.int .u64), .one (.dead)], []⟩
def Himpl_varTruth : List Sh := [.one .any, .skip]
def Kimpl_varTruth (g : ∀ {R : Type}, Nat → Int → (Int → Option R) → Option R) (n : Nat) : KPs := fun R p k => match (PkS.un Simpl_varTruth p : Option (Int × Unit)) with
  | some (x0, _) => g n x0 (fun r0 => k (PkS.pack Timpl_varTruth (r0, ())))
  | none => none
theorem eimpl_varTruth (impl_varTruth_l3 : ∀ {R : Type}, Nat → Int → Int → Int → (Int → Option R) → Option R) {R : Type} (n : Nat) (x0 : Int) (k : Pk → Option R) : evF tt sig (mkK [] R) (mkL (mkK []) [(3, Dimpl_varTruth_l3, Pimpl_varTruth_l3 @impl_varTruth_l3 n)] R) Try.f61 Himpl_varTruth (PkS.pack Simpl_varTruth (x0, ())) k = (fun (k : Int → Option R) => (impl_varTruth_l3 n x0 0 0 (fun r1 => k r1))) (fun r0 => k (PkS.pack Timpl_varTruth (r0, ()))) := by kernel_rfl
theorem okimpl_varTruth (n : Nat) : FnOk Try.prog 61 (Kimpl_varTruth @impl_varTruth n) := by
  refine fn_ok (sig := sig) mixed ttok (mkK_nat (cimpl_varTruth n)) (mkK_ok (cimpl_varTruth n)) (mkL_nat (mkK_nat (cimpl_varTruth n)) (l := [(3, Dimpl_varTruth_l3, Pimpl_varTruth_l3 @impl_varTruth_l3 n)]) ⟨nlimpl_varTruth_l3 n, trivial⟩) (fn := Try.f61) (c := bodyOf Try.f61) (by kernel_rfl) (by kernel_rfl) (by kernel_rfl) (.eq (l := [.lo (loopIn 3 (bodyOf Try.f61))]) (by kernel_rfl) ⟨(lkimpl_varTruth_l3 n _ _ (at_id (i := 3) (by kernel_rfl) rfl)), trivial⟩) (shs := Himpl_varTruth) (S := Simpl_varTruth) (h1 := by kernel_rfl) fun R p k => ?_
  unfold Kimpl_varTruth
  cases h : (PkS.un Simpl_varTruth p) with
  | none => rfl
  | some d =>
    obtain ⟨x0, u⟩ := (d : Int × Unit)
    have hp := PkS.un_pack h
    subst hp
    exact (eimpl_varTruth @impl_varTruth_l3 n x0 k).symm

/-! ### (*loop.example/g00269/impl.formReader).form -/
theorem cimpl_formReader_form (n : Nat) : AllOk Try.prog [(75, Kimpl_formReader_next @impl_formReader_next n), (76, Kstrings_IndexByte @strings_IndexByte n), (61, Kimpl_varTruth @impl_varTruth n)] := ⟨okimpl_formReader_next n, ⟨okstrings_IndexByte n, ⟨okimpl_varTruth n, trivial⟩⟩⟩
@[reducible] def Simpl_formReader_form : PkS := ⟨[.one (.box (200000, 0) 0)], [((200000, 0), .box [.str, .bool])]⟩
@[reducible] def Timpl_formReader_form : PkS := ⟨[.one (.int .u64), .one (.box (300000, 0) 0)], [((300000, 0), .box [.str, .bool])]⟩
def Himpl_formReader_form : List Sh := [.one .any, .box [.any, .any]]
def Kimpl_formReader_form (g : ∀ {R : Type}, Nat → ByteArray → Bool → (Int → ByteArray → Bool → Option R) → Option R) (n : Nat) : KPs := fun R p k => match (PkS.un Simpl_formReader_form p : Option (ByteArray × Bool × Unit)) with
  | some (x0, x1, _) => g n x0 x1 (fun r0 r1 r2 => k (PkS.pack Timpl_formReader_form (r0, r1, r2, ())))
  | none => none
theorem dimpl_formReader_form (n : Nat) (ih : FnOk Try.prog 66 (Kimpl_formReader_form @impl_formReader_form n)) : AllOk Try.prog [(75, Kimpl_formReader_next @impl_formReader_next n), (76, Kstrings_IndexByte @strings_IndexByte n), (61, Kimpl_varTruth @impl_varTruth n), (66, Kimpl_formReader_form @impl_formReader_form n)] := ⟨okimpl_formReader_next n, ⟨okstrings_IndexByte n, ⟨okimpl_varTruth n, ⟨ih, trivial⟩⟩⟩⟩
theorem eimpl_formReader_form (impl_formReader_next : ∀ {R : Type}, Nat → ByteArray → Bool → (Int → ByteArray → Bool → Option R) → Option R) (strings_IndexByte : ∀ {R : Type}, Nat → ByteArray → Int → (Int → Option R) → Option R) (impl_varTruth : ∀ {R : Type}, Nat → Int → (Int → Option R) → Option R) (impl_formReader_form : ∀ {R : Type}, Nat → ByteArray → Bool → (Int → ByteArray → Bool → Option R) → Option R) {R : Type} (n : Nat) (x0 : ByteArray) (x1 : Bool) (k : Pk → Option R) : evF tt sig (mkK [(75, Kimpl_formReader_next @impl_formReader_next n), (76, Kstrings_IndexByte @strings_IndexByte n), (61, Kimpl_varTruth @impl_varTruth n), (66, Kimpl_formReader_form @impl_formReader_form n)] R) (mkL (mkK [(75, Kimpl_formReader_next @impl_formReader_next n), (76, Kstrings_IndexByte @strings_IndexByte n), (61, Kimpl_varTruth @impl_varTruth n)]) [] R) Try.f66 Himpl_formReader_form (PkS.pack Simpl_formReader_form (x0, x1, ())) k = (fun (k : Int → ByteArray → Bool → Option R) => (impl_formReader_next n x0 x1 fun r1 r2 r3 => (bif r3 then k 0 r2 r3 else (strings_IndexByte n (ByteArray.mk #[97, 98, 99, 100, 101, 102]) r1 fun r4 => (bif (r1 == 48) then k 0 r2 r3 else (bif (r1 == 49) then k 18446744073709551615 r2 r3 else (bif (decide (r4 ≥ 0)) then (impl_varTruth n r4 fun r5 => k r5 r2 r3) else (bif (r1 == 33) then (impl_formReader_form n r2 r3 fun r6 r7 r8 => k (IntKind.wrap .u64 (BitVec.toNat (BitVec.ofInt (IntKind.bits .u64) (18446744073709551615) ^^^ BitVec.ofInt (IntKind.bits .u64) r6))) r7 r8) else (bif (r1 != 40) then k 0 r2 true else (impl_formReader_form n r2 r3 fun r9 r10 r11 => (impl_formReader_next n r10 r11 fun r12 r13 r14 => (impl_formReader_form n r13 r14 fun r15 r16 r17 => (bif r17 then (bif (r12 == 38) then k (IntKind.wrap .u64 (Int.ofNat (BitVec.toNat (BitVec.ofInt (IntKind.bits .u64) r9 &&& BitVec.ofInt (IntKind.bits .u64) r15)))) r16 true else (bif (r12 == 124) then k (IntKind.wrap .u64 (Int.ofNat (BitVec.toNat (BitVec.ofInt (IntKind.bits .u64) r9 ||| BitVec.ofInt (IntKind.bits .u64) r15)))) r16 true else (bif (r12 == 94) then k (IntKind.wrap .u64 (Int.ofNat (BitVec.toNat (BitVec.ofInt (IntKind.bits .u64) r9 ^^^ BitVec.ofInt (IntKind.bits .u64) r15)))) r16 true else k 0 r16 true))) else (impl_formReader_next n r16 r17 fun r18 r19 r20 => (bif (r12 == 38) then k (IntKind.wrap .u64 (Int.ofNat (BitVec.toNat (BitVec.ofInt (IntKind.bits .u64) r9 &&& BitVec.ofInt (IntKind.bits .u64) r15)))) r19 (r18 != 41) else (bif (r12 == 124) then k (IntKind.wrap .u64 (Int.ofNat (BitVec.toNat (BitVec.ofInt (IntKind.bits .u64) r9 ||| BitVec.ofInt (IntKind.bits .u64) r15)))) r19 (r18 != 41) else (bif (r12 == 94) then k (IntKind.wrap .u64 (Int.ofNat (BitVec.toNat (BitVec.ofInt (IntKind.bits .u64) r9 ^^^ BitVec.ofInt (IntKind.bits .u64) r15)))) r19 (r18 != 41) else k 0 r19 true))))))))))))))))) (fun r0 r1 r2 => k (PkS.pack Timpl_formReader_form (r0, r1, r2, ()))) := by kernel_rfl
theorem okimpl_formReader_form : ∀ n, FnOk Try.prog 66 (Kimpl_formReader_form @impl_formReader_form n)
  | 0 => fn_none fun R p k => by unfold Kimpl_formReader_form; cases (PkS.un Simpl_formReader_form p : Option (ByteArray × Bool × Unit)) <;> rfl
  | n + 1 => by
    refine fn_ok (sig := sig) mixed ttok (mkK_nat (dimpl_formReader_form n (okimpl_formReader_form n))) (mkK_ok (dimpl_formReader_form n (okimpl_formReader_form n))) (mkL_nat (mkK_nat (cimpl_formReader_form n)) (l := []) trivial) (fn := Try.f66) (c := bodyOf Try.f66) (by kernel_rfl) (by kernel_rfl) (by kernel_rfl) (.eq (l := []) (by kernel_rfl) trivial) (shs := Himpl_formReader_form) (S := Simpl_formReader_form) (h1 := by kernel_rfl) fun R p k => ?_
    unfold Kimpl_formReader_form
    cases h : (PkS.un Simpl_formReader_form p) with
    | none => rfl
    | some d =>
      obtain ⟨x0, x1, u⟩ := (d : ByteArray × Bool × Unit)
      have hp := PkS.un_pack h
      subst hp
      exact (eimpl_formReader_form @impl_formReader_next @strings_IndexByte @impl_varTruth @impl_formReader_form n x0 x1 k).symm

/-! ### loop.example/g00269/impl.readForm -/
theorem cimpl_readForm (n : Nat) : AllOk Try.prog [(66, Kimpl_formReader_form @impl_formReader_form n)] := ⟨okimpl_formReader_form n, trivial⟩
@[reducible] def Simpl_readForm : PkS := ⟨[.one (.str)], []⟩
@[reducible] def Timpl_readForm : PkS := ⟨[.tup [(false, [.int .u64]), (false, [.bool])], .one (.dead)], []⟩
def Himpl_readForm : List Sh := [.tup [(false, [.any]), (false, [.any])], .skip]
def Kimpl_readForm (g : ∀ {R : Type}, Nat → ByteArray → (Int → Bool → Option R) → Option R) (n : Nat) : KPs := fun R p k => match (PkS.un Simpl_readForm p : Option (ByteArray × Unit)) with
  | some (x0, _) => g n x0 (fun r0 r1 => k (PkS.pack Timpl_readForm (r0, r1, ())))
  | none => none
theorem eimpl_readForm (impl_formReader_form : ∀ {R : Type}, Nat → ByteArray → Bool → (Int → ByteArray → Bool → Option R) → Option R) {R : Type} (n : Nat) (x0 : ByteArray) (k : Pk → Option R) : evF tt sig (mkK [(66, Kimpl_formReader_form @impl_formReader_form n)] R) (mkL (mkK [(66, Kimpl_formReader_form @impl_formReader_form n)]) [] R) Try.f48 Himpl_readForm (PkS.pack Simpl_readForm (x0, ())) k = (fun (k : Int → Bool → Option R) => (bif (decide ((x0.size : Int) > 60)) then k 0 false else (impl_formReader_form n x0 false fun r1 r2 r3 => (bif (!r3) then k r1 ((ByteArray.toList r2) == (ByteArray.toList (ByteArray.mk #[]))) else k r1 false)))) (fun r0 r1 => k (PkS.pack Timpl_readForm (r0, r1, ()))) := by kernel_rfl
theorem okimpl_readForm (n : Nat) : FnOk Try.prog 48 (Kimpl_readForm @impl_readForm n) := by
  refine fn_ok (sig := sig) mixed ttok (mkK_nat (cimpl_readForm n)) (mkK_ok (cimpl_readForm n)) (mkL_nat (mkK_nat (cimpl_readForm n)) (l := []) trivial) (fn := Try.f48) (c := bodyOf Try.f48) (by kernel_rfl) (by kernel_rfl) (by kernel_rfl) (.eq (l := []) (by kernel_rfl) trivial) (shs := Himpl_readForm) (S := Simpl_readForm) (h1 := by kernel_rfl) fun R p k => ?_
  unfold Kimpl_readForm
  cases h : (PkS.un Simpl_readForm p) with
  | none => rfl
  | some d =>
    obtain ⟨x0, u⟩ := (d : ByteArray × Unit)
    have hp := PkS.un_pack h
    subst hp
    exact (eimpl_readForm @impl_formReader_form n x0 k).symm

/-! ### (loop.example/g00269/impl.truth).with -/
theorem cimpl_truth_with (n : Nat) : AllOk Try.prog [(61, Kimpl_varTruth @impl_varTruth n)] := ⟨okimpl_varTruth n, trivial⟩
@[reducible] def Simpl_truth_with : PkS := ⟨[.one (.int .u64), .one (.int .i64), .one (.bool)], []⟩
@[reducible] def Timpl_truth_with : PkS := ⟨[.one (.int .u64), .one (.dead), .one (.dead), .one (.dead)], []⟩
def Himpl_truth_with : List Sh := [.one .any, .skip, .skip, .skip]
def Kimpl_truth_with (g : ∀ {R : Type}, Nat → Int → Int → Bool → (Int → Option R) → Option R) (n : Nat) : KPs := fun R p k => match (PkS.un Simpl_truth_with p : Option (Int × Int × Bool × Unit)) with
  | some (x0, x1, x2, _) => g n x0 x1 x2 (fun r0 => k (PkS.pack Timpl_truth_with (r0, ())))
  | none => none
theorem eimpl_truth_with (impl_varTruth : ∀ {R : Type}, Nat → Int → (Int → Option R) → Option R) {R : Type} (n : Nat) (x0 : Int) (x1 : Int) (x2 : Bool) (k : Pk → Option R) : evF tt sig (mkK [(61, Kimpl_varTruth @impl_varTruth n)] R) (mkL (mkK [(61, Kimpl_varTruth @impl_varTruth n)]) [] R) Try.f55 Himpl_truth_with (PkS.pack Simpl_truth_with (x0, x1, x2, ())) k = (fun (k : Int → Option R) => (impl_varTruth n x1 fun r1 => (bif decide (0 ≤ x1) then (bif x2 then (bif decide (0 ≤ (IntKind.wrap .i64 (1 * 2 ^ (min (Int.toNat x1) (IntKind.bits .i64))))) then k (IntKind.wrap .u64 (Int.ofNat (BitVec.toNat (BitVec.ofInt (IntKind.bits .u64) (IntKind.wrap .u64 (Int.ofNat (BitVec.toNat (BitVec.ofInt (IntKind.bits .u64) x0 &&& BitVec.ofInt (IntKind.bits .u64) r1)))) ||| BitVec.ofInt (IntKind.bits .u64) (Int.fdiv (IntKind.wrap .u64 (Int.ofNat (BitVec.toNat (BitVec.ofInt (IntKind.bits .u64) x0 &&& BitVec.ofInt (IntKind.bits .u64) r1)))) (2 ^ (min (Int.toNat (IntKind.wrap .i64 (1 * 2 ^ (min (Int.toNat x1) (IntKind.bits .i64))))) (IntKind.bits .u64)))))))) else none) else (bif decide (0 ≤ (IntKind.wrap .i64 (1 * 2 ^ (min (Int.toNat x1) (IntKind.bits .i64))))) then k (IntKind.wrap .u64 (Int.ofNat (BitVec.toNat (BitVec.ofInt (IntKind.bits .u64) (IntKind.wrap .u64 (Int.ofNat (BitVec.toNat (BitVec.ofInt (IntKind.bits .u64) x0 &&& ~~~ BitVec.ofInt (IntKind.bits .u64) r1)))) ||| BitVec.ofInt (IntKind.bits .u64) (IntKind.wrap .u64 ((IntKind.wrap .u64 (Int.ofNat (BitVec.toNat (BitVec.ofInt (IntKind.bits .u64) x0 &&& ~~~ BitVec.ofInt (IntKind.bits .u64) r1)))) * 2 ^ (min (Int.toNat (IntKind.wrap .i64 (1 * 2 ^ (min (Int.toNat x1) (IntKind.bits .i64))))) (IntKind.bits .u64)))))))) else none)) else none))) (fun r0 => k (PkS.pack Timpl_truth_with (r0, ()))) := by kernel_rfl
theorem okimpl_truth_with (n : Nat) : FnOk Try.prog 55 (Kimpl_truth_with @impl_truth_with n) := by
  refine fn_ok (sig := sig) mixed ttok (mkK_nat (cimpl_truth_with n)) (mkK_ok (cimpl_truth_with n)) (mkL_nat (mkK_nat (cimpl_truth_with n)) (l := []) trivial) (fn := Try.f55) (c := bodyOf Try.f55) (by kernel_rfl) (by kernel_rfl) (by kernel_rfl) (.eq (l := []) (by kernel_rfl) trivial) (shs := Himpl_truth_with) (S := Simpl_truth_with) (h1 := by kernel_rfl) fun R p k => ?_
  unfold Kimpl_truth_with
  cases h : (PkS.un Simpl_truth_with p) with
  | none => rfl
  | some d =>
    obtain ⟨x0, x1, x2, u⟩ := (d : Int × Int × Bool × Unit)
    have hp := PkS.un_pack h
    subst hp
    exact (eimpl_truth_with @impl_varTruth n x0 x1 x2 k).symm

/-! ### (*loop.example/g00269/impl.builder).node -/
theorem cimpl_builder_node (n : Nat) : AllOk Try.prog [(55, Kimpl_truth_with @impl_truth_with n)] := ⟨okimpl_truth_with n, trivial⟩
@[reducible] def Simpl_builder_node_l10 : PkS := ⟨[.one (.box (100000, 2) 0), .one (.int .u64), .one (.int .i64), .one (.box (100000, 2) 0), .one (.dead)], [((100000, 0), .arr (.pr (.int .i64) (.pr (.int .i64) (.int .i64)))), ((100000, 1), .map), ((100000, 2), .box [.whole (100000, 0), .mp (100000, 1)])]⟩
@[reducible] def Timpl_builder_node_l10_0 : PkS := ⟨[.one (.box (100000, 2) 0), .one (.int .u64), .one (.int .i64), .one (.box (100000, 2) 0), .one (.dead)], [((100000, 0), .arr (.pr (.int .i64) (.pr (.int .i64) (.int .i64)))), ((100000, 1), .map), ((100000, 2), .box [.whole (100000, 0), .mp (100000, 1)])]⟩
def Dimpl_builder_node_l10 : LoopD := ⟨75, [0, 1, 7], [.box [(.own (.pr (.int .i64) (.pr (.int .i64) (.int .i64)))), .map], .one .any, .one .any, .box [(.own (.pr (.int .i64) (.pr (.int .i64) (.int .i64)))), .map], .skip], fun x => match x with
  | .exit 1 => some ([0, 1, 7], [.box [(.own (.pr (.int .i64) (.pr (.int .i64) (.int .i64)))), .map], .one .any, .one .any, .box [(.own (.pr (.int .i64) (.pr (.int .i64) (.int .i64)))), .map], .skip])
  | _ => none⟩
def Pimpl_builder_node_l10 (g : ∀ {R : Type}, Nat → Int → Int → (List (Int × Int × Int)) → (List (Int × Int)) → (Int → Int → (List (Int × Int × Int)) → (List (Int × Int)) → Option R) → Option R) (n : Nat) : LPs := fun R q kk => match (PkS.un Simpl_builder_node_l10 q : Option (Int × Int × (List (Int × Int × Int)) × (List (Int × Int)) × Unit)) with
  | some (y10_0, y10_1, y10_2, y10_3, _) => g n y10_0 y10_1 y10_2 y10_3 (fun r0 r1 r2 r3 => kk (.exit 1) (PkS.pack Timpl_builder_node_l10_0 (r0, r1, r2, r3, ())))
  | none => none
theorem eimpl_builder_node_l10 (impl_truth_with : ∀ {R : Type}, Nat → Int → Int → Bool → (Int → Option R) → Option R) (impl_builder_node_l10 : ∀ {R : Type}, Nat → Int → Int → (List (Int × Int × Int)) → (List (Int × Int)) → (Int → Int → (List (Int × Int × Int)) → (List (Int × Int)) → Option R) → Option R) {R : Type} (n : Nat) (y10_0 : Int) (y10_1 : Int) (y10_2 : List (Int × Int × Int)) (y10_3 : List (Int × Int)) (kk : Ex → Pk → Option R) : Dimpl_builder_node_l10.step tt sig (mkK [(55, Kimpl_truth_with @impl_truth_with n)] R) (mkL (mkK [(55, Kimpl_truth_with @impl_truth_with n)]) [] R) (loopIn 10 (bodyOf Try.f67)) (fun q' => Pimpl_builder_node_l10 @impl_builder_node_l10 n R q' kk) (PkS.pack Simpl_builder_node_l10 (y10_0, y10_1, y10_2, y10_3, ())) kk = (fun (kexit1 : Int → Int → (List (Int × Int × Int)) → (List (Int × Int)) → Option R) => (impl_truth_with n y10_0 y10_1 false fun r1 => (impl_truth_with n y10_0 y10_1 true fun r2 => (bif (r1 == r2) then impl_builder_node_l10 n y10_0 (IntKind.wrap .i64 (y10_1 + 1)) y10_2 y10_3 kexit1 else kexit1 y10_0 y10_1 y10_2 y10_3)))) (fun r0 r1 r2 r3 => kk (.exit 1) (PkS.pack Timpl_builder_node_l10_0 (r0, r1, r2, r3, ()))) := by kernel_rfl
theorem leimpl_builder_node_l10 : LoopEq tt sig (fun n => mkK [(55, Kimpl_truth_with @impl_truth_with n)]) (fun n => mkL (mkK [(55, Kimpl_truth_with @impl_truth_with n)]) []) Dimpl_builder_node_l10 Simpl_builder_node_l10 (loopIn 10 (bodyOf Try.f67)) (Pimpl_builder_node_l10 @impl_builder_node_l10) where
  zero R q kk := by unfold Pimpl_builder_node_l10; cases (PkS.un Simpl_builder_node_l10 q) <;> rfl
  succ n R q kk := by
    unfold Pimpl_builder_node_l10
    cases h : (PkS.un Simpl_builder_node_l10 q) with
    | none => rfl
    | some d =>
      obtain ⟨y10_0, y10_1, y10_2, y10_3, u⟩ := (d : Int × Int × (List (Int × Int × Int)) × (List (Int × Int)) × Unit)
      have hp := PkS.un_pack h
      subst hp
      exact (eimpl_builder_node_l10 @impl_truth_with @impl_builder_node_l10 n y10_0 y10_1 y10_2 y10_3 kk).symm
theorem nlimpl_builder_node_l10 : ∀ n, NatLP (Pimpl_builder_node_l10 @impl_builder_node_l10 n) := leimpl_builder_node_l10.nat (fun n => mkK_nat (cimpl_builder_node n)) fun n => mkL_nat (mkK_nat (cimpl_builder_node n)) (l := []) trivial
theorem inimpl_builder_node_l10 (n : Nat) (R : Type) : LoopsOk Try.prog (mkL (mkK [(55, Kimpl_truth_with @impl_truth_with n)]) [] R) (loopIn 10 (bodyOf Try.f67)) := .eq (l := []) (by kernel_rfl) trivial
theorem lkimpl_builder_node_l10 (n : Nat) (R : Type) (L0 : LK R) (h0 : ∀ id, firstRegion (loopIn 10 (bodyOf Try.f67)) = some id → L0 id = Dimpl_builder_node_l10.oracle (mkK [(55, Kimpl_truth_with @impl_truth_with n)] R) (Pimpl_builder_node_l10 @impl_builder_node_l10 n R)) : LoopOk Try.prog L0 (loopIn 10 (bodyOf Try.f67)) :=
  leimpl_builder_node_l10.ok mixed ttok (fun n => mkK_nat (cimpl_builder_node n)) (fun n => mkK_ok (cimpl_builder_node n)) (fun n => inimpl_builder_node_l10 n R) (mkK_nat (cimpl_builder_node n)) h0
@[reducible] def Simpl_builder_node : PkS := ⟨[.one (.box (200000, 2) 0), .one (.int .u64)], [((200000, 0), .arr (.pr (.int .i64) (.pr (.int .i64) (.int .i64)))), ((200000, 1), .map), ((200000, 2), .box [.whole (200000, 0), .mp (200000, 1)])]⟩
@[reducible] def Timpl_builder_node : PkS := ⟨[.one (.int .i64), .one (.box (300000, 2) 0), .one (.dead)], [((300000, 0), .arr (.pr (.int .i64) (.pr (.int .i64) (.int .i64)))), ((300000, 1), .map), ((300000, 2), .box [.whole (300000, 0), .mp (300000, 1)])]⟩
def Himpl_builder_node : List Sh := [.one .any, .box [(.own (.pr (.int .i64) (.pr (.int .i64) (.int .i64)))), .map], .skip]
def Kimpl_builder_node (g : ∀ {R : Type}, Nat → Int → (List (Int × Int × Int)) → (List (Int × Int)) → (Int → (List (Int × Int × Int)) → (List (Int × Int)) → Option R) → Option R) (n : Nat) : KPs := fun R p k => match (PkS.un Simpl_builder_node p : Option (Int × (List (Int × Int × Int)) × (List (Int × Int)) × Unit)) with
  | some (x0, x1, x2, _) => g n x0 x1 x2 (fun r0 r1 r2 => k (PkS.pack Timpl_builder_node (r0, r1, r2, ())))
  | none => none
theorem dimpl_builder_node (n : Nat) (ih : FnOk Try.prog 67 (Kimpl_builder_node @impl_builder_node n)) : AllOk Try.prog [(55, Kimpl_truth_with @impl_truth_with n), (67, Kimpl_builder_node @impl_builder_node n)] := ⟨okimpl_truth_with n, ⟨ih, trivial⟩⟩
theorem eimpl_builder_node (impl_truth_with : ∀ {R : Type}, Nat → Int → Int → Bool → (Int → Option R) → Option R) (impl_builder_node : ∀ {R : Type}, Nat → Int → (List (Int × Int × Int)) → (List (Int × Int)) → (Int → (List (Int × Int × Int)) → (List (Int × Int)) → Option R) → Option R) (impl_builder_node_l10 : ∀ {R : Type}, Nat → Int → Int → (List (Int × Int × Int)) → (List (Int × Int)) → (Int → Int → (List (Int × Int × Int)) → (List (Int × Int)) → Option R) → Option R) {R : Type} (n : Nat) (x0 : Int) (x1 : List (Int × Int × Int)) (x2 : List (Int × Int)) (k : Pk → Option R) : evF tt sig (mkK [(55, Kimpl_truth_with @impl_truth_with n), (67, Kimpl_builder_node @impl_builder_node n)] R) (mkL (mkK [(55, Kimpl_truth_with @impl_truth_with n)]) [(10, Dimpl_builder_node_l10, Pimpl_builder_node_l10 @impl_builder_node_l10 n)] R) Try.f67 Himpl_builder_node (PkS.pack Simpl_builder_node (x0, x1, x2, ())) k = (fun (k : Int → (List (Int × Int × Int)) → (List (Int × Int)) → Option R) => (bif (x0 == 0) then k (-2) x1 x2 else (bif (x0 == 18446744073709551615) then k (-1) x1 x2 else (bif (List.lookup x0 x2).isSome then k ((List.lookup x0 x2).getD 0) x1 x2 else (impl_builder_node_l10 n x0 0 x1 x2 (fun r3 r4 r5 r6 => (impl_truth_with n r3 r4 false fun r7 => (impl_builder_node n r7 r5 r6 fun r8 r9 r10 => (impl_truth_with n r3 r4 true fun r11 => (impl_builder_node n r11 r9 r10 fun r12 r13 r14 => (bif decide (r13.length + ([(r4, (r8, r12))]).length ≤ LIM) then k (IntKind.wrap .i64 (((r13 ++ [(r4, (r8, r12))]).length : Int) - 1)) (r13 ++ [(r4, (r8, r12))]) ((r3, (IntKind.wrap .i64 (((r13 ++ [(r4, (r8, r12))]).length : Int) - 1))) :: r14) else none))))))))))) (fun r0 r1 r2 => k (PkS.pack Timpl_builder_node (r0, r1, r2, ()))) := by kernel_rfl
theorem okimpl_builder_node : ∀ n, FnOk Try.prog 67 (Kimpl_builder_node @impl_builder_node n)
  | 0 => fn_none fun R p k => by unfold Kimpl_builder_node; cases (PkS.un Simpl_builder_node p : Option (Int × (List (Int × Int × Int)) × (List (Int × Int)) × Unit)) <;> rfl
  | n + 1 => by
    refine fn_ok (sig := sig) mixed ttok (mkK_nat (dimpl_builder_node n (okimpl_builder_node n))) (mkK_ok (dimpl_builder_node n (okimpl_builder_node n))) (mkL_nat (mkK_nat (cimpl_builder_node n)) (l := [(10, Dimpl_builder_node_l10, Pimpl_builder_node_l10 @impl_builder_node_l10 n)]) ⟨nlimpl_builder_node_l10 n, trivial⟩) (fn := Try.f67) (c := bodyOf Try.f67) (by kernel_rfl) (by kernel_rfl) (by kernel_rfl) (.eq (l := [.lo (loopIn 10 (bodyOf Try.f67))]) (by kernel_rfl) ⟨(lkimpl_builder_node_l10 n _ _ (at_id (i := 10) (by kernel_rfl) rfl)), trivial⟩) (shs := Himpl_builder_node) (S := Simpl_builder_node) (h1 := by kernel_rfl) fun R p k => ?_
    unfold Kimpl_builder_node
    cases h : (PkS.un Simpl_builder_node p) with
    | none => rfl
    | some d =>
      obtain ⟨x0, x1, x2, u⟩ := (d : Int × (List (Int × Int × Int)) × (List (Int × Int)) × Unit)
      have hp := PkS.un_pack h
      subst hp
      exact (eimpl_builder_node @impl_truth_with @impl_builder_node @impl_builder_node_l10 n x0 x1 x2 k).symm

/-! ### loop.example/g00269/impl.diagramOf -/
theorem cimpl_diagramOf (n : Nat) : AllOk Try.prog [(67, Kimpl_builder_node @impl_builder_node n)] := ⟨okimpl_builder_node n, trivial⟩
@[reducible] def Simpl_diagramOf : PkS := ⟨[.one (.int .u64)], []⟩
@[reducible] def Timpl_diagramOf : PkS := ⟨[.tup [(true, [.whole (300000, 0), .int .i64]), (false, [.bool])], .one (.dead)], [((300000, 0), .arr (.pr (.int .i64) (.pr (.int .i64) (.int .i64))))]⟩
def Himpl_diagramOf : List Sh := [.tup [(true, [(.own (.pr (.int .i64) (.pr (.int .i64) (.int .i64)))), .any]), (false, [.any])], .skip]
def Kimpl_diagramOf (g : ∀ {R : Type}, Nat → Int → (Int → Bool → (List (Int × Int × Int)) → Option R) → Option R) (n : Nat) : KPs := fun R p k => match (PkS.un Simpl_diagramOf p : Option (Int × Unit)) with
  | some (x0, _) => g n x0 (fun r0 r1 r2 => k (PkS.pack Timpl_diagramOf (r0, r1, r2, ())))
  | none => none
theorem eimpl_diagramOf (impl_builder_node : ∀ {R : Type}, Nat → Int → (List (Int × Int × Int)) → (List (Int × Int)) → (Int → (List (Int × Int × Int)) → (List (Int × Int)) → Option R) → Option R) {R : Type} (n : Nat) (x0 : Int) (k : Pk → Option R) : evF tt sig (mkK [(67, Kimpl_builder_node @impl_builder_node n)] R) (mkL (mkK [(67, Kimpl_builder_node @impl_builder_node n)]) [] R) Try.f49 Himpl_diagramOf (PkS.pack Simpl_diagramOf (x0, ())) k = (fun (k : Int → Bool → (List (Int × Int × Int)) → Option R) => (impl_builder_node n x0 ([] : List (Int × Int × Int)) ([] : List (Int × Int)) fun r1 r2 r3 => (bif (decide ((r2.length : Int) > 70)) then k 0 false ([] : List (Int × Int × Int)) else k r1 true r2))) (fun r0 r1 r2 => k (PkS.pack Timpl_diagramOf (r0, r1, r2, ()))) := by kernel_rfl
theorem okimpl_diagramOf (n : Nat) : FnOk Try.prog 49 (Kimpl_diagramOf @impl_diagramOf n) := by
  refine fn_ok (sig := sig) mixed ttok (mkK_nat (cimpl_diagramOf n)) (mkK_ok (cimpl_diagramOf n)) (mkL_nat (mkK_nat (cimpl_diagramOf n)) (l := []) trivial) (fn := Try.f49) (c := bodyOf Try.f49) (by kernel_rfl) (by kernel_rfl) (by kernel_rfl) (.eq (l := []) (by kernel_rfl) trivial) (shs := Himpl_diagramOf) (S := Simpl_diagramOf) (h1 := by kernel_rfl) fun R p k => ?_
  unfold Kimpl_diagramOf
  cases h : (PkS.un Simpl_diagramOf p) with
  | none => rfl
  | some d =>
    obtain ⟨x0, u⟩ := (d : Int × Unit)
    have hp := PkS.un_pack h
    subst hp
    exact (eimpl_diagramOf @impl_builder_node n x0 k).symm

/-! ### loop.example/g00269/impl.DiagramOf -/
theorem cimpl_DiagramOf (n : Nat) : AllOk Try.prog [(48, Kimpl_readForm @impl_readForm n), (49, Kimpl_diagramOf @impl_diagramOf n)] := ⟨okimpl_readForm n, ⟨okimpl_diagramOf n, trivial⟩⟩
@[reducible] def Simpl_DiagramOf : PkS := ⟨[.one (.str)], []⟩
@[reducible] def Timpl_DiagramOf : PkS := ⟨[.tup [(true, [.whole (300000, 0), .int .i64]), (false, [.bool])], .one (.dead)], [((300000, 0), .arr (.pr (.int .i64) (.pr (.int .i64) (.int .i64))))]⟩
def Himpl_DiagramOf : List Sh := [.tup [(true, [(.own (.pr (.int .i64) (.pr (.int .i64) (.int .i64)))), .any]), (false, [.any])], .skip]
def Kimpl_DiagramOf (g : ∀ {R : Type}, Nat → ByteArray → (Int → Bool → (List (Int × Int × Int)) → Option R) → Option R) (n : Nat) : KPs := fun R p k => match (PkS.un Simpl_DiagramOf p : Option (ByteArray × Unit)) with
  | some (x0, _) => g n x0 (fun r0 r1 r2 => k (PkS.pack Timpl_DiagramOf (r0, r1, r2, ())))
  | none => none
theorem eimpl_DiagramOf (impl_readForm : ∀ {R : Type}, Nat → ByteArray → (Int → Bool → Option R) → Option R) (impl_diagramOf : ∀ {R : Type}, Nat → Int → (Int → Bool → (List (Int × Int × Int)) → Option R) → Option R) {R : Type} (n : Nat) (x0 : ByteArray) (k : Pk → Option R) : evF tt sig (mkK [(48, Kimpl_readForm @impl_readForm n), (49, Kimpl_diagramOf @impl_diagramOf n)] R) (mkL (mkK [(48, Kimpl_readForm @impl_readForm n), (49, Kimpl_diagramOf @impl_diagramOf n)]) [] R) Try.f20 Himpl_DiagramOf (PkS.pack Simpl_DiagramOf (x0, ())) k = (fun (k : Int → Bool → (List (Int × Int × Int)) → Option R) => (impl_readForm n x0 fun r1 r2 => (bif (!r2) then k 0 false ([] : List (Int × Int × Int)) else (impl_diagramOf n r1 fun r3 r4 r5 => k r3 r4 r5)))) (fun r0 r1 r2 => k (PkS.pack Timpl_DiagramOf (r0, r1, r2, ()))) := by kernel_rfl
theorem okimpl_DiagramOf (n : Nat) : FnOk Try.prog 20 (Kimpl_DiagramOf @impl_DiagramOf n) := by
  refine fn_ok (sig := sig) mixed ttok (mkK_nat (cimpl_DiagramOf n)) (mkK_ok (cimpl_DiagramOf n)) (mkL_nat (mkK_nat (cimpl_DiagramOf n)) (l := []) trivial) (fn := Try.f20) (c := bodyOf Try.f20) (by kernel_rfl) (by kernel_rfl) (by kernel_rfl) (.eq (l := []) (by kernel_rfl) trivial) (shs := Himpl_DiagramOf) (S := Simpl_DiagramOf) (h1 := by kernel_rfl) fun R p k => ?_
  unfold Kimpl_DiagramOf
  cases h : (PkS.un Simpl_DiagramOf p) with
  | none => rfl
  | some d =>
    obtain ⟨x0, u⟩ := (d : ByteArray × Unit)
    have hp := PkS.un_pack h
    subst hp
    exact (eimpl_DiagramOf @impl_readForm @impl_diagramOf n x0 k).symm

/-! ### loop.example/g00269/laws.eqChoice -/
theorem claws_eqChoice (n : Nat) : AllOk Try.prog [] := trivial
@[reducible] def Slaws_eqChoice : PkS := ⟨[.agg [.int .i64, .int .i64, .int .i64], .agg [.int .i64, .int .i64, .int .i64]], []⟩
@[reducible] def Tlaws_eqChoice : PkS := ⟨[.one (.bool), .one (.dead), .one (.dead)], []⟩
def Hlaws_eqChoice : List Sh := [.one .any, .skip, .skip]
def Klaws_eqChoice (g : ∀ {R : Type}, Nat → Int → Int → Int → Int → Int → Int → (Bool → Option R) → Option R) (n : Nat) : KPs := fun R p k => match (PkS.un Slaws_eqChoice p : Option (Int × Int × Int × Int × Int × Int × Unit)) with
  | some (x0, x1, x2, x3, x4, x5, _) => g n x0 x1 x2 x3 x4 x5 (fun r0 => k (PkS.pack Tlaws_eqChoice (r0, ())))
  | none => none
theorem elaws_eqChoice  {R : Type} (n : Nat) (x0 : Int) (x1 : Int) (x2 : Int) (x3 : Int) (x4 : Int) (x5 : Int) (k : Pk → Option R) : evF tt sig (mkK [] R) (mkL (mkK []) [] R) Try.f63 Hlaws_eqChoice (PkS.pack Slaws_eqChoice (x0, x1, x2, x3, x4, x5, ())) k = (fun (k : Bool → Option R) => (bif (x0 != x3) then k false else (bif (x1 != x4) then k false else (bif (x2 != x5) then k false else k true)))) (fun r0 => k (PkS.pack Tlaws_eqChoice (r0, ()))) := by kernel_rfl
theorem oklaws_eqChoice (n : Nat) : FnOk Try.prog 63 (Klaws_eqChoice @laws_eqChoice n) := by
  refine fn_ok (sig := sig) mixed ttok (mkK_nat (claws_eqChoice n)) (mkK_ok (claws_eqChoice n)) (mkL_nat (mkK_nat (claws_eqChoice n)) (l := []) trivial) (fn := Try.f63) (c := bodyOf Try.f63) (by kernel_rfl) (by kernel_rfl) (by kernel_rfl) (.eq (l := []) (by kernel_rfl) trivial) (shs := Hlaws_eqChoice) (S := Slaws_eqChoice) (h1 := by kernel_rfl) fun R p k => ?_
  unfold Klaws_eqChoice
  cases h : (PkS.un Slaws_eqChoice p) with
  | none => rfl
  | some d =>
    obtain ⟨x0, x1, x2, x3, x4, x5, u⟩ := (d : Int × Int × Int × Int × Int × Int × Unit)
    have hp := PkS.un_pack h
    subst hp
    exact (elaws_eqChoice  n x0 x1 x2 x3 x4 x5 k).symm

/-! ### loop.example/g00269/laws.eqChoiceS -/
theorem claws_eqChoiceS (n : Nat) : AllOk Try.prog [(63, Klaws_eqChoice @laws_eqChoice n)] := ⟨oklaws_eqChoice n, trivial⟩
@[reducible] def Slaws_eqChoiceS_l4 : PkS := ⟨[.one (.ro (.pr (.int .i64) (.pr (.int .i64) (.int .i64)))), .one (.ro (.pr (.int .i64) (.pr (.int .i64) (.int .i64)))), .one (.int .i64), .one (.dead), .one (.dead)], []⟩
@[reducible] def Tlaws_eqChoiceS_l4_0 : PkS := ⟨[.one (.bool), .one (.dead), .one (.dead)], []⟩
@[reducible] def Tlaws_eqChoiceS_l4_1 : PkS := ⟨[.one (.dead), .one (.dead)], []⟩
def Dlaws_eqChoiceS_l4 : LoopD := ⟨27, [0, 1, 5], [.one (.ro (.pr (.int .i64) (.pr (.int .i64) (.int .i64)))), .one (.ro (.pr (.int .i64) (.pr (.int .i64) (.int .i64)))), .one .any, .skip, .skip], fun x => match x with
  | .ret => some ([4], [.one .any, .skip, .skip])
  | .exit 0 => some ([], [.skip, .skip])
  | _ => none⟩
def Plaws_eqChoiceS_l4 (g : ∀ {R : Type}, Nat → (List (Int × Int × Int)) → (List (Int × Int × Int)) → Int → (Bool → Option R) → (Option R) → Option R) (n : Nat) : LPs := fun R q kk => match (PkS.un Slaws_eqChoiceS_l4 q : Option ((List (Int × Int × Int)) × (List (Int × Int × Int)) × Int × Unit)) with
  | some (y4_0, y4_1, y4_2, _) => g n y4_0 y4_1 y4_2 (fun r0 => kk .ret (PkS.pack Tlaws_eqChoiceS_l4_0 (r0, ()))) (kk (.exit 0) (PkS.pack Tlaws_eqChoiceS_l4_1 ()))
  | none => none
theorem elaws_eqChoiceS_l4 (laws_eqChoice : ∀ {R : Type}, Nat → Int → Int → Int → Int → Int → Int → (Bool → Option R) → Option R) (laws_eqChoiceS_l4 : ∀ {R : Type}, Nat → (List (Int × Int × Int)) → (List (Int × Int × Int)) → Int → (Bool → Option R) → (Option R) → Option R) {R : Type} (n : Nat) (y4_0 : List (Int × Int × Int)) (y4_1 : List (Int × Int × Int)) (y4_2 : Int) (kk : Ex → Pk → Option R) : Dlaws_eqChoiceS_l4.step tt sig (mkK [(63, Klaws_eqChoice @laws_eqChoice n)] R) (mkL (mkK [(63, Klaws_eqChoice @laws_eqChoice n)]) [] R) (loopIn 4 (bodyOf Try.f43)) (fun q' => Plaws_eqChoiceS_l4 @laws_eqChoiceS_l4 n R q' kk) (PkS.pack Slaws_eqChoiceS_l4 (y4_0, y4_1, y4_2, ())) kk = (fun (kret : Bool → Option R) (kexit0 : Option R) => (bif (decide (y4_2 < (y4_0.length : Int))) then (bif decide (0 ≤ y4_2) then (bif decide (y4_2 < (y4_0.length : Int)) then (bif decide (0 ≤ y4_2) then (bif decide (y4_2 < (y4_1.length : Int)) then (laws_eqChoice n ((y4_0.getD (Int.toNat y4_2) (0, (0, 0))).1) ((y4_0.getD (Int.toNat y4_2) (0, (0, 0))).2.1) ((y4_0.getD (Int.toNat y4_2) (0, (0, 0))).2.2) ((y4_1.getD (Int.toNat y4_2) (0, (0, 0))).1) ((y4_1.getD (Int.toNat y4_2) (0, (0, 0))).2.1) ((y4_1.getD (Int.toNat y4_2) (0, (0, 0))).2.2) fun r1 => (bif (!r1) then kret false else laws_eqChoiceS_l4 n y4_0 y4_1 (IntKind.wrap .i64 (y4_2 + 1)) kret kexit0)) else none) else none) else none) else none) else kexit0)) (fun r0 => kk .ret (PkS.pack Tlaws_eqChoiceS_l4_0 (r0, ()))) (kk (.exit 0) (PkS.pack Tlaws_eqChoiceS_l4_1 ())) := by kernel_rfl
theorem lelaws_eqChoiceS_l4 : LoopEq tt sig (fun n => mkK [(63, Klaws_eqChoice @laws_eqChoice n)]) (fun n => mkL (mkK [(63, Klaws_eqChoice @laws_eqChoice n)]) []) Dlaws_eqChoiceS_l4 Slaws_eqChoiceS_l4 (loopIn 4 (bodyOf Try.f43)) (Plaws_eqChoiceS_l4 @laws_eqChoiceS_l4) where
  zero R q kk := by unfold Plaws_eqChoiceS_l4; cases (PkS.un Slaws_eqChoiceS_l4 q) <;> rfl
  succ n R q kk := by
    unfold Plaws_eqChoiceS_l4
    cases h : (PkS.un Slaws_eqChoiceS_l4 q) with
    | none => rfl
    | some d =>
      obtain ⟨y4_0, y4_1, y4_2, u⟩ := (d : (List (Int × Int × Int)) × (List (Int × Int × Int)) × Int × Unit)
      have hp := PkS.un_pack h
      subst hp
      exact (elaws_eqChoiceS_l4 @laws_eqChoice @laws_eqChoiceS_l4 n y4_0 y4_1 y4_2 kk).symm
theorem nllaws_eqChoiceS_l4 : ∀ n, NatLP (Plaws_eqChoiceS_l4 @laws_eqChoiceS_l4 n) := lelaws_eqChoiceS_l4.nat (fun n => mkK_nat (claws_eqChoiceS n)) fun n => mkL_nat (mkK_nat (claws_eqChoiceS n)) (l := []) trivial
theorem inlaws_eqChoiceS_l4 (n : Nat) (R : Type) : LoopsOk Try.prog (mkL (mkK [(63, Klaws_eqChoice @laws_eqChoice n)]) [] R) (loopIn 4 (bodyOf Try.f43)) := .eq (l := []) (by kernel_rfl) trivial
theorem lklaws_eqChoiceS_l4 (n : Nat) (R : Type) (L0 : LK R) (h0 : ∀ id, firstRegion (loopIn 4 (bodyOf Try.f43)) = some id → L0 id = Dlaws_eqChoiceS_l4.oracle (mkK [(63, Klaws_eqChoice @laws_eqChoice n)] R) (Plaws_eqChoiceS_l4 @laws_eqChoiceS_l4 n R)) : LoopOk Try.prog L0 (loopIn 4 (bodyOf Try.f43)) :=
  lelaws_eqChoiceS_l4.ok mixed ttok (fun n => mkK_nat (claws_eqChoiceS n)) (fun n => mkK_ok (claws_eqChoiceS n)) (fun n => inlaws_eqChoiceS_l4 n R) (mkK_nat (claws_eqChoiceS n)) h0
@[reducible] def Slaws_eqChoiceS : PkS := ⟨[.one (.ro (.pr (.int .i64) (.pr (.int .i64) (.int .i64)))), .one (.ro (.pr (.int .i64) (.pr (.int .i64) (.int .i64))))], []⟩
@[reducible] def Tlaws_eqChoiceS : PkS := ⟨[.one (.bool), .one (.dead), .one (.dead)], []⟩
def Hlaws_eqChoiceS : List Sh := [.one .any, .skip, .skip]
def Klaws_eqChoiceS (g : ∀ {R : Type}, Nat → (List (Int × Int × Int)) → (List (Int × Int × Int)) → (Bool → Option R) → Option R) (n : Nat) : KPs := fun R p k => match (PkS.un Slaws_eqChoiceS p : Option ((List (Int × Int × Int)) × (List (Int × Int × Int)) × Unit)) with
  | some (x0, x1, _) => g n x0 x1 (fun r0 => k (PkS.pack Tlaws_eqChoiceS (r0, ())))
  | none => none
theorem elaws_eqChoiceS (laws_eqChoice : ∀ {R : Type}, Nat → Int → Int → Int → Int → Int → Int → (Bool → Option R) → Option R) (laws_eqChoiceS_l4 : ∀ {R : Type}, Nat → (List (Int × Int × Int)) → (List (Int × Int × Int)) → Int → (Bool → Option R) → (Option R) → Option R) {R : Type} (n : Nat) (x0 : List (Int × Int × Int)) (x1 : List (Int × Int × Int)) (k : Pk → Option R) : evF tt sig (mkK [(63, Klaws_eqChoice @laws_eqChoice n)] R) (mkL (mkK [(63, Klaws_eqChoice @laws_eqChoice n)]) [(4, Dlaws_eqChoiceS_l4, Plaws_eqChoiceS_l4 @laws_eqChoiceS_l4 n)] R) Try.f43 Hlaws_eqChoiceS (PkS.pack Slaws_eqChoiceS (x0, x1, ())) k = (fun (k : Bool → Option R) => (bif ((x0.length : Int) != (x1.length : Int)) then k false else (laws_eqChoiceS_l4 n x0 x1 0 (fun r2 => k r2) (k true)))) (fun r0 => k (PkS.pack Tlaws_eqChoiceS (r0, ()))) := by kernel_rfl
theorem oklaws_eqChoiceS (n : Nat) : FnOk Try.prog 43 (Klaws_eqChoiceS @laws_eqChoiceS n) := by
  refine fn_ok (sig := sig) mixed ttok (mkK_nat (claws_eqChoiceS n)) (mkK_ok (claws_eqChoiceS n)) (mkL_nat (mkK_nat (claws_eqChoiceS n)) (l := [(4, Dlaws_eqChoiceS_l4, Plaws_eqChoiceS_l4 @laws_eqChoiceS_l4 n)]) ⟨nllaws_eqChoiceS_l4 n, trivial⟩) (fn := Try.f43) (c := bodyOf Try.f43) (by kernel_rfl) (by kernel_rfl) (by kernel_rfl) (.eq (l := [.lo (loopIn 4 (bodyOf Try.f43))]) (by kernel_rfl) ⟨(lklaws_eqChoiceS_l4 n _ _ (at_id (i := 4) (by kernel_rfl) rfl)), trivial⟩) (shs := Hlaws_eqChoiceS) (S := Slaws_eqChoiceS) (h1 := by kernel_rfl) fun R p k => ?_
  unfold Klaws_eqChoiceS
  cases h : (PkS.un Slaws_eqChoiceS p) with
  | none => rfl
  | some d =>
    obtain ⟨x0, x1, u⟩ := (d : (List (Int × Int × Int)) × (List (Int × Int × Int)) × Unit)
    have hp := PkS.un_pack h
    subst hp
    exact (elaws_eqChoiceS @laws_eqChoice @laws_eqChoiceS_l4 n x0 x1 k).symm

/-! ### loop.example/g00269/laws.eqDiagram -/
theorem claws_eqDiagram (n : Nat) : AllOk Try.prog [(43, Klaws_eqChoiceS @laws_eqChoiceS n)] := ⟨oklaws_eqChoiceS n, trivial⟩
@[reducible] def Slaws_eqDiagram : PkS := ⟨[.agg [.ro (.pr (.int .i64) (.pr (.int .i64) (.int .i64))), .int .i64], .agg [.ro (.pr (.int .i64) (.pr (.int .i64) (.int .i64))), .int .i64]], []⟩
@[reducible] def Tlaws_eqDiagram : PkS := ⟨[.one (.bool), .one (.dead), .one (.dead)], []⟩
def Hlaws_eqDiagram : List Sh := [.one .any, .skip, .skip]
def Klaws_eqDiagram (g : ∀ {R : Type}, Nat → (List (Int × Int × Int)) → Int → (List (Int × Int × Int)) → Int → (Bool → Option R) → Option R) (n : Nat) : KPs := fun R p k => match (PkS.un Slaws_eqDiagram p : Option ((List (Int × Int × Int)) × Int × (List (Int × Int × Int)) × Int × Unit)) with
  | some (x0, x1, x2, x3, _) => g n x0 x1 x2 x3 (fun r0 => k (PkS.pack Tlaws_eqDiagram (r0, ())))
  | none => none
theorem elaws_eqDiagram (laws_eqChoiceS : ∀ {R : Type}, Nat → (List (Int × Int × Int)) → (List (Int × Int × Int)) → (Bool → Option R) → Option R) {R : Type} (n : Nat) (x0 : List (Int × Int × Int)) (x1 : Int) (x2 : List (Int × Int × Int)) (x3 : Int) (k : Pk → Option R) : evF tt sig (mkK [(43, Klaws_eqChoiceS @laws_eqChoiceS n)] R) (mkL (mkK [(43, Klaws_eqChoiceS @laws_eqChoiceS n)]) [] R) Try.f16 Hlaws_eqDiagram (PkS.pack Slaws_eqDiagram (x0, x1, x2, x3, ())) k = (fun (k : Bool → Option R) => (laws_eqChoiceS n x0 x2 fun r1 => (bif (!r1) then k false else (bif (x1 != x3) then k false else k true)))) (fun r0 => k (PkS.pack Tlaws_eqDiagram (r0, ()))) := by kernel_rfl
theorem oklaws_eqDiagram (n : Nat) : FnOk Try.prog 16 (Klaws_eqDiagram @laws_eqDiagram n) := by
  refine fn_ok (sig := sig) mixed ttok (mkK_nat (claws_eqDiagram n)) (mkK_ok (claws_eqDiagram n)) (mkL_nat (mkK_nat (claws_eqDiagram n)) (l := []) trivial) (fn := Try.f16) (c := bodyOf Try.f16) (by kernel_rfl) (by kernel_rfl) (by kernel_rfl) (.eq (l := []) (by kernel_rfl) trivial) (shs := Hlaws_eqDiagram) (S := Slaws_eqDiagram) (h1 := by kernel_rfl) fun R p k => ?_
  unfold Klaws_eqDiagram
  cases h : (PkS.un Slaws_eqDiagram p) with
  | none => rfl
  | some d =>
    obtain ⟨x0, x1, x2, x3, u⟩ := (d : (List (Int × Int × Int)) × Int × (List (Int × Int × Int)) × Int × Unit)
    have hp := PkS.un_pack h
    subst hp
    exact (elaws_eqDiagram @laws_eqChoiceS n x0 x1 x2 x3 k).symm

/-! ### loop.example/g00269/laws.markChoiceS -/
theorem claws_markChoiceS (n : Nat) : AllOk Try.prog [] := trivial
@[reducible] def Slaws_markChoiceS_l2 : PkS := ⟨[.one (.whole (100000, 0)), .one (.int .i64), .one (.int .i64), .one (.whole (100000, 0)), .one (.dead)], [((100000, 0), .arr (.pr (.int .i64) (.pr (.int .i64) (.int .i64))))]⟩
@[reducible] def Tlaws_markChoiceS_l2_0 : PkS := ⟨[.one (.int .i64), .one (.whole (100000, 0)), .one (.dead)], [((100000, 0), .arr (.pr (.int .i64) (.pr (.int .i64) (.int .i64))))]⟩
def Dlaws_markChoiceS_l2 : LoopD := ⟨34, [0, 1, 5], [.one (.own (.pr (.int .i64) (.pr (.int .i64) (.int .i64)))), .one .any, .one .any, .one (.own (.pr (.int .i64) (.pr (.int .i64) (.int .i64)))), .skip], fun x => match x with
  | .exit 0 => some ([1], [.one .any, .one (.own (.pr (.int .i64) (.pr (.int .i64) (.int .i64)))), .skip])
  | _ => none⟩
def Plaws_markChoiceS_l2 (g : ∀ {R : Type}, Nat → Int → Int → (List (Int × Int × Int)) → (Int → (List (Int × Int × Int)) → Option R) → Option R) (n : Nat) : LPs := fun R q kk => match (PkS.un Slaws_markChoiceS_l2 q : Option (Int × Int × (List (Int × Int × Int)) × Unit)) with
  | some (y2_0, y2_1, y2_2, _) => g n y2_0 y2_1 y2_2 (fun r0 r1 => kk (.exit 0) (PkS.pack Tlaws_markChoiceS_l2_0 (r0, r1, ())))
  | none => none
theorem elaws_markChoiceS_l2 (laws_markChoiceS_l2 : ∀ {R : Type}, Nat → Int → Int → (List (Int × Int × Int)) → (Int → (List (Int × Int × Int)) → Option R) → Option R) {R : Type} (n : Nat) (y2_0 : Int) (y2_1 : Int) (y2_2 : List (Int × Int × Int)) (kk : Ex → Pk → Option R) : Dlaws_markChoiceS_l2.step tt sig (mkK [] R) (mkL (mkK []) [] R) (loopIn 2 (bodyOf Try.f50)) (fun q' => Plaws_markChoiceS_l2 @laws_markChoiceS_l2 n R q' kk) (PkS.pack Slaws_markChoiceS_l2 (y2_0, y2_1, y2_2, ())) kk = (fun (kexit0 : Int → (List (Int × Int × Int)) → Option R) => (bif (decide (y2_1 < (y2_2.length : Int))) then (bif decide (0 ≤ y2_1) then (bif decide (y2_1 < (y2_2.length : Int)) then (bif decide (0 ≤ y2_1) then (bif decide (y2_1 < ((y2_2.set (Int.toNat y2_1) (y2_0, (y2_2.getD (Int.toNat y2_1) (0, (0, 0))).2)).length : Int)) then (bif decide (0 ≤ y2_1) then (bif decide (y2_1 < (((y2_2.set (Int.toNat y2_1) (y2_0, (y2_2.getD (Int.toNat y2_1) (0, (0, 0))).2)).set (Int.toNat y2_1) (((y2_2.set (Int.toNat y2_1) (y2_0, (y2_2.getD (Int.toNat y2_1) (0, (0, 0))).2)).getD (Int.toNat y2_1) (0, (0, 0))).1, ((IntKind.wrap .i64 (y2_0 + 1)), ((y2_2.set (Int.toNat y2_1) (y2_0, (y2_2.getD (Int.toNat y2_1) (0, (0, 0))).2)).getD (Int.toNat y2_1) (0, (0, 0))).2.2))).length : Int)) then laws_markChoiceS_l2 n (IntKind.wrap .i64 ((IntKind.wrap .i64 ((IntKind.wrap .i64 (y2_0 + 1)) + 1)) + 1)) (IntKind.wrap .i64 (y2_1 + 1)) (((y2_2.set (Int.toNat y2_1) (y2_0, (y2_2.getD (Int.toNat y2_1) (0, (0, 0))).2)).set (Int.toNat y2_1) (((y2_2.set (Int.toNat y2_1) (y2_0, (y2_2.getD (Int.toNat y2_1) (0, (0, 0))).2)).getD (Int.toNat y2_1) (0, (0, 0))).1, ((IntKind.wrap .i64 (y2_0 + 1)), ((y2_2.set (Int.toNat y2_1) (y2_0, (y2_2.getD (Int.toNat y2_1) (0, (0, 0))).2)).getD (Int.toNat y2_1) (0, (0, 0))).2.2))).set (Int.toNat y2_1) ((((y2_2.set (Int.toNat y2_1) (y2_0, (y2_2.getD (Int.toNat y2_1) (0, (0, 0))).2)).set (Int.toNat y2_1) (((y2_2.set (Int.toNat y2_1) (y2_0, (y2_2.getD (Int.toNat y2_1) (0, (0, 0))).2)).getD (Int.toNat y2_1) (0, (0, 0))).1, ((IntKind.wrap .i64 (y2_0 + 1)), ((y2_2.set (Int.toNat y2_1) (y2_0, (y2_2.getD (Int.toNat y2_1) (0, (0, 0))).2)).getD (Int.toNat y2_1) (0, (0, 0))).2.2))).getD (Int.toNat y2_1) (0, (0, 0))).1, ((((y2_2.set (Int.toNat y2_1) (y2_0, (y2_2.getD (Int.toNat y2_1) (0, (0, 0))).2)).set (Int.toNat y2_1) (((y2_2.set (Int.toNat y2_1) (y2_0, (y2_2.getD (Int.toNat y2_1) (0, (0, 0))).2)).getD (Int.toNat y2_1) (0, (0, 0))).1, ((IntKind.wrap .i64 (y2_0 + 1)), ((y2_2.set (Int.toNat y2_1) (y2_0, (y2_2.getD (Int.toNat y2_1) (0, (0, 0))).2)).getD (Int.toNat y2_1) (0, (0, 0))).2.2))).getD (Int.toNat y2_1) (0, (0, 0))).2.1, (IntKind.wrap .i64 ((IntKind.wrap .i64 (y2_0 + 1)) + 1))))) kexit0 else none) else none) else none) else none) else none) else none) else kexit0 y2_0 y2_2)) (fun r0 r1 => kk (.exit 0) (PkS.pack Tlaws_markChoiceS_l2_0 (r0, r1, ()))) := by kernel_rfl
theorem lelaws_markChoiceS_l2 : LoopEq tt sig (fun n => mkK []) (fun n => mkL (mkK []) []) Dlaws_markChoiceS_l2 Slaws_markChoiceS_l2 (loopIn 2 (bodyOf Try.f50)) (Plaws_markChoiceS_l2 @laws_markChoiceS_l2) where
  zero R q kk := by unfold Plaws_markChoiceS_l2; cases (PkS.un Slaws_markChoiceS_l2 q) <;> rfl
  succ n R q kk := by
    unfold Plaws_markChoiceS_l2
    cases h : (PkS.un Slaws_markChoiceS_l2 q) with
    | none => rfl
    | some d =>
      obtain ⟨y2_0, y2_1, y2_2, u⟩ := (d : Int × Int × (List (Int × Int × Int)) × Unit)
      have hp := PkS.un_pack h
      subst hp
      exact (elaws_markChoiceS_l2 @laws_markChoiceS_l2 n y2_0 y2_1 y2_2 kk).symm
theorem nllaws_markChoiceS_l2 : ∀ n, NatLP (Plaws_markChoiceS_l2 @laws_markChoiceS_l2 n) := lelaws_markChoiceS_l2.nat (fun n => mkK_nat (claws_markChoiceS n)) fun n => mkL_nat (mkK_nat (claws_markChoiceS n)) (l := []) trivial
theorem inlaws_markChoiceS_l2 (n : Nat) (R : Type) : LoopsOk Try.prog (mkL (mkK []) [] R) (loopIn 2 (bodyOf Try.f50)) := .eq (l := []) (by kernel_rfl) trivial
theorem lklaws_markChoiceS_l2 (n : Nat) (R : Type) (L0 : LK R) (h0 : ∀ id, firstRegion (loopIn 2 (bodyOf Try.f50)) = some id → L0 id = Dlaws_markChoiceS_l2.oracle (mkK [] R) (Plaws_markChoiceS_l2 @laws_markChoiceS_l2 n R)) : LoopOk Try.prog L0 (loopIn 2 (bodyOf Try.f50)) :=
  lelaws_markChoiceS_l2.ok mixed ttok (fun n => mkK_nat (claws_markChoiceS n)) (fun n => mkK_ok (claws_markChoiceS n)) (fun n => inlaws_markChoiceS_l2 n R) (mkK_nat (claws_markChoiceS n)) h0
@[reducible] def Slaws_markChoiceS : PkS := ⟨[.one (.whole (200000, 0)), .one (.int .i64)], [((200000, 0), .arr (.pr (.int .i64) (.pr (.int .i64) (.int .i64))))]⟩
@[reducible] def Tlaws_markChoiceS : PkS := ⟨[.one (.int .i64), .one (.whole (300000, 0)), .one (.dead)], [((300000, 0), .arr (.pr (.int .i64) (.pr (.int .i64) (.int .i64))))]⟩
def Hlaws_markChoiceS : List Sh := [.one .any, .one (.own (.pr (.int .i64) (.pr (.int .i64) (.int .i64)))), .skip]
def Klaws_markChoiceS (g : ∀ {R : Type}, Nat → Int → (List (Int × Int × Int)) → (Int → (List (Int × Int × Int)) → Option R) → Option R) (n : Nat) : KPs := fun R p k => match (PkS.un Slaws_markChoiceS p : Option (Int × (List (Int × Int × Int)) × Unit)) with
  | some (x0, x1, _) => g n x0 x1 (fun r0 r1 => k (PkS.pack Tlaws_markChoiceS (r0, r1, ())))
  | none => none
theorem elaws_markChoiceS (laws_markChoiceS_l2 : ∀ {R : Type}, Nat → Int → Int → (List (Int × Int × Int)) → (Int → (List (Int × Int × Int)) → Option R) → Option R) {R : Type} (n : Nat) (x0 : Int) (x1 : List (Int × Int × Int)) (k : Pk → Option R) : evF tt sig (mkK [] R) (mkL (mkK []) [(2, Dlaws_markChoiceS_l2, Plaws_markChoiceS_l2 @laws_markChoiceS_l2 n)] R) Try.f50 Hlaws_markChoiceS (PkS.pack Slaws_markChoiceS (x0, x1, ())) k = (fun (k : Int → (List (Int × Int × Int)) → Option R) => (laws_markChoiceS_l2 n x0 0 x1 (fun r1 r2 => k r1 r2))) (fun r0 r1 => k (PkS.pack Tlaws_markChoiceS (r0, r1, ()))) := by kernel_rfl
theorem oklaws_markChoiceS (n : Nat) : FnOk Try.prog 50 (Klaws_markChoiceS @laws_markChoiceS n) := by
  refine fn_ok (sig := sig) mixed ttok (mkK_nat (claws_markChoiceS n)) (mkK_ok (claws_markChoiceS n)) (mkL_nat (mkK_nat (claws_markChoiceS n)) (l := [(2, Dlaws_markChoiceS_l2, Plaws_markChoiceS_l2 @laws_markChoiceS_l2 n)]) ⟨nllaws_markChoiceS_l2 n, trivial⟩) (fn := Try.f50) (c := bodyOf Try.f50) (by kernel_rfl) (by kernel_rfl) (by kernel_rfl) (.eq (l := [.lo (loopIn 2 (bodyOf Try.f50))]) (by kernel_rfl) ⟨(lklaws_markChoiceS_l2 n _ _ (at_id (i := 2) (by kernel_rfl) rfl)), trivial⟩) (shs := Hlaws_markChoiceS) (S := Slaws_markChoiceS) (h1 := by kernel_rfl) fun R p k => ?_
  unfold Klaws_markChoiceS
  cases h : (PkS.un Slaws_markChoiceS p) with
  | none => rfl
  | some d =>
    obtain ⟨x0, x1, u⟩ := (d : Int × (List (Int × Int × Int)) × Unit)
    have hp := PkS.un_pack h
    subst hp
    exact (elaws_markChoiceS @laws_markChoiceS_l2 n x0 x1 k).symm

/-! ### loop.example/g00269/laws.markDiagram -/
theorem claws_markDiagram (n : Nat) : AllOk Try.prog [(50, Klaws_markChoiceS @laws_markChoiceS n)] := ⟨oklaws_markChoiceS n, trivial⟩
@[reducible] def Slaws_markDiagram : PkS := ⟨[.agg [.whole (200000, 0), .int .i64], .one (.int .i64)], [((200000, 0), .arr (.pr (.int .i64) (.pr (.int .i64) (.int .i64))))]⟩
@[reducible] def Tlaws_markDiagram : PkS := ⟨[.one (.int .i64), .agg [.whole (300000, 0), .int .i64], .one (.dead)], [((300000, 0), .arr (.pr (.int .i64) (.pr (.int .i64) (.int .i64))))]⟩
def Hlaws_markDiagram : List Sh := [.one .any, .agg [(.own (.pr (.int .i64) (.pr (.int .i64) (.int .i64)))), .any], .skip]
def Klaws_markDiagram (g : ∀ {R : Type}, Nat → Int → Int → (List (Int × Int × Int)) → (Int → Int → (List (Int × Int × Int)) → Option R) → Option R) (n : Nat) : KPs := fun R p k => match (PkS.un Slaws_markDiagram p : Option (Int × Int × (List (Int × Int × Int)) × Unit)) with
  | some (x0, x1, x2, _) => g n x0 x1 x2 (fun r0 r1 r2 => k (PkS.pack Tlaws_markDiagram (r0, r1, r2, ())))
  | none => none
theorem elaws_markDiagram (laws_markChoiceS : ∀ {R : Type}, Nat → Int → (List (Int × Int × Int)) → (Int → (List (Int × Int × Int)) → Option R) → Option R) {R : Type} (n : Nat) (x0 : Int) (x1 : Int) (x2 : List (Int × Int × Int)) (k : Pk → Option R) : evF tt sig (mkK [(50, Klaws_markChoiceS @laws_markChoiceS n)] R) (mkL (mkK [(50, Klaws_markChoiceS @laws_markChoiceS n)]) [] R) Try.f21 Hlaws_markDiagram (PkS.pack Slaws_markDiagram (x0, x1, x2, ())) k = (fun (k : Int → Int → (List (Int × Int × Int)) → Option R) => (laws_markChoiceS n x1 x2 fun r1 r2 => k r1 x0 r2)) (fun r0 r1 r2 => k (PkS.pack Tlaws_markDiagram (r0, r1, r2, ()))) := by kernel_rfl
theorem oklaws_markDiagram (n : Nat) : FnOk Try.prog 21 (Klaws_markDiagram @laws_markDiagram n) := by
  refine fn_ok (sig := sig) mixed ttok (mkK_nat (claws_markDiagram n)) (mkK_ok (claws_markDiagram n)) (mkL_nat (mkK_nat (claws_markDiagram n)) (l := []) trivial) (fn := Try.f21) (c := bodyOf Try.f21) (by kernel_rfl) (by kernel_rfl) (by kernel_rfl) (.eq (l := []) (by kernel_rfl) trivial) (shs := Hlaws_markDiagram) (S := Slaws_markDiagram) (h1 := by kernel_rfl) fun R p k => ?_
  unfold Klaws_markDiagram
  cases h : (PkS.un Slaws_markDiagram p) with
  | none => rfl
  | some d =>
    obtain ⟨x0, x1, x2, u⟩ := (d : Int × Int × (List (Int × Int × Int)) × Unit)
    have hp := PkS.un_pack h
    subst hp
    exact (elaws_markDiagram @laws_markChoiceS n x0 x1 x2 k).symm

/-! ### loop.example/g00269/laws.heldChoiceS -/
theorem claws_heldChoiceS (n : Nat) : AllOk Try.prog [] := trivial
@[reducible] def Slaws_heldChoiceS_l2 : PkS := ⟨[.one (.ro (.pr (.int .i64) (.pr (.int .i64) (.int .i64)))), .one (.int .i64), .one (.int .i64), .one (.dead), .one (.dead)], []⟩
@[reducible] def Tlaws_heldChoiceS_l2_0 : PkS := ⟨[.one (.int .i64), .one (.dead), .one (.dead)], []⟩
@[reducible] def Tlaws_heldChoiceS_l2_1 : PkS := ⟨[.one (.int .i64), .one (.dead), .one (.dead)], []⟩
def Dlaws_heldChoiceS_l2 : LoopD := ⟨40, [0, 1, 5], [.one (.ro (.pr (.int .i64) (.pr (.int .i64) (.int .i64)))), .one .any, .one .any, .skip, .skip], fun x => match x with
  | .ret => some ([4], [.one .any, .skip, .skip])
  | .exit 0 => some ([1], [.one .any, .skip, .skip])
  | _ => none⟩
def Plaws_heldChoiceS_l2 (g : ∀ {R : Type}, Nat → (List (Int × Int × Int)) → Int → Int → (Int → Option R) → (Int → Option R) → Option R) (n : Nat) : LPs := fun R q kk => match (PkS.un Slaws_heldChoiceS_l2 q : Option ((List (Int × Int × Int)) × Int × Int × Unit)) with
  | some (y2_0, y2_1, y2_2, _) => g n y2_0 y2_1 y2_2 (fun r0 => kk .ret (PkS.pack Tlaws_heldChoiceS_l2_0 (r0, ()))) (fun r0 => kk (.exit 0) (PkS.pack Tlaws_heldChoiceS_l2_1 (r0, ())))
  | none => none
theorem elaws_heldChoiceS_l2 (laws_heldChoiceS_l2 : ∀ {R : Type}, Nat → (List (Int × Int × Int)) → Int → Int → (Int → Option R) → (Int → Option R) → Option R) {R : Type} (n : Nat) (y2_0 : List (Int × Int × Int)) (y2_1 : Int) (y2_2 : Int) (kk : Ex → Pk → Option R) : Dlaws_heldChoiceS_l2.step tt sig (mkK [] R) (mkL (mkK []) [] R) (loopIn 2 (bodyOf Try.f51)) (fun q' => Plaws_heldChoiceS_l2 @laws_heldChoiceS_l2 n R q' kk) (PkS.pack Slaws_heldChoiceS_l2 (y2_0, y2_1, y2_2, ())) kk = (fun (kret : Int → Option R) (kexit0 : Int → Option R) => (bif (decide (y2_2 < (y2_0.length : Int))) then (bif decide (0 ≤ y2_2) then (bif decide (y2_2 < (y2_0.length : Int)) then (bif ((y2_0.getD (Int.toNat y2_2) (0, (0, 0))).1 != y2_1) then kret (-1) else (bif decide (0 ≤ y2_2) then (bif decide (y2_2 < (y2_0.length : Int)) then (bif ((y2_0.getD (Int.toNat y2_2) (0, (0, 0))).2.1 != (IntKind.wrap .i64 (y2_1 + 1))) then kret (-1) else (bif decide (0 ≤ y2_2) then (bif decide (y2_2 < (y2_0.length : Int)) then (bif ((y2_0.getD (Int.toNat y2_2) (0, (0, 0))).2.2 != (IntKind.wrap .i64 ((IntKind.wrap .i64 (y2_1 + 1)) + 1))) then kret (-1) else laws_heldChoiceS_l2 n y2_0 (IntKind.wrap .i64 ((IntKind.wrap .i64 ((IntKind.wrap .i64 (y2_1 + 1)) + 1)) + 1)) (IntKind.wrap .i64 (y2_2 + 1)) kret kexit0) else none) else none)) else none) else none)) else none) else none) else kexit0 y2_1)) (fun r0 => kk .ret (PkS.pack Tlaws_heldChoiceS_l2_0 (r0, ()))) (fun r0 => kk (.exit 0) (PkS.pack Tlaws_heldChoiceS_l2_1 (r0, ()))) := by kernel_rfl
theorem lelaws_heldChoiceS_l2 : LoopEq tt sig (fun n => mkK []) (fun n => mkL (mkK []) []) Dlaws_heldChoiceS_l2 Slaws_heldChoiceS_l2 (loopIn 2 (bodyOf Try.f51)) (Plaws_heldChoiceS_l2 @laws_heldChoiceS_l2) where
  zero R q kk := by unfold Plaws_heldChoiceS_l2; cases (PkS.un Slaws_heldChoiceS_l2 q) <;> rfl
  succ n R q kk := by
    unfold Plaws_heldChoiceS_l2
    cases h : (PkS.un Slaws_heldChoiceS_l2 q) with
    | none => rfl
    | some d =>
      obtain ⟨y2_0, y2_1, y2_2, u⟩ := (d : (List (Int × Int × Int)) × Int × Int × Unit)
      have hp := PkS.un_pack h
      subst hp
      exact (elaws_heldChoiceS_l2 @laws_heldChoiceS_l2 n y2_0 y2_1 y2_2 kk).symm
theorem nllaws_heldChoiceS_l2 : ∀ n, NatLP (Plaws_heldChoiceS_l2 @laws_heldChoiceS_l2 n) := lelaws_heldChoiceS_l2.nat (fun n => mkK_nat (claws_heldChoiceS n)) fun n => mkL_nat (mkK_nat (claws_heldChoiceS n)) (l := []) trivial
theorem inlaws_heldChoiceS_l2 (n : Nat) (R : Type) : LoopsOk Try.prog (mkL (mkK []) [] R) (loopIn 2 (bodyOf Try.f51)) := .eq (l := []) (by kernel_rfl) trivial
theorem lklaws_heldChoiceS_l2 (n : Nat) (R : Type) (L0 : LK R) (h0 : ∀ id, firstRegion (loopIn 2 (bodyOf Try.f51)) = some id → L0 id = Dlaws_heldChoiceS_l2.oracle (mkK [] R) (Plaws_heldChoiceS_l2 @laws_heldChoiceS_l2 n R)) : LoopOk Try.prog L0 (loopIn 2 (bodyOf Try.f51)) :=
  lelaws_heldChoiceS_l2.ok mixed ttok (fun n => mkK_nat (claws_heldChoiceS n)) (fun n => mkK_ok (claws_heldChoiceS n)) (fun n => inlaws_heldChoiceS_l2 n R) (mkK_nat (claws_heldChoiceS n)) h0
@[reducible] def Slaws_heldChoiceS : PkS := ⟨[.one (.ro (.pr (.int .i64) (.pr (.int .i64) (.int .i64)))), .one (.int .i64)], []⟩
@[reducible] def Tlaws_heldChoiceS : PkS := ⟨[.one (.int .i64), .one (.dead), .one (.dead)], []⟩
def Hlaws_heldChoiceS : List Sh := [.one .any, .skip, .skip]
def Klaws_heldChoiceS (g : ∀ {R : Type}, Nat → (List (Int × Int × Int)) → Int → (Int → Option R) → Option R) (n : Nat) : KPs := fun R p k => match (PkS.un Slaws_heldChoiceS p : Option ((List (Int × Int × Int)) × Int × Unit)) with
  | some (x0, x1, _) => g n x0 x1 (fun r0 => k (PkS.pack Tlaws_heldChoiceS (r0, ())))
  | none => none
theorem elaws_heldChoiceS (laws_heldChoiceS_l2 : ∀ {R : Type}, Nat → (List (Int × Int × Int)) → Int → Int → (Int → Option R) → (Int → Option R) → Option R) {R : Type} (n : Nat) (x0 : List (Int × Int × Int)) (x1 : Int) (k : Pk → Option R) : evF tt sig (mkK [] R) (mkL (mkK []) [(2, Dlaws_heldChoiceS_l2, Plaws_heldChoiceS_l2 @laws_heldChoiceS_l2 n)] R) Try.f51 Hlaws_heldChoiceS (PkS.pack Slaws_heldChoiceS (x0, x1, ())) k = (fun (k : Int → Option R) => (laws_heldChoiceS_l2 n x0 x1 0 (fun r1 => k r1) (fun r2 => k r2))) (fun r0 => k (PkS.pack Tlaws_heldChoiceS (r0, ()))) := by kernel_rfl
theorem oklaws_heldChoiceS (n : Nat) : FnOk Try.prog 51 (Klaws_heldChoiceS @laws_heldChoiceS n) := by
  refine fn_ok (sig := sig) mixed ttok (mkK_nat (claws_heldChoiceS n)) (mkK_ok (claws_heldChoiceS n)) (mkL_nat (mkK_nat (claws_heldChoiceS n)) (l := [(2, Dlaws_heldChoiceS_l2, Plaws_heldChoiceS_l2 @laws_heldChoiceS_l2 n)]) ⟨nllaws_heldChoiceS_l2 n, trivial⟩) (fn := Try.f51) (c := bodyOf Try.f51) (by kernel_rfl) (by kernel_rfl) (by kernel_rfl) (.eq (l := [.lo (loopIn 2 (bodyOf Try.f51))]) (by kernel_rfl) ⟨(lklaws_heldChoiceS_l2 n _ _ (at_id (i := 2) (by kernel_rfl) rfl)), trivial⟩) (shs := Hlaws_heldChoiceS) (S := Slaws_heldChoiceS) (h1 := by kernel_rfl) fun R p k => ?_
  unfold Klaws_heldChoiceS
  cases h : (PkS.un Slaws_heldChoiceS p) with
  | none => rfl
  | some d =>
    obtain ⟨x0, x1, u⟩ := (d : (List (Int × Int × Int)) × Int × Unit)
    have hp := PkS.un_pack h
    subst hp
    exact (elaws_heldChoiceS @laws_heldChoiceS_l2 n x0 x1 k).symm

/-! ### loop.example/g00269/laws.heldDiagram -/
theorem claws_heldDiagram (n : Nat) : AllOk Try.prog [(51, Klaws_heldChoiceS @laws_heldChoiceS n)] := ⟨oklaws_heldChoiceS n, trivial⟩
@[reducible] def Slaws_heldDiagram : PkS := ⟨[.agg [.ro (.pr (.int .i64) (.pr (.int .i64) (.int .i64))), .int .i64], .one (.int .i64)], []⟩
@[reducible] def Tlaws_heldDiagram : PkS := ⟨[.one (.int .i64), .one (.dead), .one (.dead)], []⟩
def Hlaws_heldDiagram : List Sh := [.one .any, .skip, .skip]
def Klaws_heldDiagram (g : ∀ {R : Type}, Nat → (List (Int × Int × Int)) → Int → Int → (Int → Option R) → Option R) (n : Nat) : KPs := fun R p k => match (PkS.un Slaws_heldDiagram p : Option ((List (Int × Int × Int)) × Int × Int × Unit)) with
  | some (x0, x1, x2, _) => g n x0 x1 x2 (fun r0 => k (PkS.pack Tlaws_heldDiagram (r0, ())))
  | none => none
theorem elaws_heldDiagram (laws_heldChoiceS : ∀ {R : Type}, Nat → (List (Int × Int × Int)) → Int → (Int → Option R) → Option R) {R : Type} (n : Nat) (x0 : List (Int × Int × Int)) (x1 : Int) (x2 : Int) (k : Pk → Option R) : evF tt sig (mkK [(51, Klaws_heldChoiceS @laws_heldChoiceS n)] R) (mkL (mkK [(51, Klaws_heldChoiceS @laws_heldChoiceS n)]) [] R) Try.f22 Hlaws_heldDiagram (PkS.pack Slaws_heldDiagram (x0, x1, x2, ())) k = (fun (k : Int → Option R) => (laws_heldChoiceS n x0 x2 fun r1 => (bif (decide (r1 < 0)) then k (-1) else k r1))) (fun r0 => k (PkS.pack Tlaws_heldDiagram (r0, ()))) := by kernel_rfl
theorem oklaws_heldDiagram (n : Nat) : FnOk Try.prog 22 (Klaws_heldDiagram @laws_heldDiagram n) := by
  refine fn_ok (sig := sig) mixed ttok (mkK_nat (claws_heldDiagram n)) (mkK_ok (claws_heldDiagram n)) (mkL_nat (mkK_nat (claws_heldDiagram n)) (l := []) trivial) (fn := Try.f22) (c := bodyOf Try.f22) (by kernel_rfl) (by kernel_rfl) (by kernel_rfl) (.eq (l := []) (by kernel_rfl) trivial) (shs := Hlaws_heldDiagram) (S := Slaws_heldDiagram) (h1 := by kernel_rfl) fun R p k => ?_
  unfold Klaws_heldDiagram
  cases h : (PkS.un Slaws_heldDiagram p) with
  | none => rfl
  | some d =>
    obtain ⟨x0, x1, x2, u⟩ := (d : (List (Int × Int × Int)) × Int × Int × Unit)
    have hp := PkS.un_pack h
    subst hp
    exact (elaws_heldDiagram @laws_heldChoiceS n x0 x1 x2 k).symm

/-! ### loop.example/g00269/laws.FnExactDiagramOf -/
theorem claws_FnExactDiagramOf (n : Nat) : AllOk Try.prog [(19, Kspec_DiagramOf @spec_DiagramOf n), (20, Kimpl_DiagramOf @impl_DiagramOf n), (16, Klaws_eqDiagram @laws_eqDiagram n), (21, Klaws_markDiagram @laws_markDiagram n), (22, Klaws_heldDiagram @laws_heldDiagram n)] := ⟨okspec_DiagramOf n, ⟨okimpl_DiagramOf n, ⟨oklaws_eqDiagram n, ⟨oklaws_markDiagram n, ⟨oklaws_heldDiagram n, trivial⟩⟩⟩⟩⟩
@[reducible] def Slaws_FnExactDiagramOf : PkS := ⟨[.one (.str)], []⟩
@[reducible] def Tlaws_FnExactDiagramOf : PkS := ⟨[.one (.bool), .one (.dead)], []⟩
def Hlaws_FnExactDiagramOf : List Sh := [.one .any, .skip]
def Klaws_FnExactDiagramOf (g : ∀ {R : Type}, Nat → ByteArray → (Bool → Option R) → Option R) (n : Nat) : KPs := fun R p k => match (PkS.un Slaws_FnExactDiagramOf p : Option (ByteArray × Unit)) with
  | some (x0, _) => g n x0 (fun r0 => k (PkS.pack Tlaws_FnExactDiagramOf (r0, ())))
  | none => none
theorem elaws_FnExactDiagramOf (spec_DiagramOf : ∀ {R : Type}, Nat → ByteArray → (Int → Bool → (List (Int × Int × Int)) → Option R) → Option R) (impl_DiagramOf : ∀ {R : Type}, Nat → ByteArray → (Int → Bool → (List (Int × Int × Int)) → Option R) → Option R) (laws_eqDiagram : ∀ {R : Type}, Nat → (List (Int × Int × Int)) → Int → (List (Int × Int × Int)) → Int → (Bool → Option R) → Option R) (laws_markDiagram : ∀ {R : Type}, Nat → Int → Int → (List (Int × Int × Int)) → (Int → Int → (List (Int × Int × Int)) → Option R) → Option R) (laws_heldDiagram : ∀ {R : Type}, Nat → (List (Int × Int × Int)) → Int → Int → (Int → Option R) → Option R) {R : Type} (n : Nat) (x0 : ByteArray) (k : Pk → Option R) : evF tt sig (mkK [(19, Kspec_DiagramOf @spec_DiagramOf n), (20, Kimpl_DiagramOf @impl_DiagramOf n), (16, Klaws_eqDiagram @laws_eqDiagram n), (21, Klaws_markDiagram @laws_markDiagram n), (22, Klaws_heldDiagram @laws_heldDiagram n)] R) (mkL (mkK [(19, Kspec_DiagramOf @spec_DiagramOf n), (20, Kimpl_DiagramOf @impl_DiagramOf n), (16, Klaws_eqDiagram @laws_eqDiagram n), (21, Klaws_markDiagram @laws_markDiagram n), (22, Klaws_heldDiagram @laws_heldDiagram n)]) [] R) Try.f5 Hlaws_FnExactDiagramOf (PkS.pack Slaws_FnExactDiagramOf (x0, ())) k = (fun (k : Bool → Option R) => (bif (decide ((x0.size : Int) > 1048576)) then k true else (spec_DiagramOf n x0 fun r1 r2 r3 => (impl_DiagramOf n x0 fun r4 r5 r6 => (laws_eqDiagram n r6 r4 r3 r1 fun r7 => (bif (!r7) then k false else (bif (!(r5 == r2)) then k false else (laws_markDiagram n r4 1 r6 fun r8 r9 r10 => (laws_heldDiagram n r10 r4 1 fun r11 => (bif (decide (r11 < 0)) then k false else (bif (r11 != r8) then k false else (impl_DiagramOf n x0 fun r12 r13 r14 => (laws_eqDiagram n r14 r12 r3 r1 fun r15 => (bif (!r15) then k false else (bif (!(r13 == r2)) then k false else (laws_heldDiagram n r10 r4 1 fun r16 => (bif (decide (r16 < 0)) then k false else (bif (r16 != r8) then k false else k true)))))))))))))))))) (fun r0 => k (PkS.pack Tlaws_FnExactDiagramOf (r0, ()))) := by kernel_rfl
theorem oklaws_FnExactDiagramOf (n : Nat) : FnOk Try.prog 5 (Klaws_FnExactDiagramOf @laws_FnExactDiagramOf n) := by
  refine fn_ok (sig := sig) mixed ttok (mkK_nat (claws_FnExactDiagramOf n)) (mkK_ok (claws_FnExactDiagramOf n)) (mkL_nat (mkK_nat (claws_FnExactDiagramOf n)) (l := []) trivial) (fn := Try.f5) (c := bodyOf Try.f5) (by kernel_rfl) (by kernel_rfl) (by kernel_rfl) (.eq (l := []) (by kernel_rfl) trivial) (shs := Hlaws_FnExactDiagramOf) (S := Slaws_FnExactDiagramOf) (h1 := by kernel_rfl) fun R p k => ?_
  unfold Klaws_FnExactDiagramOf
  cases h : (PkS.un Slaws_FnExactDiagramOf p) with
  | none => rfl
  | some d =>
    obtain ⟨x0, u⟩ := (d : ByteArray × Unit)
    have hp := PkS.un_pack h
    subst hp
    exact (elaws_FnExactDiagramOf @spec_DiagramOf @impl_DiagramOf @laws_eqDiagram @laws_markDiagram @laws_heldDiagram n x0 k).symm
end Go.Am.G
