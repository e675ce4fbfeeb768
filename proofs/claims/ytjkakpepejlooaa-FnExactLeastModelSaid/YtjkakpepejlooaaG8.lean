/- The code of the functions that the law reaches does what the plain functions say. -/
import Derived.Test.YtjkakpepejlooaaF8
import Derived.Test.YtjkakpepejlooaaAmN
import Derived.KernelRfl
import Derived.Test.YtjkakpepejlooaaProg
set_option linter.unusedVariables false
set_option maxRecDepth 100000
namespace Go.Am.G
open Go Go.Am
open Go.Proofs

namespace Q
theorem wrap64 {x : Int} (h1 : -9223372036854775808 ≤ x) (h2 : x ≤ 9223372036854775807) : IntKind.wrap .i64 x = x := by
  simp only [IntKind.wrap, IntKind.signed, IntKind.bits]
  simp
  omega
theorem getD_at {α : Type} (l : List α) (d : α) {j : Nat} (h : j < l.length) : l.getD (Int.toNat (j : Int)) d = l[j] := by
  rw [Int.toNat_natCast, List.getD_eq_getElem?_getD, List.getElem?_eq_getElem h]; rfl
theorem dlt {a b : Nat} (h : a < b) : decide ((a : Int) < (b : Int)) = true := decide_eq_true (by omega)
theorem dge {a b : Nat} (h : b ≤ a) : decide ((a : Int) < (b : Int)) = false := decide_eq_false (by omega)
theorem dnn (a : Nat) : decide (0 ≤ (a : Int)) = true := decide_eq_true (by omega)
theorem wrapS {j m : Nat} (h : j < m) (hm : m ≤ 9223372036854775807) : IntKind.wrap .i64 ((j : Int) + 1) = ((j + 1 : Nat) : Int) := by
  rw [wrap64 (by omega) (by omega)]; rfl
/-- Numbers one behind the other. -/
def marks : Nat → Int → List Int
  | 0, _ => []
  | m + 1, k => k :: marks m (k + 1)
theorem set_take_drop {α : Type} {l : List α} {j : Nat} (h : j < l.length) (x : α) : (l.set j x).take (j + 1) = l.take j ++ [x] := by
  rw [List.take_set, List.take_succ_eq_append_getElem h, List.set_append_right _ _ (by simp; omega)]
  simp [Nat.min_eq_left (Nat.le_of_lt h)]
theorem laws_markIntS_loop {R : Type} (ke : Int → List Int → Option R) : ∀ (n j : Nat) (l : List Int) (q : Int), l.length - j < n → j ≤ l.length → 0 ≤ q → q + (l.length - j : Nat) ≤ 9223372036854775807 → l.length ≤ 9223372036854775807 →
    laws_markIntS_l2 n q (j : Int) l ke = ke (q + (l.length - j : Nat)) (l.take j ++ marks (l.length - j) q)
  | 0, _, _, _, h, _, _, _, _ => by omega
  | n + 1, j, l, q, hn, hj, h0, h1, h2 => by
    unfold laws_markIntS_l2
    by_cases h : j < l.length
    · rw [dlt h, dnn, wrapS h (by omega), wrap64 (x := q + 1) (by omega) (by omega), Int.toNat_natCast]
      simp only [cond_true]
      rw [laws_markIntS_loop ke n (j + 1) (l.set j q) (q + 1) (by simp; omega) (by simp; omega) (by omega) (by simp; omega) (by simp; omega)]
      rw [List.length_set, set_take_drop h, List.append_assoc, show l.length - j = (l.length - (j + 1)) + 1 by omega]
      congr 1
      omega
    · rw [dge (by omega), cond_false, show l.length - j = 0 by omega, List.take_of_length_le (by omega)]
      simp [marks]
theorem laws_markIntS_eq {R : Type} {n : Nat} {l : List Int} {q : Int} (hn : l.length < n) (h0 : 0 ≤ q) (h1 : q + l.length ≤ 9223372036854775807) (k : Int → List Int → Option R) : laws_markIntS n q l k = k (q + l.length) (marks l.length q) := by
  unfold laws_markIntS
  have := laws_markIntS_loop k n 0 l q (by omega) (by omega) h0 (by omega) (by omega)
  simp only [List.take_zero, List.nil_append, Nat.sub_zero] at this
  exact this
theorem set_take_at {α : Type} {out l : List α} {j : Nat} (h : j < l.length) (ho : out.length = l.length) (ht : out.take j = l.take j) : (out.set j l[j]).take (j + 1) = l.take (j + 1) := by
  rw [List.take_set, List.take_succ_eq_append_getElem (by omega), List.take_succ_eq_append_getElem h, ht, List.set_append_right _ _ (by simp; omega)]
  rw [show j - (l.take j).length = 0 by simp; omega]
  rfl
theorem laws_toIntS_loop {R : Type} (l : List Int) (hb : l.length ≤ 9223372036854775807) (ke : List Int → Option R) : ∀ (n j : Nat) (out : List Int), l.length - j < n → j ≤ l.length → out.length = l.length → out.take j = l.take j →
    laws_toIntS_l3 n l (j : Int) out ke = ke l
  | 0, _, _, h, _, _, _ => by omega
  | n + 1, j, out, hn, hj, ho, ht => by
    unfold laws_toIntS_l3
    by_cases h : j < l.length
    · rw [dlt h, dnn, getD_at _ _ h, wrapS h hb, Int.toNat_natCast, ho, dlt h]
      simp only [cond_true]
      exact laws_toIntS_loop l hb ke n (j + 1) _ (by omega) (by omega) (by simpa using ho) (set_take_at h ho ht)
    · rw [dge (by omega), cond_false]
      have h1 : l.take j = l := List.take_of_length_le (by omega)
      rw [List.take_of_length_le (by omega), h1] at ht
      rw [ht]
theorem laws_toIntS_eq {R : Type} {n : Nat} {l : List Int} (hl : l.length ≤ 1048576) (hn : l.length < n) (k : List Int → Option R) : laws_toIntS n l k = k l := by
  unfold laws_toIntS
  rw [decide_eq_true (by omega), decide_eq_true (by omega), decide_eq_true (by omega)]
  simp only [cond_true, Int.toNat_natCast]
  exact laws_toIntS_loop l (by omega) k n 0 _ (by omega) (by omega) (by simp) (by simp)
end Q
def tt : TT := [(3, ⟨1, false, (.int .i64), 0, [], [.int .i64 0], 8, true, false, [], none⟩), (4, ⟨1, false, .bool, 0, [], [.bool false], 1, true, false, [], none⟩), (22, ⟨1, false, (.sl (.pr (.int .i64) (.sl (.int .i64)))), 55, [], [.nil], 24, true, true, [], none⟩), (25, ⟨1, false, (.sl (.pr (.int .i64) (.sl (.int .i64)))), 48, [], [.nil], 24, true, true, [], none⟩), (29, ⟨1, false, (.sl (.int .i64)), 3, [], [.nil], 24, true, true, [], none⟩), (48, ⟨2, true, (.pr (.int .i64) (.sl (.int .i64))), 0, [(0, 1, false), (1, 1, false)], [.int .i64 0, .nil], 32, true, false, [], none⟩), (55, ⟨2, true, (.pr (.int .i64) (.sl (.int .i64))), 0, [(0, 1, false), (1, 1, false)], [.int .i64 0, .nil], 32, true, false, [], none⟩), (63, ⟨1, false, (.sl .bool), 4, [], [.nil], 24, true, true, [], none⟩), (71, ⟨3, true, (.pr (.sl (.int .i64)) (.pr (.int .i64) (.sl (.int .i64)))), 0, [(0, 1, false), (1, 1, false), (2, 1, false)], [.nil, .int .i64 0, .nil], 56, true, false, [], none⟩), (96, ⟨1, false, (.int .u64), 0, [], [.int .u64 0], 8, true, false, [], none⟩)]
def sig : Sig := sigOf [(8, [.one (.ro (.pr (.int .i64) (.sl (.int .i64)))), .one (.ro (.int .i64))]), (12, [.one (.ro (.pr (.int .i64) (.sl (.int .i64)))), .one .any]), (13, [.one (.ro (.pr (.int .i64) (.sl (.int .i64))))]), (14, [.one (.ro (.pr (.int .i64) (.sl (.int .i64))))]), (15, [.one (.ro (.pr (.int .i64) (.sl (.int .i64))))]), (16, [.one (.ro (.pr (.int .i64) (.sl (.int .i64)))), .one (.ro (.pr (.int .i64) (.sl (.int .i64))))]), (18, [.one (.ro (.int .i64))]), (20, [.one (.ro (.int .i64)), .one (.ro (.int .i64))]), (23, [.one .map, .one .any]), (24, [.one (.own (.int .i64)), .one .any]), (25, [.one (.ro (.int .i64)), .one .any]), (30, [.one (.ro (.pr (.int .i64) (.sl (.int .i64)))), .one (.ro (.int .i64))]), (31, [.one (.ro (.pr (.int .i64) (.sl (.int .i64)))), .one (.ro (.int .i64))]), (39, [.agg [.any, (.ro (.int .i64))], .one .any]), (40, [.one .any, .one .any, .one .any]), (41, [.one (.ro (.int .i64))]), (42, [.agg [.any, (.ro (.int .i64))]]), (43, [.one (.ro (.pr (.int .i64) (.sl (.int .i64)))), .fn 44 []]), (44, [.agg [.any, (.ro (.int .i64))]]), (45, [.one .any]), (46, [.one (.ro (.int .i64))]), (47, [.agg [.any, (.ro (.int .i64))], .agg [.any, (.ro (.int .i64))]]), (50, [.one (.ro (.pr (.int .i64) (.sl (.int .i64)))), .one (.ro (.int .i64))]), (53, [.one (.ro (.int .i64)), .one .any]), (56, [.one (.ro (.pr (.int .i64) (.sl (.int .i64)))), .one (.ro (.int .i64))]), (57, [.one (.ro (.pr (.int .i64) (.sl (.int .i64)))), .one (.ro (.int .i64))]), (58, [.one (.ro .bool)]), (64, [.one (.ro (.int .i64)), .one .any]), (65, [.one (.ro (.pr (.int .i64) (.sl (.int .i64)))), .fn 44 []]), (66, [.one .any, .one .any, .one .any]), (67, [.one (.ro (.int .i64)), .one .any]), (70, [.one (.ro (.int .i64)), .one .any]), (71, [.one (.ro (.int .i64))]), (72, [.one (.own (.int .i64)), .one .any]), (73, [.one (.ro (.int .i64)), .one .any]), (74, [.one .any, .one (.own (.int .i64)), .box [(.ro (.pr (.int .i64) (.sl (.int .i64))))], .box [(.own (.int .i64)), .any, (.own (.int .i64))]]), (80, [.one (.ro (.int .i64)), .one .any]), (81, [.one (.own (.int .i64)), .one .any, .one (.own (.int .i64))]), (83, [.one .any, .one .any]), (84, [.one .any]), (87, [.one .any])]
theorem ttok : TTok Try.prog tt := .of_chk (by kernel_rfl)
theorem mixed : Try.prog.follows .mixedOrders = true := by kernel_rfl

/-! ### loop.example/g00269/laws.szIntS -/
theorem claws_szIntS (n : Nat) : AllOk Try.prog [] := trivial
@[reducible] def Slaws_szIntS : PkS := ⟨[.one (.ro (.int .i64)), .one (.int .i64)], []⟩
@[reducible] def Tlaws_szIntS : PkS := ⟨[.one (.int .i64), .one (.dead), .one (.dead)], []⟩
def Hlaws_szIntS : List Sh := [.one .any, .skip, .skip]
def Klaws_szIntS (g : ∀ {R : Type}, Nat → (List Int) → Int → (Int → Option R) → Option R) (n : Nat) : KPs := fun R p k => match (PkS.un Slaws_szIntS p : Option ((List Int) × Int × Unit)) with
  | some (x0, x1, _) => g n x0 x1 (fun r0 => k (PkS.pack Tlaws_szIntS (r0, ())))
  | none => none
theorem elaws_szIntS  {R : Type} (n : Nat) (x0 : List Int) (x1 : Int) (k : Pk → Option R) : evF tt sig (mkK [] R) (mkL (mkK []) [] R) Try.f64 Hlaws_szIntS (PkS.pack Slaws_szIntS (x0, x1, ())) k = (fun (k : Int → Option R) => (bif (decide ((IntKind.wrap .i64 (x1 - (x0.length : Int))) < 0)) then k (-1) else k (IntKind.wrap .i64 (x1 - (x0.length : Int))))) (fun r0 => k (PkS.pack Tlaws_szIntS (r0, ()))) := by kernel_rfl
theorem oklaws_szIntS (n : Nat) : FnOk Try.prog 64 (Klaws_szIntS @laws_szIntS n) := by
  refine fn_ok (sig := sig) mixed ttok (mkK_nat (claws_szIntS n)) (mkK_ok (claws_szIntS n)) (mkL_nat (mkK_nat (claws_szIntS n)) (l := []) trivial) (fn := Try.f64) (c := bodyOf Try.f64) (by kernel_rfl) (by kernel_rfl) (by kernel_rfl) (.eq (l := []) (by kernel_rfl) trivial) (shs := Hlaws_szIntS) (S := Slaws_szIntS) (h1 := by kernel_rfl) fun R p k => ?_
  unfold Klaws_szIntS
  cases h : (PkS.un Slaws_szIntS p) with
  | none => rfl
  | some d =>
    obtain ⟨x0, x1, u⟩ := (d : (List Int) × Int × Unit)
    have hp := PkS.un_pack h
    subst hp
    exact (elaws_szIntS  n x0 x1 k).symm

/-! ### loop.example/g00269/laws.szRule -/
theorem claws_szRule (n : Nat) : AllOk Try.prog [(64, Klaws_szIntS @laws_szIntS n)] := ⟨oklaws_szIntS n, trivial⟩
@[reducible] def Slaws_szRule : PkS := ⟨[.agg [.int .i64, .ro (.int .i64)], .one (.int .i64)], []⟩
@[reducible] def Tlaws_szRule : PkS := ⟨[.one (.int .i64), .one (.dead), .one (.dead)], []⟩
def Hlaws_szRule : List Sh := [.one .any, .skip, .skip]
def Klaws_szRule (g : ∀ {R : Type}, Nat → Int → (List Int) → Int → (Int → Option R) → Option R) (n : Nat) : KPs := fun R p k => match (PkS.un Slaws_szRule p : Option (Int × (List Int) × Int × Unit)) with
  | some (x0, x1, x2, _) => g n x0 x1 x2 (fun r0 => k (PkS.pack Tlaws_szRule (r0, ())))
  | none => none
theorem elaws_szRule (laws_szIntS : ∀ {R : Type}, Nat → (List Int) → Int → (Int → Option R) → Option R) {R : Type} (n : Nat) (x0 : Int) (x1 : List Int) (x2 : Int) (k : Pk → Option R) : evF tt sig (mkK [(64, Klaws_szIntS @laws_szIntS n)] R) (mkL (mkK [(64, Klaws_szIntS @laws_szIntS n)]) [] R) Try.f39 Hlaws_szRule (PkS.pack Slaws_szRule (x0, x1, x2, ())) k = (fun (k : Int → Option R) => (laws_szIntS n x1 x2 fun r1 => (bif (decide (r1 < 0)) then k (-1) else k r1))) (fun r0 => k (PkS.pack Tlaws_szRule (r0, ()))) := by kernel_rfl
theorem oklaws_szRule (n : Nat) : FnOk Try.prog 39 (Klaws_szRule @laws_szRule n) := by
  refine fn_ok (sig := sig) mixed ttok (mkK_nat (claws_szRule n)) (mkK_ok (claws_szRule n)) (mkL_nat (mkK_nat (claws_szRule n)) (l := []) trivial) (fn := Try.f39) (c := bodyOf Try.f39) (by kernel_rfl) (by kernel_rfl) (by kernel_rfl) (.eq (l := []) (by kernel_rfl) trivial) (shs := Hlaws_szRule) (S := Slaws_szRule) (h1 := by kernel_rfl) fun R p k => ?_
  unfold Klaws_szRule
  cases h : (PkS.un Slaws_szRule p) with
  | none => rfl
  | some d =>
    obtain ⟨x0, x1, x2, u⟩ := (d : Int × (List Int) × Int × Unit)
    have hp := PkS.un_pack h
    subst hp
    exact (elaws_szRule @laws_szIntS n x0 x1 x2 k).symm

/-! ### loop.example/g00269/laws.szRuleS -/
theorem claws_szRuleS (n : Nat) : AllOk Try.prog [(39, Klaws_szRule @laws_szRule n)] := ⟨oklaws_szRule n, trivial⟩
@[reducible] def Slaws_szRuleS_l5 : PkS := ⟨[.one (.ro (.pr (.int .i64) (.sl (.int .i64)))), .one (.int .i64), .one (.int .i64), .one (.dead), .one (.dead)], []⟩
@[reducible] def Tlaws_szRuleS_l5_0 : PkS := ⟨[.one (.int .i64), .one (.dead), .one (.dead)], []⟩
@[reducible] def Tlaws_szRuleS_l5_1 : PkS := ⟨[.one (.int .i64), .one (.dead), .one (.dead)], []⟩
def Dlaws_szRuleS_l5 : LoopD := ⟨27, [0, 1, 5], [.one (.ro (.pr (.int .i64) (.sl (.int .i64)))), .one .any, .one .any, .skip, .skip], fun x => match x with
  | .ret => some ([4], [.one .any, .skip, .skip])
  | .exit 0 => some ([1], [.one .any, .skip, .skip])
  | _ => none⟩
def Plaws_szRuleS_l5 (g : ∀ {R : Type}, Nat → (List (Int × List Int)) → Int → Int → (Int → Option R) → (Int → Option R) → Option R) (n : Nat) : LPs := fun R q kk => match (PkS.un Slaws_szRuleS_l5 q : Option ((List (Int × List Int)) × Int × Int × Unit)) with
  | some (y5_0, y5_1, y5_2, _) => g n y5_0 y5_1 y5_2 (fun r0 => kk .ret (PkS.pack Tlaws_szRuleS_l5_0 (r0, ()))) (fun r0 => kk (.exit 0) (PkS.pack Tlaws_szRuleS_l5_1 (r0, ())))
  | none => none
theorem elaws_szRuleS_l5 (laws_szRule : ∀ {R : Type}, Nat → Int → (List Int) → Int → (Int → Option R) → Option R) (laws_szRuleS_l5 : ∀ {R : Type}, Nat → (List (Int × List Int)) → Int → Int → (Int → Option R) → (Int → Option R) → Option R) {R : Type} (n : Nat) (y5_0 : List (Int × List Int)) (y5_1 : Int) (y5_2 : Int) (kk : Ex → Pk → Option R) : Dlaws_szRuleS_l5.step tt sig (mkK [(39, Klaws_szRule @laws_szRule n)] R) (mkL (mkK [(39, Klaws_szRule @laws_szRule n)]) [] R) (loopIn 5 (bodyOf Try.f12)) (fun q' => Plaws_szRuleS_l5 @laws_szRuleS_l5 n R q' kk) (PkS.pack Slaws_szRuleS_l5 (y5_0, y5_1, y5_2, ())) kk = (fun (kret : Int → Option R) (kexit0 : Int → Option R) => (bif (decide (y5_2 < (y5_0.length : Int))) then (bif decide (0 ≤ y5_2) then (bif decide (y5_2 < (y5_0.length : Int)) then (laws_szRule n ((y5_0.getD (Int.toNat y5_2) (0, [])).1) ((y5_0.getD (Int.toNat y5_2) (0, [])).2) y5_1 fun r1 => (bif (decide (r1 < 0)) then kret (-1) else laws_szRuleS_l5 n y5_0 r1 (IntKind.wrap .i64 (y5_2 + 1)) kret kexit0)) else none) else none) else kexit0 y5_1)) (fun r0 => kk .ret (PkS.pack Tlaws_szRuleS_l5_0 (r0, ()))) (fun r0 => kk (.exit 0) (PkS.pack Tlaws_szRuleS_l5_1 (r0, ()))) := by kernel_rfl
theorem lelaws_szRuleS_l5 : LoopEq tt sig (fun n => mkK [(39, Klaws_szRule @laws_szRule n)]) (fun n => mkL (mkK [(39, Klaws_szRule @laws_szRule n)]) []) Dlaws_szRuleS_l5 Slaws_szRuleS_l5 (loopIn 5 (bodyOf Try.f12)) (Plaws_szRuleS_l5 @laws_szRuleS_l5) where
  zero R q kk := by unfold Plaws_szRuleS_l5; cases (PkS.un Slaws_szRuleS_l5 q) <;> rfl
  succ n R q kk := by
    unfold Plaws_szRuleS_l5
    cases h : (PkS.un Slaws_szRuleS_l5 q) with
    | none => rfl
    | some d =>
      obtain ⟨y5_0, y5_1, y5_2, u⟩ := (d : (List (Int × List Int)) × Int × Int × Unit)
      have hp := PkS.un_pack h
      subst hp
      exact (elaws_szRuleS_l5 @laws_szRule @laws_szRuleS_l5 n y5_0 y5_1 y5_2 kk).symm
theorem nllaws_szRuleS_l5 : ∀ n, NatLP (Plaws_szRuleS_l5 @laws_szRuleS_l5 n) := lelaws_szRuleS_l5.nat (fun n => mkK_nat (claws_szRuleS n)) fun n => mkL_nat (mkK_nat (claws_szRuleS n)) (l := []) trivial
theorem inlaws_szRuleS_l5 (n : Nat) (R : Type) : LoopsOk Try.prog (mkL (mkK [(39, Klaws_szRule @laws_szRule n)]) [] R) (loopIn 5 (bodyOf Try.f12)) := .eq (l := []) (by kernel_rfl) trivial
theorem lklaws_szRuleS_l5 (n : Nat) (R : Type) (L0 : LK R) (h0 : ∀ id, firstRegion (loopIn 5 (bodyOf Try.f12)) = some id → L0 id = Dlaws_szRuleS_l5.oracle (mkK [(39, Klaws_szRule @laws_szRule n)] R) (Plaws_szRuleS_l5 @laws_szRuleS_l5 n R)) : LoopOk Try.prog L0 (loopIn 5 (bodyOf Try.f12)) :=
  lelaws_szRuleS_l5.ok mixed ttok (fun n => mkK_nat (claws_szRuleS n)) (fun n => mkK_ok (claws_szRuleS n)) (fun n => inlaws_szRuleS_l5 n R) (mkK_nat (claws_szRuleS n)) h0
@[reducible] def Slaws_szRuleS : PkS := ⟨[.one (.ro (.pr (.int .i64) (.sl (.int .i64)))), .one (.int .i64)], []⟩
@[reducible] def Tlaws_szRuleS : PkS := ⟨[.one (.int .i64), .one (.dead), .one (.dead)], []⟩
def Hlaws_szRuleS : List Sh := [.one .any, .skip, .skip]
def Klaws_szRuleS (g : ∀ {R : Type}, Nat → (List (Int × List Int)) → Int → (Int → Option R) → Option R) (n : Nat) : KPs := fun R p k => match (PkS.un Slaws_szRuleS p : Option ((List (Int × List Int)) × Int × Unit)) with
  | some (x0, x1, _) => g n x0 x1 (fun r0 => k (PkS.pack Tlaws_szRuleS (r0, ())))
  | none => none
theorem elaws_szRuleS (laws_szRule : ∀ {R : Type}, Nat → Int → (List Int) → Int → (Int → Option R) → Option R) (laws_szRuleS_l5 : ∀ {R : Type}, Nat → (List (Int × List Int)) → Int → Int → (Int → Option R) → (Int → Option R) → Option R) {R : Type} (n : Nat) (x0 : List (Int × List Int)) (x1 : Int) (k : Pk → Option R) : evF tt sig (mkK [(39, Klaws_szRule @laws_szRule n)] R) (mkL (mkK [(39, Klaws_szRule @laws_szRule n)]) [(5, Dlaws_szRuleS_l5, Plaws_szRuleS_l5 @laws_szRuleS_l5 n)] R) Try.f12 Hlaws_szRuleS (PkS.pack Slaws_szRuleS (x0, x1, ())) k = (fun (k : Int → Option R) => (bif (decide ((IntKind.wrap .i64 (x1 - (x0.length : Int))) < 0)) then k (-1) else (laws_szRuleS_l5 n x0 (IntKind.wrap .i64 (x1 - (x0.length : Int))) 0 (fun r2 => k r2) (fun r3 => k r3)))) (fun r0 => k (PkS.pack Tlaws_szRuleS (r0, ()))) := by kernel_rfl
theorem oklaws_szRuleS (n : Nat) : FnOk Try.prog 12 (Klaws_szRuleS @laws_szRuleS n) := by
  refine fn_ok (sig := sig) mixed ttok (mkK_nat (claws_szRuleS n)) (mkK_ok (claws_szRuleS n)) (mkL_nat (mkK_nat (claws_szRuleS n)) (l := [(5, Dlaws_szRuleS_l5, Plaws_szRuleS_l5 @laws_szRuleS_l5 n)]) ⟨nllaws_szRuleS_l5 n, trivial⟩) (fn := Try.f12) (c := bodyOf Try.f12) (by kernel_rfl) (by kernel_rfl) (by kernel_rfl) (.eq (l := [.lo (loopIn 5 (bodyOf Try.f12))]) (by kernel_rfl) ⟨(lklaws_szRuleS_l5 n _ _ (at_id (i := 5) (by kernel_rfl) rfl)), trivial⟩) (shs := Hlaws_szRuleS) (S := Slaws_szRuleS) (h1 := by kernel_rfl) fun R p k => ?_
  unfold Klaws_szRuleS
  cases h : (PkS.un Slaws_szRuleS p) with
  | none => rfl
  | some d =>
    obtain ⟨x0, x1, u⟩ := (d : (List (Int × List Int)) × Int × Unit)
    have hp := PkS.un_pack h
    subst hp
    exact (elaws_szRuleS @laws_szRule @laws_szRuleS_l5 n x0 x1 k).symm

/-! ### loop.example/g00269/laws.toIntS -/
theorem claws_toIntS (n : Nat) : AllOk Try.prog [] := trivial
@[reducible] def Slaws_toIntS_l3 : PkS := ⟨[.one (.ro (.int .i64)), .one (.whole (100000, 0)), .one (.int .i64), .one (.dead)], [((100000, 0), .arr (.int .i64))]⟩
@[reducible] def Tlaws_toIntS_l3_0 : PkS := ⟨[.one (.whole (100000, 0)), .one (.dead)], [((100000, 0), .arr (.int .i64))]⟩
def Dlaws_toIntS_l3 : LoopD := ⟨22, [0, 3, 4], [.one (.ro (.int .i64)), .one (.own (.int .i64)), .one .any, .skip], fun x => match x with
  | .exit 0 => some ([3], [.one (.own (.int .i64)), .skip])
  | _ => none⟩
def Plaws_toIntS_l3 (g : ∀ {R : Type}, Nat → (List Int) → Int → (List Int) → ((List Int) → Option R) → Option R) (n : Nat) : LPs := fun R q kk => match (PkS.un Slaws_toIntS_l3 q : Option ((List Int) × Int × (List Int) × Unit)) with
  | some (y3_0, y3_1, y3_2, _) => g n y3_0 y3_1 y3_2 (fun r0 => kk (.exit 0) (PkS.pack Tlaws_toIntS_l3_0 (r0, ())))
  | none => none
theorem elaws_toIntS_l3 (laws_toIntS_l3 : ∀ {R : Type}, Nat → (List Int) → Int → (List Int) → ((List Int) → Option R) → Option R) {R : Type} (n : Nat) (y3_0 : List Int) (y3_1 : Int) (y3_2 : List Int) (kk : Ex → Pk → Option R) : Dlaws_toIntS_l3.step tt sig (mkK [] R) (mkL (mkK []) [] R) (loopIn 3 (bodyOf Try.f18)) (fun q' => Plaws_toIntS_l3 @laws_toIntS_l3 n R q' kk) (PkS.pack Slaws_toIntS_l3 (y3_0, y3_1, y3_2, ())) kk = (fun (kexit0 : (List Int) → Option R) => (bif (decide (y3_1 < (y3_0.length : Int))) then (bif decide (0 ≤ y3_1) then (bif decide (y3_1 < (y3_0.length : Int)) then (bif decide (0 ≤ y3_1) then (bif decide (y3_1 < (y3_2.length : Int)) then laws_toIntS_l3 n y3_0 (IntKind.wrap .i64 (y3_1 + 1)) (y3_2.set (Int.toNat y3_1) (y3_0.getD (Int.toNat y3_1) 0)) kexit0 else none) else none) else none) else none) else kexit0 y3_2)) (fun r0 => kk (.exit 0) (PkS.pack Tlaws_toIntS_l3_0 (r0, ()))) := by kernel_rfl
theorem lelaws_toIntS_l3 : LoopEq tt sig (fun n => mkK []) (fun n => mkL (mkK []) []) Dlaws_toIntS_l3 Slaws_toIntS_l3 (loopIn 3 (bodyOf Try.f18)) (Plaws_toIntS_l3 @laws_toIntS_l3) where
  zero R q kk := by unfold Plaws_toIntS_l3; cases (PkS.un Slaws_toIntS_l3 q) <;> rfl
  succ n R q kk := by
    unfold Plaws_toIntS_l3
    cases h : (PkS.un Slaws_toIntS_l3 q) with
    | none => rfl
    | some d =>
      obtain ⟨y3_0, y3_1, y3_2, u⟩ := (d : (List Int) × Int × (List Int) × Unit)
      have hp := PkS.un_pack h
      subst hp
      exact (elaws_toIntS_l3 @laws_toIntS_l3 n y3_0 y3_1 y3_2 kk).symm
theorem nllaws_toIntS_l3 : ∀ n, NatLP (Plaws_toIntS_l3 @laws_toIntS_l3 n) := lelaws_toIntS_l3.nat (fun n => mkK_nat (claws_toIntS n)) fun n => mkL_nat (mkK_nat (claws_toIntS n)) (l := []) trivial
theorem inlaws_toIntS_l3 (n : Nat) (R : Type) : LoopsOk Try.prog (mkL (mkK []) [] R) (loopIn 3 (bodyOf Try.f18)) := .eq (l := []) (by kernel_rfl) trivial
theorem lklaws_toIntS_l3 (n : Nat) (R : Type) (L0 : LK R) (h0 : ∀ id, firstRegion (loopIn 3 (bodyOf Try.f18)) = some id → L0 id = Dlaws_toIntS_l3.oracle (mkK [] R) (Plaws_toIntS_l3 @laws_toIntS_l3 n R)) : LoopOk Try.prog L0 (loopIn 3 (bodyOf Try.f18)) :=
  lelaws_toIntS_l3.ok mixed ttok (fun n => mkK_nat (claws_toIntS n)) (fun n => mkK_ok (claws_toIntS n)) (fun n => inlaws_toIntS_l3 n R) (mkK_nat (claws_toIntS n)) h0
@[reducible] def Slaws_toIntS : PkS := ⟨[.one (.ro (.int .i64))], []⟩
@[reducible] def Tlaws_toIntS : PkS := ⟨[.one (.whole (300000, 0)), .one (.dead)], [((300000, 0), .arr (.int .i64))]⟩
def Hlaws_toIntS : List Sh := [.one (.own (.int .i64)), .skip]
def Klaws_toIntS (g : ∀ {R : Type}, Nat → (List Int) → ((List Int) → Option R) → Option R) (n : Nat) : KPs := fun R p k => match (PkS.un Slaws_toIntS p : Option ((List Int) × Unit)) with
  | some (x0, _) => g n x0 (fun r0 => k (PkS.pack Tlaws_toIntS (r0, ())))
  | none => none
theorem elaws_toIntS (laws_toIntS_l3 : ∀ {R : Type}, Nat → (List Int) → Int → (List Int) → ((List Int) → Option R) → Option R) {R : Type} (n : Nat) (x0 : List Int) (k : Pk → Option R) : evF tt sig (mkK [] R) (mkL (mkK []) [(3, Dlaws_toIntS_l3, Plaws_toIntS_l3 @laws_toIntS_l3 n)] R) Try.f18 Hlaws_toIntS (PkS.pack Slaws_toIntS (x0, ())) k = (fun (k : (List Int) → Option R) => (bif decide (0 ≤ (x0.length : Int)) then (bif decide ((x0.length : Int) ≤ (x0.length : Int)) then (bif decide ((x0.length : Int) ≤ 1099511627776) then (laws_toIntS_l3 n x0 0 (List.replicate (Int.toNat (x0.length : Int)) (0 : Int)) (fun r1 => k r1)) else none) else none) else none)) (fun r0 => k (PkS.pack Tlaws_toIntS (r0, ()))) := by kernel_rfl
theorem oklaws_toIntS (n : Nat) : FnOk Try.prog 18 (Klaws_toIntS @laws_toIntS n) := by
  refine fn_ok (sig := sig) mixed ttok (mkK_nat (claws_toIntS n)) (mkK_ok (claws_toIntS n)) (mkL_nat (mkK_nat (claws_toIntS n)) (l := [(3, Dlaws_toIntS_l3, Plaws_toIntS_l3 @laws_toIntS_l3 n)]) ⟨nllaws_toIntS_l3 n, trivial⟩) (fn := Try.f18) (c := bodyOf Try.f18) (by kernel_rfl) (by kernel_rfl) (by kernel_rfl) (.eq (l := [.lo (loopIn 3 (bodyOf Try.f18))]) (by kernel_rfl) ⟨(lklaws_toIntS_l3 n _ _ (at_id (i := 3) (by kernel_rfl) rfl)), trivial⟩) (shs := Hlaws_toIntS) (S := Slaws_toIntS) (h1 := by kernel_rfl) fun R p k => ?_
  unfold Klaws_toIntS
  cases h : (PkS.un Slaws_toIntS p) with
  | none => rfl
  | some d =>
    obtain ⟨x0, u⟩ := (d : (List Int) × Unit)
    have hp := PkS.un_pack h
    subst hp
    exact (elaws_toIntS @laws_toIntS_l3 n x0 k).symm

/-! ### loop.example/g00269/laws.toRule -/
theorem claws_toRule (n : Nat) : AllOk Try.prog [(18, Klaws_toIntS @laws_toIntS n)] := ⟨oklaws_toIntS n, trivial⟩
@[reducible] def Slaws_toRule : PkS := ⟨[.agg [.int .i64, .ro (.int .i64)]], []⟩
@[reducible] def Tlaws_toRule : PkS := ⟨[.agg [.int .i64, .whole (300000, 0)], .one (.dead)], [((300000, 0), .arr (.int .i64))]⟩
def Hlaws_toRule : List Sh := [.agg [.any, (.own (.int .i64))], .skip]
def Klaws_toRule (g : ∀ {R : Type}, Nat → Int → (List Int) → (Int → (List Int) → Option R) → Option R) (n : Nat) : KPs := fun R p k => match (PkS.un Slaws_toRule p : Option (Int × (List Int) × Unit)) with
  | some (x0, x1, _) => g n x0 x1 (fun r0 r1 => k (PkS.pack Tlaws_toRule (r0, r1, ())))
  | none => none
theorem elaws_toRule (laws_toIntS : ∀ {R : Type}, Nat → (List Int) → ((List Int) → Option R) → Option R) {R : Type} (n : Nat) (x0 : Int) (x1 : List Int) (k : Pk → Option R) : evF tt sig (mkK [(18, Klaws_toIntS @laws_toIntS n)] R) (mkL (mkK [(18, Klaws_toIntS @laws_toIntS n)]) [] R) Try.f42 Hlaws_toRule (PkS.pack Slaws_toRule (x0, x1, ())) k = (fun (k : Int → (List Int) → Option R) => (laws_toIntS n x1 fun r1 => k x0 r1)) (fun r0 r1 => k (PkS.pack Tlaws_toRule (r0, r1, ()))) := by kernel_rfl
theorem oklaws_toRule (n : Nat) : FnOk Try.prog 42 (Klaws_toRule @laws_toRule n) := by
  refine fn_ok (sig := sig) mixed ttok (mkK_nat (claws_toRule n)) (mkK_ok (claws_toRule n)) (mkL_nat (mkK_nat (claws_toRule n)) (l := []) trivial) (fn := Try.f42) (c := bodyOf Try.f42) (by kernel_rfl) (by kernel_rfl) (by kernel_rfl) (.eq (l := []) (by kernel_rfl) trivial) (shs := Hlaws_toRule) (S := Slaws_toRule) (h1 := by kernel_rfl) fun R p k => ?_
  unfold Klaws_toRule
  cases h : (PkS.un Slaws_toRule p) with
  | none => rfl
  | some d =>
    obtain ⟨x0, x1, u⟩ := (d : Int × (List Int) × Unit)
    have hp := PkS.un_pack h
    subst hp
    exact (elaws_toRule @laws_toIntS n x0 x1 k).symm

/-! ### loop.example/g00269/laws.toRuleS -/
theorem claws_toRuleS (n : Nat) : AllOk Try.prog [(42, Klaws_toRule @laws_toRule n)] := ⟨oklaws_toRule n, trivial⟩
@[reducible] def Slaws_toRuleS : PkS := ⟨[.one (.ro (.pr (.int .i64) (.sl (.int .i64))))], []⟩
@[reducible] def Tlaws_toRuleS : PkS := ⟨[.one (.mp (300000, 0)), .one (.dead)], [((300000, 0), .dee (.pr (.int .i64) (.sl (.int .i64))))]⟩
def Klaws_toRuleS (g : ∀ {R : Type}, Nat → (List (Int × List Int)) → ((List (Int × List Int)) → Option R) → Option R) (n : Nat) : KPs := fun R p k => match (PkS.un Slaws_toRuleS p : Option ((List (Int × List Int)) × Unit)) with
  | some (x0, _) => g n x0 (fun r0 => k (PkS.pack Tlaws_toRuleS (r0, ())))
  | none => none
theorem dtlaws_toRuleS (n : Nat) (k : Int) (l : List Int) (h1 : l.length ≤ 1048576) (h2 : l.length < n) : ∃ rest, Klaws_toRule @laws_toRule n Pk (PkS.pack intRoS (k, l, ())) some = some ⟨.agg [.int .i64 k, .whole (300000, 0)] :: rest, [((300000, 0), .arr (.int .i64) l)]⟩ := by
  refine ⟨[.one .dead], (show Klaws_toRule @laws_toRule n Pk (PkS.pack intRoS (k, l, ())) some = laws_toRule n k l (fun a b => some (PkS.pack Tlaws_toRule (a, b, ()))) from rfl).trans ?_⟩
  unfold laws_toRule
  rw [Q.laws_toIntS_eq h1 h2]
  rfl
theorem oklaws_toRuleS (n : Nat) : FnOk Try.prog 14 (Klaws_toRuleS @laws_toRuleS n) := by
  have e : Klaws_toRuleS @laws_toRuleS n = toRK n := by kernel_rfl
  rw [e]
  exact toR_ok (fn42 := Try.f42) (c42 := bodyOf Try.f42) (by kernel_rfl) (by kernel_rfl) (by kernel_rfl) (oklaws_toRule n) (dtlaws_toRuleS n) (fn := Try.f14) (c := bodyOf Try.f14) (by kernel_rfl) (by kernel_rfl) (by kernel_rfl)

/-! ### loop.example/g00269/spec.l1In -/
theorem cspec_l1In (n : Nat) : AllOk Try.prog [] := trivial
@[reducible] def Sspec_l1In : PkS := ⟨[.one (.int .i64), .one (.int .i64), .one (.int .i64)], []⟩
@[reducible] def Tspec_l1In : PkS := ⟨[.one (.bool), .one (.dead), .one (.dead), .one (.dead)], []⟩
def Hspec_l1In : List Sh := [.one .any, .skip, .skip, .skip]
def Kspec_l1In (g : ∀ {R : Type}, Nat → Int → Int → Int → (Bool → Option R) → Option R) (n : Nat) : KPs := fun R p k => match (PkS.un Sspec_l1In p : Option (Int × Int × Int × Unit)) with
  | some (x0, x1, x2, _) => g n x0 x1 x2 (fun r0 => k (PkS.pack Tspec_l1In (r0, ())))
  | none => none
theorem espec_l1In  {R : Type} (n : Nat) (x0 : Int) (x1 : Int) (x2 : Int) (k : Pk → Option R) : evF tt sig (mkK [] R) (mkL (mkK []) [] R) Try.f40 Hspec_l1In (PkS.pack Sspec_l1In (x0, x1, x2, ())) k = (fun (k : Bool → Option R) => (bif (decide (x0 ≥ x1)) then k (decide (x0 ≤ x2)) else k false)) (fun r0 => k (PkS.pack Tspec_l1In (r0, ()))) := by kernel_rfl
theorem okspec_l1In (n : Nat) : FnOk Try.prog 40 (Kspec_l1In @spec_l1In n) := by
  refine fn_ok (sig := sig) mixed ttok (mkK_nat (cspec_l1In n)) (mkK_ok (cspec_l1In n)) (mkL_nat (mkK_nat (cspec_l1In n)) (l := []) trivial) (fn := Try.f40) (c := bodyOf Try.f40) (by kernel_rfl) (by kernel_rfl) (by kernel_rfl) (.eq (l := []) (by kernel_rfl) trivial) (shs := Hspec_l1In) (S := Sspec_l1In) (h1 := by kernel_rfl) fun R p k => ?_
  unfold Kspec_l1In
  cases h : (PkS.un Sspec_l1In p) with
  | none => rfl
  | some d =>
    obtain ⟨x0, x1, x2, u⟩ := (d : Int × Int × Int × Unit)
    have hp := PkS.un_pack h
    subst hp
    exact (espec_l1In  n x0 x1 x2 k).symm

/-! ### loop.example/g00269/spec.l8Set -/
theorem cspec_l8Set (n : Nat) : AllOk Try.prog [(40, Kspec_l1In @spec_l1In n)] := ⟨okspec_l1In n, trivial⟩
@[reducible] def Sspec_l8Set_l2 : PkS := ⟨[.one (.ro (.int .i64)), .one (.ro (.int .i64)), .one (.int .i64), .one (.int .i64), .one (.dead)], []⟩
@[reducible] def Tspec_l8Set_l2_0 : PkS := ⟨[.one (.bool), .one (.dead)], []⟩
@[reducible] def Tspec_l8Set_l2_1 : PkS := ⟨[.one (.dead)], []⟩
def Dspec_l8Set_l2 : LoopD := ⟨29, [0, 5, 6, 7], [.one (.ro (.int .i64)), .one (.ro (.int .i64)), .one .any, .one .any, .skip], fun x => match x with
  | .ret => some ([2], [.one .any, .skip])
  | .exit 0 => some ([], [.skip])
  | _ => none⟩
def Pspec_l8Set_l2 (g : ∀ {R : Type}, Nat → (List Int) → (List Int) → Int → Int → (Bool → Option R) → (Option R) → Option R) (n : Nat) : LPs := fun R q kk => match (PkS.un Sspec_l8Set_l2 q : Option ((List Int) × (List Int) × Int × Int × Unit)) with
  | some (y2_0, y2_1, y2_2, y2_3, _) => g n y2_0 y2_1 y2_2 y2_3 (fun r0 => kk .ret (PkS.pack Tspec_l8Set_l2_0 (r0, ()))) (kk (.exit 0) (PkS.pack Tspec_l8Set_l2_1 ()))
  | none => none
theorem espec_l8Set_l2 (spec_l1In : ∀ {R : Type}, Nat → Int → Int → Int → (Bool → Option R) → Option R) (spec_l8Set_l2 : ∀ {R : Type}, Nat → (List Int) → (List Int) → Int → Int → (Bool → Option R) → (Option R) → Option R) {R : Type} (n : Nat) (y2_0 : List Int) (y2_1 : List Int) (y2_2 : Int) (y2_3 : Int) (kk : Ex → Pk → Option R) : Dspec_l8Set_l2.step tt sig (mkK [(40, Kspec_l1In @spec_l1In n)] R) (mkL (mkK [(40, Kspec_l1In @spec_l1In n)]) [] R) (loopIn 2 (bodyOf Try.f41)) (fun q' => Pspec_l8Set_l2 @spec_l8Set_l2 n R q' kk) (PkS.pack Sspec_l8Set_l2 (y2_0, y2_1, y2_2, y2_3, ())) kk = (fun (kret : Bool → Option R) (kexit0 : Option R) => (bif (decide (y2_3 < y2_2)) then (bif decide (0 ≤ y2_3) then (bif decide (y2_3 < (y2_1.length : Int)) then (spec_l1In n (y2_1.getD (Int.toNat y2_3) 0) 0 39 fun r1 => (bif (!r1) then kret false else (bif (decide (y2_3 > 0)) then (bif decide (0 ≤ (IntKind.wrap .i64 (y2_3 - 1))) then (bif decide ((IntKind.wrap .i64 (y2_3 - 1)) < (y2_0.length : Int)) then (bif (decide ((y2_0.getD (Int.toNat (IntKind.wrap .i64 (y2_3 - 1))) 0) ≥ (y2_1.getD (Int.toNat y2_3) 0))) then kret false else spec_l8Set_l2 n y2_0 y2_1 y2_2 (IntKind.wrap .i64 (y2_3 + 1)) kret kexit0) else none) else none) else spec_l8Set_l2 n y2_0 y2_1 y2_2 (IntKind.wrap .i64 (y2_3 + 1)) kret kexit0))) else none) else none) else kexit0)) (fun r0 => kk .ret (PkS.pack Tspec_l8Set_l2_0 (r0, ()))) (kk (.exit 0) (PkS.pack Tspec_l8Set_l2_1 ())) := by kernel_rfl
theorem lespec_l8Set_l2 : LoopEq tt sig (fun n => mkK [(40, Kspec_l1In @spec_l1In n)]) (fun n => mkL (mkK [(40, Kspec_l1In @spec_l1In n)]) []) Dspec_l8Set_l2 Sspec_l8Set_l2 (loopIn 2 (bodyOf Try.f41)) (Pspec_l8Set_l2 @spec_l8Set_l2) where
  zero R q kk := by unfold Pspec_l8Set_l2; cases (PkS.un Sspec_l8Set_l2 q) <;> rfl
  succ n R q kk := by
    unfold Pspec_l8Set_l2
    cases h : (PkS.un Sspec_l8Set_l2 q) with
    | none => rfl
    | some d =>
      obtain ⟨y2_0, y2_1, y2_2, y2_3, u⟩ := (d : (List Int) × (List Int) × Int × Int × Unit)
      have hp := PkS.un_pack h
      subst hp
      exact (espec_l8Set_l2 @spec_l1In @spec_l8Set_l2 n y2_0 y2_1 y2_2 y2_3 kk).symm
theorem nlspec_l8Set_l2 : ∀ n, NatLP (Pspec_l8Set_l2 @spec_l8Set_l2 n) := lespec_l8Set_l2.nat (fun n => mkK_nat (cspec_l8Set n)) fun n => mkL_nat (mkK_nat (cspec_l8Set n)) (l := []) trivial
theorem inspec_l8Set_l2 (n : Nat) (R : Type) : LoopsOk Try.prog (mkL (mkK [(40, Kspec_l1In @spec_l1In n)]) [] R) (loopIn 2 (bodyOf Try.f41)) := .eq (l := []) (by kernel_rfl) trivial
theorem lkspec_l8Set_l2 (n : Nat) (R : Type) (L0 : LK R) (h0 : ∀ id, firstRegion (loopIn 2 (bodyOf Try.f41)) = some id → L0 id = Dspec_l8Set_l2.oracle (mkK [(40, Kspec_l1In @spec_l1In n)] R) (Pspec_l8Set_l2 @spec_l8Set_l2 n R)) : LoopOk Try.prog L0 (loopIn 2 (bodyOf Try.f41)) :=
  lespec_l8Set_l2.ok mixed ttok (fun n => mkK_nat (cspec_l8Set n)) (fun n => mkK_ok (cspec_l8Set n)) (fun n => inspec_l8Set_l2 n R) (mkK_nat (cspec_l8Set n)) h0
@[reducible] def Sspec_l8Set : PkS := ⟨[.one (.ro (.int .i64))], []⟩
@[reducible] def Tspec_l8Set : PkS := ⟨[.one (.bool), .one (.dead)], []⟩
def Hspec_l8Set : List Sh := [.one .any, .skip]
def Kspec_l8Set (g : ∀ {R : Type}, Nat → (List Int) → (Bool → Option R) → Option R) (n : Nat) : KPs := fun R p k => match (PkS.un Sspec_l8Set p : Option ((List Int) × Unit)) with
  | some (x0, _) => g n x0 (fun r0 => k (PkS.pack Tspec_l8Set (r0, ())))
  | none => none
theorem espec_l8Set (spec_l1In : ∀ {R : Type}, Nat → Int → Int → Int → (Bool → Option R) → Option R) (spec_l8Set_l2 : ∀ {R : Type}, Nat → (List Int) → (List Int) → Int → Int → (Bool → Option R) → (Option R) → Option R) {R : Type} (n : Nat) (x0 : List Int) (k : Pk → Option R) : evF tt sig (mkK [(40, Kspec_l1In @spec_l1In n)] R) (mkL (mkK [(40, Kspec_l1In @spec_l1In n)]) [(2, Dspec_l8Set_l2, Pspec_l8Set_l2 @spec_l8Set_l2 n)] R) Try.f41 Hspec_l8Set (PkS.pack Sspec_l8Set (x0, ())) k = (fun (k : Bool → Option R) => (spec_l8Set_l2 n x0 x0 (x0.length : Int) 0 (fun r2 => k r2) (k true))) (fun r0 => k (PkS.pack Tspec_l8Set (r0, ()))) := by kernel_rfl
theorem okspec_l8Set (n : Nat) : FnOk Try.prog 41 (Kspec_l8Set @spec_l8Set n) := by
  refine fn_ok (sig := sig) mixed ttok (mkK_nat (cspec_l8Set n)) (mkK_ok (cspec_l8Set n)) (mkL_nat (mkK_nat (cspec_l8Set n)) (l := [(2, Dspec_l8Set_l2, Pspec_l8Set_l2 @spec_l8Set_l2 n)]) ⟨nlspec_l8Set_l2 n, trivial⟩) (fn := Try.f41) (c := bodyOf Try.f41) (by kernel_rfl) (by kernel_rfl) (by kernel_rfl) (.eq (l := [.lo (loopIn 2 (bodyOf Try.f41))]) (by kernel_rfl) ⟨(lkspec_l8Set_l2 n _ _ (at_id (i := 2) (by kernel_rfl) rfl)), trivial⟩) (shs := Hspec_l8Set) (S := Sspec_l8Set) (h1 := by kernel_rfl) fun R p k => ?_
  unfold Kspec_l8Set
  cases h : (PkS.un Sspec_l8Set p) with
  | none => rfl
  | some d =>
    obtain ⟨x0, u⟩ := (d : (List Int) × Unit)
    have hp := PkS.un_pack h
    subst hp
    exact (espec_l8Set @spec_l1In @spec_l8Set_l2 n x0 k).symm

/-! ### loop.example/g00269/spec.GoodRules -/
theorem cspec_GoodRules (n : Nat) : AllOk Try.prog [(40, Kspec_l1In @spec_l1In n), (41, Kspec_l8Set @spec_l8Set n)] := ⟨okspec_l1In n, ⟨okspec_l8Set n, trivial⟩⟩
@[reducible] def Sspec_GoodRules_l2 : PkS := ⟨[.one (.ro (.pr (.int .i64) (.sl (.int .i64)))), .one (.ro (.pr (.int .i64) (.sl (.int .i64)))), .one (.int .i64), .one (.int .i64), .one (.dead)], []⟩
@[reducible] def Tspec_GoodRules_l2_0 : PkS := ⟨[.one (.bool), .one (.dead)], []⟩
@[reducible] def Tspec_GoodRules_l2_1 : PkS := ⟨[.one (.ro (.pr (.int .i64) (.sl (.int .i64)))), .one (.dead)], []⟩
def Dspec_GoodRules_l2 : LoopD := ⟨25, [0, 5, 6, 7], [.one (.ro (.pr (.int .i64) (.sl (.int .i64)))), .one (.ro (.pr (.int .i64) (.sl (.int .i64)))), .one .any, .one .any, .skip], fun x => match x with
  | .ret => some ([2], [.one .any, .skip])
  | .exit 0 => some ([0], [.one (.ro (.pr (.int .i64) (.sl (.int .i64)))), .skip])
  | _ => none⟩
def Pspec_GoodRules_l2 (g : ∀ {R : Type}, Nat → (List (Int × List Int)) → (List (Int × List Int)) → Int → Int → (Bool → Option R) → ((List (Int × List Int)) → Option R) → Option R) (n : Nat) : LPs := fun R q kk => match (PkS.un Sspec_GoodRules_l2 q : Option ((List (Int × List Int)) × (List (Int × List Int)) × Int × Int × Unit)) with
  | some (y2_0, y2_1, y2_2, y2_3, _) => g n y2_0 y2_1 y2_2 y2_3 (fun r0 => kk .ret (PkS.pack Tspec_GoodRules_l2_0 (r0, ()))) (fun r0 => kk (.exit 0) (PkS.pack Tspec_GoodRules_l2_1 (r0, ())))
  | none => none
theorem espec_GoodRules_l2 (spec_l1In : ∀ {R : Type}, Nat → Int → Int → Int → (Bool → Option R) → Option R) (spec_l8Set : ∀ {R : Type}, Nat → (List Int) → (Bool → Option R) → Option R) (spec_GoodRules_l2 : ∀ {R : Type}, Nat → (List (Int × List Int)) → (List (Int × List Int)) → Int → Int → (Bool → Option R) → ((List (Int × List Int)) → Option R) → Option R) {R : Type} (n : Nat) (y2_0 : List (Int × List Int)) (y2_1 : List (Int × List Int)) (y2_2 : Int) (y2_3 : Int) (kk : Ex → Pk → Option R) : Dspec_GoodRules_l2.step tt sig (mkK [(40, Kspec_l1In @spec_l1In n), (41, Kspec_l8Set @spec_l8Set n)] R) (mkL (mkK [(40, Kspec_l1In @spec_l1In n), (41, Kspec_l8Set @spec_l8Set n)]) [] R) (loopIn 2 (bodyOf Try.f13)) (fun q' => Pspec_GoodRules_l2 @spec_GoodRules_l2 n R q' kk) (PkS.pack Sspec_GoodRules_l2 (y2_0, y2_1, y2_2, y2_3, ())) kk = (fun (kret : Bool → Option R) (kexit0 : (List (Int × List Int)) → Option R) => (bif (decide (y2_3 < y2_2)) then (bif decide (0 ≤ y2_3) then (bif decide (y2_3 < (y2_1.length : Int)) then (spec_l1In n ((y2_1.getD (Int.toNat y2_3) (0, [])).1) 0 39 fun r1 => (bif (!r1) then kret false else (spec_l8Set n ((y2_1.getD (Int.toNat y2_3) (0, [])).2) fun r2 => (bif (!r2) then kret false else spec_GoodRules_l2 n y2_0 y2_1 y2_2 (IntKind.wrap .i64 (y2_3 + 1)) kret kexit0)))) else none) else none) else kexit0 y2_0)) (fun r0 => kk .ret (PkS.pack Tspec_GoodRules_l2_0 (r0, ()))) (fun r0 => kk (.exit 0) (PkS.pack Tspec_GoodRules_l2_1 (r0, ()))) := by kernel_rfl
theorem lespec_GoodRules_l2 : LoopEq tt sig (fun n => mkK [(40, Kspec_l1In @spec_l1In n), (41, Kspec_l8Set @spec_l8Set n)]) (fun n => mkL (mkK [(40, Kspec_l1In @spec_l1In n), (41, Kspec_l8Set @spec_l8Set n)]) []) Dspec_GoodRules_l2 Sspec_GoodRules_l2 (loopIn 2 (bodyOf Try.f13)) (Pspec_GoodRules_l2 @spec_GoodRules_l2) where
  zero R q kk := by unfold Pspec_GoodRules_l2; cases (PkS.un Sspec_GoodRules_l2 q) <;> rfl
  succ n R q kk := by
    unfold Pspec_GoodRules_l2
    cases h : (PkS.un Sspec_GoodRules_l2 q) with
    | none => rfl
    | some d =>
      obtain ⟨y2_0, y2_1, y2_2, y2_3, u⟩ := (d : (List (Int × List Int)) × (List (Int × List Int)) × Int × Int × Unit)
      have hp := PkS.un_pack h
      subst hp
      exact (espec_GoodRules_l2 @spec_l1In @spec_l8Set @spec_GoodRules_l2 n y2_0 y2_1 y2_2 y2_3 kk).symm
theorem nlspec_GoodRules_l2 : ∀ n, NatLP (Pspec_GoodRules_l2 @spec_GoodRules_l2 n) := lespec_GoodRules_l2.nat (fun n => mkK_nat (cspec_GoodRules n)) fun n => mkL_nat (mkK_nat (cspec_GoodRules n)) (l := []) trivial
theorem inspec_GoodRules_l2 (n : Nat) (R : Type) : LoopsOk Try.prog (mkL (mkK [(40, Kspec_l1In @spec_l1In n), (41, Kspec_l8Set @spec_l8Set n)]) [] R) (loopIn 2 (bodyOf Try.f13)) := .eq (l := []) (by kernel_rfl) trivial
theorem lkspec_GoodRules_l2 (n : Nat) (R : Type) (L0 : LK R) (h0 : ∀ id, firstRegion (loopIn 2 (bodyOf Try.f13)) = some id → L0 id = Dspec_GoodRules_l2.oracle (mkK [(40, Kspec_l1In @spec_l1In n), (41, Kspec_l8Set @spec_l8Set n)] R) (Pspec_GoodRules_l2 @spec_GoodRules_l2 n R)) : LoopOk Try.prog L0 (loopIn 2 (bodyOf Try.f13)) :=
  lespec_GoodRules_l2.ok mixed ttok (fun n => mkK_nat (cspec_GoodRules n)) (fun n => mkK_ok (cspec_GoodRules n)) (fun n => inspec_GoodRules_l2 n R) (mkK_nat (cspec_GoodRules n)) h0
@[reducible] def Sspec_GoodRules : PkS := ⟨[.one (.ro (.pr (.int .i64) (.sl (.int .i64))))], []⟩
@[reducible] def Tspec_GoodRules : PkS := ⟨[.one (.bool), .one (.dead)], []⟩
def Hspec_GoodRules : List Sh := [.one .any, .skip]
def Kspec_GoodRules (g : ∀ {R : Type}, Nat → (List (Int × List Int)) → (Bool → Option R) → Option R) (n : Nat) : KPs := fun R p k => match (PkS.un Sspec_GoodRules p : Option ((List (Int × List Int)) × Unit)) with
  | some (x0, _) => g n x0 (fun r0 => k (PkS.pack Tspec_GoodRules (r0, ())))
  | none => none
theorem espec_GoodRules (spec_l1In : ∀ {R : Type}, Nat → Int → Int → Int → (Bool → Option R) → Option R) (spec_l8Set : ∀ {R : Type}, Nat → (List Int) → (Bool → Option R) → Option R) (spec_GoodRules_l2 : ∀ {R : Type}, Nat → (List (Int × List Int)) → (List (Int × List Int)) → Int → Int → (Bool → Option R) → ((List (Int × List Int)) → Option R) → Option R) {R : Type} (n : Nat) (x0 : List (Int × List Int)) (k : Pk → Option R) : evF tt sig (mkK [(40, Kspec_l1In @spec_l1In n), (41, Kspec_l8Set @spec_l8Set n)] R) (mkL (mkK [(40, Kspec_l1In @spec_l1In n), (41, Kspec_l8Set @spec_l8Set n)]) [(2, Dspec_GoodRules_l2, Pspec_GoodRules_l2 @spec_GoodRules_l2 n)] R) Try.f13 Hspec_GoodRules (PkS.pack Sspec_GoodRules (x0, ())) k = (fun (k : Bool → Option R) => (spec_GoodRules_l2 n x0 x0 (x0.length : Int) 0 (fun r3 => k r3) (fun r4 => k (decide ((r4.length : Int) ≤ 60))))) (fun r0 => k (PkS.pack Tspec_GoodRules (r0, ()))) := by kernel_rfl
theorem okspec_GoodRules (n : Nat) : FnOk Try.prog 13 (Kspec_GoodRules @spec_GoodRules n) := by
  refine fn_ok (sig := sig) mixed ttok (mkK_nat (cspec_GoodRules n)) (mkK_ok (cspec_GoodRules n)) (mkL_nat (mkK_nat (cspec_GoodRules n)) (l := [(2, Dspec_GoodRules_l2, Pspec_GoodRules_l2 @spec_GoodRules_l2 n)]) ⟨nlspec_GoodRules_l2 n, trivial⟩) (fn := Try.f13) (c := bodyOf Try.f13) (by kernel_rfl) (by kernel_rfl) (by kernel_rfl) (.eq (l := [.lo (loopIn 2 (bodyOf Try.f13))]) (by kernel_rfl) ⟨(lkspec_GoodRules_l2 n _ _ (at_id (i := 2) (by kernel_rfl) rfl)), trivial⟩) (shs := Hspec_GoodRules) (S := Sspec_GoodRules) (h1 := by kernel_rfl) fun R p k => ?_
  unfold Kspec_GoodRules
  cases h : (PkS.un Sspec_GoodRules p) with
  | none => rfl
  | some d =>
    obtain ⟨x0, u⟩ := (d : (List (Int × List Int)) × Unit)
    have hp := PkS.un_pack h
    subst hp
    exact (espec_GoodRules @spec_l1In @spec_l8Set @spec_GoodRules_l2 n x0 k).symm

/-! ### loop.example/g00269/spec.l1Has -/
theorem cspec_l1Has (n : Nat) : AllOk Try.prog [] := trivial
@[reducible] def Sspec_l1Has_l2 : PkS := ⟨[.one (.int .i64), .one (.ro (.int .i64)), .one (.int .i64), .one (.int .i64), .one (.dead), .one (.dead)], []⟩
@[reducible] def Tspec_l1Has_l2_0 : PkS := ⟨[.one (.bool), .one (.dead), .one (.dead)], []⟩
@[reducible] def Tspec_l1Has_l2_1 : PkS := ⟨[.one (.dead), .one (.dead)], []⟩
def Dspec_l1Has_l2 : LoopD := ⟨17, [1, 7, 8, 9], [.one .any, .one (.ro (.int .i64)), .one .any, .one .any, .skip, .skip], fun x => match x with
  | .ret => some ([4], [.one .any, .skip, .skip])
  | .exit 0 => some ([], [.skip, .skip])
  | _ => none⟩
def Pspec_l1Has_l2 (g : ∀ {R : Type}, Nat → Int → (List Int) → Int → Int → (Bool → Option R) → (Option R) → Option R) (n : Nat) : LPs := fun R q kk => match (PkS.un Sspec_l1Has_l2 q : Option (Int × (List Int) × Int × Int × Unit)) with
  | some (y2_0, y2_1, y2_2, y2_3, _) => g n y2_0 y2_1 y2_2 y2_3 (fun r0 => kk .ret (PkS.pack Tspec_l1Has_l2_0 (r0, ()))) (kk (.exit 0) (PkS.pack Tspec_l1Has_l2_1 ()))
  | none => none
theorem espec_l1Has_l2 (spec_l1Has_l2 : ∀ {R : Type}, Nat → Int → (List Int) → Int → Int → (Bool → Option R) → (Option R) → Option R) {R : Type} (n : Nat) (y2_0 : Int) (y2_1 : List Int) (y2_2 : Int) (y2_3 : Int) (kk : Ex → Pk → Option R) : Dspec_l1Has_l2.step tt sig (mkK [] R) (mkL (mkK []) [] R) (loopIn 2 (bodyOf Try.f73)) (fun q' => Pspec_l1Has_l2 @spec_l1Has_l2 n R q' kk) (PkS.pack Sspec_l1Has_l2 (y2_0, y2_1, y2_2, y2_3, ())) kk = (fun (kret : Bool → Option R) (kexit0 : Option R) => (bif (decide (y2_3 < y2_2)) then (bif decide (0 ≤ y2_3) then (bif decide (y2_3 < (y2_1.length : Int)) then (bif ((y2_1.getD (Int.toNat y2_3) 0) == y2_0) then kret true else spec_l1Has_l2 n y2_0 y2_1 y2_2 (IntKind.wrap .i64 (y2_3 + 1)) kret kexit0) else none) else none) else kexit0)) (fun r0 => kk .ret (PkS.pack Tspec_l1Has_l2_0 (r0, ()))) (kk (.exit 0) (PkS.pack Tspec_l1Has_l2_1 ())) := by kernel_rfl
theorem lespec_l1Has_l2 : LoopEq tt sig (fun n => mkK []) (fun n => mkL (mkK []) []) Dspec_l1Has_l2 Sspec_l1Has_l2 (loopIn 2 (bodyOf Try.f73)) (Pspec_l1Has_l2 @spec_l1Has_l2) where
  zero R q kk := by unfold Pspec_l1Has_l2; cases (PkS.un Sspec_l1Has_l2 q) <;> rfl
  succ n R q kk := by
    unfold Pspec_l1Has_l2
    cases h : (PkS.un Sspec_l1Has_l2 q) with
    | none => rfl
    | some d =>
      obtain ⟨y2_0, y2_1, y2_2, y2_3, u⟩ := (d : Int × (List Int) × Int × Int × Unit)
      have hp := PkS.un_pack h
      subst hp
      exact (espec_l1Has_l2 @spec_l1Has_l2 n y2_0 y2_1 y2_2 y2_3 kk).symm
theorem nlspec_l1Has_l2 : ∀ n, NatLP (Pspec_l1Has_l2 @spec_l1Has_l2 n) := lespec_l1Has_l2.nat (fun n => mkK_nat (cspec_l1Has n)) fun n => mkL_nat (mkK_nat (cspec_l1Has n)) (l := []) trivial
theorem inspec_l1Has_l2 (n : Nat) (R : Type) : LoopsOk Try.prog (mkL (mkK []) [] R) (loopIn 2 (bodyOf Try.f73)) := .eq (l := []) (by kernel_rfl) trivial
theorem lkspec_l1Has_l2 (n : Nat) (R : Type) (L0 : LK R) (h0 : ∀ id, firstRegion (loopIn 2 (bodyOf Try.f73)) = some id → L0 id = Dspec_l1Has_l2.oracle (mkK [] R) (Pspec_l1Has_l2 @spec_l1Has_l2 n R)) : LoopOk Try.prog L0 (loopIn 2 (bodyOf Try.f73)) :=
  lespec_l1Has_l2.ok mixed ttok (fun n => mkK_nat (cspec_l1Has n)) (fun n => mkK_ok (cspec_l1Has n)) (fun n => inspec_l1Has_l2 n R) (mkK_nat (cspec_l1Has n)) h0
@[reducible] def Sspec_l1Has : PkS := ⟨[.one (.ro (.int .i64)), .one (.int .i64)], []⟩
@[reducible] def Tspec_l1Has : PkS := ⟨[.one (.bool), .one (.dead), .one (.dead)], []⟩
def Hspec_l1Has : List Sh := [.one .any, .skip, .skip]
def Kspec_l1Has (g : ∀ {R : Type}, Nat → (List Int) → Int → (Bool → Option R) → Option R) (n : Nat) : KPs := fun R p k => match (PkS.un Sspec_l1Has p : Option ((List Int) × Int × Unit)) with
  | some (x0, x1, _) => g n x0 x1 (fun r0 => k (PkS.pack Tspec_l1Has (r0, ())))
  | none => none
theorem espec_l1Has (spec_l1Has_l2 : ∀ {R : Type}, Nat → Int → (List Int) → Int → Int → (Bool → Option R) → (Option R) → Option R) {R : Type} (n : Nat) (x0 : List Int) (x1 : Int) (k : Pk → Option R) : evF tt sig (mkK [] R) (mkL (mkK []) [(2, Dspec_l1Has_l2, Pspec_l1Has_l2 @spec_l1Has_l2 n)] R) Try.f73 Hspec_l1Has (PkS.pack Sspec_l1Has (x0, x1, ())) k = (fun (k : Bool → Option R) => (spec_l1Has_l2 n x1 x0 (x0.length : Int) 0 (fun r1 => k r1) (k false))) (fun r0 => k (PkS.pack Tspec_l1Has (r0, ()))) := by kernel_rfl
theorem okspec_l1Has (n : Nat) : FnOk Try.prog 73 (Kspec_l1Has @spec_l1Has n) := by
  refine fn_ok (sig := sig) mixed ttok (mkK_nat (cspec_l1Has n)) (mkK_ok (cspec_l1Has n)) (mkL_nat (mkK_nat (cspec_l1Has n)) (l := [(2, Dspec_l1Has_l2, Pspec_l1Has_l2 @spec_l1Has_l2 n)]) ⟨nlspec_l1Has_l2 n, trivial⟩) (fn := Try.f73) (c := bodyOf Try.f73) (by kernel_rfl) (by kernel_rfl) (by kernel_rfl) (.eq (l := [.lo (loopIn 2 (bodyOf Try.f73))]) (by kernel_rfl) ⟨(lkspec_l1Has_l2 n _ _ (at_id (i := 2) (by kernel_rfl) rfl)), trivial⟩) (shs := Hspec_l1Has) (S := Sspec_l1Has) (h1 := by kernel_rfl) fun R p k => ?_
  unfold Kspec_l1Has
  cases h : (PkS.un Sspec_l1Has p) with
  | none => rfl
  | some d =>
    obtain ⟨x0, x1, u⟩ := (d : (List Int) × Int × Unit)
    have hp := PkS.un_pack h
    subst hp
    exact (espec_l1Has @spec_l1Has_l2 n x0 x1 k).symm

/-! ### loop.example/g00269/spec.l8Run -/
theorem cspec_l8Run (n : Nat) : AllOk Try.prog [(73, Kspec_l1Has @spec_l1Has n)] := ⟨okspec_l1Has n, trivial⟩
@[reducible] def Sspec_l8Run_l6 : PkS := ⟨[.one (.ro (.pr (.int .i64) (.sl (.int .i64)))), .one (.ro (.int .i64)), .one (.whole (100000, 0)), .one (.whole (100000, 1)), .one (.whole (100000, 2)), .one (.whole (100000, 3)), .one (.ro (.pr (.int .i64) (.sl (.int .i64)))), .one (.int .i64), .one (.int .i64), .one (.dead), .one (.dead)], [((100000, 0), .arr .bool), ((100000, 1), .arr (.int .i64)), ((100000, 2), .arr (.int .i64)), ((100000, 3), .arr (.int .i64))]⟩
@[reducible] def Tspec_l8Run_l6_0 : PkS := ⟨[.one (.ro (.pr (.int .i64) (.sl (.int .i64)))), .one (.ro (.int .i64)), .one (.whole (100000, 0)), .one (.whole (100000, 1)), .one (.whole (100000, 2)), .one (.whole (100000, 3)), .one (.dead), .one (.dead)], [((100000, 0), .arr .bool), ((100000, 1), .arr (.int .i64)), ((100000, 2), .arr (.int .i64)), ((100000, 3), .arr (.int .i64))]⟩
def Dspec_l8Run_l6 : LoopD := ⟨149, [0, 1, 8, 9, 10, 11, 25, 26, 27], [.one (.ro (.pr (.int .i64) (.sl (.int .i64)))), .one (.ro (.int .i64)), .one (.own .bool), .one (.own (.int .i64)), .one (.own (.int .i64)), .one (.own (.int .i64)), .one (.ro (.pr (.int .i64) (.sl (.int .i64)))), .one .any, .one .any, .skip, .skip], fun x => match x with
  | .exit 0 => some ([0, 1, 8, 9, 10, 11], [.one (.ro (.pr (.int .i64) (.sl (.int .i64)))), .one (.ro (.int .i64)), .one (.own .bool), .one (.own (.int .i64)), .one (.own (.int .i64)), .one (.own (.int .i64)), .skip, .skip])
  | _ => none⟩
def Pspec_l8Run_l6 (g : ∀ {R : Type}, Nat → (List (Int × List Int)) → (List Int) → (List (Int × List Int)) → Int → Int → (List Bool) → (List Int) → (List Int) → (List Int) → ((List (Int × List Int)) → (List Int) → (List Bool) → (List Int) → (List Int) → (List Int) → Option R) → Option R) (n : Nat) : LPs := fun R q kk => match (PkS.un Sspec_l8Run_l6 q : Option ((List (Int × List Int)) × (List Int) × (List (Int × List Int)) × Int × Int × (List Bool) × (List Int) × (List Int) × (List Int) × Unit)) with
  | some (y6_0, y6_1, y6_2, y6_3, y6_4, y6_5, y6_6, y6_7, y6_8, _) => g n y6_0 y6_1 y6_2 y6_3 y6_4 y6_5 y6_6 y6_7 y6_8 (fun r0 r1 r2 r3 r4 r5 => kk (.exit 0) (PkS.pack Tspec_l8Run_l6_0 (r0, r1, r2, r3, r4, r5, ())))
  | none => none
theorem espec_l8Run_l6 (spec_l1Has : ∀ {R : Type}, Nat → (List Int) → Int → (Bool → Option R) → Option R) (spec_l8Run_l6 : ∀ {R : Type}, Nat → (List (Int × List Int)) → (List Int) → (List (Int × List Int)) → Int → Int → (List Bool) → (List Int) → (List Int) → (List Int) → ((List (Int × List Int)) → (List Int) → (List Bool) → (List Int) → (List Int) → (List Int) → Option R) → Option R) {R : Type} (n : Nat) (y6_0 : List (Int × List Int)) (y6_1 : List Int) (y6_2 : List (Int × List Int)) (y6_3 : Int) (y6_4 : Int) (y6_5 : List Bool) (y6_6 : List Int) (y6_7 : List Int) (y6_8 : List Int) (kk : Ex → Pk → Option R) : Dspec_l8Run_l6.step tt sig (mkK [(73, Kspec_l1Has @spec_l1Has n)] R) (mkL (mkK [(73, Kspec_l1Has @spec_l1Has n)]) [] R) (loopIn 6 (bodyOf Try.f56)) (fun q' => Pspec_l8Run_l6 @spec_l8Run_l6 n R q' kk) (PkS.pack Sspec_l8Run_l6 (y6_0, y6_1, y6_2, y6_3, y6_4, y6_5, y6_6, y6_7, y6_8, ())) kk = (fun (kexit0 : (List (Int × List Int)) → (List Int) → (List Bool) → (List Int) → (List Int) → (List Int) → Option R) => (bif (decide (y6_4 < y6_3)) then (bif decide (0 ≤ y6_4) then (bif decide (y6_4 < (y6_2.length : Int)) then (bif decide (0 ≤ y6_4) then (bif decide (y6_4 < (y6_8.length : Int)) then (bif decide (0 ≤ y6_4) then (bif decide (y6_4 < ((y6_8.set (Int.toNat y6_4) (((y6_2.getD (Int.toNat y6_4) (0, [])).2).length : Int)).length : Int)) then (bif (((y6_8.set (Int.toNat y6_4) (((y6_2.getD (Int.toNat y6_4) (0, [])).2).length : Int)).getD (Int.toNat y6_4) 0) == 0) then (bif decide (0 ≤ (y6_2.getD (Int.toNat y6_4) (0, [])).1) then (bif decide ((y6_2.getD (Int.toNat y6_4) (0, [])).1 < (y6_5.length : Int)) then (bif (!(y6_5.getD (Int.toNat ((y6_2.getD (Int.toNat y6_4) (0, [])).1)) false)) then (bif decide (0 ≤ (y6_2.getD (Int.toNat y6_4) (0, [])).1) then (bif decide ((y6_2.getD (Int.toNat y6_4) (0, [])).1 < (y6_5.length : Int)) then (bif decide (0 ≤ (y6_2.getD (Int.toNat y6_4) (0, [])).1) then (bif decide ((y6_2.getD (Int.toNat y6_4) (0, [])).1 < (y6_6.length : Int)) then (bif decide (y6_7.length + ([(y6_2.getD (Int.toNat y6_4) (0, [])).1]).length ≤ LIM) then spec_l8Run_l6 n y6_0 y6_1 y6_2 y6_3 (IntKind.wrap .i64 (y6_4 + 1)) (y6_5.set (Int.toNat ((y6_2.getD (Int.toNat y6_4) (0, [])).1)) true) (y6_6.set (Int.toNat ((y6_2.getD (Int.toNat y6_4) (0, [])).1)) y6_4) (y6_7 ++ [(y6_2.getD (Int.toNat y6_4) (0, [])).1]) (y6_8.set (Int.toNat y6_4) (((y6_2.getD (Int.toNat y6_4) (0, [])).2).length : Int)) kexit0 else none) else none) else none) else none) else none) else spec_l8Run_l6 n y6_0 y6_1 y6_2 y6_3 (IntKind.wrap .i64 (y6_4 + 1)) y6_5 y6_6 y6_7 (y6_8.set (Int.toNat y6_4) (((y6_2.getD (Int.toNat y6_4) (0, [])).2).length : Int)) kexit0) else none) else none) else spec_l8Run_l6 n y6_0 y6_1 y6_2 y6_3 (IntKind.wrap .i64 (y6_4 + 1)) y6_5 y6_6 y6_7 (y6_8.set (Int.toNat y6_4) (((y6_2.getD (Int.toNat y6_4) (0, [])).2).length : Int)) kexit0) else none) else none) else none) else none) else none) else none) else kexit0 y6_0 y6_1 y6_5 y6_6 y6_7 y6_8)) (fun r0 r1 r2 r3 r4 r5 => kk (.exit 0) (PkS.pack Tspec_l8Run_l6_0 (r0, r1, r2, r3, r4, r5, ()))) := by kernel_rfl
theorem lespec_l8Run_l6 : LoopEq tt sig (fun n => mkK [(73, Kspec_l1Has @spec_l1Has n)]) (fun n => mkL (mkK [(73, Kspec_l1Has @spec_l1Has n)]) []) Dspec_l8Run_l6 Sspec_l8Run_l6 (loopIn 6 (bodyOf Try.f56)) (Pspec_l8Run_l6 @spec_l8Run_l6) where
  zero R q kk := by unfold Pspec_l8Run_l6; cases (PkS.un Sspec_l8Run_l6 q) <;> rfl
  succ n R q kk := by
    unfold Pspec_l8Run_l6
    cases h : (PkS.un Sspec_l8Run_l6 q) with
    | none => rfl
    | some d =>
      obtain ⟨y6_0, y6_1, y6_2, y6_3, y6_4, y6_5, y6_6, y6_7, y6_8, u⟩ := (d : (List (Int × List Int)) × (List Int) × (List (Int × List Int)) × Int × Int × (List Bool) × (List Int) × (List Int) × (List Int) × Unit)
      have hp := PkS.un_pack h
      subst hp
      exact (espec_l8Run_l6 @spec_l1Has @spec_l8Run_l6 n y6_0 y6_1 y6_2 y6_3 y6_4 y6_5 y6_6 y6_7 y6_8 kk).symm
theorem nlspec_l8Run_l6 : ∀ n, NatLP (Pspec_l8Run_l6 @spec_l8Run_l6 n) := lespec_l8Run_l6.nat (fun n => mkK_nat (cspec_l8Run n)) fun n => mkL_nat (mkK_nat (cspec_l8Run n)) (l := []) trivial
theorem inspec_l8Run_l6 (n : Nat) (R : Type) : LoopsOk Try.prog (mkL (mkK [(73, Kspec_l1Has @spec_l1Has n)]) [] R) (loopIn 6 (bodyOf Try.f56)) := .eq (l := []) (by kernel_rfl) trivial
theorem lkspec_l8Run_l6 (n : Nat) (R : Type) (L0 : LK R) (h0 : ∀ id, firstRegion (loopIn 6 (bodyOf Try.f56)) = some id → L0 id = Dspec_l8Run_l6.oracle (mkK [(73, Kspec_l1Has @spec_l1Has n)] R) (Pspec_l8Run_l6 @spec_l8Run_l6 n R)) : LoopOk Try.prog L0 (loopIn 6 (bodyOf Try.f56)) :=
  lespec_l8Run_l6.ok mixed ttok (fun n => mkK_nat (cspec_l8Run n)) (fun n => mkK_ok (cspec_l8Run n)) (fun n => inspec_l8Run_l6 n R) (mkK_nat (cspec_l8Run n)) h0
@[reducible] def Sspec_l8Run_l15 : PkS := ⟨[.one (.ro (.pr (.int .i64) (.sl (.int .i64)))), .one (.whole (100000, 0)), .one (.whole (100000, 1)), .one (.whole (100000, 2)), .one (.whole (100000, 3)), .one (.ro (.int .i64)), .one (.int .i64), .one (.int .i64), .one (.dead), .one (.dead)], [((100000, 0), .arr .bool), ((100000, 1), .arr (.int .i64)), ((100000, 2), .arr (.int .i64)), ((100000, 3), .arr (.int .i64))]⟩
@[reducible] def Tspec_l8Run_l15_0 : PkS := ⟨[.one (.ro (.pr (.int .i64) (.sl (.int .i64)))), .one (.whole (100000, 0)), .one (.whole (100000, 1)), .one (.whole (100000, 2)), .one (.whole (100000, 3)), .one (.dead), .one (.dead)], [((100000, 0), .arr .bool), ((100000, 1), .arr (.int .i64)), ((100000, 2), .arr (.int .i64)), ((100000, 3), .arr (.int .i64))]⟩
def Dspec_l8Run_l15 : LoopD := ⟨149, [0, 8, 9, 10, 11, 66, 67, 68], [.one (.ro (.pr (.int .i64) (.sl (.int .i64)))), .one (.own .bool), .one (.own (.int .i64)), .one (.own (.int .i64)), .one (.own (.int .i64)), .one (.ro (.int .i64)), .one .any, .one .any, .skip, .skip], fun x => match x with
  | .exit 2 => some ([0, 8, 9, 10, 11], [.one (.ro (.pr (.int .i64) (.sl (.int .i64)))), .one (.own .bool), .one (.own (.int .i64)), .one (.own (.int .i64)), .one (.own (.int .i64)), .skip, .skip])
  | _ => none⟩
def Pspec_l8Run_l15 (g : ∀ {R : Type}, Nat → (List (Int × List Int)) → (List Int) → Int → Int → (List Bool) → (List Int) → (List Int) → (List Int) → ((List (Int × List Int)) → (List Bool) → (List Int) → (List Int) → (List Int) → Option R) → Option R) (n : Nat) : LPs := fun R q kk => match (PkS.un Sspec_l8Run_l15 q : Option ((List (Int × List Int)) × (List Int) × Int × Int × (List Bool) × (List Int) × (List Int) × (List Int) × Unit)) with
  | some (y15_0, y15_1, y15_2, y15_3, y15_4, y15_5, y15_6, y15_7, _) => g n y15_0 y15_1 y15_2 y15_3 y15_4 y15_5 y15_6 y15_7 (fun r0 r1 r2 r3 r4 => kk (.exit 2) (PkS.pack Tspec_l8Run_l15_0 (r0, r1, r2, r3, r4, ())))
  | none => none
theorem espec_l8Run_l15 (spec_l1Has : ∀ {R : Type}, Nat → (List Int) → Int → (Bool → Option R) → Option R) (spec_l8Run_l6 : ∀ {R : Type}, Nat → (List (Int × List Int)) → (List Int) → (List (Int × List Int)) → Int → Int → (List Bool) → (List Int) → (List Int) → (List Int) → ((List (Int × List Int)) → (List Int) → (List Bool) → (List Int) → (List Int) → (List Int) → Option R) → Option R) (spec_l8Run_l15 : ∀ {R : Type}, Nat → (List (Int × List Int)) → (List Int) → Int → Int → (List Bool) → (List Int) → (List Int) → (List Int) → ((List (Int × List Int)) → (List Bool) → (List Int) → (List Int) → (List Int) → Option R) → Option R) {R : Type} (n : Nat) (y15_0 : List (Int × List Int)) (y15_1 : List Int) (y15_2 : Int) (y15_3 : Int) (y15_4 : List Bool) (y15_5 : List Int) (y15_6 : List Int) (y15_7 : List Int) (kk : Ex → Pk → Option R) : Dspec_l8Run_l15.step tt sig (mkK [(73, Kspec_l1Has @spec_l1Has n)] R) (mkL (mkK [(73, Kspec_l1Has @spec_l1Has n)]) [(6, Dspec_l8Run_l6, Pspec_l8Run_l6 @spec_l8Run_l6 n)] R) (loopIn 15 (bodyOf Try.f56)) (fun q' => Pspec_l8Run_l15 @spec_l8Run_l15 n R q' kk) (PkS.pack Sspec_l8Run_l15 (y15_0, y15_1, y15_2, y15_3, y15_4, y15_5, y15_6, y15_7, ())) kk = (fun (kexit2 : (List (Int × List Int)) → (List Bool) → (List Int) → (List Int) → (List Int) → Option R) => (bif (decide (y15_3 < y15_2)) then (bif decide (0 ≤ y15_3) then (bif decide (y15_3 < (y15_1.length : Int)) then (bif decide (0 ≤ (y15_1.getD (Int.toNat y15_3) 0)) then (bif decide ((y15_1.getD (Int.toNat y15_3) 0) < (y15_4.length : Int)) then (bif (!(y15_4.getD (Int.toNat (y15_1.getD (Int.toNat y15_3) 0)) false)) then (bif decide (0 ≤ (y15_1.getD (Int.toNat y15_3) 0)) then (bif decide ((y15_1.getD (Int.toNat y15_3) 0) < (y15_4.length : Int)) then (bif decide (y15_6.length + ([(y15_1.getD (Int.toNat y15_3) 0)]).length ≤ LIM) then (bif decide (0 ≤ (y15_1.getD (Int.toNat y15_3) 0)) then (bif decide ((y15_1.getD (Int.toNat y15_3) 0) < (y15_5.length : Int)) then spec_l8Run_l15 n y15_0 y15_1 y15_2 (IntKind.wrap .i64 (y15_3 + 1)) (y15_4.set (Int.toNat (y15_1.getD (Int.toNat y15_3) 0)) true) (y15_5.set (Int.toNat (y15_1.getD (Int.toNat y15_3) 0)) (-1)) (y15_6 ++ [(y15_1.getD (Int.toNat y15_3) 0)]) y15_7 kexit2 else none) else none) else none) else none) else none) else (bif decide (0 ≤ (y15_1.getD (Int.toNat y15_3) 0)) then (bif decide ((y15_1.getD (Int.toNat y15_3) 0) < (y15_5.length : Int)) then spec_l8Run_l15 n y15_0 y15_1 y15_2 (IntKind.wrap .i64 (y15_3 + 1)) y15_4 (y15_5.set (Int.toNat (y15_1.getD (Int.toNat y15_3) 0)) (-1)) y15_6 y15_7 kexit2 else none) else none)) else none) else none) else none) else none) else kexit2 y15_0 y15_4 y15_5 y15_6 y15_7)) (fun r0 r1 r2 r3 r4 => kk (.exit 2) (PkS.pack Tspec_l8Run_l15_0 (r0, r1, r2, r3, r4, ()))) := by kernel_rfl
theorem lespec_l8Run_l15 : LoopEq tt sig (fun n => mkK [(73, Kspec_l1Has @spec_l1Has n)]) (fun n => mkL (mkK [(73, Kspec_l1Has @spec_l1Has n)]) [(6, Dspec_l8Run_l6, Pspec_l8Run_l6 @spec_l8Run_l6 n)]) Dspec_l8Run_l15 Sspec_l8Run_l15 (loopIn 15 (bodyOf Try.f56)) (Pspec_l8Run_l15 @spec_l8Run_l15) where
  zero R q kk := by unfold Pspec_l8Run_l15; cases (PkS.un Sspec_l8Run_l15 q) <;> rfl
  succ n R q kk := by
    unfold Pspec_l8Run_l15
    cases h : (PkS.un Sspec_l8Run_l15 q) with
    | none => rfl
    | some d =>
      obtain ⟨y15_0, y15_1, y15_2, y15_3, y15_4, y15_5, y15_6, y15_7, u⟩ := (d : (List (Int × List Int)) × (List Int) × Int × Int × (List Bool) × (List Int) × (List Int) × (List Int) × Unit)
      have hp := PkS.un_pack h
      subst hp
      exact (espec_l8Run_l15 @spec_l1Has @spec_l8Run_l6 @spec_l8Run_l15 n y15_0 y15_1 y15_2 y15_3 y15_4 y15_5 y15_6 y15_7 kk).symm
theorem nlspec_l8Run_l15 : ∀ n, NatLP (Pspec_l8Run_l15 @spec_l8Run_l15 n) := lespec_l8Run_l15.nat (fun n => mkK_nat (cspec_l8Run n)) fun n => mkL_nat (mkK_nat (cspec_l8Run n)) (l := [(6, Dspec_l8Run_l6, Pspec_l8Run_l6 @spec_l8Run_l6 n)]) ⟨nlspec_l8Run_l6 n, trivial⟩
theorem inspec_l8Run_l15 (n : Nat) (R : Type) : LoopsOk Try.prog (mkL (mkK [(73, Kspec_l1Has @spec_l1Has n)]) [(6, Dspec_l8Run_l6, Pspec_l8Run_l6 @spec_l8Run_l6 n)] R) (loopIn 15 (bodyOf Try.f56)) := .eq (l := []) (by kernel_rfl) trivial
theorem lkspec_l8Run_l15 (n : Nat) (R : Type) (L0 : LK R) (h0 : ∀ id, firstRegion (loopIn 15 (bodyOf Try.f56)) = some id → L0 id = Dspec_l8Run_l15.oracle (mkK [(73, Kspec_l1Has @spec_l1Has n)] R) (Pspec_l8Run_l15 @spec_l8Run_l15 n R)) : LoopOk Try.prog L0 (loopIn 15 (bodyOf Try.f56)) :=
  lespec_l8Run_l15.ok mixed ttok (fun n => mkK_nat (cspec_l8Run n)) (fun n => mkK_ok (cspec_l8Run n)) (fun n => inspec_l8Run_l15 n R) (mkK_nat (cspec_l8Run n)) h0
@[reducible] def Sspec_l8Run_l27 : PkS := ⟨[.one (.ro (.pr (.int .i64) (.sl (.int .i64)))), .one (.whole (100000, 0)), .one (.whole (100000, 1)), .one (.whole (100000, 2)), .one (.whole (100000, 3)), .one (.int .i64), .one (.int .i64), .one (.ro (.pr (.int .i64) (.sl (.int .i64)))), .one (.int .i64), .one (.int .i64), .one (.dead), .one (.dead)], [((100000, 0), .arr .bool), ((100000, 1), .arr (.int .i64)), ((100000, 2), .arr (.int .i64)), ((100000, 3), .arr (.int .i64))]⟩
@[reducible] def Tspec_l8Run_l27_0 : PkS := ⟨[.one (.ro (.pr (.int .i64) (.sl (.int .i64)))), .one (.whole (100000, 0)), .one (.whole (100000, 1)), .one (.whole (100000, 2)), .one (.whole (100000, 3)), .one (.int .i64), .one (.int .i64), .one (.dead), .one (.dead)], [((100000, 0), .arr .bool), ((100000, 1), .arr (.int .i64)), ((100000, 2), .arr (.int .i64)), ((100000, 3), .arr (.int .i64))]⟩
def Dspec_l8Run_l27 : LoopD := ⟨149, [0, 8, 9, 10, 11, 16, 17, 94, 95, 96], [.one (.ro (.pr (.int .i64) (.sl (.int .i64)))), .one (.own .bool), .one (.own (.int .i64)), .one (.own (.int .i64)), .one (.own (.int .i64)), .one .any, .one .any, .one (.ro (.pr (.int .i64) (.sl (.int .i64)))), .one .any, .one .any, .skip, .skip], fun x => match x with
  | .exit 6 => some ([0, 8, 9, 10, 11, 16, 17], [.one (.ro (.pr (.int .i64) (.sl (.int .i64)))), .one (.own .bool), .one (.own (.int .i64)), .one (.own (.int .i64)), .one (.own (.int .i64)), .one .any, .one .any, .skip, .skip])
  | _ => none⟩
def Pspec_l8Run_l27 (g : ∀ {R : Type}, Nat → (List (Int × List Int)) → Int → Int → (List (Int × List Int)) → Int → Int → (List Bool) → (List Int) → (List Int) → (List Int) → ((List (Int × List Int)) → Int → Int → (List Bool) → (List Int) → (List Int) → (List Int) → Option R) → Option R) (n : Nat) : LPs := fun R q kk => match (PkS.un Sspec_l8Run_l27 q : Option ((List (Int × List Int)) × Int × Int × (List (Int × List Int)) × Int × Int × (List Bool) × (List Int) × (List Int) × (List Int) × Unit)) with
  | some (y27_0, y27_1, y27_2, y27_3, y27_4, y27_5, y27_6, y27_7, y27_8, y27_9, _) => g n y27_0 y27_1 y27_2 y27_3 y27_4 y27_5 y27_6 y27_7 y27_8 y27_9 (fun r0 r1 r2 r3 r4 r5 r6 => kk (.exit 6) (PkS.pack Tspec_l8Run_l27_0 (r0, r1, r2, r3, r4, r5, r6, ())))
  | none => none
theorem espec_l8Run_l27 (spec_l1Has : ∀ {R : Type}, Nat → (List Int) → Int → (Bool → Option R) → Option R) (spec_l8Run_l6 : ∀ {R : Type}, Nat → (List (Int × List Int)) → (List Int) → (List (Int × List Int)) → Int → Int → (List Bool) → (List Int) → (List Int) → (List Int) → ((List (Int × List Int)) → (List Int) → (List Bool) → (List Int) → (List Int) → (List Int) → Option R) → Option R) (spec_l8Run_l15 : ∀ {R : Type}, Nat → (List (Int × List Int)) → (List Int) → Int → Int → (List Bool) → (List Int) → (List Int) → (List Int) → ((List (Int × List Int)) → (List Bool) → (List Int) → (List Int) → (List Int) → Option R) → Option R) (spec_l8Run_l27 : ∀ {R : Type}, Nat → (List (Int × List Int)) → Int → Int → (List (Int × List Int)) → Int → Int → (List Bool) → (List Int) → (List Int) → (List Int) → ((List (Int × List Int)) → Int → Int → (List Bool) → (List Int) → (List Int) → (List Int) → Option R) → Option R) {R : Type} (n : Nat) (y27_0 : List (Int × List Int)) (y27_1 : Int) (y27_2 : Int) (y27_3 : List (Int × List Int)) (y27_4 : Int) (y27_5 : Int) (y27_6 : List Bool) (y27_7 : List Int) (y27_8 : List Int) (y27_9 : List Int) (kk : Ex → Pk → Option R) : Dspec_l8Run_l27.step tt sig (mkK [(73, Kspec_l1Has @spec_l1Has n)] R) (mkL (mkK [(73, Kspec_l1Has @spec_l1Has n)]) [(6, Dspec_l8Run_l6, Pspec_l8Run_l6 @spec_l8Run_l6 n), (15, Dspec_l8Run_l15, Pspec_l8Run_l15 @spec_l8Run_l15 n)] R) (loopIn 27 (bodyOf Try.f56)) (fun q' => Pspec_l8Run_l27 @spec_l8Run_l27 n R q' kk) (PkS.pack Sspec_l8Run_l27 (y27_0, y27_1, y27_2, y27_3, y27_4, y27_5, y27_6, y27_7, y27_8, y27_9, ())) kk = (fun (kexit6 : (List (Int × List Int)) → Int → Int → (List Bool) → (List Int) → (List Int) → (List Int) → Option R) => (bif (decide (y27_5 < y27_4)) then (bif decide (0 ≤ y27_5) then (bif decide (y27_5 < (y27_3.length : Int)) then (bif decide (0 ≤ y27_2) then (bif decide (y27_2 < (y27_8.length : Int)) then (spec_l1Has n ((y27_3.getD (Int.toNat y27_5) (0, [])).2) (y27_8.getD (Int.toNat y27_2) 0) fun r12 => (bif (!r12) then spec_l8Run_l27 n y27_0 y27_1 y27_2 y27_3 y27_4 (IntKind.wrap .i64 (y27_5 + 1)) y27_6 y27_7 y27_8 y27_9 kexit6 else (bif decide (0 ≤ y27_5) then (bif decide (y27_5 < (y27_9.length : Int)) then (bif decide (0 ≤ y27_5) then (bif decide (y27_5 < (y27_9.length : Int)) then (bif decide (0 ≤ y27_5) then (bif decide (y27_5 < ((y27_9.set (Int.toNat y27_5) (IntKind.wrap .i64 ((y27_9.getD (Int.toNat y27_5) 0) - 1))).length : Int)) then (bif (((y27_9.set (Int.toNat y27_5) (IntKind.wrap .i64 ((y27_9.getD (Int.toNat y27_5) 0) - 1))).getD (Int.toNat y27_5) 0) == 0) then (bif decide (0 ≤ (y27_3.getD (Int.toNat y27_5) (0, [])).1) then (bif decide ((y27_3.getD (Int.toNat y27_5) (0, [])).1 < (y27_6.length : Int)) then (bif (!(y27_6.getD (Int.toNat ((y27_3.getD (Int.toNat y27_5) (0, [])).1)) false)) then (bif decide (0 ≤ (y27_3.getD (Int.toNat y27_5) (0, [])).1) then (bif decide ((y27_3.getD (Int.toNat y27_5) (0, [])).1 < (y27_6.length : Int)) then (bif decide (0 ≤ (y27_3.getD (Int.toNat y27_5) (0, [])).1) then (bif decide ((y27_3.getD (Int.toNat y27_5) (0, [])).1 < (y27_7.length : Int)) then (bif decide (y27_8.length + ([(y27_3.getD (Int.toNat y27_5) (0, [])).1]).length ≤ LIM) then spec_l8Run_l27 n y27_0 (IntKind.wrap .i64 (y27_1 + 1)) y27_2 y27_3 y27_4 (IntKind.wrap .i64 (y27_5 + 1)) (y27_6.set (Int.toNat ((y27_3.getD (Int.toNat y27_5) (0, [])).1)) true) (y27_7.set (Int.toNat ((y27_3.getD (Int.toNat y27_5) (0, [])).1)) y27_5) (y27_8 ++ [(y27_3.getD (Int.toNat y27_5) (0, [])).1]) (y27_9.set (Int.toNat y27_5) (IntKind.wrap .i64 ((y27_9.getD (Int.toNat y27_5) 0) - 1))) kexit6 else none) else none) else none) else none) else none) else spec_l8Run_l27 n y27_0 (IntKind.wrap .i64 (y27_1 + 1)) y27_2 y27_3 y27_4 (IntKind.wrap .i64 (y27_5 + 1)) y27_6 y27_7 y27_8 (y27_9.set (Int.toNat y27_5) (IntKind.wrap .i64 ((y27_9.getD (Int.toNat y27_5) 0) - 1))) kexit6) else none) else none) else spec_l8Run_l27 n y27_0 (IntKind.wrap .i64 (y27_1 + 1)) y27_2 y27_3 y27_4 (IntKind.wrap .i64 (y27_5 + 1)) y27_6 y27_7 y27_8 (y27_9.set (Int.toNat y27_5) (IntKind.wrap .i64 ((y27_9.getD (Int.toNat y27_5) 0) - 1))) kexit6) else none) else none) else none) else none) else none) else none))) else none) else none) else none) else none) else kexit6 y27_0 y27_1 y27_2 y27_6 y27_7 y27_8 y27_9)) (fun r0 r1 r2 r3 r4 r5 r6 => kk (.exit 6) (PkS.pack Tspec_l8Run_l27_0 (r0, r1, r2, r3, r4, r5, r6, ()))) := by kernel_rfl
theorem lespec_l8Run_l27 : LoopEq tt sig (fun n => mkK [(73, Kspec_l1Has @spec_l1Has n)]) (fun n => mkL (mkK [(73, Kspec_l1Has @spec_l1Has n)]) [(6, Dspec_l8Run_l6, Pspec_l8Run_l6 @spec_l8Run_l6 n), (15, Dspec_l8Run_l15, Pspec_l8Run_l15 @spec_l8Run_l15 n)]) Dspec_l8Run_l27 Sspec_l8Run_l27 (loopIn 27 (bodyOf Try.f56)) (Pspec_l8Run_l27 @spec_l8Run_l27) where
  zero R q kk := by unfold Pspec_l8Run_l27; cases (PkS.un Sspec_l8Run_l27 q) <;> rfl
  succ n R q kk := by
    unfold Pspec_l8Run_l27
    cases h : (PkS.un Sspec_l8Run_l27 q) with
    | none => rfl
    | some d =>
      obtain ⟨y27_0, y27_1, y27_2, y27_3, y27_4, y27_5, y27_6, y27_7, y27_8, y27_9, u⟩ := (d : (List (Int × List Int)) × Int × Int × (List (Int × List Int)) × Int × Int × (List Bool) × (List Int) × (List Int) × (List Int) × Unit)
      have hp := PkS.un_pack h
      subst hp
      exact (espec_l8Run_l27 @spec_l1Has @spec_l8Run_l6 @spec_l8Run_l15 @spec_l8Run_l27 n y27_0 y27_1 y27_2 y27_3 y27_4 y27_5 y27_6 y27_7 y27_8 y27_9 kk).symm
theorem nlspec_l8Run_l27 : ∀ n, NatLP (Pspec_l8Run_l27 @spec_l8Run_l27 n) := lespec_l8Run_l27.nat (fun n => mkK_nat (cspec_l8Run n)) fun n => mkL_nat (mkK_nat (cspec_l8Run n)) (l := [(6, Dspec_l8Run_l6, Pspec_l8Run_l6 @spec_l8Run_l6 n), (15, Dspec_l8Run_l15, Pspec_l8Run_l15 @spec_l8Run_l15 n)]) ⟨nlspec_l8Run_l6 n, ⟨nlspec_l8Run_l15 n, trivial⟩⟩
theorem inspec_l8Run_l27 (n : Nat) (R : Type) : LoopsOk Try.prog (mkL (mkK [(73, Kspec_l1Has @spec_l1Has n)]) [(6, Dspec_l8Run_l6, Pspec_l8Run_l6 @spec_l8Run_l6 n), (15, Dspec_l8Run_l15, Pspec_l8Run_l15 @spec_l8Run_l15 n)] R) (loopIn 27 (bodyOf Try.f56)) := .eq (l := []) (by kernel_rfl) trivial
theorem lkspec_l8Run_l27 (n : Nat) (R : Type) (L0 : LK R) (h0 : ∀ id, firstRegion (loopIn 27 (bodyOf Try.f56)) = some id → L0 id = Dspec_l8Run_l27.oracle (mkK [(73, Kspec_l1Has @spec_l1Has n)] R) (Pspec_l8Run_l27 @spec_l8Run_l27 n R)) : LoopOk Try.prog L0 (loopIn 27 (bodyOf Try.f56)) :=
  lespec_l8Run_l27.ok mixed ttok (fun n => mkK_nat (cspec_l8Run n)) (fun n => mkK_ok (cspec_l8Run n)) (fun n => inspec_l8Run_l27 n R) (mkK_nat (cspec_l8Run n)) h0
@[reducible] def Sspec_l8Run_l24 : PkS := ⟨[.one (.ro (.pr (.int .i64) (.sl (.int .i64)))), .one (.whole (100000, 0)), .one (.whole (100000, 1)), .one (.whole (100000, 2)), .one (.whole (100000, 3)), .one (.int .i64), .one (.int .i64), .one (.dead), .one (.dead)], [((100000, 0), .arr .bool), ((100000, 1), .arr (.int .i64)), ((100000, 2), .arr (.int .i64)), ((100000, 3), .arr (.int .i64))]⟩
@[reducible] def Tspec_l8Run_l24_0 : PkS := ⟨[.one (.whole (100000, 0)), .one (.whole (100000, 1)), .one (.whole (100000, 2)), .one (.int .i64), .one (.dead), .one (.dead)], [((100000, 0), .arr .bool), ((100000, 1), .arr (.int .i64)), ((100000, 2), .arr (.int .i64))]⟩
def Dspec_l8Run_l24 : LoopD := ⟨149, [0, 8, 9, 10, 11, 16, 17], [.one (.ro (.pr (.int .i64) (.sl (.int .i64)))), .one (.own .bool), .one (.own (.int .i64)), .one (.own (.int .i64)), .one (.own (.int .i64)), .one .any, .one .any, .skip, .skip], fun x => match x with
  | .exit 4 => some ([8, 9, 10, 16], [.one (.own .bool), .one (.own (.int .i64)), .one (.own (.int .i64)), .one .any, .skip, .skip])
  | _ => none⟩
def Pspec_l8Run_l24 (g : ∀ {R : Type}, Nat → (List (Int × List Int)) → Int → Int → (List Bool) → (List Int) → (List Int) → (List Int) → (Int → (List Bool) → (List Int) → (List Int) → Option R) → Option R) (n : Nat) : LPs := fun R q kk => match (PkS.un Sspec_l8Run_l24 q : Option ((List (Int × List Int)) × Int × Int × (List Bool) × (List Int) × (List Int) × (List Int) × Unit)) with
  | some (y24_0, y24_1, y24_2, y24_3, y24_4, y24_5, y24_6, _) => g n y24_0 y24_1 y24_2 y24_3 y24_4 y24_5 y24_6 (fun r0 r1 r2 r3 => kk (.exit 4) (PkS.pack Tspec_l8Run_l24_0 (r0, r1, r2, r3, ())))
  | none => none
theorem espec_l8Run_l24 (spec_l1Has : ∀ {R : Type}, Nat → (List Int) → Int → (Bool → Option R) → Option R) (spec_l8Run_l6 : ∀ {R : Type}, Nat → (List (Int × List Int)) → (List Int) → (List (Int × List Int)) → Int → Int → (List Bool) → (List Int) → (List Int) → (List Int) → ((List (Int × List Int)) → (List Int) → (List Bool) → (List Int) → (List Int) → (List Int) → Option R) → Option R) (spec_l8Run_l15 : ∀ {R : Type}, Nat → (List (Int × List Int)) → (List Int) → Int → Int → (List Bool) → (List Int) → (List Int) → (List Int) → ((List (Int × List Int)) → (List Bool) → (List Int) → (List Int) → (List Int) → Option R) → Option R) (spec_l8Run_l27 : ∀ {R : Type}, Nat → (List (Int × List Int)) → Int → Int → (List (Int × List Int)) → Int → Int → (List Bool) → (List Int) → (List Int) → (List Int) → ((List (Int × List Int)) → Int → Int → (List Bool) → (List Int) → (List Int) → (List Int) → Option R) → Option R) (spec_l8Run_l24 : ∀ {R : Type}, Nat → (List (Int × List Int)) → Int → Int → (List Bool) → (List Int) → (List Int) → (List Int) → (Int → (List Bool) → (List Int) → (List Int) → Option R) → Option R) {R : Type} (n : Nat) (y24_0 : List (Int × List Int)) (y24_1 : Int) (y24_2 : Int) (y24_3 : List Bool) (y24_4 : List Int) (y24_5 : List Int) (y24_6 : List Int) (kk : Ex → Pk → Option R) : Dspec_l8Run_l24.step tt sig (mkK [(73, Kspec_l1Has @spec_l1Has n)] R) (mkL (mkK [(73, Kspec_l1Has @spec_l1Has n)]) [(6, Dspec_l8Run_l6, Pspec_l8Run_l6 @spec_l8Run_l6 n), (15, Dspec_l8Run_l15, Pspec_l8Run_l15 @spec_l8Run_l15 n), (27, Dspec_l8Run_l27, Pspec_l8Run_l27 @spec_l8Run_l27 n)] R) (loopIn 24 (bodyOf Try.f56)) (fun q' => Pspec_l8Run_l24 @spec_l8Run_l24 n R q' kk) (PkS.pack Sspec_l8Run_l24 (y24_0, y24_1, y24_2, y24_3, y24_4, y24_5, y24_6, ())) kk = (fun (kexit4 : Int → (List Bool) → (List Int) → (List Int) → Option R) => (bif (decide (y24_2 < (y24_5.length : Int))) then (spec_l8Run_l27 n y24_0 y24_1 y24_2 y24_0 (y24_0.length : Int) 0 y24_3 y24_4 y24_5 y24_6 (fun r13 r14 r15 r16 r17 r18 r19 => spec_l8Run_l24 n r13 r14 (IntKind.wrap .i64 (r15 + 1)) r16 r17 r18 r19 kexit4)) else kexit4 y24_1 y24_3 y24_4 y24_5)) (fun r0 r1 r2 r3 => kk (.exit 4) (PkS.pack Tspec_l8Run_l24_0 (r0, r1, r2, r3, ()))) := by kernel_rfl
theorem lespec_l8Run_l24 : LoopEq tt sig (fun n => mkK [(73, Kspec_l1Has @spec_l1Has n)]) (fun n => mkL (mkK [(73, Kspec_l1Has @spec_l1Has n)]) [(6, Dspec_l8Run_l6, Pspec_l8Run_l6 @spec_l8Run_l6 n), (15, Dspec_l8Run_l15, Pspec_l8Run_l15 @spec_l8Run_l15 n), (27, Dspec_l8Run_l27, Pspec_l8Run_l27 @spec_l8Run_l27 n)]) Dspec_l8Run_l24 Sspec_l8Run_l24 (loopIn 24 (bodyOf Try.f56)) (Pspec_l8Run_l24 @spec_l8Run_l24) where
  zero R q kk := by unfold Pspec_l8Run_l24; cases (PkS.un Sspec_l8Run_l24 q) <;> rfl
  succ n R q kk := by
    unfold Pspec_l8Run_l24
    cases h : (PkS.un Sspec_l8Run_l24 q) with
    | none => rfl
    | some d =>
      obtain ⟨y24_0, y24_1, y24_2, y24_3, y24_4, y24_5, y24_6, u⟩ := (d : (List (Int × List Int)) × Int × Int × (List Bool) × (List Int) × (List Int) × (List Int) × Unit)
      have hp := PkS.un_pack h
      subst hp
      exact (espec_l8Run_l24 @spec_l1Has @spec_l8Run_l6 @spec_l8Run_l15 @spec_l8Run_l27 @spec_l8Run_l24 n y24_0 y24_1 y24_2 y24_3 y24_4 y24_5 y24_6 kk).symm
theorem nlspec_l8Run_l24 : ∀ n, NatLP (Pspec_l8Run_l24 @spec_l8Run_l24 n) := lespec_l8Run_l24.nat (fun n => mkK_nat (cspec_l8Run n)) fun n => mkL_nat (mkK_nat (cspec_l8Run n)) (l := [(6, Dspec_l8Run_l6, Pspec_l8Run_l6 @spec_l8Run_l6 n), (15, Dspec_l8Run_l15, Pspec_l8Run_l15 @spec_l8Run_l15 n), (27, Dspec_l8Run_l27, Pspec_l8Run_l27 @spec_l8Run_l27 n)]) ⟨nlspec_l8Run_l6 n, ⟨nlspec_l8Run_l15 n, ⟨nlspec_l8Run_l27 n, trivial⟩⟩⟩
theorem inspec_l8Run_l24 (n : Nat) (R : Type) : LoopsOk Try.prog (mkL (mkK [(73, Kspec_l1Has @spec_l1Has n)]) [(6, Dspec_l8Run_l6, Pspec_l8Run_l6 @spec_l8Run_l6 n), (15, Dspec_l8Run_l15, Pspec_l8Run_l15 @spec_l8Run_l15 n), (27, Dspec_l8Run_l27, Pspec_l8Run_l27 @spec_l8Run_l27 n)] R) (loopIn 24 (bodyOf Try.f56)) := .eq (l := [.lo (loopIn 27 (bodyOf Try.f56))]) (by kernel_rfl) ⟨(lkspec_l8Run_l27 n R _ (at_id (i := 27) (by kernel_rfl) rfl)), trivial⟩
theorem lkspec_l8Run_l24 (n : Nat) (R : Type) (L0 : LK R) (h0 : ∀ id, firstRegion (loopIn 24 (bodyOf Try.f56)) = some id → L0 id = Dspec_l8Run_l24.oracle (mkK [(73, Kspec_l1Has @spec_l1Has n)] R) (Pspec_l8Run_l24 @spec_l8Run_l24 n R)) : LoopOk Try.prog L0 (loopIn 24 (bodyOf Try.f56)) :=
  lespec_l8Run_l24.ok mixed ttok (fun n => mkK_nat (cspec_l8Run n)) (fun n => mkK_ok (cspec_l8Run n)) (fun n => inspec_l8Run_l24 n R) (mkK_nat (cspec_l8Run n)) h0
@[reducible] def Sspec_l8Run : PkS := ⟨[.one (.ro (.pr (.int .i64) (.sl (.int .i64)))), .one (.ro (.int .i64))], []⟩
@[reducible] def Tspec_l8Run : PkS := ⟨[.tup [(false, [.whole (300000, 0)]), (false, [.whole (300000, 1)]), (false, [.whole (300000, 2)]), (false, [.int .i64])], .one (.dead), .one (.dead)], [((300000, 0), .arr .bool), ((300000, 1), .arr (.int .i64)), ((300000, 2), .arr (.int .i64))]⟩
def Hspec_l8Run : List Sh := [.tup [(false, [(.own .bool)]), (false, [(.own (.int .i64))]), (false, [(.own (.int .i64))]), (false, [.any])], .skip, .skip]
def Kspec_l8Run (g : ∀ {R : Type}, Nat → (List (Int × List Int)) → (List Int) → (Int → (List Bool) → (List Int) → (List Int) → Option R) → Option R) (n : Nat) : KPs := fun R p k => match (PkS.un Sspec_l8Run p : Option ((List (Int × List Int)) × (List Int) × Unit)) with
  | some (x0, x1, _) => g n x0 x1 (fun r0 r1 r2 r3 => k (PkS.pack Tspec_l8Run (r0, r1, r2, r3, ())))
  | none => none
theorem espec_l8Run (spec_l1Has : ∀ {R : Type}, Nat → (List Int) → Int → (Bool → Option R) → Option R) (spec_l8Run_l6 : ∀ {R : Type}, Nat → (List (Int × List Int)) → (List Int) → (List (Int × List Int)) → Int → Int → (List Bool) → (List Int) → (List Int) → (List Int) → ((List (Int × List Int)) → (List Int) → (List Bool) → (List Int) → (List Int) → (List Int) → Option R) → Option R) (spec_l8Run_l15 : ∀ {R : Type}, Nat → (List (Int × List Int)) → (List Int) → Int → Int → (List Bool) → (List Int) → (List Int) → (List Int) → ((List (Int × List Int)) → (List Bool) → (List Int) → (List Int) → (List Int) → Option R) → Option R) (spec_l8Run_l27 : ∀ {R : Type}, Nat → (List (Int × List Int)) → Int → Int → (List (Int × List Int)) → Int → Int → (List Bool) → (List Int) → (List Int) → (List Int) → ((List (Int × List Int)) → Int → Int → (List Bool) → (List Int) → (List Int) → (List Int) → Option R) → Option R) (spec_l8Run_l24 : ∀ {R : Type}, Nat → (List (Int × List Int)) → Int → Int → (List Bool) → (List Int) → (List Int) → (List Int) → (Int → (List Bool) → (List Int) → (List Int) → Option R) → Option R) {R : Type} (n : Nat) (x0 : List (Int × List Int)) (x1 : List Int) (k : Pk → Option R) : evF tt sig (mkK [(73, Kspec_l1Has @spec_l1Has n)] R) (mkL (mkK [(73, Kspec_l1Has @spec_l1Has n)]) [(6, Dspec_l8Run_l6, Pspec_l8Run_l6 @spec_l8Run_l6 n), (15, Dspec_l8Run_l15, Pspec_l8Run_l15 @spec_l8Run_l15 n), (27, Dspec_l8Run_l27, Pspec_l8Run_l27 @spec_l8Run_l27 n), (24, Dspec_l8Run_l24, Pspec_l8Run_l24 @spec_l8Run_l24 n)] R) Try.f56 Hspec_l8Run (PkS.pack Sspec_l8Run (x0, x1, ())) k = (fun (k : Int → (List Bool) → (List Int) → (List Int) → Option R) => (bif decide (0 ≤ (x0.length : Int)) then (bif decide ((x0.length : Int) ≤ (x0.length : Int)) then (bif decide ((x0.length : Int) ≤ 1099511627776) then (spec_l8Run_l6 n x0 x1 x0 (x0.length : Int) 0 (List.replicate 40 false) (List.replicate 40 (0 : Int)) ([] : List Int) (List.replicate (Int.toNat (x0.length : Int)) (0 : Int)) (fun r1 r2 r3 r4 r5 r6 => (spec_l8Run_l15 n r1 r2 (r2.length : Int) 0 r3 r4 r5 r6 (fun r7 r8 r9 r10 r11 => (spec_l8Run_l24 n r7 0 0 r8 r9 r10 r11 (fun r20 r21 r22 r23 => k r20 r21 r22 r23)))))) else none) else none) else none)) (fun r0 r1 r2 r3 => k (PkS.pack Tspec_l8Run (r0, r1, r2, r3, ()))) := by kernel_rfl
theorem okspec_l8Run (n : Nat) : FnOk Try.prog 56 (Kspec_l8Run @spec_l8Run n) := by
  refine fn_ok (sig := sig) mixed ttok (mkK_nat (cspec_l8Run n)) (mkK_ok (cspec_l8Run n)) (mkL_nat (mkK_nat (cspec_l8Run n)) (l := [(6, Dspec_l8Run_l6, Pspec_l8Run_l6 @spec_l8Run_l6 n), (15, Dspec_l8Run_l15, Pspec_l8Run_l15 @spec_l8Run_l15 n), (27, Dspec_l8Run_l27, Pspec_l8Run_l27 @spec_l8Run_l27 n), (24, Dspec_l8Run_l24, Pspec_l8Run_l24 @spec_l8Run_l24 n)]) ⟨nlspec_l8Run_l6 n, ⟨nlspec_l8Run_l15 n, ⟨nlspec_l8Run_l27 n, ⟨nlspec_l8Run_l24 n, trivial⟩⟩⟩⟩) (fn := Try.f56) (c := bodyOf Try.f56) (by kernel_rfl) (by kernel_rfl) (by kernel_rfl) (.eq (l := [.lo (loopIn 6 (bodyOf Try.f56)), .lo (loopIn 15 (bodyOf Try.f56)), .lo (loopIn 24 (bodyOf Try.f56))]) (by kernel_rfl) ⟨(lkspec_l8Run_l6 n _ _ (at_id (i := 6) (by kernel_rfl) rfl)), ⟨(lkspec_l8Run_l15 n _ _ (at_id (i := 15) (by kernel_rfl) rfl)), ⟨(lkspec_l8Run_l24 n _ _ (at_id (i := 24) (by kernel_rfl) rfl)), trivial⟩⟩⟩) (shs := Hspec_l8Run) (S := Sspec_l8Run) (h1 := by kernel_rfl) fun R p k => ?_
  unfold Kspec_l8Run
  cases h : (PkS.un Sspec_l8Run p) with
  | none => rfl
  | some d =>
    obtain ⟨x0, x1, u⟩ := (d : (List (Int × List Int)) × (List Int) × Unit)
    have hp := PkS.un_pack h
    subst hp
    exact (espec_l8Run @spec_l1Has @spec_l8Run_l6 @spec_l8Run_l15 @spec_l8Run_l27 @spec_l8Run_l24 n x0 x1 k).symm

/-! ### loop.example/g00269/spec.l8List -/
theorem cspec_l8List (n : Nat) : AllOk Try.prog [] := trivial
@[reducible] def Sspec_l8List_l3 : PkS := ⟨[.one (.whole (100000, 0)), .one (.ro .bool), .one (.int .i64), .one (.int .i64), .one (.dead)], [((100000, 0), .arr (.int .i64))]⟩
@[reducible] def Tspec_l8List_l3_0 : PkS := ⟨[.one (.whole (100000, 0)), .one (.dead)], [((100000, 0), .arr (.int .i64))]⟩
def Dspec_l8List_l3 : LoopD := ⟨20, [3, 6, 7, 8], [.one (.own (.int .i64)), .one (.ro .bool), .one .any, .one .any, .skip], fun x => match x with
  | .exit 0 => some ([3], [.one (.own (.int .i64)), .skip])
  | _ => none⟩
def Pspec_l8List_l3 (g : ∀ {R : Type}, Nat → (List Bool) → Int → Int → (List Int) → ((List Int) → Option R) → Option R) (n : Nat) : LPs := fun R q kk => match (PkS.un Sspec_l8List_l3 q : Option ((List Bool) × Int × Int × (List Int) × Unit)) with
  | some (y3_0, y3_1, y3_2, y3_3, _) => g n y3_0 y3_1 y3_2 y3_3 (fun r0 => kk (.exit 0) (PkS.pack Tspec_l8List_l3_0 (r0, ())))
  | none => none
theorem espec_l8List_l3 (spec_l8List_l3 : ∀ {R : Type}, Nat → (List Bool) → Int → Int → (List Int) → ((List Int) → Option R) → Option R) {R : Type} (n : Nat) (y3_0 : List Bool) (y3_1 : Int) (y3_2 : Int) (y3_3 : List Int) (kk : Ex → Pk → Option R) : Dspec_l8List_l3.step tt sig (mkK [] R) (mkL (mkK []) [] R) (loopIn 3 (bodyOf Try.f58)) (fun q' => Pspec_l8List_l3 @spec_l8List_l3 n R q' kk) (PkS.pack Sspec_l8List_l3 (y3_0, y3_1, y3_2, y3_3, ())) kk = (fun (kexit0 : (List Int) → Option R) => (bif (decide (y3_2 < y3_1)) then (bif decide (0 ≤ y3_2) then (bif decide (y3_2 < (y3_0.length : Int)) then (bif (y3_0.getD (Int.toNat y3_2) false) then (bif decide (y3_3.length + [y3_2].length ≤ LIM) then spec_l8List_l3 n y3_0 y3_1 (IntKind.wrap .i64 (y3_2 + 1)) (y3_3 ++ [y3_2]) kexit0 else none) else spec_l8List_l3 n y3_0 y3_1 (IntKind.wrap .i64 (y3_2 + 1)) y3_3 kexit0) else none) else none) else kexit0 y3_3)) (fun r0 => kk (.exit 0) (PkS.pack Tspec_l8List_l3_0 (r0, ()))) := by kernel_rfl
theorem lespec_l8List_l3 : LoopEq tt sig (fun n => mkK []) (fun n => mkL (mkK []) []) Dspec_l8List_l3 Sspec_l8List_l3 (loopIn 3 (bodyOf Try.f58)) (Pspec_l8List_l3 @spec_l8List_l3) where
  zero R q kk := by unfold Pspec_l8List_l3; cases (PkS.un Sspec_l8List_l3 q) <;> rfl
  succ n R q kk := by
    unfold Pspec_l8List_l3
    cases h : (PkS.un Sspec_l8List_l3 q) with
    | none => rfl
    | some d =>
      obtain ⟨y3_0, y3_1, y3_2, y3_3, u⟩ := (d : (List Bool) × Int × Int × (List Int) × Unit)
      have hp := PkS.un_pack h
      subst hp
      exact (espec_l8List_l3 @spec_l8List_l3 n y3_0 y3_1 y3_2 y3_3 kk).symm
theorem nlspec_l8List_l3 : ∀ n, NatLP (Pspec_l8List_l3 @spec_l8List_l3 n) := lespec_l8List_l3.nat (fun n => mkK_nat (cspec_l8List n)) fun n => mkL_nat (mkK_nat (cspec_l8List n)) (l := []) trivial
theorem inspec_l8List_l3 (n : Nat) (R : Type) : LoopsOk Try.prog (mkL (mkK []) [] R) (loopIn 3 (bodyOf Try.f58)) := .eq (l := []) (by kernel_rfl) trivial
theorem lkspec_l8List_l3 (n : Nat) (R : Type) (L0 : LK R) (h0 : ∀ id, firstRegion (loopIn 3 (bodyOf Try.f58)) = some id → L0 id = Dspec_l8List_l3.oracle (mkK [] R) (Pspec_l8List_l3 @spec_l8List_l3 n R)) : LoopOk Try.prog L0 (loopIn 3 (bodyOf Try.f58)) :=
  lespec_l8List_l3.ok mixed ttok (fun n => mkK_nat (cspec_l8List n)) (fun n => mkK_ok (cspec_l8List n)) (fun n => inspec_l8List_l3 n R) (mkK_nat (cspec_l8List n)) h0
@[reducible] def Sspec_l8List : PkS := ⟨[.one (.ro .bool)], []⟩
@[reducible] def Tspec_l8List : PkS := ⟨[.one (.whole (300000, 0)), .one (.dead)], [((300000, 0), .arr (.int .i64))]⟩
def Hspec_l8List : List Sh := [.one (.own (.int .i64)), .skip]
def Kspec_l8List (g : ∀ {R : Type}, Nat → (List Bool) → ((List Int) → Option R) → Option R) (n : Nat) : KPs := fun R p k => match (PkS.un Sspec_l8List p : Option ((List Bool) × Unit)) with
  | some (x0, _) => g n x0 (fun r0 => k (PkS.pack Tspec_l8List (r0, ())))
  | none => none
theorem espec_l8List (spec_l8List_l3 : ∀ {R : Type}, Nat → (List Bool) → Int → Int → (List Int) → ((List Int) → Option R) → Option R) {R : Type} (n : Nat) (x0 : List Bool) (k : Pk → Option R) : evF tt sig (mkK [] R) (mkL (mkK []) [(3, Dspec_l8List_l3, Pspec_l8List_l3 @spec_l8List_l3 n)] R) Try.f58 Hspec_l8List (PkS.pack Sspec_l8List (x0, ())) k = (fun (k : (List Int) → Option R) => (spec_l8List_l3 n x0 (x0.length : Int) 0 ([] : List Int) (fun r1 => k r1))) (fun r0 => k (PkS.pack Tspec_l8List (r0, ()))) := by kernel_rfl
theorem okspec_l8List (n : Nat) : FnOk Try.prog 58 (Kspec_l8List @spec_l8List n) := by
  refine fn_ok (sig := sig) mixed ttok (mkK_nat (cspec_l8List n)) (mkK_ok (cspec_l8List n)) (mkL_nat (mkK_nat (cspec_l8List n)) (l := [(3, Dspec_l8List_l3, Pspec_l8List_l3 @spec_l8List_l3 n)]) ⟨nlspec_l8List_l3 n, trivial⟩) (fn := Try.f58) (c := bodyOf Try.f58) (by kernel_rfl) (by kernel_rfl) (by kernel_rfl) (.eq (l := [.lo (loopIn 3 (bodyOf Try.f58))]) (by kernel_rfl) ⟨(lkspec_l8List_l3 n _ _ (at_id (i := 3) (by kernel_rfl) rfl)), trivial⟩) (shs := Hspec_l8List) (S := Sspec_l8List) (h1 := by kernel_rfl) fun R p k => ?_
  unfold Kspec_l8List
  cases h : (PkS.un Sspec_l8List p) with
  | none => rfl
  | some d =>
    obtain ⟨x0, u⟩ := (d : (List Bool) × Unit)
    have hp := PkS.un_pack h
    subst hp
    exact (espec_l8List @spec_l8List_l3 n x0 k).symm

/-! ### loop.example/g00269/spec.LeastModel -/
theorem cspec_LeastModel (n : Nat) : AllOk Try.prog [(13, Kspec_GoodRules @spec_GoodRules n), (41, Kspec_l8Set @spec_l8Set n), (56, Kspec_l8Run @spec_l8Run n), (58, Kspec_l8List @spec_l8List n)] := ⟨okspec_GoodRules n, ⟨okspec_l8Set n, ⟨okspec_l8Run n, ⟨okspec_l8List n, trivial⟩⟩⟩⟩
@[reducible] def Sspec_LeastModel : PkS := ⟨[.one (.ro (.pr (.int .i64) (.sl (.int .i64)))), .one (.ro (.int .i64))], []⟩
@[reducible] def Tspec_LeastModel : PkS := ⟨[.tup [(false, [.whole (300000, 0)]), (false, [.int .i64]), (false, [.bool])], .one (.dead), .one (.dead)], [((300000, 0), .arr (.int .i64))]⟩
def Hspec_LeastModel : List Sh := [.tup [(false, [(.own (.int .i64))]), (false, [.any]), (false, [.any])], .skip, .skip]
def Kspec_LeastModel (g : ∀ {R : Type}, Nat → (List (Int × List Int)) → (List Int) → (Int → Bool → (List Int) → Option R) → Option R) (n : Nat) : KPs := fun R p k => match (PkS.un Sspec_LeastModel p : Option ((List (Int × List Int)) × (List Int) × Unit)) with
  | some (x0, x1, _) => g n x0 x1 (fun r0 r1 r2 => k (PkS.pack Tspec_LeastModel (r0, r1, r2, ())))
  | none => none
theorem espec_LeastModel (spec_GoodRules : ∀ {R : Type}, Nat → (List (Int × List Int)) → (Bool → Option R) → Option R) (spec_l8Set : ∀ {R : Type}, Nat → (List Int) → (Bool → Option R) → Option R) (spec_l8Run : ∀ {R : Type}, Nat → (List (Int × List Int)) → (List Int) → (Int → (List Bool) → (List Int) → (List Int) → Option R) → Option R) (spec_l8List : ∀ {R : Type}, Nat → (List Bool) → ((List Int) → Option R) → Option R) {R : Type} (n : Nat) (x0 : List (Int × List Int)) (x1 : List Int) (k : Pk → Option R) : evF tt sig (mkK [(13, Kspec_GoodRules @spec_GoodRules n), (41, Kspec_l8Set @spec_l8Set n), (56, Kspec_l8Run @spec_l8Run n), (58, Kspec_l8List @spec_l8List n)] R) (mkL (mkK [(13, Kspec_GoodRules @spec_GoodRules n), (41, Kspec_l8Set @spec_l8Set n), (56, Kspec_l8Run @spec_l8Run n), (58, Kspec_l8List @spec_l8List n)]) [] R) Try.f30 Hspec_LeastModel (PkS.pack Sspec_LeastModel (x0, x1, ())) k = (fun (k : Int → Bool → (List Int) → Option R) => (spec_GoodRules n x0 fun r1 => (bif (!r1) then k 0 false ([] : List Int) else (spec_l8Set n x1 fun r2 => (bif (!r2) then k 0 false ([] : List Int) else (spec_l8Run n x0 x1 fun r3 r4 r5 r6 => (spec_l8List n r4 fun r7 => k r3 true r7))))))) (fun r0 r1 r2 => k (PkS.pack Tspec_LeastModel (r0, r1, r2, ()))) := by kernel_rfl
theorem okspec_LeastModel (n : Nat) : FnOk Try.prog 30 (Kspec_LeastModel @spec_LeastModel n) := by
  refine fn_ok (sig := sig) mixed ttok (mkK_nat (cspec_LeastModel n)) (mkK_ok (cspec_LeastModel n)) (mkL_nat (mkK_nat (cspec_LeastModel n)) (l := []) trivial) (fn := Try.f30) (c := bodyOf Try.f30) (by kernel_rfl) (by kernel_rfl) (by kernel_rfl) (.eq (l := []) (by kernel_rfl) trivial) (shs := Hspec_LeastModel) (S := Sspec_LeastModel) (h1 := by kernel_rfl) fun R p k => ?_
  unfold Kspec_LeastModel
  cases h : (PkS.un Sspec_LeastModel p) with
  | none => rfl
  | some d =>
    obtain ⟨x0, x1, u⟩ := (d : (List (Int × List Int)) × (List Int) × Unit)
    have hp := PkS.un_pack h
    subst hp
    exact (espec_LeastModel @spec_GoodRules @spec_l8Set @spec_l8Run @spec_l8List n x0 x1 k).symm

/-! ### loop.example/g00269/impl.in -/
theorem cimpl_in (n : Nat) : AllOk Try.prog [] := trivial
@[reducible] def Simpl_in : PkS := ⟨[.one (.int .i64), .one (.int .i64), .one (.int .i64)], []⟩
@[reducible] def Timpl_in : PkS := ⟨[.one (.bool), .one (.dead), .one (.dead), .one (.dead)], []⟩
def Himpl_in : List Sh := [.one .any, .skip, .skip, .skip]
def Kimpl_in (g : ∀ {R : Type}, Nat → Int → Int → Int → (Bool → Option R) → Option R) (n : Nat) : KPs := fun R p k => match (PkS.un Simpl_in p : Option (Int × Int × Int × Unit)) with
  | some (x0, x1, x2, _) => g n x0 x1 x2 (fun r0 => k (PkS.pack Timpl_in (r0, ())))
  | none => none
theorem eimpl_in  {R : Type} (n : Nat) (x0 : Int) (x1 : Int) (x2 : Int) (k : Pk → Option R) : evF tt sig (mkK [] R) (mkL (mkK []) [] R) Try.f66 Himpl_in (PkS.pack Simpl_in (x0, x1, x2, ())) k = (fun (k : Bool → Option R) => (bif (decide (x0 ≥ x1)) then k (decide (x0 ≤ x2)) else k false)) (fun r0 => k (PkS.pack Timpl_in (r0, ()))) := by kernel_rfl
theorem okimpl_in (n : Nat) : FnOk Try.prog 66 (Kimpl_in @impl_in n) := by
  refine fn_ok (sig := sig) mixed ttok (mkK_nat (cimpl_in n)) (mkK_ok (cimpl_in n)) (mkL_nat (mkK_nat (cimpl_in n)) (l := []) trivial) (fn := Try.f66) (c := bodyOf Try.f66) (by kernel_rfl) (by kernel_rfl) (by kernel_rfl) (.eq (l := []) (by kernel_rfl) trivial) (shs := Himpl_in) (S := Simpl_in) (h1 := by kernel_rfl) fun R p k => ?_
  unfold Kimpl_in
  cases h : (PkS.un Simpl_in p) with
  | none => rfl
  | some d =>
    obtain ⟨x0, x1, x2, u⟩ := (d : Int × Int × Int × Unit)
    have hp := PkS.un_pack h
    subst hp
    exact (eimpl_in  n x0 x1 x2 k).symm

/-! ### loop.example/g00269/impl.isFact -/
theorem cimpl_isFact (n : Nat) : AllOk Try.prog [(66, Kimpl_in @impl_in n)] := ⟨okimpl_in n, trivial⟩
@[reducible] def Simpl_isFact : PkS := ⟨[.one (.int .i64)], []⟩
@[reducible] def Timpl_isFact : PkS := ⟨[.one (.bool), .one (.dead)], []⟩
def Himpl_isFact : List Sh := [.one .any, .skip]
def Kimpl_isFact (g : ∀ {R : Type}, Nat → Int → (Bool → Option R) → Option R) (n : Nat) : KPs := fun R p k => match (PkS.un Simpl_isFact p : Option (Int × Unit)) with
  | some (x0, _) => g n x0 (fun r0 => k (PkS.pack Timpl_isFact (r0, ())))
  | none => none
theorem eimpl_isFact (impl_in : ∀ {R : Type}, Nat → Int → Int → Int → (Bool → Option R) → Option R) {R : Type} (n : Nat) (x0 : Int) (k : Pk → Option R) : evF tt sig (mkK [(66, Kimpl_in @impl_in n)] R) (mkL (mkK [(66, Kimpl_in @impl_in n)]) [] R) Try.f45 Himpl_isFact (PkS.pack Simpl_isFact (x0, ())) k = (fun (k : Bool → Option R) => (impl_in n x0 0 39 fun r1 => k r1)) (fun r0 => k (PkS.pack Timpl_isFact (r0, ()))) := by kernel_rfl
theorem okimpl_isFact (n : Nat) : FnOk Try.prog 45 (Kimpl_isFact @impl_isFact n) := by
  refine fn_ok (sig := sig) mixed ttok (mkK_nat (cimpl_isFact n)) (mkK_ok (cimpl_isFact n)) (mkL_nat (mkK_nat (cimpl_isFact n)) (l := []) trivial) (fn := Try.f45) (c := bodyOf Try.f45) (by kernel_rfl) (by kernel_rfl) (by kernel_rfl) (.eq (l := []) (by kernel_rfl) trivial) (shs := Himpl_isFact) (S := Simpl_isFact) (h1 := by kernel_rfl) fun R p k => ?_
  unfold Kimpl_isFact
  cases h : (PkS.un Simpl_isFact p) with
  | none => rfl
  | some d =>
    obtain ⟨x0, u⟩ := (d : Int × Unit)
    have hp := PkS.un_pack h
    subst hp
    exact (eimpl_isFact @impl_in n x0 k).symm

/-! ### loop.example/g00269/impl.rising -/
theorem cimpl_rising (n : Nat) : AllOk Try.prog [(66, Kimpl_in @impl_in n)] := ⟨okimpl_in n, trivial⟩
@[reducible] def Simpl_rising_l2 : PkS := ⟨[.one (.ro (.int .i64)), .one (.int .i64), .one (.ro (.int .i64)), .one (.int .i64), .one (.int .i64), .one (.dead), .one (.dead)], []⟩
@[reducible] def Timpl_rising_l2_0 : PkS := ⟨[.one (.bool), .one (.dead), .one (.dead)], []⟩
@[reducible] def Timpl_rising_l2_1 : PkS := ⟨[.one (.dead), .one (.dead)], []⟩
def Dimpl_rising_l2 : LoopD := ⟨33, [0, 1, 7, 8, 9], [.one (.ro (.int .i64)), .one .any, .one (.ro (.int .i64)), .one .any, .one .any, .skip, .skip], fun x => match x with
  | .ret => some ([4], [.one .any, .skip, .skip])
  | .exit 0 => some ([], [.skip, .skip])
  | _ => none⟩
def Pimpl_rising_l2 (g : ∀ {R : Type}, Nat → (List Int) → Int → (List Int) → Int → Int → (Bool → Option R) → (Option R) → Option R) (n : Nat) : LPs := fun R q kk => match (PkS.un Simpl_rising_l2 q : Option ((List Int) × Int × (List Int) × Int × Int × Unit)) with
  | some (y2_0, y2_1, y2_2, y2_3, y2_4, _) => g n y2_0 y2_1 y2_2 y2_3 y2_4 (fun r0 => kk .ret (PkS.pack Timpl_rising_l2_0 (r0, ()))) (kk (.exit 0) (PkS.pack Timpl_rising_l2_1 ()))
  | none => none
theorem eimpl_rising_l2 (impl_in : ∀ {R : Type}, Nat → Int → Int → Int → (Bool → Option R) → Option R) (impl_rising_l2 : ∀ {R : Type}, Nat → (List Int) → Int → (List Int) → Int → Int → (Bool → Option R) → (Option R) → Option R) {R : Type} (n : Nat) (y2_0 : List Int) (y2_1 : Int) (y2_2 : List Int) (y2_3 : Int) (y2_4 : Int) (kk : Ex → Pk → Option R) : Dimpl_rising_l2.step tt sig (mkK [(66, Kimpl_in @impl_in n)] R) (mkL (mkK [(66, Kimpl_in @impl_in n)]) [] R) (loopIn 2 (bodyOf Try.f67)) (fun q' => Pimpl_rising_l2 @impl_rising_l2 n R q' kk) (PkS.pack Simpl_rising_l2 (y2_0, y2_1, y2_2, y2_3, y2_4, ())) kk = (fun (kret : Bool → Option R) (kexit0 : Option R) => (bif (decide (y2_4 < y2_3)) then (bif decide (0 ≤ y2_4) then (bif decide (y2_4 < (y2_2.length : Int)) then (impl_in n (y2_2.getD (Int.toNat y2_4) 0) 0 (IntKind.wrap .i64 (y2_1 - 1)) fun r1 => (bif (!r1) then kret false else (bif (decide (y2_4 > 0)) then (bif decide (0 ≤ (IntKind.wrap .i64 (y2_4 - 1))) then (bif decide ((IntKind.wrap .i64 (y2_4 - 1)) < (y2_0.length : Int)) then (bif (decide ((y2_0.getD (Int.toNat (IntKind.wrap .i64 (y2_4 - 1))) 0) ≥ (y2_2.getD (Int.toNat y2_4) 0))) then kret false else impl_rising_l2 n y2_0 y2_1 y2_2 y2_3 (IntKind.wrap .i64 (y2_4 + 1)) kret kexit0) else none) else none) else impl_rising_l2 n y2_0 y2_1 y2_2 y2_3 (IntKind.wrap .i64 (y2_4 + 1)) kret kexit0))) else none) else none) else kexit0)) (fun r0 => kk .ret (PkS.pack Timpl_rising_l2_0 (r0, ()))) (kk (.exit 0) (PkS.pack Timpl_rising_l2_1 ())) := by kernel_rfl
theorem leimpl_rising_l2 : LoopEq tt sig (fun n => mkK [(66, Kimpl_in @impl_in n)]) (fun n => mkL (mkK [(66, Kimpl_in @impl_in n)]) []) Dimpl_rising_l2 Simpl_rising_l2 (loopIn 2 (bodyOf Try.f67)) (Pimpl_rising_l2 @impl_rising_l2) where
  zero R q kk := by unfold Pimpl_rising_l2; cases (PkS.un Simpl_rising_l2 q) <;> rfl
  succ n R q kk := by
    unfold Pimpl_rising_l2
    cases h : (PkS.un Simpl_rising_l2 q) with
    | none => rfl
    | some d =>
      obtain ⟨y2_0, y2_1, y2_2, y2_3, y2_4, u⟩ := (d : (List Int) × Int × (List Int) × Int × Int × Unit)
      have hp := PkS.un_pack h
      subst hp
      exact (eimpl_rising_l2 @impl_in @impl_rising_l2 n y2_0 y2_1 y2_2 y2_3 y2_4 kk).symm
theorem nlimpl_rising_l2 : ∀ n, NatLP (Pimpl_rising_l2 @impl_rising_l2 n) := leimpl_rising_l2.nat (fun n => mkK_nat (cimpl_rising n)) fun n => mkL_nat (mkK_nat (cimpl_rising n)) (l := []) trivial
theorem inimpl_rising_l2 (n : Nat) (R : Type) : LoopsOk Try.prog (mkL (mkK [(66, Kimpl_in @impl_in n)]) [] R) (loopIn 2 (bodyOf Try.f67)) := .eq (l := []) (by kernel_rfl) trivial
theorem lkimpl_rising_l2 (n : Nat) (R : Type) (L0 : LK R) (h0 : ∀ id, firstRegion (loopIn 2 (bodyOf Try.f67)) = some id → L0 id = Dimpl_rising_l2.oracle (mkK [(66, Kimpl_in @impl_in n)] R) (Pimpl_rising_l2 @impl_rising_l2 n R)) : LoopOk Try.prog L0 (loopIn 2 (bodyOf Try.f67)) :=
  leimpl_rising_l2.ok mixed ttok (fun n => mkK_nat (cimpl_rising n)) (fun n => mkK_ok (cimpl_rising n)) (fun n => inimpl_rising_l2 n R) (mkK_nat (cimpl_rising n)) h0
@[reducible] def Simpl_rising : PkS := ⟨[.one (.ro (.int .i64)), .one (.int .i64)], []⟩
@[reducible] def Timpl_rising : PkS := ⟨[.one (.bool), .one (.dead), .one (.dead)], []⟩
def Himpl_rising : List Sh := [.one .any, .skip, .skip]
def Kimpl_rising (g : ∀ {R : Type}, Nat → (List Int) → Int → (Bool → Option R) → Option R) (n : Nat) : KPs := fun R p k => match (PkS.un Simpl_rising p : Option ((List Int) × Int × Unit)) with
  | some (x0, x1, _) => g n x0 x1 (fun r0 => k (PkS.pack Timpl_rising (r0, ())))
  | none => none
theorem eimpl_rising (impl_in : ∀ {R : Type}, Nat → Int → Int → Int → (Bool → Option R) → Option R) (impl_rising_l2 : ∀ {R : Type}, Nat → (List Int) → Int → (List Int) → Int → Int → (Bool → Option R) → (Option R) → Option R) {R : Type} (n : Nat) (x0 : List Int) (x1 : Int) (k : Pk → Option R) : evF tt sig (mkK [(66, Kimpl_in @impl_in n)] R) (mkL (mkK [(66, Kimpl_in @impl_in n)]) [(2, Dimpl_rising_l2, Pimpl_rising_l2 @impl_rising_l2 n)] R) Try.f67 Himpl_rising (PkS.pack Simpl_rising (x0, x1, ())) k = (fun (k : Bool → Option R) => (impl_rising_l2 n x0 x1 x0 (x0.length : Int) 0 (fun r2 => k r2) (k true))) (fun r0 => k (PkS.pack Timpl_rising (r0, ()))) := by kernel_rfl
theorem okimpl_rising (n : Nat) : FnOk Try.prog 67 (Kimpl_rising @impl_rising n) := by
  refine fn_ok (sig := sig) mixed ttok (mkK_nat (cimpl_rising n)) (mkK_ok (cimpl_rising n)) (mkL_nat (mkK_nat (cimpl_rising n)) (l := [(2, Dimpl_rising_l2, Pimpl_rising_l2 @impl_rising_l2 n)]) ⟨nlimpl_rising_l2 n, trivial⟩) (fn := Try.f67) (c := bodyOf Try.f67) (by kernel_rfl) (by kernel_rfl) (by kernel_rfl) (.eq (l := [.lo (loopIn 2 (bodyOf Try.f67))]) (by kernel_rfl) ⟨(lkimpl_rising_l2 n _ _ (at_id (i := 2) (by kernel_rfl) rfl)), trivial⟩) (shs := Himpl_rising) (S := Simpl_rising) (h1 := by kernel_rfl) fun R p k => ?_
  unfold Kimpl_rising
  cases h : (PkS.un Simpl_rising p) with
  | none => rfl
  | some d =>
    obtain ⟨x0, x1, u⟩ := (d : (List Int) × Int × Unit)
    have hp := PkS.un_pack h
    subst hp
    exact (eimpl_rising @impl_in @impl_rising_l2 n x0 x1 k).symm

/-! ### loop.example/g00269/impl.isSet -/
theorem cimpl_isSet (n : Nat) : AllOk Try.prog [(67, Kimpl_rising @impl_rising n)] := ⟨okimpl_rising n, trivial⟩
@[reducible] def Simpl_isSet : PkS := ⟨[.one (.ro (.int .i64))], []⟩
@[reducible] def Timpl_isSet : PkS := ⟨[.one (.bool), .one (.dead)], []⟩
def Himpl_isSet : List Sh := [.one .any, .skip]
def Kimpl_isSet (g : ∀ {R : Type}, Nat → (List Int) → (Bool → Option R) → Option R) (n : Nat) : KPs := fun R p k => match (PkS.un Simpl_isSet p : Option ((List Int) × Unit)) with
  | some (x0, _) => g n x0 (fun r0 => k (PkS.pack Timpl_isSet (r0, ())))
  | none => none
theorem eimpl_isSet (impl_rising : ∀ {R : Type}, Nat → (List Int) → Int → (Bool → Option R) → Option R) {R : Type} (n : Nat) (x0 : List Int) (k : Pk → Option R) : evF tt sig (mkK [(67, Kimpl_rising @impl_rising n)] R) (mkL (mkK [(67, Kimpl_rising @impl_rising n)]) [] R) Try.f46 Himpl_isSet (PkS.pack Simpl_isSet (x0, ())) k = (fun (k : Bool → Option R) => (impl_rising n x0 40 fun r1 => k r1)) (fun r0 => k (PkS.pack Timpl_isSet (r0, ()))) := by kernel_rfl
theorem okimpl_isSet (n : Nat) : FnOk Try.prog 46 (Kimpl_isSet @impl_isSet n) := by
  refine fn_ok (sig := sig) mixed ttok (mkK_nat (cimpl_isSet n)) (mkK_ok (cimpl_isSet n)) (mkL_nat (mkK_nat (cimpl_isSet n)) (l := []) trivial) (fn := Try.f46) (c := bodyOf Try.f46) (by kernel_rfl) (by kernel_rfl) (by kernel_rfl) (.eq (l := []) (by kernel_rfl) trivial) (shs := Himpl_isSet) (S := Simpl_isSet) (h1 := by kernel_rfl) fun R p k => ?_
  unfold Kimpl_isSet
  cases h : (PkS.un Simpl_isSet p) with
  | none => rfl
  | some d =>
    obtain ⟨x0, u⟩ := (d : (List Int) × Unit)
    have hp := PkS.un_pack h
    subst hp
    exact (eimpl_isSet @impl_rising n x0 k).symm

/-! ### loop.example/g00269/impl.GoodRules$1 -/
theorem cimpl_GoodRules_c1 (n : Nat) : AllOk Try.prog [(45, Kimpl_isFact @impl_isFact n), (46, Kimpl_isSet @impl_isSet n)] := ⟨okimpl_isFact n, ⟨okimpl_isSet n, trivial⟩⟩
@[reducible] def Simpl_GoodRules_c1 : PkS := ⟨[.agg [.int .i64, .ro (.int .i64)]], []⟩
@[reducible] def Timpl_GoodRules_c1 : PkS := ⟨[.one (.bool), .one (.dead)], []⟩
def Himpl_GoodRules_c1 : List Sh := [.one .any, .skip]
def Kimpl_GoodRules_c1 (g : ∀ {R : Type}, Nat → Int → (List Int) → (Bool → Option R) → Option R) (n : Nat) : KPs := fun R p k => match (PkS.un Simpl_GoodRules_c1 p : Option (Int × (List Int) × Unit)) with
  | some (x0, x1, _) => g n x0 x1 (fun r0 => k (PkS.pack Timpl_GoodRules_c1 (r0, ())))
  | none => none
theorem eimpl_GoodRules_c1 (impl_isFact : ∀ {R : Type}, Nat → Int → (Bool → Option R) → Option R) (impl_isSet : ∀ {R : Type}, Nat → (List Int) → (Bool → Option R) → Option R) {R : Type} (n : Nat) (x0 : Int) (x1 : List Int) (k : Pk → Option R) : evF tt sig (mkK [(45, Kimpl_isFact @impl_isFact n), (46, Kimpl_isSet @impl_isSet n)] R) (mkL (mkK [(45, Kimpl_isFact @impl_isFact n), (46, Kimpl_isSet @impl_isSet n)]) [] R) Try.f44 Himpl_GoodRules_c1 (PkS.pack Simpl_GoodRules_c1 (x0, x1, ())) k = (fun (k : Bool → Option R) => (impl_isFact n x0 fun r1 => (bif (!r1) then k true else (impl_isSet n x1 fun r2 => k (!r2))))) (fun r0 => k (PkS.pack Timpl_GoodRules_c1 (r0, ()))) := by kernel_rfl
theorem okimpl_GoodRules_c1 (n : Nat) : FnOk Try.prog 44 (Kimpl_GoodRules_c1 @impl_GoodRules_c1 n) := by
  refine fn_ok (sig := sig) mixed ttok (mkK_nat (cimpl_GoodRules_c1 n)) (mkK_ok (cimpl_GoodRules_c1 n)) (mkL_nat (mkK_nat (cimpl_GoodRules_c1 n)) (l := []) trivial) (fn := Try.f44) (c := bodyOf Try.f44) (by kernel_rfl) (by kernel_rfl) (by kernel_rfl) (.eq (l := []) (by kernel_rfl) trivial) (shs := Himpl_GoodRules_c1) (S := Simpl_GoodRules_c1) (h1 := by kernel_rfl) fun R p k => ?_
  unfold Kimpl_GoodRules_c1
  cases h : (PkS.un Simpl_GoodRules_c1 p) with
  | none => rfl
  | some d =>
    obtain ⟨x0, x1, u⟩ := (d : Int × (List Int) × Unit)
    have hp := PkS.un_pack h
    subst hp
    exact (eimpl_GoodRules_c1 @impl_isFact @impl_isSet n x0 x1 k).symm

/-! ### slices.IndexFunc[[]loop.example/g00269/impl.Rule,loop.example/g00269/impl.Rule] -/
theorem cslices_IndexFunc_impl_Rule_impl_GoodRules_c1 (n : Nat) : AllOk Try.prog [(44, Kimpl_GoodRules_c1 @impl_GoodRules_c1 n)] := ⟨okimpl_GoodRules_c1 n, trivial⟩
@[reducible] def Sslices_IndexFunc_impl_Rule_impl_GoodRules_c1_l2 : PkS := ⟨[.one (.ro (.pr (.int .i64) (.sl (.int .i64)))), .one (.fn 44 []), .one (.int .i64), .one (.int .i64), .one (.dead), .one (.fn 44 [])], []⟩
@[reducible] def Tslices_IndexFunc_impl_Rule_impl_GoodRules_c1_l2_0 : PkS := ⟨[.one (.int .i64), .one (.dead), .one (.fn 44 [])], []⟩
@[reducible] def Tslices_IndexFunc_impl_Rule_impl_GoodRules_c1_l2_1 : PkS := ⟨[.one (.dead), .one (.fn 44 [])], []⟩
def Dslices_IndexFunc_impl_Rule_impl_GoodRules_c1_l2 : LoopD := ⟨19, [0, 1, 7, 8], [.one (.ro (.pr (.int .i64) (.sl (.int .i64)))), .fn 44 [], .one .any, .one .any, .skip, .fn 44 []], fun x => match x with
  | .ret => some ([4], [.one .any, .skip, .fn 44 []])
  | .exit 0 => some ([], [.skip, .fn 44 []])
  | _ => none⟩
def Pslices_IndexFunc_impl_Rule_impl_GoodRules_c1_l2 (g : ∀ {R : Type}, Nat → (List (Int × List Int)) → Int → Int → (Int → Option R) → (Option R) → Option R) (n : Nat) : LPs := fun R q kk => match (PkS.un Sslices_IndexFunc_impl_Rule_impl_GoodRules_c1_l2 q : Option ((List (Int × List Int)) × Int × Int × Unit)) with
  | some (y2_0, y2_1, y2_2, _) => g n y2_0 y2_1 y2_2 (fun r0 => kk .ret (PkS.pack Tslices_IndexFunc_impl_Rule_impl_GoodRules_c1_l2_0 (r0, ()))) (kk (.exit 0) (PkS.pack Tslices_IndexFunc_impl_Rule_impl_GoodRules_c1_l2_1 ()))
  | none => none
theorem eslices_IndexFunc_impl_Rule_impl_GoodRules_c1_l2 (impl_GoodRules_c1 : ∀ {R : Type}, Nat → Int → (List Int) → (Bool → Option R) → Option R) (slices_IndexFunc_impl_Rule_impl_GoodRules_c1_l2 : ∀ {R : Type}, Nat → (List (Int × List Int)) → Int → Int → (Int → Option R) → (Option R) → Option R) {R : Type} (n : Nat) (y2_0 : List (Int × List Int)) (y2_1 : Int) (y2_2 : Int) (kk : Ex → Pk → Option R) : Dslices_IndexFunc_impl_Rule_impl_GoodRules_c1_l2.step tt sig (mkK [(44, Kimpl_GoodRules_c1 @impl_GoodRules_c1 n)] R) (mkL (mkK [(44, Kimpl_GoodRules_c1 @impl_GoodRules_c1 n)]) [] R) (loopIn 2 (bodyOf Try.f65)) (fun q' => Pslices_IndexFunc_impl_Rule_impl_GoodRules_c1_l2 @slices_IndexFunc_impl_Rule_impl_GoodRules_c1_l2 n R q' kk) (PkS.pack Sslices_IndexFunc_impl_Rule_impl_GoodRules_c1_l2 (y2_0, y2_1, y2_2, ())) kk = (fun (kret : Int → Option R) (kexit0 : Option R) => (bif (decide (y2_2 < y2_1)) then (bif decide (0 ≤ y2_2) then (bif decide (y2_2 < (y2_0.length : Int)) then (impl_GoodRules_c1 n ((y2_0.getD (Int.toNat y2_2) (0, [])).1) ((y2_0.getD (Int.toNat y2_2) (0, [])).2) fun r1 => (bif r1 then kret y2_2 else slices_IndexFunc_impl_Rule_impl_GoodRules_c1_l2 n y2_0 y2_1 (IntKind.wrap .i64 (y2_2 + 1)) kret kexit0)) else none) else none) else kexit0)) (fun r0 => kk .ret (PkS.pack Tslices_IndexFunc_impl_Rule_impl_GoodRules_c1_l2_0 (r0, ()))) (kk (.exit 0) (PkS.pack Tslices_IndexFunc_impl_Rule_impl_GoodRules_c1_l2_1 ())) := by kernel_rfl
theorem leslices_IndexFunc_impl_Rule_impl_GoodRules_c1_l2 : LoopEq tt sig (fun n => mkK [(44, Kimpl_GoodRules_c1 @impl_GoodRules_c1 n)]) (fun n => mkL (mkK [(44, Kimpl_GoodRules_c1 @impl_GoodRules_c1 n)]) []) Dslices_IndexFunc_impl_Rule_impl_GoodRules_c1_l2 Sslices_IndexFunc_impl_Rule_impl_GoodRules_c1_l2 (loopIn 2 (bodyOf Try.f65)) (Pslices_IndexFunc_impl_Rule_impl_GoodRules_c1_l2 @slices_IndexFunc_impl_Rule_impl_GoodRules_c1_l2) where
  zero R q kk := by unfold Pslices_IndexFunc_impl_Rule_impl_GoodRules_c1_l2; cases (PkS.un Sslices_IndexFunc_impl_Rule_impl_GoodRules_c1_l2 q) <;> rfl
  succ n R q kk := by
    unfold Pslices_IndexFunc_impl_Rule_impl_GoodRules_c1_l2
    cases h : (PkS.un Sslices_IndexFunc_impl_Rule_impl_GoodRules_c1_l2 q) with
    | none => rfl
    | some d =>
      obtain ⟨y2_0, y2_1, y2_2, u⟩ := (d : (List (Int × List Int)) × Int × Int × Unit)
      have hp := PkS.un_pack h
      subst hp
      exact (eslices_IndexFunc_impl_Rule_impl_GoodRules_c1_l2 @impl_GoodRules_c1 @slices_IndexFunc_impl_Rule_impl_GoodRules_c1_l2 n y2_0 y2_1 y2_2 kk).symm
theorem nlslices_IndexFunc_impl_Rule_impl_GoodRules_c1_l2 : ∀ n, NatLP (Pslices_IndexFunc_impl_Rule_impl_GoodRules_c1_l2 @slices_IndexFunc_impl_Rule_impl_GoodRules_c1_l2 n) := leslices_IndexFunc_impl_Rule_impl_GoodRules_c1_l2.nat (fun n => mkK_nat (cslices_IndexFunc_impl_Rule_impl_GoodRules_c1 n)) fun n => mkL_nat (mkK_nat (cslices_IndexFunc_impl_Rule_impl_GoodRules_c1 n)) (l := []) trivial
theorem inslices_IndexFunc_impl_Rule_impl_GoodRules_c1_l2 (n : Nat) (R : Type) : LoopsOk Try.prog (mkL (mkK [(44, Kimpl_GoodRules_c1 @impl_GoodRules_c1 n)]) [] R) (loopIn 2 (bodyOf Try.f65)) := .eq (l := []) (by kernel_rfl) trivial
theorem lkslices_IndexFunc_impl_Rule_impl_GoodRules_c1_l2 (n : Nat) (R : Type) (L0 : LK R) (h0 : ∀ id, firstRegion (loopIn 2 (bodyOf Try.f65)) = some id → L0 id = Dslices_IndexFunc_impl_Rule_impl_GoodRules_c1_l2.oracle (mkK [(44, Kimpl_GoodRules_c1 @impl_GoodRules_c1 n)] R) (Pslices_IndexFunc_impl_Rule_impl_GoodRules_c1_l2 @slices_IndexFunc_impl_Rule_impl_GoodRules_c1_l2 n R)) : LoopOk Try.prog L0 (loopIn 2 (bodyOf Try.f65)) :=
  leslices_IndexFunc_impl_Rule_impl_GoodRules_c1_l2.ok mixed ttok (fun n => mkK_nat (cslices_IndexFunc_impl_Rule_impl_GoodRules_c1 n)) (fun n => mkK_ok (cslices_IndexFunc_impl_Rule_impl_GoodRules_c1 n)) (fun n => inslices_IndexFunc_impl_Rule_impl_GoodRules_c1_l2 n R) (mkK_nat (cslices_IndexFunc_impl_Rule_impl_GoodRules_c1 n)) h0
@[reducible] def Sslices_IndexFunc_impl_Rule_impl_GoodRules_c1 : PkS := ⟨[.one (.ro (.pr (.int .i64) (.sl (.int .i64)))), .one (.fn 44 [])], []⟩
@[reducible] def Tslices_IndexFunc_impl_Rule_impl_GoodRules_c1 : PkS := ⟨[.one (.int .i64), .one (.dead), .one (.fn 44 [])], []⟩
def Hslices_IndexFunc_impl_Rule_impl_GoodRules_c1 : List Sh := [.one .any, .skip, .fn 44 []]
def Kslices_IndexFunc_impl_Rule_impl_GoodRules_c1 (g : ∀ {R : Type}, Nat → (List (Int × List Int)) → (Int → Option R) → Option R) (n : Nat) : KPs := fun R p k => match (PkS.un Sslices_IndexFunc_impl_Rule_impl_GoodRules_c1 p : Option ((List (Int × List Int)) × Unit)) with
  | some (x0, _) => g n x0 (fun r0 => k (PkS.pack Tslices_IndexFunc_impl_Rule_impl_GoodRules_c1 (r0, ())))
  | none => none
theorem eslices_IndexFunc_impl_Rule_impl_GoodRules_c1 (impl_GoodRules_c1 : ∀ {R : Type}, Nat → Int → (List Int) → (Bool → Option R) → Option R) (slices_IndexFunc_impl_Rule_impl_GoodRules_c1_l2 : ∀ {R : Type}, Nat → (List (Int × List Int)) → Int → Int → (Int → Option R) → (Option R) → Option R) {R : Type} (n : Nat) (x0 : List (Int × List Int)) (k : Pk → Option R) : evF tt sig (mkK [(44, Kimpl_GoodRules_c1 @impl_GoodRules_c1 n)] R) (mkL (mkK [(44, Kimpl_GoodRules_c1 @impl_GoodRules_c1 n)]) [(2, Dslices_IndexFunc_impl_Rule_impl_GoodRules_c1_l2, Pslices_IndexFunc_impl_Rule_impl_GoodRules_c1_l2 @slices_IndexFunc_impl_Rule_impl_GoodRules_c1_l2 n)] R) Try.f65 Hslices_IndexFunc_impl_Rule_impl_GoodRules_c1 (PkS.pack Sslices_IndexFunc_impl_Rule_impl_GoodRules_c1 (x0, ())) k = (fun (k : Int → Option R) => (slices_IndexFunc_impl_Rule_impl_GoodRules_c1_l2 n x0 (x0.length : Int) 0 (fun r2 => k r2) (k (-1)))) (fun r0 => k (PkS.pack Tslices_IndexFunc_impl_Rule_impl_GoodRules_c1 (r0, ()))) := by kernel_rfl
theorem okslices_IndexFunc_impl_Rule_impl_GoodRules_c1 (n : Nat) : FnOk Try.prog 65 (Kslices_IndexFunc_impl_Rule_impl_GoodRules_c1 @slices_IndexFunc_impl_Rule_impl_GoodRules_c1 n) := by
  refine fn_ok (sig := sig) mixed ttok (mkK_nat (cslices_IndexFunc_impl_Rule_impl_GoodRules_c1 n)) (mkK_ok (cslices_IndexFunc_impl_Rule_impl_GoodRules_c1 n)) (mkL_nat (mkK_nat (cslices_IndexFunc_impl_Rule_impl_GoodRules_c1 n)) (l := [(2, Dslices_IndexFunc_impl_Rule_impl_GoodRules_c1_l2, Pslices_IndexFunc_impl_Rule_impl_GoodRules_c1_l2 @slices_IndexFunc_impl_Rule_impl_GoodRules_c1_l2 n)]) ⟨nlslices_IndexFunc_impl_Rule_impl_GoodRules_c1_l2 n, trivial⟩) (fn := Try.f65) (c := bodyOf Try.f65) (by kernel_rfl) (by kernel_rfl) (by kernel_rfl) (.eq (l := [.lo (loopIn 2 (bodyOf Try.f65))]) (by kernel_rfl) ⟨(lkslices_IndexFunc_impl_Rule_impl_GoodRules_c1_l2 n _ _ (at_id (i := 2) (by kernel_rfl) rfl)), trivial⟩) (shs := Hslices_IndexFunc_impl_Rule_impl_GoodRules_c1) (S := Sslices_IndexFunc_impl_Rule_impl_GoodRules_c1) (h1 := by kernel_rfl) fun R p k => ?_
  unfold Kslices_IndexFunc_impl_Rule_impl_GoodRules_c1
  cases h : (PkS.un Sslices_IndexFunc_impl_Rule_impl_GoodRules_c1 p) with
  | none => rfl
  | some d =>
    obtain ⟨x0, u⟩ := (d : (List (Int × List Int)) × Unit)
    have hp := PkS.un_pack h
    subst hp
    exact (eslices_IndexFunc_impl_Rule_impl_GoodRules_c1 @impl_GoodRules_c1 @slices_IndexFunc_impl_Rule_impl_GoodRules_c1_l2 n x0 k).symm

/-! ### slices.ContainsFunc[[]loop.example/g00269/impl.Rule,loop.example/g00269/impl.Rule] -/
theorem cslices_ContainsFunc_impl_Rule_impl_GoodRules_c1 (n : Nat) : AllOk Try.prog [(65, Kslices_IndexFunc_impl_Rule_impl_GoodRules_c1 @slices_IndexFunc_impl_Rule_impl_GoodRules_c1 n)] := ⟨okslices_IndexFunc_impl_Rule_impl_GoodRules_c1 n, trivial⟩
@[reducible] def Sslices_ContainsFunc_impl_Rule_impl_GoodRules_c1 : PkS := ⟨[.one (.ro (.pr (.int .i64) (.sl (.int .i64)))), .one (.fn 44 [])], []⟩
@[reducible] def Tslices_ContainsFunc_impl_Rule_impl_GoodRules_c1 : PkS := ⟨[.one (.bool), .one (.dead), .one (.fn 44 [])], []⟩
def Hslices_ContainsFunc_impl_Rule_impl_GoodRules_c1 : List Sh := [.one .any, .skip, .fn 44 []]
def Kslices_ContainsFunc_impl_Rule_impl_GoodRules_c1 (g : ∀ {R : Type}, Nat → (List (Int × List Int)) → (Bool → Option R) → Option R) (n : Nat) : KPs := fun R p k => match (PkS.un Sslices_ContainsFunc_impl_Rule_impl_GoodRules_c1 p : Option ((List (Int × List Int)) × Unit)) with
  | some (x0, _) => g n x0 (fun r0 => k (PkS.pack Tslices_ContainsFunc_impl_Rule_impl_GoodRules_c1 (r0, ())))
  | none => none
theorem eslices_ContainsFunc_impl_Rule_impl_GoodRules_c1 (slices_IndexFunc_impl_Rule_impl_GoodRules_c1 : ∀ {R : Type}, Nat → (List (Int × List Int)) → (Int → Option R) → Option R) {R : Type} (n : Nat) (x0 : List (Int × List Int)) (k : Pk → Option R) : evF tt sig (mkK [(65, Kslices_IndexFunc_impl_Rule_impl_GoodRules_c1 @slices_IndexFunc_impl_Rule_impl_GoodRules_c1 n)] R) (mkL (mkK [(65, Kslices_IndexFunc_impl_Rule_impl_GoodRules_c1 @slices_IndexFunc_impl_Rule_impl_GoodRules_c1 n)]) [] R) Try.f43 Hslices_ContainsFunc_impl_Rule_impl_GoodRules_c1 (PkS.pack Sslices_ContainsFunc_impl_Rule_impl_GoodRules_c1 (x0, ())) k = (fun (k : Bool → Option R) => (slices_IndexFunc_impl_Rule_impl_GoodRules_c1 n x0 fun r1 => k (decide (r1 ≥ 0)))) (fun r0 => k (PkS.pack Tslices_ContainsFunc_impl_Rule_impl_GoodRules_c1 (r0, ()))) := by kernel_rfl
theorem okslices_ContainsFunc_impl_Rule_impl_GoodRules_c1 (n : Nat) : FnOk Try.prog 43 (Kslices_ContainsFunc_impl_Rule_impl_GoodRules_c1 @slices_ContainsFunc_impl_Rule_impl_GoodRules_c1 n) := by
  refine fn_ok (sig := sig) mixed ttok (mkK_nat (cslices_ContainsFunc_impl_Rule_impl_GoodRules_c1 n)) (mkK_ok (cslices_ContainsFunc_impl_Rule_impl_GoodRules_c1 n)) (mkL_nat (mkK_nat (cslices_ContainsFunc_impl_Rule_impl_GoodRules_c1 n)) (l := []) trivial) (fn := Try.f43) (c := bodyOf Try.f43) (by kernel_rfl) (by kernel_rfl) (by kernel_rfl) (.eq (l := []) (by kernel_rfl) trivial) (shs := Hslices_ContainsFunc_impl_Rule_impl_GoodRules_c1) (S := Sslices_ContainsFunc_impl_Rule_impl_GoodRules_c1) (h1 := by kernel_rfl) fun R p k => ?_
  unfold Kslices_ContainsFunc_impl_Rule_impl_GoodRules_c1
  cases h : (PkS.un Sslices_ContainsFunc_impl_Rule_impl_GoodRules_c1 p) with
  | none => rfl
  | some d =>
    obtain ⟨x0, u⟩ := (d : (List (Int × List Int)) × Unit)
    have hp := PkS.un_pack h
    subst hp
    exact (eslices_ContainsFunc_impl_Rule_impl_GoodRules_c1 @slices_IndexFunc_impl_Rule_impl_GoodRules_c1 n x0 k).symm

/-! ### loop.example/g00269/impl.GoodRules -/
theorem cimpl_GoodRules (n : Nat) : AllOk Try.prog [(43, Kslices_ContainsFunc_impl_Rule_impl_GoodRules_c1 @slices_ContainsFunc_impl_Rule_impl_GoodRules_c1 n)] := ⟨okslices_ContainsFunc_impl_Rule_impl_GoodRules_c1 n, trivial⟩
@[reducible] def Simpl_GoodRules : PkS := ⟨[.one (.ro (.pr (.int .i64) (.sl (.int .i64))))], []⟩
@[reducible] def Timpl_GoodRules : PkS := ⟨[.one (.bool), .one (.dead)], []⟩
def Himpl_GoodRules : List Sh := [.one .any, .skip]
def Kimpl_GoodRules (g : ∀ {R : Type}, Nat → (List (Int × List Int)) → (Bool → Option R) → Option R) (n : Nat) : KPs := fun R p k => match (PkS.un Simpl_GoodRules p : Option ((List (Int × List Int)) × Unit)) with
  | some (x0, _) => g n x0 (fun r0 => k (PkS.pack Timpl_GoodRules (r0, ())))
  | none => none
theorem eimpl_GoodRules (slices_ContainsFunc_impl_Rule_impl_GoodRules_c1 : ∀ {R : Type}, Nat → (List (Int × List Int)) → (Bool → Option R) → Option R) {R : Type} (n : Nat) (x0 : List (Int × List Int)) (k : Pk → Option R) : evF tt sig (mkK [(43, Kslices_ContainsFunc_impl_Rule_impl_GoodRules_c1 @slices_ContainsFunc_impl_Rule_impl_GoodRules_c1 n)] R) (mkL (mkK [(43, Kslices_ContainsFunc_impl_Rule_impl_GoodRules_c1 @slices_ContainsFunc_impl_Rule_impl_GoodRules_c1 n)]) [] R) Try.f15 Himpl_GoodRules (PkS.pack Simpl_GoodRules (x0, ())) k = (fun (k : Bool → Option R) => (bif (decide ((x0.length : Int) ≤ 60)) then (slices_ContainsFunc_impl_Rule_impl_GoodRules_c1 n x0 fun r1 => k (!r1)) else k false)) (fun r0 => k (PkS.pack Timpl_GoodRules (r0, ()))) := by kernel_rfl
theorem okimpl_GoodRules (n : Nat) : FnOk Try.prog 15 (Kimpl_GoodRules @impl_GoodRules n) := by
  refine fn_ok (sig := sig) mixed ttok (mkK_nat (cimpl_GoodRules n)) (mkK_ok (cimpl_GoodRules n)) (mkL_nat (mkK_nat (cimpl_GoodRules n)) (l := []) trivial) (fn := Try.f15) (c := bodyOf Try.f15) (by kernel_rfl) (by kernel_rfl) (by kernel_rfl) (.eq (l := []) (by kernel_rfl) trivial) (shs := Himpl_GoodRules) (S := Simpl_GoodRules) (h1 := by kernel_rfl) fun R p k => ?_
  unfold Kimpl_GoodRules
  cases h : (PkS.un Simpl_GoodRules p) with
  | none => rfl
  | some d =>
    obtain ⟨x0, u⟩ := (d : (List (Int × List Int)) × Unit)
    have hp := PkS.un_pack h
    subst hp
    exact (eimpl_GoodRules @slices_ContainsFunc_impl_Rule_impl_GoodRules_c1 n x0 k).symm

/-! ### loop.example/g00269/impl.rulesOk -/
theorem cimpl_rulesOk (n : Nat) : AllOk Try.prog [(15, Kimpl_GoodRules @impl_GoodRules n), (46, Kimpl_isSet @impl_isSet n)] := ⟨okimpl_GoodRules n, ⟨okimpl_isSet n, trivial⟩⟩
@[reducible] def Simpl_rulesOk : PkS := ⟨[.one (.ro (.pr (.int .i64) (.sl (.int .i64)))), .one (.ro (.int .i64))], []⟩
@[reducible] def Timpl_rulesOk : PkS := ⟨[.one (.bool), .one (.dead), .one (.dead)], []⟩
def Himpl_rulesOk : List Sh := [.one .any, .skip, .skip]
def Kimpl_rulesOk (g : ∀ {R : Type}, Nat → (List (Int × List Int)) → (List Int) → (Bool → Option R) → Option R) (n : Nat) : KPs := fun R p k => match (PkS.un Simpl_rulesOk p : Option ((List (Int × List Int)) × (List Int) × Unit)) with
  | some (x0, x1, _) => g n x0 x1 (fun r0 => k (PkS.pack Timpl_rulesOk (r0, ())))
  | none => none
theorem eimpl_rulesOk (impl_GoodRules : ∀ {R : Type}, Nat → (List (Int × List Int)) → (Bool → Option R) → Option R) (impl_isSet : ∀ {R : Type}, Nat → (List Int) → (Bool → Option R) → Option R) {R : Type} (n : Nat) (x0 : List (Int × List Int)) (x1 : List Int) (k : Pk → Option R) : evF tt sig (mkK [(15, Kimpl_GoodRules @impl_GoodRules n), (46, Kimpl_isSet @impl_isSet n)] R) (mkL (mkK [(15, Kimpl_GoodRules @impl_GoodRules n), (46, Kimpl_isSet @impl_isSet n)]) [] R) Try.f50 Himpl_rulesOk (PkS.pack Simpl_rulesOk (x0, x1, ())) k = (fun (k : Bool → Option R) => (impl_GoodRules n x0 fun r1 => (bif r1 then (impl_isSet n x1 fun r2 => k r2) else k false))) (fun r0 => k (PkS.pack Timpl_rulesOk (r0, ()))) := by kernel_rfl
theorem okimpl_rulesOk (n : Nat) : FnOk Try.prog 50 (Kimpl_rulesOk @impl_rulesOk n) := by
  refine fn_ok (sig := sig) mixed ttok (mkK_nat (cimpl_rulesOk n)) (mkK_ok (cimpl_rulesOk n)) (mkL_nat (mkK_nat (cimpl_rulesOk n)) (l := []) trivial) (fn := Try.f50) (c := bodyOf Try.f50) (by kernel_rfl) (by kernel_rfl) (by kernel_rfl) (.eq (l := []) (by kernel_rfl) trivial) (shs := Himpl_rulesOk) (S := Simpl_rulesOk) (h1 := by kernel_rfl) fun R p k => ?_
  unfold Kimpl_rulesOk
  cases h : (PkS.un Simpl_rulesOk p) with
  | none => rfl
  | some d =>
    obtain ⟨x0, x1, u⟩ := (d : (List (Int × List Int)) × (List Int) × Unit)
    have hp := PkS.un_pack h
    subst hp
    exact (eimpl_rulesOk @impl_GoodRules @impl_isSet n x0 x1 k).symm

/-! ### slices.Clone[[]int,int] -/
theorem cslices_Clone_int (n : Nat) : AllOk Try.prog [] := trivial
@[reducible] def Sslices_Clone_int : PkS := ⟨[.one (.ro (.int .i64))], []⟩
@[reducible] def Tslices_Clone_int : PkS := ⟨[.one (.whole (300000, 0)), .one (.dead)], [((300000, 0), .arr (.int .i64))]⟩
def Kslices_Clone_int (g : ∀ {R : Type}, Nat → (List Int) → ((List Int) → Option R) → Option R) (n : Nat) : KPs := fun R p k => match (PkS.un Sslices_Clone_int p : Option ((List Int) × Unit)) with
  | some (x0, _) => g n x0 (fun r0 => k (PkS.pack Tslices_Clone_int (r0, ())))
  | none => none
theorem okslices_Clone_int (n : Nat) : FnOk Try.prog 71 (Kslices_Clone_int @slices_Clone_int n) := by
  have e : Kslices_Clone_int @slices_Clone_int n = cloneK (.int .i64) := by kernel_rfl
  rw [e]
  exact clone_ok (sig := sig) mixed ttok (fn := Try.f71) (c := bodyOf Try.f71) (by kernel_rfl) (by kernel_rfl) (by kernel_rfl) (.int .i64) [.one (.own (.int .i64)), .skip] (.eq (l := []) (by kernel_rfl) trivial) (fun xs => by kernel_rfl) (by kernel_rfl) (by kernel_rfl)

/-! ### slices.Index[[]int,int] -/
theorem cslices_Index_int (n : Nat) : AllOk Try.prog [] := trivial
@[reducible] def Sslices_Index_int_l2 : PkS := ⟨[.one (.ro (.int .i64)), .one (.int .i64), .one (.int .i64), .one (.int .i64), .one (.dead), .one (.dead)], []⟩
@[reducible] def Tslices_Index_int_l2_0 : PkS := ⟨[.one (.int .i64), .one (.dead), .one (.dead)], []⟩
@[reducible] def Tslices_Index_int_l2_1 : PkS := ⟨[.one (.dead), .one (.dead)], []⟩
def Dslices_Index_int_l2 : LoopD := ⟨19, [0, 1, 7, 8], [.one (.ro (.int .i64)), .one .any, .one .any, .one .any, .skip, .skip], fun x => match x with
  | .ret => some ([4], [.one .any, .skip, .skip])
  | .exit 0 => some ([], [.skip, .skip])
  | _ => none⟩
def Pslices_Index_int_l2 (g : ∀ {R : Type}, Nat → (List Int) → Int → Int → Int → (Int → Option R) → (Option R) → Option R) (n : Nat) : LPs := fun R q kk => match (PkS.un Sslices_Index_int_l2 q : Option ((List Int) × Int × Int × Int × Unit)) with
  | some (y2_0, y2_1, y2_2, y2_3, _) => g n y2_0 y2_1 y2_2 y2_3 (fun r0 => kk .ret (PkS.pack Tslices_Index_int_l2_0 (r0, ()))) (kk (.exit 0) (PkS.pack Tslices_Index_int_l2_1 ()))
  | none => none
theorem eslices_Index_int_l2 (slices_Index_int_l2 : ∀ {R : Type}, Nat → (List Int) → Int → Int → Int → (Int → Option R) → (Option R) → Option R) {R : Type} (n : Nat) (y2_0 : List Int) (y2_1 : Int) (y2_2 : Int) (y2_3 : Int) (kk : Ex → Pk → Option R) : Dslices_Index_int_l2.step tt sig (mkK [] R) (mkL (mkK []) [] R) (loopIn 2 (bodyOf Try.f70)) (fun q' => Pslices_Index_int_l2 @slices_Index_int_l2 n R q' kk) (PkS.pack Sslices_Index_int_l2 (y2_0, y2_1, y2_2, y2_3, ())) kk = (fun (kret : Int → Option R) (kexit0 : Option R) => (bif (decide (y2_3 < y2_2)) then (bif decide (0 ≤ y2_3) then (bif decide (y2_3 < (y2_0.length : Int)) then (bif (y2_1 == (y2_0.getD (Int.toNat y2_3) 0)) then kret y2_3 else slices_Index_int_l2 n y2_0 y2_1 y2_2 (IntKind.wrap .i64 (y2_3 + 1)) kret kexit0) else none) else none) else kexit0)) (fun r0 => kk .ret (PkS.pack Tslices_Index_int_l2_0 (r0, ()))) (kk (.exit 0) (PkS.pack Tslices_Index_int_l2_1 ())) := by kernel_rfl
theorem leslices_Index_int_l2 : LoopEq tt sig (fun n => mkK []) (fun n => mkL (mkK []) []) Dslices_Index_int_l2 Sslices_Index_int_l2 (loopIn 2 (bodyOf Try.f70)) (Pslices_Index_int_l2 @slices_Index_int_l2) where
  zero R q kk := by unfold Pslices_Index_int_l2; cases (PkS.un Sslices_Index_int_l2 q) <;> rfl
  succ n R q kk := by
    unfold Pslices_Index_int_l2
    cases h : (PkS.un Sslices_Index_int_l2 q) with
    | none => rfl
    | some d =>
      obtain ⟨y2_0, y2_1, y2_2, y2_3, u⟩ := (d : (List Int) × Int × Int × Int × Unit)
      have hp := PkS.un_pack h
      subst hp
      exact (eslices_Index_int_l2 @slices_Index_int_l2 n y2_0 y2_1 y2_2 y2_3 kk).symm
theorem nlslices_Index_int_l2 : ∀ n, NatLP (Pslices_Index_int_l2 @slices_Index_int_l2 n) := leslices_Index_int_l2.nat (fun n => mkK_nat (cslices_Index_int n)) fun n => mkL_nat (mkK_nat (cslices_Index_int n)) (l := []) trivial
theorem inslices_Index_int_l2 (n : Nat) (R : Type) : LoopsOk Try.prog (mkL (mkK []) [] R) (loopIn 2 (bodyOf Try.f70)) := .eq (l := []) (by kernel_rfl) trivial
theorem lkslices_Index_int_l2 (n : Nat) (R : Type) (L0 : LK R) (h0 : ∀ id, firstRegion (loopIn 2 (bodyOf Try.f70)) = some id → L0 id = Dslices_Index_int_l2.oracle (mkK [] R) (Pslices_Index_int_l2 @slices_Index_int_l2 n R)) : LoopOk Try.prog L0 (loopIn 2 (bodyOf Try.f70)) :=
  leslices_Index_int_l2.ok mixed ttok (fun n => mkK_nat (cslices_Index_int n)) (fun n => mkK_ok (cslices_Index_int n)) (fun n => inslices_Index_int_l2 n R) (mkK_nat (cslices_Index_int n)) h0
@[reducible] def Sslices_Index_int : PkS := ⟨[.one (.ro (.int .i64)), .one (.int .i64)], []⟩
@[reducible] def Tslices_Index_int : PkS := ⟨[.one (.int .i64), .one (.dead), .one (.dead)], []⟩
def Hslices_Index_int : List Sh := [.one .any, .skip, .skip]
def Kslices_Index_int (g : ∀ {R : Type}, Nat → (List Int) → Int → (Int → Option R) → Option R) (n : Nat) : KPs := fun R p k => match (PkS.un Sslices_Index_int p : Option ((List Int) × Int × Unit)) with
  | some (x0, x1, _) => g n x0 x1 (fun r0 => k (PkS.pack Tslices_Index_int (r0, ())))
  | none => none
theorem eslices_Index_int (slices_Index_int_l2 : ∀ {R : Type}, Nat → (List Int) → Int → Int → Int → (Int → Option R) → (Option R) → Option R) {R : Type} (n : Nat) (x0 : List Int) (x1 : Int) (k : Pk → Option R) : evF tt sig (mkK [] R) (mkL (mkK []) [(2, Dslices_Index_int_l2, Pslices_Index_int_l2 @slices_Index_int_l2 n)] R) Try.f70 Hslices_Index_int (PkS.pack Sslices_Index_int (x0, x1, ())) k = (fun (k : Int → Option R) => (slices_Index_int_l2 n x0 x1 (x0.length : Int) 0 (fun r1 => k r1) (k (-1)))) (fun r0 => k (PkS.pack Tslices_Index_int (r0, ()))) := by kernel_rfl
theorem okslices_Index_int (n : Nat) : FnOk Try.prog 70 (Kslices_Index_int @slices_Index_int n) := by
  refine fn_ok (sig := sig) mixed ttok (mkK_nat (cslices_Index_int n)) (mkK_ok (cslices_Index_int n)) (mkL_nat (mkK_nat (cslices_Index_int n)) (l := [(2, Dslices_Index_int_l2, Pslices_Index_int_l2 @slices_Index_int_l2 n)]) ⟨nlslices_Index_int_l2 n, trivial⟩) (fn := Try.f70) (c := bodyOf Try.f70) (by kernel_rfl) (by kernel_rfl) (by kernel_rfl) (.eq (l := [.lo (loopIn 2 (bodyOf Try.f70))]) (by kernel_rfl) ⟨(lkslices_Index_int_l2 n _ _ (at_id (i := 2) (by kernel_rfl) rfl)), trivial⟩) (shs := Hslices_Index_int) (S := Sslices_Index_int) (h1 := by kernel_rfl) fun R p k => ?_
  unfold Kslices_Index_int
  cases h : (PkS.un Sslices_Index_int p) with
  | none => rfl
  | some d =>
    obtain ⟨x0, x1, u⟩ := (d : (List Int) × Int × Unit)
    have hp := PkS.un_pack h
    subst hp
    exact (eslices_Index_int @slices_Index_int_l2 n x0 x1 k).symm

/-! ### slices.Contains[[]int,int] -/
theorem cslices_Contains_int (n : Nat) : AllOk Try.prog [(70, Kslices_Index_int @slices_Index_int n)] := ⟨okslices_Index_int n, trivial⟩
@[reducible] def Sslices_Contains_int : PkS := ⟨[.one (.ro (.int .i64)), .one (.int .i64)], []⟩
@[reducible] def Tslices_Contains_int : PkS := ⟨[.one (.bool), .one (.dead), .one (.dead)], []⟩
def Hslices_Contains_int : List Sh := [.one .any, .skip, .skip]
def Kslices_Contains_int (g : ∀ {R : Type}, Nat → (List Int) → Int → (Bool → Option R) → Option R) (n : Nat) : KPs := fun R p k => match (PkS.un Sslices_Contains_int p : Option ((List Int) × Int × Unit)) with
  | some (x0, x1, _) => g n x0 x1 (fun r0 => k (PkS.pack Tslices_Contains_int (r0, ())))
  | none => none
theorem eslices_Contains_int (slices_Index_int : ∀ {R : Type}, Nat → (List Int) → Int → (Int → Option R) → Option R) {R : Type} (n : Nat) (x0 : List Int) (x1 : Int) (k : Pk → Option R) : evF tt sig (mkK [(70, Kslices_Index_int @slices_Index_int n)] R) (mkL (mkK [(70, Kslices_Index_int @slices_Index_int n)]) [] R) Try.f53 Hslices_Contains_int (PkS.pack Sslices_Contains_int (x0, x1, ())) k = (fun (k : Bool → Option R) => (slices_Index_int n x0 x1 fun r1 => k (decide (r1 ≥ 0)))) (fun r0 => k (PkS.pack Tslices_Contains_int (r0, ()))) := by kernel_rfl
theorem okslices_Contains_int (n : Nat) : FnOk Try.prog 53 (Kslices_Contains_int @slices_Contains_int n) := by
  refine fn_ok (sig := sig) mixed ttok (mkK_nat (cslices_Contains_int n)) (mkK_ok (cslices_Contains_int n)) (mkL_nat (mkK_nat (cslices_Contains_int n)) (l := []) trivial) (fn := Try.f53) (c := bodyOf Try.f53) (by kernel_rfl) (by kernel_rfl) (by kernel_rfl) (.eq (l := []) (by kernel_rfl) trivial) (shs := Hslices_Contains_int) (S := Sslices_Contains_int) (h1 := by kernel_rfl) fun R p k => ?_
  unfold Kslices_Contains_int
  cases h : (PkS.un Sslices_Contains_int p) with
  | none => rfl
  | some d =>
    obtain ⟨x0, x1, u⟩ := (d : (List Int) × Int × Unit)
    have hp := PkS.un_pack h
    subst hp
    exact (eslices_Contains_int @slices_Index_int n x0 x1 k).symm

/-! ### cmp.isNaN[int] -/
theorem ccmp_isNaN_int (n : Nat) : AllOk Try.prog [] := trivial
@[reducible] def Scmp_isNaN_int : PkS := ⟨[.one (.int .i64)], []⟩
@[reducible] def Tcmp_isNaN_int : PkS := ⟨[.one (.bool), .one (.dead)], []⟩
def Hcmp_isNaN_int : List Sh := [.one .any, .skip]
def Kcmp_isNaN_int (g : ∀ {R : Type}, Nat → Int → (Bool → Option R) → Option R) (n : Nat) : KPs := fun R p k => match (PkS.un Scmp_isNaN_int p : Option (Int × Unit)) with
  | some (x0, _) => g n x0 (fun r0 => k (PkS.pack Tcmp_isNaN_int (r0, ())))
  | none => none
theorem ecmp_isNaN_int  {R : Type} (n : Nat) (x0 : Int) (k : Pk → Option R) : evF tt sig (mkK [] R) (mkL (mkK []) [] R) Try.f87 Hcmp_isNaN_int (PkS.pack Scmp_isNaN_int (x0, ())) k = (fun (k : Bool → Option R) => k (x0 != x0)) (fun r0 => k (PkS.pack Tcmp_isNaN_int (r0, ()))) := by kernel_rfl
theorem okcmp_isNaN_int (n : Nat) : FnOk Try.prog 87 (Kcmp_isNaN_int @cmp_isNaN_int n) := by
  refine fn_ok (sig := sig) mixed ttok (mkK_nat (ccmp_isNaN_int n)) (mkK_ok (ccmp_isNaN_int n)) (mkL_nat (mkK_nat (ccmp_isNaN_int n)) (l := []) trivial) (fn := Try.f87) (c := bodyOf Try.f87) (by kernel_rfl) (by kernel_rfl) (by kernel_rfl) (.eq (l := []) (by kernel_rfl) trivial) (shs := Hcmp_isNaN_int) (S := Scmp_isNaN_int) (h1 := by kernel_rfl) fun R p k => ?_
  unfold Kcmp_isNaN_int
  cases h : (PkS.un Scmp_isNaN_int p) with
  | none => rfl
  | some d =>
    obtain ⟨x0, u⟩ := (d : Int × Unit)
    have hp := PkS.un_pack h
    subst hp
    exact (ecmp_isNaN_int  n x0 k).symm

/-! ### cmp.Less[int] -/
theorem ccmp_Less_int (n : Nat) : AllOk Try.prog [(87, Kcmp_isNaN_int @cmp_isNaN_int n)] := ⟨okcmp_isNaN_int n, trivial⟩
@[reducible] def Scmp_Less_int : PkS := ⟨[.one (.int .i64), .one (.int .i64)], []⟩
@[reducible] def Tcmp_Less_int : PkS := ⟨[.one (.bool), .one (.dead), .one (.dead)], []⟩
def Hcmp_Less_int : List Sh := [.one .any, .skip, .skip]
def Kcmp_Less_int (g : ∀ {R : Type}, Nat → Int → Int → (Bool → Option R) → Option R) (n : Nat) : KPs := fun R p k => match (PkS.un Scmp_Less_int p : Option (Int × Int × Unit)) with
  | some (x0, x1, _) => g n x0 x1 (fun r0 => k (PkS.pack Tcmp_Less_int (r0, ())))
  | none => none
theorem ecmp_Less_int (cmp_isNaN_int : ∀ {R : Type}, Nat → Int → (Bool → Option R) → Option R) {R : Type} (n : Nat) (x0 : Int) (x1 : Int) (k : Pk → Option R) : evF tt sig (mkK [(87, Kcmp_isNaN_int @cmp_isNaN_int n)] R) (mkL (mkK [(87, Kcmp_isNaN_int @cmp_isNaN_int n)]) [] R) Try.f83 Hcmp_Less_int (PkS.pack Scmp_Less_int (x0, x1, ())) k = (fun (k : Bool → Option R) => (cmp_isNaN_int n x0 fun r1 => (bif r1 then (cmp_isNaN_int n x1 fun r2 => (bif (!r2) then k true else k (decide (x0 < x1)))) else k (decide (x0 < x1))))) (fun r0 => k (PkS.pack Tcmp_Less_int (r0, ()))) := by kernel_rfl
theorem okcmp_Less_int (n : Nat) : FnOk Try.prog 83 (Kcmp_Less_int @cmp_Less_int n) := by
  refine fn_ok (sig := sig) mixed ttok (mkK_nat (ccmp_Less_int n)) (mkK_ok (ccmp_Less_int n)) (mkL_nat (mkK_nat (ccmp_Less_int n)) (l := []) trivial) (fn := Try.f83) (c := bodyOf Try.f83) (by kernel_rfl) (by kernel_rfl) (by kernel_rfl) (.eq (l := []) (by kernel_rfl) trivial) (shs := Hcmp_Less_int) (S := Scmp_Less_int) (h1 := by kernel_rfl) fun R p k => ?_
  unfold Kcmp_Less_int
  cases h : (PkS.un Scmp_Less_int p) with
  | none => rfl
  | some d =>
    obtain ⟨x0, x1, u⟩ := (d : Int × Int × Unit)
    have hp := PkS.un_pack h
    subst hp
    exact (ecmp_Less_int @cmp_isNaN_int n x0 x1 k).symm

/-! ### slices.isNaN[int] -/
theorem cslices_isNaN_int (n : Nat) : AllOk Try.prog [] := trivial
@[reducible] def Sslices_isNaN_int : PkS := ⟨[.one (.int .i64)], []⟩
@[reducible] def Tslices_isNaN_int : PkS := ⟨[.one (.bool), .one (.dead)], []⟩
def Hslices_isNaN_int : List Sh := [.one .any, .skip]
def Kslices_isNaN_int (g : ∀ {R : Type}, Nat → Int → (Bool → Option R) → Option R) (n : Nat) : KPs := fun R p k => match (PkS.un Sslices_isNaN_int p : Option (Int × Unit)) with
  | some (x0, _) => g n x0 (fun r0 => k (PkS.pack Tslices_isNaN_int (r0, ())))
  | none => none
theorem eslices_isNaN_int  {R : Type} (n : Nat) (x0 : Int) (k : Pk → Option R) : evF tt sig (mkK [] R) (mkL (mkK []) [] R) Try.f84 Hslices_isNaN_int (PkS.pack Sslices_isNaN_int (x0, ())) k = (fun (k : Bool → Option R) => k (x0 != x0)) (fun r0 => k (PkS.pack Tslices_isNaN_int (r0, ()))) := by kernel_rfl
theorem okslices_isNaN_int (n : Nat) : FnOk Try.prog 84 (Kslices_isNaN_int @slices_isNaN_int n) := by
  refine fn_ok (sig := sig) mixed ttok (mkK_nat (cslices_isNaN_int n)) (mkK_ok (cslices_isNaN_int n)) (mkL_nat (mkK_nat (cslices_isNaN_int n)) (l := []) trivial) (fn := Try.f84) (c := bodyOf Try.f84) (by kernel_rfl) (by kernel_rfl) (by kernel_rfl) (.eq (l := []) (by kernel_rfl) trivial) (shs := Hslices_isNaN_int) (S := Sslices_isNaN_int) (h1 := by kernel_rfl) fun R p k => ?_
  unfold Kslices_isNaN_int
  cases h : (PkS.un Sslices_isNaN_int p) with
  | none => rfl
  | some d =>
    obtain ⟨x0, u⟩ := (d : Int × Unit)
    have hp := PkS.un_pack h
    subst hp
    exact (eslices_isNaN_int  n x0 k).symm

/-! ### slices.BinarySearch[[]int,int] -/
theorem cslices_BinarySearch_int (n : Nat) : AllOk Try.prog [(83, Kcmp_Less_int @cmp_Less_int n), (84, Kslices_isNaN_int @slices_isNaN_int n)] := ⟨okcmp_Less_int n, ⟨okslices_isNaN_int n, trivial⟩⟩
@[reducible] def Sslices_BinarySearch_int_l3 : PkS := ⟨[.one (.ro (.int .i64)), .one (.int .i64), .one (.int .i64), .one (.int .i64), .one (.int .i64), .one (.dead), .one (.dead)], []⟩
@[reducible] def Tslices_BinarySearch_int_l3_0 : PkS := ⟨[.one (.ro (.int .i64)), .one (.int .i64), .one (.int .i64), .one (.int .i64), .one (.dead), .one (.dead)], []⟩
def Dslices_BinarySearch_int_l3 : LoopD := ⟨54, [0, 1, 6, 7, 8], [.one (.ro (.int .i64)), .one .any, .one .any, .one .any, .one .any, .skip, .skip], fun x => match x with
  | .exit 0 => some ([0, 1, 6, 7], [.one (.ro (.int .i64)), .one .any, .one .any, .one .any, .skip, .skip])
  | _ => none⟩
def Pslices_BinarySearch_int_l3 (g : ∀ {R : Type}, Nat → (List Int) → Int → Int → Int → Int → ((List Int) → Int → Int → Int → Option R) → Option R) (n : Nat) : LPs := fun R q kk => match (PkS.un Sslices_BinarySearch_int_l3 q : Option ((List Int) × Int × Int × Int × Int × Unit)) with
  | some (y3_0, y3_1, y3_2, y3_3, y3_4, _) => g n y3_0 y3_1 y3_2 y3_3 y3_4 (fun r0 r1 r2 r3 => kk (.exit 0) (PkS.pack Tslices_BinarySearch_int_l3_0 (r0, r1, r2, r3, ())))
  | none => none
theorem eslices_BinarySearch_int_l3 (cmp_Less_int : ∀ {R : Type}, Nat → Int → Int → (Bool → Option R) → Option R) (slices_isNaN_int : ∀ {R : Type}, Nat → Int → (Bool → Option R) → Option R) (slices_BinarySearch_int_l3 : ∀ {R : Type}, Nat → (List Int) → Int → Int → Int → Int → ((List Int) → Int → Int → Int → Option R) → Option R) {R : Type} (n : Nat) (y3_0 : List Int) (y3_1 : Int) (y3_2 : Int) (y3_3 : Int) (y3_4 : Int) (kk : Ex → Pk → Option R) : Dslices_BinarySearch_int_l3.step tt sig (mkK [(83, Kcmp_Less_int @cmp_Less_int n), (84, Kslices_isNaN_int @slices_isNaN_int n)] R) (mkL (mkK [(83, Kcmp_Less_int @cmp_Less_int n), (84, Kslices_isNaN_int @slices_isNaN_int n)]) [] R) (loopIn 3 (bodyOf Try.f80)) (fun q' => Pslices_BinarySearch_int_l3 @slices_BinarySearch_int_l3 n R q' kk) (PkS.pack Sslices_BinarySearch_int_l3 (y3_0, y3_1, y3_2, y3_3, y3_4, ())) kk = (fun (kexit0 : (List Int) → Int → Int → Int → Option R) => (bif (decide (y3_3 < y3_4)) then (bif decide (0 ≤ (IntKind.wrap .i64 ((Int.fdiv (IntKind.wrap .u64 ((IntKind.wrap .i64 (y3_3 + y3_4)))) (2 ^ (min (Int.toNat 1) (IntKind.bits .u64))))))) then (bif decide ((IntKind.wrap .i64 ((Int.fdiv (IntKind.wrap .u64 ((IntKind.wrap .i64 (y3_3 + y3_4)))) (2 ^ (min (Int.toNat 1) (IntKind.bits .u64)))))) < (y3_0.length : Int)) then (cmp_Less_int n (y3_0.getD (Int.toNat (IntKind.wrap .i64 ((Int.fdiv (IntKind.wrap .u64 ((IntKind.wrap .i64 (y3_3 + y3_4)))) (2 ^ (min (Int.toNat 1) (IntKind.bits .u64))))))) 0) y3_1 fun r1 => (bif r1 then slices_BinarySearch_int_l3 n y3_0 y3_1 y3_2 (IntKind.wrap .i64 ((IntKind.wrap .i64 ((Int.fdiv (IntKind.wrap .u64 ((IntKind.wrap .i64 (y3_3 + y3_4)))) (2 ^ (min (Int.toNat 1) (IntKind.bits .u64)))))) + 1)) y3_4 kexit0 else slices_BinarySearch_int_l3 n y3_0 y3_1 y3_2 y3_3 (IntKind.wrap .i64 ((Int.fdiv (IntKind.wrap .u64 ((IntKind.wrap .i64 (y3_3 + y3_4)))) (2 ^ (min (Int.toNat 1) (IntKind.bits .u64)))))) kexit0)) else none) else none) else kexit0 y3_0 y3_1 y3_2 y3_3)) (fun r0 r1 r2 r3 => kk (.exit 0) (PkS.pack Tslices_BinarySearch_int_l3_0 (r0, r1, r2, r3, ()))) := by kernel_rfl
theorem leslices_BinarySearch_int_l3 : LoopEq tt sig (fun n => mkK [(83, Kcmp_Less_int @cmp_Less_int n), (84, Kslices_isNaN_int @slices_isNaN_int n)]) (fun n => mkL (mkK [(83, Kcmp_Less_int @cmp_Less_int n), (84, Kslices_isNaN_int @slices_isNaN_int n)]) []) Dslices_BinarySearch_int_l3 Sslices_BinarySearch_int_l3 (loopIn 3 (bodyOf Try.f80)) (Pslices_BinarySearch_int_l3 @slices_BinarySearch_int_l3) where
  zero R q kk := by unfold Pslices_BinarySearch_int_l3; cases (PkS.un Sslices_BinarySearch_int_l3 q) <;> rfl
  succ n R q kk := by
    unfold Pslices_BinarySearch_int_l3
    cases h : (PkS.un Sslices_BinarySearch_int_l3 q) with
    | none => rfl
    | some d =>
      obtain ⟨y3_0, y3_1, y3_2, y3_3, y3_4, u⟩ := (d : (List Int) × Int × Int × Int × Int × Unit)
      have hp := PkS.un_pack h
      subst hp
      exact (eslices_BinarySearch_int_l3 @cmp_Less_int @slices_isNaN_int @slices_BinarySearch_int_l3 n y3_0 y3_1 y3_2 y3_3 y3_4 kk).symm
theorem nlslices_BinarySearch_int_l3 : ∀ n, NatLP (Pslices_BinarySearch_int_l3 @slices_BinarySearch_int_l3 n) := leslices_BinarySearch_int_l3.nat (fun n => mkK_nat (cslices_BinarySearch_int n)) fun n => mkL_nat (mkK_nat (cslices_BinarySearch_int n)) (l := []) trivial
theorem inslices_BinarySearch_int_l3 (n : Nat) (R : Type) : LoopsOk Try.prog (mkL (mkK [(83, Kcmp_Less_int @cmp_Less_int n), (84, Kslices_isNaN_int @slices_isNaN_int n)]) [] R) (loopIn 3 (bodyOf Try.f80)) := .eq (l := []) (by kernel_rfl) trivial
theorem lkslices_BinarySearch_int_l3 (n : Nat) (R : Type) (L0 : LK R) (h0 : ∀ id, firstRegion (loopIn 3 (bodyOf Try.f80)) = some id → L0 id = Dslices_BinarySearch_int_l3.oracle (mkK [(83, Kcmp_Less_int @cmp_Less_int n), (84, Kslices_isNaN_int @slices_isNaN_int n)] R) (Pslices_BinarySearch_int_l3 @slices_BinarySearch_int_l3 n R)) : LoopOk Try.prog L0 (loopIn 3 (bodyOf Try.f80)) :=
  leslices_BinarySearch_int_l3.ok mixed ttok (fun n => mkK_nat (cslices_BinarySearch_int n)) (fun n => mkK_ok (cslices_BinarySearch_int n)) (fun n => inslices_BinarySearch_int_l3 n R) (mkK_nat (cslices_BinarySearch_int n)) h0
@[reducible] def Sslices_BinarySearch_int : PkS := ⟨[.one (.ro (.int .i64)), .one (.int .i64)], []⟩
@[reducible] def Tslices_BinarySearch_int : PkS := ⟨[.tup [(false, [.int .i64]), (false, [.bool])], .one (.dead), .one (.dead)], []⟩
def Hslices_BinarySearch_int : List Sh := [.tup [(false, [.any]), (false, [.any])], .skip, .skip]
def Kslices_BinarySearch_int (g : ∀ {R : Type}, Nat → (List Int) → Int → (Int → Bool → Option R) → Option R) (n : Nat) : KPs := fun R p k => match (PkS.un Sslices_BinarySearch_int p : Option ((List Int) × Int × Unit)) with
  | some (x0, x1, _) => g n x0 x1 (fun r0 r1 => k (PkS.pack Tslices_BinarySearch_int (r0, r1, ())))
  | none => none
theorem eslices_BinarySearch_int (cmp_Less_int : ∀ {R : Type}, Nat → Int → Int → (Bool → Option R) → Option R) (slices_isNaN_int : ∀ {R : Type}, Nat → Int → (Bool → Option R) → Option R) (slices_BinarySearch_int_l3 : ∀ {R : Type}, Nat → (List Int) → Int → Int → Int → Int → ((List Int) → Int → Int → Int → Option R) → Option R) {R : Type} (n : Nat) (x0 : List Int) (x1 : Int) (k : Pk → Option R) : evF tt sig (mkK [(83, Kcmp_Less_int @cmp_Less_int n), (84, Kslices_isNaN_int @slices_isNaN_int n)] R) (mkL (mkK [(83, Kcmp_Less_int @cmp_Less_int n), (84, Kslices_isNaN_int @slices_isNaN_int n)]) [(3, Dslices_BinarySearch_int_l3, Pslices_BinarySearch_int_l3 @slices_BinarySearch_int_l3 n)] R) Try.f80 Hslices_BinarySearch_int (PkS.pack Sslices_BinarySearch_int (x0, x1, ())) k = (fun (k : Int → Bool → Option R) => (slices_BinarySearch_int_l3 n x0 x1 (x0.length : Int) 0 (x0.length : Int) (fun r2 r3 r4 r5 => (bif (decide (r5 < r4)) then (bif decide (0 ≤ r5) then (bif decide (r5 < (r2.length : Int)) then (bif ((r2.getD (Int.toNat r5) 0) == r3) then k r5 true else (bif decide (0 ≤ r5) then (bif decide (r5 < (r2.length : Int)) then (slices_isNaN_int n (r2.getD (Int.toNat r5) 0) fun r6 => (bif r6 then (slices_isNaN_int n r3 fun r7 => k r5 r7) else k r5 false)) else none) else none)) else none) else none) else k r5 false)))) (fun r0 r1 => k (PkS.pack Tslices_BinarySearch_int (r0, r1, ()))) := by kernel_rfl
theorem okslices_BinarySearch_int (n : Nat) : FnOk Try.prog 80 (Kslices_BinarySearch_int @slices_BinarySearch_int n) := by
  refine fn_ok (sig := sig) mixed ttok (mkK_nat (cslices_BinarySearch_int n)) (mkK_ok (cslices_BinarySearch_int n)) (mkL_nat (mkK_nat (cslices_BinarySearch_int n)) (l := [(3, Dslices_BinarySearch_int_l3, Pslices_BinarySearch_int_l3 @slices_BinarySearch_int_l3 n)]) ⟨nlslices_BinarySearch_int_l3 n, trivial⟩) (fn := Try.f80) (c := bodyOf Try.f80) (by kernel_rfl) (by kernel_rfl) (by kernel_rfl) (.eq (l := [.lo (loopIn 3 (bodyOf Try.f80))]) (by kernel_rfl) ⟨(lkslices_BinarySearch_int_l3 n _ _ (at_id (i := 3) (by kernel_rfl) rfl)), trivial⟩) (shs := Hslices_BinarySearch_int) (S := Sslices_BinarySearch_int) (h1 := by kernel_rfl) fun R p k => ?_
  unfold Kslices_BinarySearch_int
  cases h : (PkS.un Sslices_BinarySearch_int p) with
  | none => rfl
  | some d =>
    obtain ⟨x0, x1, u⟩ := (d : (List Int) × Int × Unit)
    have hp := PkS.un_pack h
    subst hp
    exact (eslices_BinarySearch_int @cmp_Less_int @slices_isNaN_int @slices_BinarySearch_int_l3 n x0 x1 k).symm

/-! ### slices.Insert[[]int,int] -/
theorem cslices_Insert_int (n : Nat) : AllOk Try.prog [] := trivial
@[reducible] def Sslices_Insert_int : PkS := ⟨[.one (.whole (200000, 0)), .one (.int .i64), .one (.whole (200000, 1))], [((200000, 0), .arr (.int .i64)), ((200000, 1), .arr (.int .i64))]⟩
@[reducible] def Tslices_Insert_int : PkS := ⟨[.one (.whole (300000, 0)), .one (.dead), .one (.dead), .one (.dead)], [((300000, 0), .arr (.int .i64))]⟩
def Kslices_Insert_int (g : ∀ {R : Type}, Nat → Int → (List Int) → (List Int) → ((List Int) → Option R) → Option R) (n : Nat) : KPs := fun R p k => match (PkS.un Sslices_Insert_int p : Option (Int × (List Int) × (List Int) × Unit)) with
  | some (x0, x1, x2, _) => g n x0 x1 x2 (fun r0 => k (PkS.pack Tslices_Insert_int (r0, ())))
  | none => none
def ren21 : Go.Shelf.Ren := ⟨fun n => match n with
  | 21 => 81
  | 27 => 85
  | 28 => 86
  | 35 => 88
  | 39 => 60
  | _ => 0, fun n => match n with
  | 0 => 0
  | 3 => 3
  | 4 => 4
  | 22 => 29
  | _ => 0, fun x => x⟩
theorem lays21 : Go.Proofs.Lays2.n21 Try.prog ren21 where
  mixed := by kernel_rfl
  f21 := by kernel_rfl
  f27 := by kernel_rfl
  f28 := by kernel_rfl
  f35 := by kernel_rfl
  f39 := by kernel_rfl
  t0 := by kernel_rfl
  a0 w := by kernel_rfl
  z0 w := by kernel_rfl
  v0 w := by kernel_rfl
  t3 := by kernel_rfl
  a3 w := by kernel_rfl
  z3 w := by kernel_rfl
  v3 w := by kernel_rfl
  t4 := by kernel_rfl
  a4 w := by kernel_rfl
  z4 w := by kernel_rfl
  v4 w := by kernel_rfl
  t22 := by kernel_rfl
  a22 w := by kernel_rfl
  z22 w := by kernel_rfl
  v22 w := by kernel_rfl
  i3 := by kernel_rfl
theorem okslices_Insert_int (n : Nat) : FnOk Try.prog 81 (Kslices_Insert_int @slices_Insert_int n) := by
  have e : Kslices_Insert_int @slices_Insert_int n = insK := by kernel_rfl
  rw [e]
  exact insert_ok lays21 rfl (fn := Try.f81) (c := bodyOf Try.f81) (by kernel_rfl) (by kernel_rfl) (by kernel_rfl)

/-! ### loop.example/g00269/impl.with -/
theorem cimpl_with (n : Nat) : AllOk Try.prog [(80, Kslices_BinarySearch_int @slices_BinarySearch_int n), (71, Kslices_Clone_int @slices_Clone_int n), (81, Kslices_Insert_int @slices_Insert_int n)] := ⟨okslices_BinarySearch_int n, ⟨okslices_Clone_int n, ⟨okslices_Insert_int n, trivial⟩⟩⟩
@[reducible] def Simpl_with : PkS := ⟨[.one (.whole (200000, 0)), .one (.int .i64)], [((200000, 0), .arr (.int .i64))]⟩
@[reducible] def Timpl_with : PkS := ⟨[.one (.whole (300000, 0)), .one (.dead), .one (.dead)], [((300000, 0), .arr (.int .i64))]⟩
def Himpl_with : List Sh := [.one (.own (.int .i64)), .skip, .skip]
def Kimpl_with (g : ∀ {R : Type}, Nat → Int → (List Int) → ((List Int) → Option R) → Option R) (n : Nat) : KPs := fun R p k => match (PkS.un Simpl_with p : Option (Int × (List Int) × Unit)) with
  | some (x0, x1, _) => g n x0 x1 (fun r0 => k (PkS.pack Timpl_with (r0, ())))
  | none => none
theorem eimpl_with (slices_BinarySearch_int : ∀ {R : Type}, Nat → (List Int) → Int → (Int → Bool → Option R) → Option R) (slices_Clone_int : ∀ {R : Type}, Nat → (List Int) → ((List Int) → Option R) → Option R) (slices_Insert_int : ∀ {R : Type}, Nat → Int → (List Int) → (List Int) → ((List Int) → Option R) → Option R) {R : Type} (n : Nat) (x0 : Int) (x1 : List Int) (k : Pk → Option R) : evF tt sig (mkK [(80, Kslices_BinarySearch_int @slices_BinarySearch_int n), (71, Kslices_Clone_int @slices_Clone_int n), (81, Kslices_Insert_int @slices_Insert_int n)] R) (mkL (mkK [(80, Kslices_BinarySearch_int @slices_BinarySearch_int n), (71, Kslices_Clone_int @slices_Clone_int n), (81, Kslices_Insert_int @slices_Insert_int n)]) [] R) Try.f72 Himpl_with (PkS.pack Simpl_with (x0, x1, ())) k = (fun (k : (List Int) → Option R) => (slices_BinarySearch_int n x1 x0 fun r1 r2 => (bif r2 then k x1 else (slices_Clone_int n x1 fun r3 => (slices_Insert_int n r1 r3 [x0] fun r4 => k r4))))) (fun r0 => k (PkS.pack Timpl_with (r0, ()))) := by kernel_rfl
theorem okimpl_with (n : Nat) : FnOk Try.prog 72 (Kimpl_with @impl_with n) := by
  refine fn_ok (sig := sig) mixed ttok (mkK_nat (cimpl_with n)) (mkK_ok (cimpl_with n)) (mkL_nat (mkK_nat (cimpl_with n)) (l := []) trivial) (fn := Try.f72) (c := bodyOf Try.f72) (by kernel_rfl) (by kernel_rfl) (by kernel_rfl) (.eq (l := []) (by kernel_rfl) trivial) (shs := Himpl_with) (S := Simpl_with) (h1 := by kernel_rfl) fun R p k => ?_
  unfold Kimpl_with
  cases h : (PkS.un Simpl_with p) with
  | none => rfl
  | some d =>
    obtain ⟨x0, x1, u⟩ := (d : Int × (List Int) × Unit)
    have hp := PkS.un_pack h
    subst hp
    exact (eimpl_with @slices_BinarySearch_int @slices_Clone_int @slices_Insert_int n x0 x1 k).symm

/-! ### loop.example/g00269/impl.least$1 -/
theorem cimpl_least_c1 (n : Nat) : AllOk Try.prog [(53, Kslices_Contains_int @slices_Contains_int n), (72, Kimpl_with @impl_with n)] := ⟨okslices_Contains_int n, ⟨okimpl_with n, trivial⟩⟩
@[reducible] def Simpl_least_c1 : PkS := ⟨[.one (.int .i64), .one (.whole (200000, 0)), .one (.box (200000, 1) 0), .one (.box (200000, 4) 0)], [((200000, 0), .arr (.int .i64)), ((200000, 1), .box [.ro (.pr (.int .i64) (.sl (.int .i64)))]), ((200000, 2), .arr (.int .i64)), ((200000, 3), .arr (.int .i64)), ((200000, 4), .box [.whole (200000, 2), .int .i64, .whole (200000, 3)])]⟩
@[reducible] def Timpl_least_c1 : PkS := ⟨[.one (.whole (300000, 0)), .one (.dead), .one (.dead), .one (.box (300000, 1) 0), .one (.box (300000, 4) 0)], [((300000, 0), .arr (.int .i64)), ((300000, 1), .box [.ro (.pr (.int .i64) (.sl (.int .i64)))]), ((300000, 2), .arr (.int .i64)), ((300000, 3), .arr (.int .i64)), ((300000, 4), .box [.whole (300000, 2), .int .i64, .whole (300000, 3)])]⟩
def Himpl_least_c1 : List Sh := [.one (.own (.int .i64)), .skip, .skip, .box [(.ro (.pr (.int .i64) (.sl (.int .i64))))], .box [(.own (.int .i64)), .any, (.own (.int .i64))]]
def Kimpl_least_c1 (g : ∀ {R : Type}, Nat → Int → (List Int) → (List (Int × List Int)) → (List Int) → (List Int) → Int → ((List Int) → (List (Int × List Int)) → (List Int) → (List Int) → Int → Option R) → Option R) (n : Nat) : KPs := fun R p k => match (PkS.un Simpl_least_c1 p : Option (Int × (List Int) × (List (Int × List Int)) × (List Int) × (List Int) × Int × Unit)) with
  | some (x0, x1, x2, x3, x4, x5, _) => g n x0 x1 x2 x3 x4 x5 (fun r0 r1 r2 r3 r4 => k (PkS.pack Timpl_least_c1 (r0, r1, r2, r3, r4, ())))
  | none => none
theorem eimpl_least_c1 (slices_Contains_int : ∀ {R : Type}, Nat → (List Int) → Int → (Bool → Option R) → Option R) (impl_with : ∀ {R : Type}, Nat → Int → (List Int) → ((List Int) → Option R) → Option R) {R : Type} (n : Nat) (x0 : Int) (x1 : List Int) (x2 : List (Int × List Int)) (x3 : List Int) (x4 : List Int) (x5 : Int) (k : Pk → Option R) : evF tt sig (mkK [(53, Kslices_Contains_int @slices_Contains_int n), (72, Kimpl_with @impl_with n)] R) (mkL (mkK [(53, Kslices_Contains_int @slices_Contains_int n), (72, Kimpl_with @impl_with n)]) [] R) Try.f74 Himpl_least_c1 (PkS.pack Simpl_least_c1 (x0, x1, x2, x3, x4, x5, ())) k = (fun (k : (List Int) → (List (Int × List Int)) → (List Int) → (List Int) → Int → Option R) => (bif decide (0 ≤ x0) then (bif decide (x0 < (x2.length : Int)) then (slices_Contains_int n x3 ((x2.getD (Int.toNat x0) (0, [])).1) fun r1 => (bif r1 then k x1 x2 x3 x4 x5 else (impl_with n ((x2.getD (Int.toNat x0) (0, [])).1) x3 fun r2 => (bif decide (x4.length + [x0].length ≤ LIM) then (bif decide (x1.length + ([(x2.getD (Int.toNat x0) (0, [])).1]).length ≤ LIM) then k (x1 ++ [(x2.getD (Int.toNat x0) (0, [])).1]) x2 r2 (x4 ++ [x0]) x5 else none) else none)))) else none) else none)) (fun r0 r1 r2 r3 r4 => k (PkS.pack Timpl_least_c1 (r0, r1, r2, r3, r4, ()))) := by kernel_rfl
theorem okimpl_least_c1 (n : Nat) : FnOk Try.prog 74 (Kimpl_least_c1 @impl_least_c1 n) := by
  refine fn_ok (sig := sig) mixed ttok (mkK_nat (cimpl_least_c1 n)) (mkK_ok (cimpl_least_c1 n)) (mkL_nat (mkK_nat (cimpl_least_c1 n)) (l := []) trivial) (fn := Try.f74) (c := bodyOf Try.f74) (by kernel_rfl) (by kernel_rfl) (by kernel_rfl) (.eq (l := []) (by kernel_rfl) trivial) (shs := Himpl_least_c1) (S := Simpl_least_c1) (h1 := by kernel_rfl) fun R p k => ?_
  unfold Kimpl_least_c1
  cases h : (PkS.un Simpl_least_c1 p) with
  | none => rfl
  | some d =>
    obtain ⟨x0, x1, x2, x3, x4, x5, u⟩ := (d : Int × (List Int) × (List (Int × List Int)) × (List Int) × (List Int) × Int × Unit)
    have hp := PkS.un_pack h
    subst hp
    exact (eimpl_least_c1 @slices_Contains_int @impl_with n x0 x1 x2 x3 x4 x5 k).symm

/-! ### loop.example/g00269/impl.least -/
theorem cimpl_least (n : Nat) : AllOk Try.prog [(71, Kslices_Clone_int @slices_Clone_int n), (74, Kimpl_least_c1 @impl_least_c1 n), (53, Kslices_Contains_int @slices_Contains_int n)] := ⟨okslices_Clone_int n, ⟨okimpl_least_c1 n, ⟨okslices_Contains_int n, trivial⟩⟩⟩
@[reducible] def Simpl_least_l5 : PkS := ⟨[.one (.ro (.int .i64)), .one (.box (100000, 0) 0), .one (.box (100000, 3) 0), .one (.box (100000, 6) 0), .one (.whole (100000, 7)), .one (.fn 74 [((100000, 0), 0), ((100000, 6), 0)]), .one (.whole (100000, 8)), .one (.ro (.pr (.int .i64) (.sl (.int .i64)))), .one (.int .i64), .one (.int .i64), .one (.dead), .one (.dead)], [((100000, 0), .box [.ro (.pr (.int .i64) (.sl (.int .i64)))]), ((100000, 1), .arr (.int .i64)), ((100000, 2), .arr (.int .i64)), ((100000, 3), .box [.whole (100000, 1), .int .i64, .whole (100000, 2)]), ((100000, 4), .arr (.int .i64)), ((100000, 5), .arr (.int .i64)), ((100000, 6), .box [.whole (100000, 4), .int .i64, .whole (100000, 5)]), ((100000, 7), .arr (.int .i64)), ((100000, 8), .arr (.int .i64))]⟩
@[reducible] def Timpl_least_l5_0 : PkS := ⟨[.one (.ro (.int .i64)), .one (.box (100000, 0) 0), .one (.box (100000, 3) 0), .one (.box (100000, 6) 0), .one (.whole (100000, 7)), .one (.fn 74 [((100000, 0), 0), ((100000, 6), 0)]), .one (.whole (100000, 8)), .one (.dead), .one (.dead)], [((100000, 0), .box [.ro (.pr (.int .i64) (.sl (.int .i64)))]), ((100000, 1), .arr (.int .i64)), ((100000, 2), .arr (.int .i64)), ((100000, 3), .box [.whole (100000, 1), .int .i64, .whole (100000, 2)]), ((100000, 4), .arr (.int .i64)), ((100000, 5), .arr (.int .i64)), ((100000, 6), .box [.whole (100000, 4), .int .i64, .whole (100000, 5)]), ((100000, 7), .arr (.int .i64)), ((100000, 8), .arr (.int .i64))]⟩
def Dimpl_least_l5 : LoopD := ⟨109, [1, 2, 4, 5, 6, 7, 8, 22, 23, 24], [.one (.ro (.int .i64)), .box [(.ro (.pr (.int .i64) (.sl (.int .i64))))], .box [(.own (.int .i64)), .any, (.own (.int .i64))], .box [(.own (.int .i64)), .any, (.own (.int .i64))], .one (.own (.int .i64)), .fn 74 [[(.ro (.pr (.int .i64) (.sl (.int .i64))))], [(.own (.int .i64)), .any, (.own (.int .i64))]], .one (.own (.int .i64)), .one (.ro (.pr (.int .i64) (.sl (.int .i64)))), .one .any, .one .any, .skip, .skip], fun x => match x with
  | .exit 0 => some ([1, 2, 4, 5, 6, 7, 8], [.one (.ro (.int .i64)), .box [(.ro (.pr (.int .i64) (.sl (.int .i64))))], .box [(.own (.int .i64)), .any, (.own (.int .i64))], .box [(.own (.int .i64)), .any, (.own (.int .i64))], .one (.own (.int .i64)), .fn 74 [[(.ro (.pr (.int .i64) (.sl (.int .i64))))], [(.own (.int .i64)), .any, (.own (.int .i64))]], .one (.own (.int .i64)), .skip, .skip])
  | _ => none⟩
def Pimpl_least_l5 (g : ∀ {R : Type}, Nat → (List Int) → (List (Int × List Int)) → Int → Int → (List (Int × List Int)) → (List Int) → (List Int) → Int → (List Int) → (List Int) → Int → (List Int) → (List Int) → ((List Int) → (List (Int × List Int)) → (List Int) → (List Int) → Int → (List Int) → (List Int) → Int → (List Int) → (List Int) → Option R) → Option R) (n : Nat) : LPs := fun R q kk => match (PkS.un Simpl_least_l5 q : Option ((List Int) × (List (Int × List Int)) × Int × Int × (List (Int × List Int)) × (List Int) × (List Int) × Int × (List Int) × (List Int) × Int × (List Int) × (List Int) × Unit)) with
  | some (y5_0, y5_1, y5_2, y5_3, y5_4, y5_5, y5_6, y5_7, y5_8, y5_9, y5_10, y5_11, y5_12, _) => g n y5_0 y5_1 y5_2 y5_3 y5_4 y5_5 y5_6 y5_7 y5_8 y5_9 y5_10 y5_11 y5_12 (fun r0 r1 r2 r3 r4 r5 r6 r7 r8 r9 => kk (.exit 0) (PkS.pack Timpl_least_l5_0 (r0, r1, r2, r3, r4, r5, r6, r7, r8, r9, ())))
  | none => none
theorem eimpl_least_l5 (slices_Clone_int : ∀ {R : Type}, Nat → (List Int) → ((List Int) → Option R) → Option R) (impl_least_c1 : ∀ {R : Type}, Nat → Int → (List Int) → (List (Int × List Int)) → (List Int) → (List Int) → Int → ((List Int) → (List (Int × List Int)) → (List Int) → (List Int) → Int → Option R) → Option R) (slices_Contains_int : ∀ {R : Type}, Nat → (List Int) → Int → (Bool → Option R) → Option R) (impl_least_l5 : ∀ {R : Type}, Nat → (List Int) → (List (Int × List Int)) → Int → Int → (List (Int × List Int)) → (List Int) → (List Int) → Int → (List Int) → (List Int) → Int → (List Int) → (List Int) → ((List Int) → (List (Int × List Int)) → (List Int) → (List Int) → Int → (List Int) → (List Int) → Int → (List Int) → (List Int) → Option R) → Option R) {R : Type} (n : Nat) (y5_0 : List Int) (y5_1 : List (Int × List Int)) (y5_2 : Int) (y5_3 : Int) (y5_4 : List (Int × List Int)) (y5_5 : List Int) (y5_6 : List Int) (y5_7 : Int) (y5_8 : List Int) (y5_9 : List Int) (y5_10 : Int) (y5_11 : List Int) (y5_12 : List Int) (kk : Ex → Pk → Option R) : Dimpl_least_l5.step tt sig (mkK [(71, Kslices_Clone_int @slices_Clone_int n), (74, Kimpl_least_c1 @impl_least_c1 n), (53, Kslices_Contains_int @slices_Contains_int n)] R) (mkL (mkK [(71, Kslices_Clone_int @slices_Clone_int n), (74, Kimpl_least_c1 @impl_least_c1 n), (53, Kslices_Contains_int @slices_Contains_int n)]) [] R) (loopIn 5 (bodyOf Try.f57)) (fun q' => Pimpl_least_l5 @impl_least_l5 n R q' kk) (PkS.pack Simpl_least_l5 (y5_0, y5_1, y5_2, y5_3, y5_4, y5_5, y5_6, y5_7, y5_8, y5_9, y5_10, y5_11, y5_12, ())) kk = (fun (kexit0 : (List Int) → (List (Int × List Int)) → (List Int) → (List Int) → Int → (List Int) → (List Int) → Int → (List Int) → (List Int) → Option R) => (bif (decide (y5_3 < y5_2)) then (bif decide (0 ≤ y5_3) then (bif decide (y5_3 < (y5_1.length : Int)) then (bif decide (y5_11.length + ([(((y5_1.getD (Int.toNat y5_3) (0, [])).2).length : Int)]).length ≤ LIM) then (bif (decide ((((y5_1.getD (Int.toNat y5_3) (0, [])).2).length : Int) > 0)) then impl_least_l5 n y5_0 y5_1 y5_2 (IntKind.wrap .i64 (y5_3 + 1)) y5_4 y5_5 y5_6 y5_7 y5_8 y5_9 y5_10 (y5_11 ++ [(((y5_1.getD (Int.toNat y5_3) (0, [])).2).length : Int)]) y5_12 kexit0 else (impl_least_c1 n y5_3 ([] : List Int) y5_4 y5_8 y5_9 y5_10 fun r2 r3 r4 r5 r6 => (slices_Contains_int n y5_12 ((y5_1.getD (Int.toNat y5_3) (0, [])).1) fun r7 => (bif (!r7) then (bif decide (y5_12.length + ([(y5_1.getD (Int.toNat y5_3) (0, [])).1]).length ≤ LIM) then impl_least_l5 n y5_0 y5_1 y5_2 (IntKind.wrap .i64 (y5_3 + 1)) r3 y5_5 y5_6 y5_7 r4 r5 r6 (y5_11 ++ [(((y5_1.getD (Int.toNat y5_3) (0, [])).2).length : Int)]) (y5_12 ++ [(y5_1.getD (Int.toNat y5_3) (0, [])).1]) kexit0 else none) else impl_least_l5 n y5_0 y5_1 y5_2 (IntKind.wrap .i64 (y5_3 + 1)) r3 y5_5 y5_6 y5_7 r4 r5 r6 (y5_11 ++ [(((y5_1.getD (Int.toNat y5_3) (0, [])).2).length : Int)]) y5_12 kexit0)))) else none) else none) else none) else kexit0 y5_0 y5_4 y5_5 y5_6 y5_7 y5_8 y5_9 y5_10 y5_11 y5_12)) (fun r0 r1 r2 r3 r4 r5 r6 r7 r8 r9 => kk (.exit 0) (PkS.pack Timpl_least_l5_0 (r0, r1, r2, r3, r4, r5, r6, r7, r8, r9, ()))) := by kernel_rfl
theorem leimpl_least_l5 : LoopEq tt sig (fun n => mkK [(71, Kslices_Clone_int @slices_Clone_int n), (74, Kimpl_least_c1 @impl_least_c1 n), (53, Kslices_Contains_int @slices_Contains_int n)]) (fun n => mkL (mkK [(71, Kslices_Clone_int @slices_Clone_int n), (74, Kimpl_least_c1 @impl_least_c1 n), (53, Kslices_Contains_int @slices_Contains_int n)]) []) Dimpl_least_l5 Simpl_least_l5 (loopIn 5 (bodyOf Try.f57)) (Pimpl_least_l5 @impl_least_l5) where
  zero R q kk := by unfold Pimpl_least_l5; cases (PkS.un Simpl_least_l5 q) <;> rfl
  succ n R q kk := by
    unfold Pimpl_least_l5
    cases h : (PkS.un Simpl_least_l5 q) with
    | none => rfl
    | some d =>
      obtain ⟨y5_0, y5_1, y5_2, y5_3, y5_4, y5_5, y5_6, y5_7, y5_8, y5_9, y5_10, y5_11, y5_12, u⟩ := (d : (List Int) × (List (Int × List Int)) × Int × Int × (List (Int × List Int)) × (List Int) × (List Int) × Int × (List Int) × (List Int) × Int × (List Int) × (List Int) × Unit)
      have hp := PkS.un_pack h
      subst hp
      exact (eimpl_least_l5 @slices_Clone_int @impl_least_c1 @slices_Contains_int @impl_least_l5 n y5_0 y5_1 y5_2 y5_3 y5_4 y5_5 y5_6 y5_7 y5_8 y5_9 y5_10 y5_11 y5_12 kk).symm
theorem nlimpl_least_l5 : ∀ n, NatLP (Pimpl_least_l5 @impl_least_l5 n) := leimpl_least_l5.nat (fun n => mkK_nat (cimpl_least n)) fun n => mkL_nat (mkK_nat (cimpl_least n)) (l := []) trivial
theorem inimpl_least_l5 (n : Nat) (R : Type) : LoopsOk Try.prog (mkL (mkK [(71, Kslices_Clone_int @slices_Clone_int n), (74, Kimpl_least_c1 @impl_least_c1 n), (53, Kslices_Contains_int @slices_Contains_int n)]) [] R) (loopIn 5 (bodyOf Try.f57)) := .eq (l := []) (by kernel_rfl) trivial
theorem lkimpl_least_l5 (n : Nat) (R : Type) (L0 : LK R) (h0 : ∀ id, firstRegion (loopIn 5 (bodyOf Try.f57)) = some id → L0 id = Dimpl_least_l5.oracle (mkK [(71, Kslices_Clone_int @slices_Clone_int n), (74, Kimpl_least_c1 @impl_least_c1 n), (53, Kslices_Contains_int @slices_Contains_int n)] R) (Pimpl_least_l5 @impl_least_l5 n R)) : LoopOk Try.prog L0 (loopIn 5 (bodyOf Try.f57)) :=
  leimpl_least_l5.ok mixed ttok (fun n => mkK_nat (cimpl_least n)) (fun n => mkK_ok (cimpl_least n)) (fun n => inimpl_least_l5 n R) (mkK_nat (cimpl_least n)) h0
@[reducible] def Simpl_least_l14 : PkS := ⟨[.one (.box (100000, 0) 0), .one (.box (100000, 3) 0), .one (.box (100000, 6) 0), .one (.whole (100000, 7)), .one (.fn 74 [((100000, 0), 0), ((100000, 6), 0)]), .one (.whole (100000, 8)), .one (.ro (.int .i64)), .one (.int .i64), .one (.int .i64), .one (.dead), .one (.dead)], [((100000, 0), .box [.ro (.pr (.int .i64) (.sl (.int .i64)))]), ((100000, 1), .arr (.int .i64)), ((100000, 2), .arr (.int .i64)), ((100000, 3), .box [.whole (100000, 1), .int .i64, .whole (100000, 2)]), ((100000, 4), .arr (.int .i64)), ((100000, 5), .arr (.int .i64)), ((100000, 6), .box [.whole (100000, 4), .int .i64, .whole (100000, 5)]), ((100000, 7), .arr (.int .i64)), ((100000, 8), .arr (.int .i64))]⟩
@[reducible] def Timpl_least_l14_0 : PkS := ⟨[.one (.box (100000, 0) 0), .one (.box (100000, 3) 0), .one (.box (100000, 6) 0), .one (.whole (100000, 7)), .one (.fn 74 [((100000, 0), 0), ((100000, 6), 0)]), .one (.whole (100000, 8)), .one (.dead), .one (.dead)], [((100000, 0), .box [.ro (.pr (.int .i64) (.sl (.int .i64)))]), ((100000, 1), .arr (.int .i64)), ((100000, 2), .arr (.int .i64)), ((100000, 3), .box [.whole (100000, 1), .int .i64, .whole (100000, 2)]), ((100000, 4), .arr (.int .i64)), ((100000, 5), .arr (.int .i64)), ((100000, 6), .box [.whole (100000, 4), .int .i64, .whole (100000, 5)]), ((100000, 7), .arr (.int .i64)), ((100000, 8), .arr (.int .i64))]⟩
def Dimpl_least_l14 : LoopD := ⟨109, [2, 4, 5, 6, 7, 8, 53, 54, 55], [.box [(.ro (.pr (.int .i64) (.sl (.int .i64))))], .box [(.own (.int .i64)), .any, (.own (.int .i64))], .box [(.own (.int .i64)), .any, (.own (.int .i64))], .one (.own (.int .i64)), .fn 74 [[(.ro (.pr (.int .i64) (.sl (.int .i64))))], [(.own (.int .i64)), .any, (.own (.int .i64))]], .one (.own (.int .i64)), .one (.ro (.int .i64)), .one .any, .one .any, .skip, .skip], fun x => match x with
  | .exit 2 => some ([2, 4, 5, 6, 7, 8], [.box [(.ro (.pr (.int .i64) (.sl (.int .i64))))], .box [(.own (.int .i64)), .any, (.own (.int .i64))], .box [(.own (.int .i64)), .any, (.own (.int .i64))], .one (.own (.int .i64)), .fn 74 [[(.ro (.pr (.int .i64) (.sl (.int .i64))))], [(.own (.int .i64)), .any, (.own (.int .i64))]], .one (.own (.int .i64)), .skip, .skip])
  | _ => none⟩
def Pimpl_least_l14 (g : ∀ {R : Type}, Nat → (List Int) → Int → Int → (List (Int × List Int)) → (List Int) → (List Int) → Int → (List Int) → (List Int) → Int → (List Int) → (List Int) → ((List (Int × List Int)) → (List Int) → (List Int) → Int → (List Int) → (List Int) → Int → (List Int) → (List Int) → Option R) → Option R) (n : Nat) : LPs := fun R q kk => match (PkS.un Simpl_least_l14 q : Option ((List Int) × Int × Int × (List (Int × List Int)) × (List Int) × (List Int) × Int × (List Int) × (List Int) × Int × (List Int) × (List Int) × Unit)) with
  | some (y14_0, y14_1, y14_2, y14_3, y14_4, y14_5, y14_6, y14_7, y14_8, y14_9, y14_10, y14_11, _) => g n y14_0 y14_1 y14_2 y14_3 y14_4 y14_5 y14_6 y14_7 y14_8 y14_9 y14_10 y14_11 (fun r0 r1 r2 r3 r4 r5 r6 r7 r8 => kk (.exit 2) (PkS.pack Timpl_least_l14_0 (r0, r1, r2, r3, r4, r5, r6, r7, r8, ())))
  | none => none
theorem eimpl_least_l14 (slices_Clone_int : ∀ {R : Type}, Nat → (List Int) → ((List Int) → Option R) → Option R) (impl_least_c1 : ∀ {R : Type}, Nat → Int → (List Int) → (List (Int × List Int)) → (List Int) → (List Int) → Int → ((List Int) → (List (Int × List Int)) → (List Int) → (List Int) → Int → Option R) → Option R) (slices_Contains_int : ∀ {R : Type}, Nat → (List Int) → Int → (Bool → Option R) → Option R) (impl_least_l5 : ∀ {R : Type}, Nat → (List Int) → (List (Int × List Int)) → Int → Int → (List (Int × List Int)) → (List Int) → (List Int) → Int → (List Int) → (List Int) → Int → (List Int) → (List Int) → ((List Int) → (List (Int × List Int)) → (List Int) → (List Int) → Int → (List Int) → (List Int) → Int → (List Int) → (List Int) → Option R) → Option R) (impl_least_l14 : ∀ {R : Type}, Nat → (List Int) → Int → Int → (List (Int × List Int)) → (List Int) → (List Int) → Int → (List Int) → (List Int) → Int → (List Int) → (List Int) → ((List (Int × List Int)) → (List Int) → (List Int) → Int → (List Int) → (List Int) → Int → (List Int) → (List Int) → Option R) → Option R) {R : Type} (n : Nat) (y14_0 : List Int) (y14_1 : Int) (y14_2 : Int) (y14_3 : List (Int × List Int)) (y14_4 : List Int) (y14_5 : List Int) (y14_6 : Int) (y14_7 : List Int) (y14_8 : List Int) (y14_9 : Int) (y14_10 : List Int) (y14_11 : List Int) (kk : Ex → Pk → Option R) : Dimpl_least_l14.step tt sig (mkK [(71, Kslices_Clone_int @slices_Clone_int n), (74, Kimpl_least_c1 @impl_least_c1 n), (53, Kslices_Contains_int @slices_Contains_int n)] R) (mkL (mkK [(71, Kslices_Clone_int @slices_Clone_int n), (74, Kimpl_least_c1 @impl_least_c1 n), (53, Kslices_Contains_int @slices_Contains_int n)]) [(5, Dimpl_least_l5, Pimpl_least_l5 @impl_least_l5 n)] R) (loopIn 14 (bodyOf Try.f57)) (fun q' => Pimpl_least_l14 @impl_least_l14 n R q' kk) (PkS.pack Simpl_least_l14 (y14_0, y14_1, y14_2, y14_3, y14_4, y14_5, y14_6, y14_7, y14_8, y14_9, y14_10, y14_11, ())) kk = (fun (kexit2 : (List (Int × List Int)) → (List Int) → (List Int) → Int → (List Int) → (List Int) → Int → (List Int) → (List Int) → Option R) => (bif (decide (y14_2 < y14_1)) then (bif decide (0 ≤ y14_2) then (bif decide (y14_2 < (y14_0.length : Int)) then (slices_Contains_int n y14_11 (y14_0.getD (Int.toNat y14_2) 0) fun r18 => (bif (!r18) then (bif decide (y14_11.length + ([(y14_0.getD (Int.toNat y14_2) 0)]).length ≤ LIM) then impl_least_l14 n y14_0 y14_1 (IntKind.wrap .i64 (y14_2 + 1)) y14_3 y14_4 y14_5 y14_6 y14_7 y14_8 y14_9 y14_10 (y14_11 ++ [(y14_0.getD (Int.toNat y14_2) 0)]) kexit2 else none) else impl_least_l14 n y14_0 y14_1 (IntKind.wrap .i64 (y14_2 + 1)) y14_3 y14_4 y14_5 y14_6 y14_7 y14_8 y14_9 y14_10 y14_11 kexit2)) else none) else none) else kexit2 y14_3 y14_4 y14_5 y14_6 y14_7 y14_8 y14_9 y14_10 y14_11)) (fun r0 r1 r2 r3 r4 r5 r6 r7 r8 => kk (.exit 2) (PkS.pack Timpl_least_l14_0 (r0, r1, r2, r3, r4, r5, r6, r7, r8, ()))) := by kernel_rfl
theorem leimpl_least_l14 : LoopEq tt sig (fun n => mkK [(71, Kslices_Clone_int @slices_Clone_int n), (74, Kimpl_least_c1 @impl_least_c1 n), (53, Kslices_Contains_int @slices_Contains_int n)]) (fun n => mkL (mkK [(71, Kslices_Clone_int @slices_Clone_int n), (74, Kimpl_least_c1 @impl_least_c1 n), (53, Kslices_Contains_int @slices_Contains_int n)]) [(5, Dimpl_least_l5, Pimpl_least_l5 @impl_least_l5 n)]) Dimpl_least_l14 Simpl_least_l14 (loopIn 14 (bodyOf Try.f57)) (Pimpl_least_l14 @impl_least_l14) where
  zero R q kk := by unfold Pimpl_least_l14; cases (PkS.un Simpl_least_l14 q) <;> rfl
  succ n R q kk := by
    unfold Pimpl_least_l14
    cases h : (PkS.un Simpl_least_l14 q) with
    | none => rfl
    | some d =>
      obtain ⟨y14_0, y14_1, y14_2, y14_3, y14_4, y14_5, y14_6, y14_7, y14_8, y14_9, y14_10, y14_11, u⟩ := (d : (List Int) × Int × Int × (List (Int × List Int)) × (List Int) × (List Int) × Int × (List Int) × (List Int) × Int × (List Int) × (List Int) × Unit)
      have hp := PkS.un_pack h
      subst hp
      exact (eimpl_least_l14 @slices_Clone_int @impl_least_c1 @slices_Contains_int @impl_least_l5 @impl_least_l14 n y14_0 y14_1 y14_2 y14_3 y14_4 y14_5 y14_6 y14_7 y14_8 y14_9 y14_10 y14_11 kk).symm
theorem nlimpl_least_l14 : ∀ n, NatLP (Pimpl_least_l14 @impl_least_l14 n) := leimpl_least_l14.nat (fun n => mkK_nat (cimpl_least n)) fun n => mkL_nat (mkK_nat (cimpl_least n)) (l := [(5, Dimpl_least_l5, Pimpl_least_l5 @impl_least_l5 n)]) ⟨nlimpl_least_l5 n, trivial⟩
theorem inimpl_least_l14 (n : Nat) (R : Type) : LoopsOk Try.prog (mkL (mkK [(71, Kslices_Clone_int @slices_Clone_int n), (74, Kimpl_least_c1 @impl_least_c1 n), (53, Kslices_Contains_int @slices_Contains_int n)]) [(5, Dimpl_least_l5, Pimpl_least_l5 @impl_least_l5 n)] R) (loopIn 14 (bodyOf Try.f57)) := .eq (l := []) (by kernel_rfl) trivial
theorem lkimpl_least_l14 (n : Nat) (R : Type) (L0 : LK R) (h0 : ∀ id, firstRegion (loopIn 14 (bodyOf Try.f57)) = some id → L0 id = Dimpl_least_l14.oracle (mkK [(71, Kslices_Clone_int @slices_Clone_int n), (74, Kimpl_least_c1 @impl_least_c1 n), (53, Kslices_Contains_int @slices_Contains_int n)] R) (Pimpl_least_l14 @impl_least_l14 n R)) : LoopOk Try.prog L0 (loopIn 14 (bodyOf Try.f57)) :=
  leimpl_least_l14.ok mixed ttok (fun n => mkK_nat (cimpl_least n)) (fun n => mkK_ok (cimpl_least n)) (fun n => inimpl_least_l14 n R) (mkK_nat (cimpl_least n)) h0
@[reducible] def Simpl_least_l23 : PkS := ⟨[.one (.box (100000, 0) 0), .one (.box (100000, 3) 0), .one (.box (100000, 6) 0), .one (.whole (100000, 7)), .one (.fn 74 [((100000, 0), 0), ((100000, 6), 0)]), .one (.whole (100000, 8)), .one (.int .i64), .one (.ro (.pr (.int .i64) (.sl (.int .i64)))), .one (.int .i64), .one (.int .i64), .one (.dead), .one (.dead)], [((100000, 0), .box [.ro (.pr (.int .i64) (.sl (.int .i64)))]), ((100000, 1), .arr (.int .i64)), ((100000, 2), .arr (.int .i64)), ((100000, 3), .box [.whole (100000, 1), .int .i64, .whole (100000, 2)]), ((100000, 4), .arr (.int .i64)), ((100000, 5), .arr (.int .i64)), ((100000, 6), .box [.whole (100000, 4), .int .i64, .whole (100000, 5)]), ((100000, 7), .arr (.int .i64)), ((100000, 8), .arr (.int .i64))]⟩
@[reducible] def Timpl_least_l23_0 : PkS := ⟨[.one (.box (100000, 0) 0), .one (.box (100000, 3) 0), .one (.box (100000, 6) 0), .one (.whole (100000, 7)), .one (.fn 74 [((100000, 0), 0), ((100000, 6), 0)]), .one (.whole (100000, 8)), .one (.dead), .one (.dead)], [((100000, 0), .box [.ro (.pr (.int .i64) (.sl (.int .i64)))]), ((100000, 1), .arr (.int .i64)), ((100000, 2), .arr (.int .i64)), ((100000, 3), .box [.whole (100000, 1), .int .i64, .whole (100000, 2)]), ((100000, 4), .arr (.int .i64)), ((100000, 5), .arr (.int .i64)), ((100000, 6), .box [.whole (100000, 4), .int .i64, .whole (100000, 5)]), ((100000, 7), .arr (.int .i64)), ((100000, 8), .arr (.int .i64))]⟩
def Dimpl_least_l23 : LoopD := ⟨109, [2, 4, 5, 6, 7, 8, 13, 76, 77, 78], [.box [(.ro (.pr (.int .i64) (.sl (.int .i64))))], .box [(.own (.int .i64)), .any, (.own (.int .i64))], .box [(.own (.int .i64)), .any, (.own (.int .i64))], .one (.own (.int .i64)), .fn 74 [[(.ro (.pr (.int .i64) (.sl (.int .i64))))], [(.own (.int .i64)), .any, (.own (.int .i64))]], .one (.own (.int .i64)), .one .any, .one (.ro (.pr (.int .i64) (.sl (.int .i64)))), .one .any, .one .any, .skip, .skip], fun x => match x with
  | .exit 6 => some ([2, 4, 5, 6, 7, 8], [.box [(.ro (.pr (.int .i64) (.sl (.int .i64))))], .box [(.own (.int .i64)), .any, (.own (.int .i64))], .box [(.own (.int .i64)), .any, (.own (.int .i64))], .one (.own (.int .i64)), .fn 74 [[(.ro (.pr (.int .i64) (.sl (.int .i64))))], [(.own (.int .i64)), .any, (.own (.int .i64))]], .one (.own (.int .i64)), .skip, .skip])
  | _ => none⟩
def Pimpl_least_l23 (g : ∀ {R : Type}, Nat → Int → (List (Int × List Int)) → Int → Int → (List (Int × List Int)) → (List Int) → (List Int) → Int → (List Int) → (List Int) → Int → (List Int) → (List Int) → ((List (Int × List Int)) → (List Int) → (List Int) → Int → (List Int) → (List Int) → Int → (List Int) → (List Int) → Option R) → Option R) (n : Nat) : LPs := fun R q kk => match (PkS.un Simpl_least_l23 q : Option (Int × (List (Int × List Int)) × Int × Int × (List (Int × List Int)) × (List Int) × (List Int) × Int × (List Int) × (List Int) × Int × (List Int) × (List Int) × Unit)) with
  | some (y23_0, y23_1, y23_2, y23_3, y23_4, y23_5, y23_6, y23_7, y23_8, y23_9, y23_10, y23_11, y23_12, _) => g n y23_0 y23_1 y23_2 y23_3 y23_4 y23_5 y23_6 y23_7 y23_8 y23_9 y23_10 y23_11 y23_12 (fun r0 r1 r2 r3 r4 r5 r6 r7 r8 => kk (.exit 6) (PkS.pack Timpl_least_l23_0 (r0, r1, r2, r3, r4, r5, r6, r7, r8, ())))
  | none => none
theorem eimpl_least_l23 (slices_Clone_int : ∀ {R : Type}, Nat → (List Int) → ((List Int) → Option R) → Option R) (impl_least_c1 : ∀ {R : Type}, Nat → Int → (List Int) → (List (Int × List Int)) → (List Int) → (List Int) → Int → ((List Int) → (List (Int × List Int)) → (List Int) → (List Int) → Int → Option R) → Option R) (slices_Contains_int : ∀ {R : Type}, Nat → (List Int) → Int → (Bool → Option R) → Option R) (impl_least_l5 : ∀ {R : Type}, Nat → (List Int) → (List (Int × List Int)) → Int → Int → (List (Int × List Int)) → (List Int) → (List Int) → Int → (List Int) → (List Int) → Int → (List Int) → (List Int) → ((List Int) → (List (Int × List Int)) → (List Int) → (List Int) → Int → (List Int) → (List Int) → Int → (List Int) → (List Int) → Option R) → Option R) (impl_least_l14 : ∀ {R : Type}, Nat → (List Int) → Int → Int → (List (Int × List Int)) → (List Int) → (List Int) → Int → (List Int) → (List Int) → Int → (List Int) → (List Int) → ((List (Int × List Int)) → (List Int) → (List Int) → Int → (List Int) → (List Int) → Int → (List Int) → (List Int) → Option R) → Option R) (impl_least_l23 : ∀ {R : Type}, Nat → Int → (List (Int × List Int)) → Int → Int → (List (Int × List Int)) → (List Int) → (List Int) → Int → (List Int) → (List Int) → Int → (List Int) → (List Int) → ((List (Int × List Int)) → (List Int) → (List Int) → Int → (List Int) → (List Int) → Int → (List Int) → (List Int) → Option R) → Option R) {R : Type} (n : Nat) (y23_0 : Int) (y23_1 : List (Int × List Int)) (y23_2 : Int) (y23_3 : Int) (y23_4 : List (Int × List Int)) (y23_5 : List Int) (y23_6 : List Int) (y23_7 : Int) (y23_8 : List Int) (y23_9 : List Int) (y23_10 : Int) (y23_11 : List Int) (y23_12 : List Int) (kk : Ex → Pk → Option R) : Dimpl_least_l23.step tt sig (mkK [(71, Kslices_Clone_int @slices_Clone_int n), (74, Kimpl_least_c1 @impl_least_c1 n), (53, Kslices_Contains_int @slices_Contains_int n)] R) (mkL (mkK [(71, Kslices_Clone_int @slices_Clone_int n), (74, Kimpl_least_c1 @impl_least_c1 n), (53, Kslices_Contains_int @slices_Contains_int n)]) [(5, Dimpl_least_l5, Pimpl_least_l5 @impl_least_l5 n), (14, Dimpl_least_l14, Pimpl_least_l14 @impl_least_l14 n)] R) (loopIn 23 (bodyOf Try.f57)) (fun q' => Pimpl_least_l23 @impl_least_l23 n R q' kk) (PkS.pack Simpl_least_l23 (y23_0, y23_1, y23_2, y23_3, y23_4, y23_5, y23_6, y23_7, y23_8, y23_9, y23_10, y23_11, y23_12, ())) kk = (fun (kexit6 : (List (Int × List Int)) → (List Int) → (List Int) → Int → (List Int) → (List Int) → Int → (List Int) → (List Int) → Option R) => (bif (decide (y23_3 < y23_2)) then (bif decide (0 ≤ y23_3) then (bif decide (y23_3 < (y23_1.length : Int)) then (slices_Contains_int n ((y23_1.getD (Int.toNat y23_3) (0, [])).2) y23_0 fun r28 => (bif (!r28) then impl_least_l23 n y23_0 y23_1 y23_2 (IntKind.wrap .i64 (y23_3 + 1)) y23_4 y23_5 y23_6 y23_7 y23_8 y23_9 y23_10 y23_11 y23_12 kexit6 else (bif decide (0 ≤ y23_3) then (bif decide (y23_3 < (y23_11.length : Int)) then (bif decide (0 ≤ y23_3) then (bif decide (y23_3 < (y23_11.length : Int)) then (bif decide (0 ≤ y23_3) then (bif decide (y23_3 < ((y23_11.set (Int.toNat y23_3) (IntKind.wrap .i64 ((y23_11.getD (Int.toNat y23_3) 0) - 1))).length : Int)) then (bif (((y23_11.set (Int.toNat y23_3) (IntKind.wrap .i64 ((y23_11.getD (Int.toNat y23_3) 0) - 1))).getD (Int.toNat y23_3) 0) == 0) then (impl_least_c1 n y23_3 y23_12 y23_4 y23_8 y23_9 (IntKind.wrap .i64 (y23_10 + 1)) fun r29 r30 r31 r32 r33 => impl_least_l23 n y23_0 y23_1 y23_2 (IntKind.wrap .i64 (y23_3 + 1)) r30 y23_5 y23_6 y23_7 r31 r32 r33 (y23_11.set (Int.toNat y23_3) (IntKind.wrap .i64 ((y23_11.getD (Int.toNat y23_3) 0) - 1))) r29 kexit6) else impl_least_l23 n y23_0 y23_1 y23_2 (IntKind.wrap .i64 (y23_3 + 1)) y23_4 y23_5 y23_6 y23_7 y23_8 y23_9 (IntKind.wrap .i64 (y23_10 + 1)) (y23_11.set (Int.toNat y23_3) (IntKind.wrap .i64 ((y23_11.getD (Int.toNat y23_3) 0) - 1))) y23_12 kexit6) else none) else none) else none) else none) else none) else none))) else none) else none) else kexit6 y23_4 y23_5 y23_6 y23_7 y23_8 y23_9 y23_10 y23_11 y23_12)) (fun r0 r1 r2 r3 r4 r5 r6 r7 r8 => kk (.exit 6) (PkS.pack Timpl_least_l23_0 (r0, r1, r2, r3, r4, r5, r6, r7, r8, ()))) := by kernel_rfl
theorem leimpl_least_l23 : LoopEq tt sig (fun n => mkK [(71, Kslices_Clone_int @slices_Clone_int n), (74, Kimpl_least_c1 @impl_least_c1 n), (53, Kslices_Contains_int @slices_Contains_int n)]) (fun n => mkL (mkK [(71, Kslices_Clone_int @slices_Clone_int n), (74, Kimpl_least_c1 @impl_least_c1 n), (53, Kslices_Contains_int @slices_Contains_int n)]) [(5, Dimpl_least_l5, Pimpl_least_l5 @impl_least_l5 n), (14, Dimpl_least_l14, Pimpl_least_l14 @impl_least_l14 n)]) Dimpl_least_l23 Simpl_least_l23 (loopIn 23 (bodyOf Try.f57)) (Pimpl_least_l23 @impl_least_l23) where
  zero R q kk := by unfold Pimpl_least_l23; cases (PkS.un Simpl_least_l23 q) <;> rfl
  succ n R q kk := by
    unfold Pimpl_least_l23
    cases h : (PkS.un Simpl_least_l23 q) with
    | none => rfl
    | some d =>
      obtain ⟨y23_0, y23_1, y23_2, y23_3, y23_4, y23_5, y23_6, y23_7, y23_8, y23_9, y23_10, y23_11, y23_12, u⟩ := (d : Int × (List (Int × List Int)) × Int × Int × (List (Int × List Int)) × (List Int) × (List Int) × Int × (List Int) × (List Int) × Int × (List Int) × (List Int) × Unit)
      have hp := PkS.un_pack h
      subst hp
      exact (eimpl_least_l23 @slices_Clone_int @impl_least_c1 @slices_Contains_int @impl_least_l5 @impl_least_l14 @impl_least_l23 n y23_0 y23_1 y23_2 y23_3 y23_4 y23_5 y23_6 y23_7 y23_8 y23_9 y23_10 y23_11 y23_12 kk).symm
theorem nlimpl_least_l23 : ∀ n, NatLP (Pimpl_least_l23 @impl_least_l23 n) := leimpl_least_l23.nat (fun n => mkK_nat (cimpl_least n)) fun n => mkL_nat (mkK_nat (cimpl_least n)) (l := [(5, Dimpl_least_l5, Pimpl_least_l5 @impl_least_l5 n), (14, Dimpl_least_l14, Pimpl_least_l14 @impl_least_l14 n)]) ⟨nlimpl_least_l5 n, ⟨nlimpl_least_l14 n, trivial⟩⟩
theorem inimpl_least_l23 (n : Nat) (R : Type) : LoopsOk Try.prog (mkL (mkK [(71, Kslices_Clone_int @slices_Clone_int n), (74, Kimpl_least_c1 @impl_least_c1 n), (53, Kslices_Contains_int @slices_Contains_int n)]) [(5, Dimpl_least_l5, Pimpl_least_l5 @impl_least_l5 n), (14, Dimpl_least_l14, Pimpl_least_l14 @impl_least_l14 n)] R) (loopIn 23 (bodyOf Try.f57)) := .eq (l := []) (by kernel_rfl) trivial
theorem lkimpl_least_l23 (n : Nat) (R : Type) (L0 : LK R) (h0 : ∀ id, firstRegion (loopIn 23 (bodyOf Try.f57)) = some id → L0 id = Dimpl_least_l23.oracle (mkK [(71, Kslices_Clone_int @slices_Clone_int n), (74, Kimpl_least_c1 @impl_least_c1 n), (53, Kslices_Contains_int @slices_Contains_int n)] R) (Pimpl_least_l23 @impl_least_l23 n R)) : LoopOk Try.prog L0 (loopIn 23 (bodyOf Try.f57)) :=
  leimpl_least_l23.ok mixed ttok (fun n => mkK_nat (cimpl_least n)) (fun n => mkK_ok (cimpl_least n)) (fun n => inimpl_least_l23 n R) (mkK_nat (cimpl_least n)) h0
@[reducible] def Simpl_least_l19 : PkS := ⟨[.one (.box (100000, 0) 0), .one (.box (100000, 3) 0), .one (.box (100000, 6) 0), .one (.whole (100000, 7)), .one (.fn 74 [((100000, 0), 0), ((100000, 6), 0)]), .one (.whole (100000, 8)), .one (.dead), .one (.dead)], [((100000, 0), .box [.ro (.pr (.int .i64) (.sl (.int .i64)))]), ((100000, 1), .arr (.int .i64)), ((100000, 2), .arr (.int .i64)), ((100000, 3), .box [.whole (100000, 1), .int .i64, .whole (100000, 2)]), ((100000, 4), .arr (.int .i64)), ((100000, 5), .arr (.int .i64)), ((100000, 6), .box [.whole (100000, 4), .int .i64, .whole (100000, 5)]), ((100000, 7), .arr (.int .i64)), ((100000, 8), .arr (.int .i64))]⟩
@[reducible] def Timpl_least_l19_0 : PkS := ⟨[.one (.box (100000, 2) 0), .one (.box (100000, 5) 0), .one (.dead), .one (.dead)], [((100000, 0), .arr (.int .i64)), ((100000, 1), .arr (.int .i64)), ((100000, 2), .box [.whole (100000, 0), .int .i64, .whole (100000, 1)]), ((100000, 3), .arr (.int .i64)), ((100000, 4), .arr (.int .i64)), ((100000, 5), .box [.whole (100000, 3), .int .i64, .whole (100000, 4)])]⟩
def Dimpl_least_l19 : LoopD := ⟨109, [2, 4, 5, 6, 7, 8], [.box [(.ro (.pr (.int .i64) (.sl (.int .i64))))], .box [(.own (.int .i64)), .any, (.own (.int .i64))], .box [(.own (.int .i64)), .any, (.own (.int .i64))], .one (.own (.int .i64)), .fn 74 [[(.ro (.pr (.int .i64) (.sl (.int .i64))))], [(.own (.int .i64)), .any, (.own (.int .i64))]], .one (.own (.int .i64)), .skip, .skip], fun x => match x with
  | .exit 4 => some ([4, 5], [.box [(.own (.int .i64)), .any, (.own (.int .i64))], .box [(.own (.int .i64)), .any, (.own (.int .i64))], .skip, .skip])
  | _ => none⟩
def Pimpl_least_l19 (g : ∀ {R : Type}, Nat → (List (Int × List Int)) → (List Int) → (List Int) → Int → (List Int) → (List Int) → Int → (List Int) → (List Int) → ((List Int) → (List Int) → Int → (List Int) → (List Int) → Int → Option R) → Option R) (n : Nat) : LPs := fun R q kk => match (PkS.un Simpl_least_l19 q : Option ((List (Int × List Int)) × (List Int) × (List Int) × Int × (List Int) × (List Int) × Int × (List Int) × (List Int) × Unit)) with
  | some (y19_0, y19_1, y19_2, y19_3, y19_4, y19_5, y19_6, y19_7, y19_8, _) => g n y19_0 y19_1 y19_2 y19_3 y19_4 y19_5 y19_6 y19_7 y19_8 (fun r0 r1 r2 r3 r4 r5 => kk (.exit 4) (PkS.pack Timpl_least_l19_0 (r0, r1, r2, r3, r4, r5, ())))
  | none => none
theorem eimpl_least_l19 (slices_Clone_int : ∀ {R : Type}, Nat → (List Int) → ((List Int) → Option R) → Option R) (impl_least_c1 : ∀ {R : Type}, Nat → Int → (List Int) → (List (Int × List Int)) → (List Int) → (List Int) → Int → ((List Int) → (List (Int × List Int)) → (List Int) → (List Int) → Int → Option R) → Option R) (slices_Contains_int : ∀ {R : Type}, Nat → (List Int) → Int → (Bool → Option R) → Option R) (impl_least_l5 : ∀ {R : Type}, Nat → (List Int) → (List (Int × List Int)) → Int → Int → (List (Int × List Int)) → (List Int) → (List Int) → Int → (List Int) → (List Int) → Int → (List Int) → (List Int) → ((List Int) → (List (Int × List Int)) → (List Int) → (List Int) → Int → (List Int) → (List Int) → Int → (List Int) → (List Int) → Option R) → Option R) (impl_least_l14 : ∀ {R : Type}, Nat → (List Int) → Int → Int → (List (Int × List Int)) → (List Int) → (List Int) → Int → (List Int) → (List Int) → Int → (List Int) → (List Int) → ((List (Int × List Int)) → (List Int) → (List Int) → Int → (List Int) → (List Int) → Int → (List Int) → (List Int) → Option R) → Option R) (impl_least_l23 : ∀ {R : Type}, Nat → Int → (List (Int × List Int)) → Int → Int → (List (Int × List Int)) → (List Int) → (List Int) → Int → (List Int) → (List Int) → Int → (List Int) → (List Int) → ((List (Int × List Int)) → (List Int) → (List Int) → Int → (List Int) → (List Int) → Int → (List Int) → (List Int) → Option R) → Option R) (impl_least_l19 : ∀ {R : Type}, Nat → (List (Int × List Int)) → (List Int) → (List Int) → Int → (List Int) → (List Int) → Int → (List Int) → (List Int) → ((List Int) → (List Int) → Int → (List Int) → (List Int) → Int → Option R) → Option R) {R : Type} (n : Nat) (y19_0 : List (Int × List Int)) (y19_1 : List Int) (y19_2 : List Int) (y19_3 : Int) (y19_4 : List Int) (y19_5 : List Int) (y19_6 : Int) (y19_7 : List Int) (y19_8 : List Int) (kk : Ex → Pk → Option R) : Dimpl_least_l19.step tt sig (mkK [(71, Kslices_Clone_int @slices_Clone_int n), (74, Kimpl_least_c1 @impl_least_c1 n), (53, Kslices_Contains_int @slices_Contains_int n)] R) (mkL (mkK [(71, Kslices_Clone_int @slices_Clone_int n), (74, Kimpl_least_c1 @impl_least_c1 n), (53, Kslices_Contains_int @slices_Contains_int n)]) [(5, Dimpl_least_l5, Pimpl_least_l5 @impl_least_l5 n), (14, Dimpl_least_l14, Pimpl_least_l14 @impl_least_l14 n), (23, Dimpl_least_l23, Pimpl_least_l23 @impl_least_l23 n)] R) (loopIn 19 (bodyOf Try.f57)) (fun q' => Pimpl_least_l19 @impl_least_l19 n R q' kk) (PkS.pack Simpl_least_l19 (y19_0, y19_1, y19_2, y19_3, y19_4, y19_5, y19_6, y19_7, y19_8, ())) kk = (fun (kexit4 : (List Int) → (List Int) → Int → (List Int) → (List Int) → Int → Option R) => (bif (decide ((y19_8.length : Int) > 0)) then (bif decide (0 < (y19_8.length : Int)) then (bif decide (1 ≤ (y19_8.length : Int)) then (bif decide ((y19_8.length : Int) ≤ (y19_8.length : Int)) then (impl_least_l23 n (y19_8.getD 0 0) y19_0 (y19_0.length : Int) 0 y19_0 y19_1 y19_2 y19_3 y19_4 y19_5 y19_6 y19_7 ((y19_8.drop 1).take ((Int.toNat (y19_8.length : Int)) - 1)) (fun r34 r35 r36 r37 r38 r39 r40 r41 r42 => impl_least_l19 n r34 r35 r36 r37 r38 r39 r40 r41 r42 kexit4)) else none) else none) else none) else kexit4 y19_1 y19_2 y19_3 y19_4 y19_5 y19_6)) (fun r0 r1 r2 r3 r4 r5 => kk (.exit 4) (PkS.pack Timpl_least_l19_0 (r0, r1, r2, r3, r4, r5, ()))) := by kernel_rfl
theorem leimpl_least_l19 : LoopEq tt sig (fun n => mkK [(71, Kslices_Clone_int @slices_Clone_int n), (74, Kimpl_least_c1 @impl_least_c1 n), (53, Kslices_Contains_int @slices_Contains_int n)]) (fun n => mkL (mkK [(71, Kslices_Clone_int @slices_Clone_int n), (74, Kimpl_least_c1 @impl_least_c1 n), (53, Kslices_Contains_int @slices_Contains_int n)]) [(5, Dimpl_least_l5, Pimpl_least_l5 @impl_least_l5 n), (14, Dimpl_least_l14, Pimpl_least_l14 @impl_least_l14 n), (23, Dimpl_least_l23, Pimpl_least_l23 @impl_least_l23 n)]) Dimpl_least_l19 Simpl_least_l19 (loopIn 19 (bodyOf Try.f57)) (Pimpl_least_l19 @impl_least_l19) where
  zero R q kk := by unfold Pimpl_least_l19; cases (PkS.un Simpl_least_l19 q) <;> rfl
  succ n R q kk := by
    unfold Pimpl_least_l19
    cases h : (PkS.un Simpl_least_l19 q) with
    | none => rfl
    | some d =>
      obtain ⟨y19_0, y19_1, y19_2, y19_3, y19_4, y19_5, y19_6, y19_7, y19_8, u⟩ := (d : (List (Int × List Int)) × (List Int) × (List Int) × Int × (List Int) × (List Int) × Int × (List Int) × (List Int) × Unit)
      have hp := PkS.un_pack h
      subst hp
      exact (eimpl_least_l19 @slices_Clone_int @impl_least_c1 @slices_Contains_int @impl_least_l5 @impl_least_l14 @impl_least_l23 @impl_least_l19 n y19_0 y19_1 y19_2 y19_3 y19_4 y19_5 y19_6 y19_7 y19_8 kk).symm
theorem nlimpl_least_l19 : ∀ n, NatLP (Pimpl_least_l19 @impl_least_l19 n) := leimpl_least_l19.nat (fun n => mkK_nat (cimpl_least n)) fun n => mkL_nat (mkK_nat (cimpl_least n)) (l := [(5, Dimpl_least_l5, Pimpl_least_l5 @impl_least_l5 n), (14, Dimpl_least_l14, Pimpl_least_l14 @impl_least_l14 n), (23, Dimpl_least_l23, Pimpl_least_l23 @impl_least_l23 n)]) ⟨nlimpl_least_l5 n, ⟨nlimpl_least_l14 n, ⟨nlimpl_least_l23 n, trivial⟩⟩⟩
theorem inimpl_least_l19 (n : Nat) (R : Type) : LoopsOk Try.prog (mkL (mkK [(71, Kslices_Clone_int @slices_Clone_int n), (74, Kimpl_least_c1 @impl_least_c1 n), (53, Kslices_Contains_int @slices_Contains_int n)]) [(5, Dimpl_least_l5, Pimpl_least_l5 @impl_least_l5 n), (14, Dimpl_least_l14, Pimpl_least_l14 @impl_least_l14 n), (23, Dimpl_least_l23, Pimpl_least_l23 @impl_least_l23 n)] R) (loopIn 19 (bodyOf Try.f57)) := .eq (l := [.lo (loopIn 23 (bodyOf Try.f57))]) (by kernel_rfl) ⟨(lkimpl_least_l23 n R _ (at_id (i := 23) (by kernel_rfl) rfl)), trivial⟩
theorem lkimpl_least_l19 (n : Nat) (R : Type) (L0 : LK R) (h0 : ∀ id, firstRegion (loopIn 19 (bodyOf Try.f57)) = some id → L0 id = Dimpl_least_l19.oracle (mkK [(71, Kslices_Clone_int @slices_Clone_int n), (74, Kimpl_least_c1 @impl_least_c1 n), (53, Kslices_Contains_int @slices_Contains_int n)] R) (Pimpl_least_l19 @impl_least_l19 n R)) : LoopOk Try.prog L0 (loopIn 19 (bodyOf Try.f57)) :=
  leimpl_least_l19.ok mixed ttok (fun n => mkK_nat (cimpl_least n)) (fun n => mkK_ok (cimpl_least n)) (fun n => inimpl_least_l19 n R) (mkK_nat (cimpl_least n)) h0
@[reducible] def Simpl_least : PkS := ⟨[.one (.ro (.pr (.int .i64) (.sl (.int .i64)))), .one (.ro (.int .i64))], []⟩
@[reducible] def Timpl_least : PkS := ⟨[.agg [.whole (300000, 0), .int .i64, .whole (300000, 1)], .one (.dead), .one (.dead)], [((300000, 0), .arr (.int .i64)), ((300000, 1), .arr (.int .i64))]⟩
def Himpl_least : List Sh := [.agg [(.own (.int .i64)), .any, (.own (.int .i64))], .skip, .skip]
def Kimpl_least (g : ∀ {R : Type}, Nat → (List (Int × List Int)) → (List Int) → (Int → (List Int) → (List Int) → Option R) → Option R) (n : Nat) : KPs := fun R p k => match (PkS.un Simpl_least p : Option ((List (Int × List Int)) × (List Int) × Unit)) with
  | some (x0, x1, _) => g n x0 x1 (fun r0 r1 r2 => k (PkS.pack Timpl_least (r0, r1, r2, ())))
  | none => none
theorem eimpl_least (slices_Clone_int : ∀ {R : Type}, Nat → (List Int) → ((List Int) → Option R) → Option R) (impl_least_c1 : ∀ {R : Type}, Nat → Int → (List Int) → (List (Int × List Int)) → (List Int) → (List Int) → Int → ((List Int) → (List (Int × List Int)) → (List Int) → (List Int) → Int → Option R) → Option R) (slices_Contains_int : ∀ {R : Type}, Nat → (List Int) → Int → (Bool → Option R) → Option R) (impl_least_l5 : ∀ {R : Type}, Nat → (List Int) → (List (Int × List Int)) → Int → Int → (List (Int × List Int)) → (List Int) → (List Int) → Int → (List Int) → (List Int) → Int → (List Int) → (List Int) → ((List Int) → (List (Int × List Int)) → (List Int) → (List Int) → Int → (List Int) → (List Int) → Int → (List Int) → (List Int) → Option R) → Option R) (impl_least_l14 : ∀ {R : Type}, Nat → (List Int) → Int → Int → (List (Int × List Int)) → (List Int) → (List Int) → Int → (List Int) → (List Int) → Int → (List Int) → (List Int) → ((List (Int × List Int)) → (List Int) → (List Int) → Int → (List Int) → (List Int) → Int → (List Int) → (List Int) → Option R) → Option R) (impl_least_l23 : ∀ {R : Type}, Nat → Int → (List (Int × List Int)) → Int → Int → (List (Int × List Int)) → (List Int) → (List Int) → Int → (List Int) → (List Int) → Int → (List Int) → (List Int) → ((List (Int × List Int)) → (List Int) → (List Int) → Int → (List Int) → (List Int) → Int → (List Int) → (List Int) → Option R) → Option R) (impl_least_l19 : ∀ {R : Type}, Nat → (List (Int × List Int)) → (List Int) → (List Int) → Int → (List Int) → (List Int) → Int → (List Int) → (List Int) → ((List Int) → (List Int) → Int → (List Int) → (List Int) → Int → Option R) → Option R) {R : Type} (n : Nat) (x0 : List (Int × List Int)) (x1 : List Int) (k : Pk → Option R) : evF tt sig (mkK [(71, Kslices_Clone_int @slices_Clone_int n), (74, Kimpl_least_c1 @impl_least_c1 n), (53, Kslices_Contains_int @slices_Contains_int n)] R) (mkL (mkK [(71, Kslices_Clone_int @slices_Clone_int n), (74, Kimpl_least_c1 @impl_least_c1 n), (53, Kslices_Contains_int @slices_Contains_int n)]) [(5, Dimpl_least_l5, Pimpl_least_l5 @impl_least_l5 n), (14, Dimpl_least_l14, Pimpl_least_l14 @impl_least_l14 n), (23, Dimpl_least_l23, Pimpl_least_l23 @impl_least_l23 n), (19, Dimpl_least_l19, Pimpl_least_l19 @impl_least_l19 n)] R) Try.f57 Himpl_least (PkS.pack Simpl_least (x0, x1, ())) k = (fun (k : Int → (List Int) → (List Int) → Option R) => (slices_Clone_int n x1 fun r1 => (impl_least_l5 n x1 x0 (x0.length : Int) 0 x0 ([] : List Int) ([] : List Int) 0 r1 ([] : List Int) 0 ([] : List Int) ([] : List Int) (fun r8 r9 r10 r11 r12 r13 r14 r15 r16 r17 => (impl_least_l14 n r8 (r8.length : Int) 0 r9 r10 r11 r12 r13 r14 r15 r16 r17 (fun r19 r20 r21 r22 r23 r24 r25 r26 r27 => (impl_least_l19 n r19 r20 r21 r22 r23 r24 r25 r26 r27 (fun r43 r44 r45 r46 r47 r48 => k r48 r46 r47)))))))) (fun r0 r1 r2 => k (PkS.pack Timpl_least (r0, r1, r2, ()))) := by kernel_rfl
theorem okimpl_least (n : Nat) : FnOk Try.prog 57 (Kimpl_least @impl_least n) := by
  refine fn_ok (sig := sig) mixed ttok (mkK_nat (cimpl_least n)) (mkK_ok (cimpl_least n)) (mkL_nat (mkK_nat (cimpl_least n)) (l := [(5, Dimpl_least_l5, Pimpl_least_l5 @impl_least_l5 n), (14, Dimpl_least_l14, Pimpl_least_l14 @impl_least_l14 n), (23, Dimpl_least_l23, Pimpl_least_l23 @impl_least_l23 n), (19, Dimpl_least_l19, Pimpl_least_l19 @impl_least_l19 n)]) ⟨nlimpl_least_l5 n, ⟨nlimpl_least_l14 n, ⟨nlimpl_least_l23 n, ⟨nlimpl_least_l19 n, trivial⟩⟩⟩⟩) (fn := Try.f57) (c := bodyOf Try.f57) (by kernel_rfl) (by kernel_rfl) (by kernel_rfl) (.eq (l := [.lo (loopIn 5 (bodyOf Try.f57)), .lo (loopIn 14 (bodyOf Try.f57)), .lo (loopIn 19 (bodyOf Try.f57))]) (by kernel_rfl) ⟨(lkimpl_least_l5 n _ _ (at_id (i := 5) (by kernel_rfl) rfl)), ⟨(lkimpl_least_l14 n _ _ (at_id (i := 14) (by kernel_rfl) rfl)), ⟨(lkimpl_least_l19 n _ _ (at_id (i := 19) (by kernel_rfl) rfl)), trivial⟩⟩⟩) (shs := Himpl_least) (S := Simpl_least) (h1 := by kernel_rfl) fun R p k => ?_
  unfold Kimpl_least
  cases h : (PkS.un Simpl_least p) with
  | none => rfl
  | some d =>
    obtain ⟨x0, x1, u⟩ := (d : (List (Int × List Int)) × (List Int) × Unit)
    have hp := PkS.un_pack h
    subst hp
    exact (eimpl_least @slices_Clone_int @impl_least_c1 @slices_Contains_int @impl_least_l5 @impl_least_l14 @impl_least_l23 @impl_least_l19 n x0 x1 k).symm

/-! ### loop.example/g00269/impl.LeastModel -/
theorem cimpl_LeastModel (n : Nat) : AllOk Try.prog [(50, Kimpl_rulesOk @impl_rulesOk n), (57, Kimpl_least @impl_least n)] := ⟨okimpl_rulesOk n, ⟨okimpl_least n, trivial⟩⟩
@[reducible] def Simpl_LeastModel : PkS := ⟨[.one (.ro (.pr (.int .i64) (.sl (.int .i64)))), .one (.ro (.int .i64))], []⟩
@[reducible] def Timpl_LeastModel : PkS := ⟨[.tup [(false, [.whole (300000, 0)]), (false, [.int .i64]), (false, [.bool])], .one (.dead), .one (.dead)], [((300000, 0), .arr (.int .i64))]⟩
def Himpl_LeastModel : List Sh := [.tup [(false, [(.own (.int .i64))]), (false, [.any]), (false, [.any])], .skip, .skip]
def Kimpl_LeastModel (g : ∀ {R : Type}, Nat → (List (Int × List Int)) → (List Int) → (Int → Bool → (List Int) → Option R) → Option R) (n : Nat) : KPs := fun R p k => match (PkS.un Simpl_LeastModel p : Option ((List (Int × List Int)) × (List Int) × Unit)) with
  | some (x0, x1, _) => g n x0 x1 (fun r0 r1 r2 => k (PkS.pack Timpl_LeastModel (r0, r1, r2, ())))
  | none => none
theorem eimpl_LeastModel (impl_rulesOk : ∀ {R : Type}, Nat → (List (Int × List Int)) → (List Int) → (Bool → Option R) → Option R) (impl_least : ∀ {R : Type}, Nat → (List (Int × List Int)) → (List Int) → (Int → (List Int) → (List Int) → Option R) → Option R) {R : Type} (n : Nat) (x0 : List (Int × List Int)) (x1 : List Int) (k : Pk → Option R) : evF tt sig (mkK [(50, Kimpl_rulesOk @impl_rulesOk n), (57, Kimpl_least @impl_least n)] R) (mkL (mkK [(50, Kimpl_rulesOk @impl_rulesOk n), (57, Kimpl_least @impl_least n)]) [] R) Try.f31 Himpl_LeastModel (PkS.pack Simpl_LeastModel (x0, x1, ())) k = (fun (k : Int → Bool → (List Int) → Option R) => (impl_rulesOk n x0 x1 fun r1 => (bif (!r1) then k 0 false ([] : List Int) else (impl_least n x0 x1 fun r2 r3 r4 => k r2 true r3)))) (fun r0 r1 r2 => k (PkS.pack Timpl_LeastModel (r0, r1, r2, ()))) := by kernel_rfl
theorem okimpl_LeastModel (n : Nat) : FnOk Try.prog 31 (Kimpl_LeastModel @impl_LeastModel n) := by
  refine fn_ok (sig := sig) mixed ttok (mkK_nat (cimpl_LeastModel n)) (mkK_ok (cimpl_LeastModel n)) (mkL_nat (mkK_nat (cimpl_LeastModel n)) (l := []) trivial) (fn := Try.f31) (c := bodyOf Try.f31) (by kernel_rfl) (by kernel_rfl) (by kernel_rfl) (.eq (l := []) (by kernel_rfl) trivial) (shs := Himpl_LeastModel) (S := Simpl_LeastModel) (h1 := by kernel_rfl) fun R p k => ?_
  unfold Kimpl_LeastModel
  cases h : (PkS.un Simpl_LeastModel p) with
  | none => rfl
  | some d =>
    obtain ⟨x0, x1, u⟩ := (d : (List (Int × List Int)) × (List Int) × Unit)
    have hp := PkS.un_pack h
    subst hp
    exact (eimpl_LeastModel @impl_rulesOk @impl_least n x0 x1 k).symm

/-! ### loop.example/g00269/laws.eqIntS -/
theorem claws_eqIntS (n : Nat) : AllOk Try.prog [] := trivial
@[reducible] def Slaws_eqIntS_l4 : PkS := ⟨[.one (.ro (.int .i64)), .one (.ro (.int .i64)), .one (.int .i64), .one (.dead), .one (.dead)], []⟩
@[reducible] def Tlaws_eqIntS_l4_0 : PkS := ⟨[.one (.bool), .one (.dead), .one (.dead)], []⟩
@[reducible] def Tlaws_eqIntS_l4_1 : PkS := ⟨[.one (.dead), .one (.dead)], []⟩
def Dlaws_eqIntS_l4 : LoopD := ⟨26, [0, 1, 5], [.one (.ro (.int .i64)), .one (.ro (.int .i64)), .one .any, .skip, .skip], fun x => match x with
  | .ret => some ([4], [.one .any, .skip, .skip])
  | .exit 0 => some ([], [.skip, .skip])
  | _ => none⟩
def Plaws_eqIntS_l4 (g : ∀ {R : Type}, Nat → (List Int) → (List Int) → Int → (Bool → Option R) → (Option R) → Option R) (n : Nat) : LPs := fun R q kk => match (PkS.un Slaws_eqIntS_l4 q : Option ((List Int) × (List Int) × Int × Unit)) with
  | some (y4_0, y4_1, y4_2, _) => g n y4_0 y4_1 y4_2 (fun r0 => kk .ret (PkS.pack Tlaws_eqIntS_l4_0 (r0, ()))) (kk (.exit 0) (PkS.pack Tlaws_eqIntS_l4_1 ()))
  | none => none
theorem elaws_eqIntS_l4 (laws_eqIntS_l4 : ∀ {R : Type}, Nat → (List Int) → (List Int) → Int → (Bool → Option R) → (Option R) → Option R) {R : Type} (n : Nat) (y4_0 : List Int) (y4_1 : List Int) (y4_2 : Int) (kk : Ex → Pk → Option R) : Dlaws_eqIntS_l4.step tt sig (mkK [] R) (mkL (mkK []) [] R) (loopIn 4 (bodyOf Try.f20)) (fun q' => Plaws_eqIntS_l4 @laws_eqIntS_l4 n R q' kk) (PkS.pack Slaws_eqIntS_l4 (y4_0, y4_1, y4_2, ())) kk = (fun (kret : Bool → Option R) (kexit0 : Option R) => (bif (decide (y4_2 < (y4_0.length : Int))) then (bif decide (0 ≤ y4_2) then (bif decide (y4_2 < (y4_0.length : Int)) then (bif decide (0 ≤ y4_2) then (bif decide (y4_2 < (y4_1.length : Int)) then (bif ((y4_0.getD (Int.toNat y4_2) 0) != (y4_1.getD (Int.toNat y4_2) 0)) then kret false else laws_eqIntS_l4 n y4_0 y4_1 (IntKind.wrap .i64 (y4_2 + 1)) kret kexit0) else none) else none) else none) else none) else kexit0)) (fun r0 => kk .ret (PkS.pack Tlaws_eqIntS_l4_0 (r0, ()))) (kk (.exit 0) (PkS.pack Tlaws_eqIntS_l4_1 ())) := by kernel_rfl
theorem lelaws_eqIntS_l4 : LoopEq tt sig (fun n => mkK []) (fun n => mkL (mkK []) []) Dlaws_eqIntS_l4 Slaws_eqIntS_l4 (loopIn 4 (bodyOf Try.f20)) (Plaws_eqIntS_l4 @laws_eqIntS_l4) where
  zero R q kk := by unfold Plaws_eqIntS_l4; cases (PkS.un Slaws_eqIntS_l4 q) <;> rfl
  succ n R q kk := by
    unfold Plaws_eqIntS_l4
    cases h : (PkS.un Slaws_eqIntS_l4 q) with
    | none => rfl
    | some d =>
      obtain ⟨y4_0, y4_1, y4_2, u⟩ := (d : (List Int) × (List Int) × Int × Unit)
      have hp := PkS.un_pack h
      subst hp
      exact (elaws_eqIntS_l4 @laws_eqIntS_l4 n y4_0 y4_1 y4_2 kk).symm
theorem nllaws_eqIntS_l4 : ∀ n, NatLP (Plaws_eqIntS_l4 @laws_eqIntS_l4 n) := lelaws_eqIntS_l4.nat (fun n => mkK_nat (claws_eqIntS n)) fun n => mkL_nat (mkK_nat (claws_eqIntS n)) (l := []) trivial
theorem inlaws_eqIntS_l4 (n : Nat) (R : Type) : LoopsOk Try.prog (mkL (mkK []) [] R) (loopIn 4 (bodyOf Try.f20)) := .eq (l := []) (by kernel_rfl) trivial
theorem lklaws_eqIntS_l4 (n : Nat) (R : Type) (L0 : LK R) (h0 : ∀ id, firstRegion (loopIn 4 (bodyOf Try.f20)) = some id → L0 id = Dlaws_eqIntS_l4.oracle (mkK [] R) (Plaws_eqIntS_l4 @laws_eqIntS_l4 n R)) : LoopOk Try.prog L0 (loopIn 4 (bodyOf Try.f20)) :=
  lelaws_eqIntS_l4.ok mixed ttok (fun n => mkK_nat (claws_eqIntS n)) (fun n => mkK_ok (claws_eqIntS n)) (fun n => inlaws_eqIntS_l4 n R) (mkK_nat (claws_eqIntS n)) h0
@[reducible] def Slaws_eqIntS : PkS := ⟨[.one (.ro (.int .i64)), .one (.ro (.int .i64))], []⟩
@[reducible] def Tlaws_eqIntS : PkS := ⟨[.one (.bool), .one (.dead), .one (.dead)], []⟩
def Hlaws_eqIntS : List Sh := [.one .any, .skip, .skip]
def Klaws_eqIntS (g : ∀ {R : Type}, Nat → (List Int) → (List Int) → (Bool → Option R) → Option R) (n : Nat) : KPs := fun R p k => match (PkS.un Slaws_eqIntS p : Option ((List Int) × (List Int) × Unit)) with
  | some (x0, x1, _) => g n x0 x1 (fun r0 => k (PkS.pack Tlaws_eqIntS (r0, ())))
  | none => none
theorem elaws_eqIntS (laws_eqIntS_l4 : ∀ {R : Type}, Nat → (List Int) → (List Int) → Int → (Bool → Option R) → (Option R) → Option R) {R : Type} (n : Nat) (x0 : List Int) (x1 : List Int) (k : Pk → Option R) : evF tt sig (mkK [] R) (mkL (mkK []) [(4, Dlaws_eqIntS_l4, Plaws_eqIntS_l4 @laws_eqIntS_l4 n)] R) Try.f20 Hlaws_eqIntS (PkS.pack Slaws_eqIntS (x0, x1, ())) k = (fun (k : Bool → Option R) => (bif ((x0.length : Int) != (x1.length : Int)) then k false else (laws_eqIntS_l4 n x0 x1 0 (fun r1 => k r1) (k true)))) (fun r0 => k (PkS.pack Tlaws_eqIntS (r0, ()))) := by kernel_rfl
theorem oklaws_eqIntS (n : Nat) : FnOk Try.prog 20 (Klaws_eqIntS @laws_eqIntS n) := by
  refine fn_ok (sig := sig) mixed ttok (mkK_nat (claws_eqIntS n)) (mkK_ok (claws_eqIntS n)) (mkL_nat (mkK_nat (claws_eqIntS n)) (l := [(4, Dlaws_eqIntS_l4, Plaws_eqIntS_l4 @laws_eqIntS_l4 n)]) ⟨nllaws_eqIntS_l4 n, trivial⟩) (fn := Try.f20) (c := bodyOf Try.f20) (by kernel_rfl) (by kernel_rfl) (by kernel_rfl) (.eq (l := [.lo (loopIn 4 (bodyOf Try.f20))]) (by kernel_rfl) ⟨(lklaws_eqIntS_l4 n _ _ (at_id (i := 4) (by kernel_rfl) rfl)), trivial⟩) (shs := Hlaws_eqIntS) (S := Slaws_eqIntS) (h1 := by kernel_rfl) fun R p k => ?_
  unfold Klaws_eqIntS
  cases h : (PkS.un Slaws_eqIntS p) with
  | none => rfl
  | some d =>
    obtain ⟨x0, x1, u⟩ := (d : (List Int) × (List Int) × Unit)
    have hp := PkS.un_pack h
    subst hp
    exact (elaws_eqIntS @laws_eqIntS_l4 n x0 x1 k).symm

/-! ### loop.example/g00269/laws.eqRule -/
theorem claws_eqRule (n : Nat) : AllOk Try.prog [(20, Klaws_eqIntS @laws_eqIntS n)] := ⟨oklaws_eqIntS n, trivial⟩
@[reducible] def Slaws_eqRule : PkS := ⟨[.agg [.int .i64, .ro (.int .i64)], .agg [.int .i64, .ro (.int .i64)]], []⟩
@[reducible] def Tlaws_eqRule : PkS := ⟨[.one (.bool), .one (.dead), .one (.dead)], []⟩
def Hlaws_eqRule : List Sh := [.one .any, .skip, .skip]
def Klaws_eqRule (g : ∀ {R : Type}, Nat → Int → (List Int) → Int → (List Int) → (Bool → Option R) → Option R) (n : Nat) : KPs := fun R p k => match (PkS.un Slaws_eqRule p : Option (Int × (List Int) × Int × (List Int) × Unit)) with
  | some (x0, x1, x2, x3, _) => g n x0 x1 x2 x3 (fun r0 => k (PkS.pack Tlaws_eqRule (r0, ())))
  | none => none
theorem elaws_eqRule (laws_eqIntS : ∀ {R : Type}, Nat → (List Int) → (List Int) → (Bool → Option R) → Option R) {R : Type} (n : Nat) (x0 : Int) (x1 : List Int) (x2 : Int) (x3 : List Int) (k : Pk → Option R) : evF tt sig (mkK [(20, Klaws_eqIntS @laws_eqIntS n)] R) (mkL (mkK [(20, Klaws_eqIntS @laws_eqIntS n)]) [] R) Try.f47 Hlaws_eqRule (PkS.pack Slaws_eqRule (x0, x1, x2, x3, ())) k = (fun (k : Bool → Option R) => (bif (x0 != x2) then k false else (laws_eqIntS n x1 x3 fun r1 => (bif (!r1) then k false else k true)))) (fun r0 => k (PkS.pack Tlaws_eqRule (r0, ()))) := by kernel_rfl
theorem oklaws_eqRule (n : Nat) : FnOk Try.prog 47 (Klaws_eqRule @laws_eqRule n) := by
  refine fn_ok (sig := sig) mixed ttok (mkK_nat (claws_eqRule n)) (mkK_ok (claws_eqRule n)) (mkL_nat (mkK_nat (claws_eqRule n)) (l := []) trivial) (fn := Try.f47) (c := bodyOf Try.f47) (by kernel_rfl) (by kernel_rfl) (by kernel_rfl) (.eq (l := []) (by kernel_rfl) trivial) (shs := Hlaws_eqRule) (S := Slaws_eqRule) (h1 := by kernel_rfl) fun R p k => ?_
  unfold Klaws_eqRule
  cases h : (PkS.un Slaws_eqRule p) with
  | none => rfl
  | some d =>
    obtain ⟨x0, x1, x2, x3, u⟩ := (d : Int × (List Int) × Int × (List Int) × Unit)
    have hp := PkS.un_pack h
    subst hp
    exact (elaws_eqRule @laws_eqIntS n x0 x1 x2 x3 k).symm

/-! ### loop.example/g00269/laws.eqRuleS -/
theorem claws_eqRuleS (n : Nat) : AllOk Try.prog [(47, Klaws_eqRule @laws_eqRule n)] := ⟨oklaws_eqRule n, trivial⟩
@[reducible] def Slaws_eqRuleS_l4 : PkS := ⟨[.one (.ro (.pr (.int .i64) (.sl (.int .i64)))), .one (.ro (.pr (.int .i64) (.sl (.int .i64)))), .one (.int .i64), .one (.dead), .one (.dead)], []⟩
@[reducible] def Tlaws_eqRuleS_l4_0 : PkS := ⟨[.one (.bool), .one (.dead), .one (.dead)], []⟩
@[reducible] def Tlaws_eqRuleS_l4_1 : PkS := ⟨[.one (.dead), .one (.dead)], []⟩
def Dlaws_eqRuleS_l4 : LoopD := ⟨27, [0, 1, 5], [.one (.ro (.pr (.int .i64) (.sl (.int .i64)))), .one (.ro (.pr (.int .i64) (.sl (.int .i64)))), .one .any, .skip, .skip], fun x => match x with
  | .ret => some ([4], [.one .any, .skip, .skip])
  | .exit 0 => some ([], [.skip, .skip])
  | _ => none⟩
def Plaws_eqRuleS_l4 (g : ∀ {R : Type}, Nat → (List (Int × List Int)) → (List (Int × List Int)) → Int → (Bool → Option R) → (Option R) → Option R) (n : Nat) : LPs := fun R q kk => match (PkS.un Slaws_eqRuleS_l4 q : Option ((List (Int × List Int)) × (List (Int × List Int)) × Int × Unit)) with
  | some (y4_0, y4_1, y4_2, _) => g n y4_0 y4_1 y4_2 (fun r0 => kk .ret (PkS.pack Tlaws_eqRuleS_l4_0 (r0, ()))) (kk (.exit 0) (PkS.pack Tlaws_eqRuleS_l4_1 ()))
  | none => none
theorem elaws_eqRuleS_l4 (laws_eqRule : ∀ {R : Type}, Nat → Int → (List Int) → Int → (List Int) → (Bool → Option R) → Option R) (laws_eqRuleS_l4 : ∀ {R : Type}, Nat → (List (Int × List Int)) → (List (Int × List Int)) → Int → (Bool → Option R) → (Option R) → Option R) {R : Type} (n : Nat) (y4_0 : List (Int × List Int)) (y4_1 : List (Int × List Int)) (y4_2 : Int) (kk : Ex → Pk → Option R) : Dlaws_eqRuleS_l4.step tt sig (mkK [(47, Klaws_eqRule @laws_eqRule n)] R) (mkL (mkK [(47, Klaws_eqRule @laws_eqRule n)]) [] R) (loopIn 4 (bodyOf Try.f16)) (fun q' => Plaws_eqRuleS_l4 @laws_eqRuleS_l4 n R q' kk) (PkS.pack Slaws_eqRuleS_l4 (y4_0, y4_1, y4_2, ())) kk = (fun (kret : Bool → Option R) (kexit0 : Option R) => (bif (decide (y4_2 < (y4_0.length : Int))) then (bif decide (0 ≤ y4_2) then (bif decide (y4_2 < (y4_0.length : Int)) then (bif decide (0 ≤ y4_2) then (bif decide (y4_2 < (y4_1.length : Int)) then (laws_eqRule n ((y4_0.getD (Int.toNat y4_2) (0, [])).1) ((y4_0.getD (Int.toNat y4_2) (0, [])).2) ((y4_1.getD (Int.toNat y4_2) (0, [])).1) ((y4_1.getD (Int.toNat y4_2) (0, [])).2) fun r1 => (bif (!r1) then kret false else laws_eqRuleS_l4 n y4_0 y4_1 (IntKind.wrap .i64 (y4_2 + 1)) kret kexit0)) else none) else none) else none) else none) else kexit0)) (fun r0 => kk .ret (PkS.pack Tlaws_eqRuleS_l4_0 (r0, ()))) (kk (.exit 0) (PkS.pack Tlaws_eqRuleS_l4_1 ())) := by kernel_rfl
theorem lelaws_eqRuleS_l4 : LoopEq tt sig (fun n => mkK [(47, Klaws_eqRule @laws_eqRule n)]) (fun n => mkL (mkK [(47, Klaws_eqRule @laws_eqRule n)]) []) Dlaws_eqRuleS_l4 Slaws_eqRuleS_l4 (loopIn 4 (bodyOf Try.f16)) (Plaws_eqRuleS_l4 @laws_eqRuleS_l4) where
  zero R q kk := by unfold Plaws_eqRuleS_l4; cases (PkS.un Slaws_eqRuleS_l4 q) <;> rfl
  succ n R q kk := by
    unfold Plaws_eqRuleS_l4
    cases h : (PkS.un Slaws_eqRuleS_l4 q) with
    | none => rfl
    | some d =>
      obtain ⟨y4_0, y4_1, y4_2, u⟩ := (d : (List (Int × List Int)) × (List (Int × List Int)) × Int × Unit)
      have hp := PkS.un_pack h
      subst hp
      exact (elaws_eqRuleS_l4 @laws_eqRule @laws_eqRuleS_l4 n y4_0 y4_1 y4_2 kk).symm
theorem nllaws_eqRuleS_l4 : ∀ n, NatLP (Plaws_eqRuleS_l4 @laws_eqRuleS_l4 n) := lelaws_eqRuleS_l4.nat (fun n => mkK_nat (claws_eqRuleS n)) fun n => mkL_nat (mkK_nat (claws_eqRuleS n)) (l := []) trivial
theorem inlaws_eqRuleS_l4 (n : Nat) (R : Type) : LoopsOk Try.prog (mkL (mkK [(47, Klaws_eqRule @laws_eqRule n)]) [] R) (loopIn 4 (bodyOf Try.f16)) := .eq (l := []) (by kernel_rfl) trivial
theorem lklaws_eqRuleS_l4 (n : Nat) (R : Type) (L0 : LK R) (h0 : ∀ id, firstRegion (loopIn 4 (bodyOf Try.f16)) = some id → L0 id = Dlaws_eqRuleS_l4.oracle (mkK [(47, Klaws_eqRule @laws_eqRule n)] R) (Plaws_eqRuleS_l4 @laws_eqRuleS_l4 n R)) : LoopOk Try.prog L0 (loopIn 4 (bodyOf Try.f16)) :=
  lelaws_eqRuleS_l4.ok mixed ttok (fun n => mkK_nat (claws_eqRuleS n)) (fun n => mkK_ok (claws_eqRuleS n)) (fun n => inlaws_eqRuleS_l4 n R) (mkK_nat (claws_eqRuleS n)) h0
@[reducible] def Slaws_eqRuleS : PkS := ⟨[.one (.ro (.pr (.int .i64) (.sl (.int .i64)))), .one (.ro (.pr (.int .i64) (.sl (.int .i64))))], []⟩
@[reducible] def Tlaws_eqRuleS : PkS := ⟨[.one (.bool), .one (.dead), .one (.dead)], []⟩
def Hlaws_eqRuleS : List Sh := [.one .any, .skip, .skip]
def Klaws_eqRuleS (g : ∀ {R : Type}, Nat → (List (Int × List Int)) → (List (Int × List Int)) → (Bool → Option R) → Option R) (n : Nat) : KPs := fun R p k => match (PkS.un Slaws_eqRuleS p : Option ((List (Int × List Int)) × (List (Int × List Int)) × Unit)) with
  | some (x0, x1, _) => g n x0 x1 (fun r0 => k (PkS.pack Tlaws_eqRuleS (r0, ())))
  | none => none
theorem elaws_eqRuleS (laws_eqRule : ∀ {R : Type}, Nat → Int → (List Int) → Int → (List Int) → (Bool → Option R) → Option R) (laws_eqRuleS_l4 : ∀ {R : Type}, Nat → (List (Int × List Int)) → (List (Int × List Int)) → Int → (Bool → Option R) → (Option R) → Option R) {R : Type} (n : Nat) (x0 : List (Int × List Int)) (x1 : List (Int × List Int)) (k : Pk → Option R) : evF tt sig (mkK [(47, Klaws_eqRule @laws_eqRule n)] R) (mkL (mkK [(47, Klaws_eqRule @laws_eqRule n)]) [(4, Dlaws_eqRuleS_l4, Plaws_eqRuleS_l4 @laws_eqRuleS_l4 n)] R) Try.f16 Hlaws_eqRuleS (PkS.pack Slaws_eqRuleS (x0, x1, ())) k = (fun (k : Bool → Option R) => (bif ((x0.length : Int) != (x1.length : Int)) then k false else (laws_eqRuleS_l4 n x0 x1 0 (fun r2 => k r2) (k true)))) (fun r0 => k (PkS.pack Tlaws_eqRuleS (r0, ()))) := by kernel_rfl
theorem oklaws_eqRuleS (n : Nat) : FnOk Try.prog 16 (Klaws_eqRuleS @laws_eqRuleS n) := by
  refine fn_ok (sig := sig) mixed ttok (mkK_nat (claws_eqRuleS n)) (mkK_ok (claws_eqRuleS n)) (mkL_nat (mkK_nat (claws_eqRuleS n)) (l := [(4, Dlaws_eqRuleS_l4, Plaws_eqRuleS_l4 @laws_eqRuleS_l4 n)]) ⟨nllaws_eqRuleS_l4 n, trivial⟩) (fn := Try.f16) (c := bodyOf Try.f16) (by kernel_rfl) (by kernel_rfl) (by kernel_rfl) (.eq (l := [.lo (loopIn 4 (bodyOf Try.f16))]) (by kernel_rfl) ⟨(lklaws_eqRuleS_l4 n _ _ (at_id (i := 4) (by kernel_rfl) rfl)), trivial⟩) (shs := Hlaws_eqRuleS) (S := Slaws_eqRuleS) (h1 := by kernel_rfl) fun R p k => ?_
  unfold Klaws_eqRuleS
  cases h : (PkS.un Slaws_eqRuleS p) with
  | none => rfl
  | some d =>
    obtain ⟨x0, x1, u⟩ := (d : (List (Int × List Int)) × (List (Int × List Int)) × Unit)
    have hp := PkS.un_pack h
    subst hp
    exact (elaws_eqRuleS @laws_eqRule @laws_eqRuleS_l4 n x0 x1 k).symm

/-! ### loop.example/g00269/laws.markIntS -/
theorem claws_markIntS (n : Nat) : AllOk Try.prog [] := trivial
@[reducible] def Slaws_markIntS_l2 : PkS := ⟨[.one (.whole (100000, 0)), .one (.int .i64), .one (.int .i64), .one (.whole (100000, 0)), .one (.dead)], [((100000, 0), .arr (.int .i64))]⟩
@[reducible] def Tlaws_markIntS_l2_0 : PkS := ⟨[.one (.int .i64), .one (.whole (100000, 0)), .one (.dead)], [((100000, 0), .arr (.int .i64))]⟩
def Dlaws_markIntS_l2 : LoopD := ⟨19, [0, 1, 5], [.one (.own (.int .i64)), .one .any, .one .any, .one (.own (.int .i64)), .skip], fun x => match x with
  | .exit 0 => some ([1], [.one .any, .one (.own (.int .i64)), .skip])
  | _ => none⟩
def Plaws_markIntS_l2 (g : ∀ {R : Type}, Nat → Int → Int → (List Int) → (Int → (List Int) → Option R) → Option R) (n : Nat) : LPs := fun R q kk => match (PkS.un Slaws_markIntS_l2 q : Option (Int × Int × (List Int) × Unit)) with
  | some (y2_0, y2_1, y2_2, _) => g n y2_0 y2_1 y2_2 (fun r0 r1 => kk (.exit 0) (PkS.pack Tlaws_markIntS_l2_0 (r0, r1, ())))
  | none => none
theorem elaws_markIntS_l2 (laws_markIntS_l2 : ∀ {R : Type}, Nat → Int → Int → (List Int) → (Int → (List Int) → Option R) → Option R) {R : Type} (n : Nat) (y2_0 : Int) (y2_1 : Int) (y2_2 : List Int) (kk : Ex → Pk → Option R) : Dlaws_markIntS_l2.step tt sig (mkK [] R) (mkL (mkK []) [] R) (loopIn 2 (bodyOf Try.f24)) (fun q' => Plaws_markIntS_l2 @laws_markIntS_l2 n R q' kk) (PkS.pack Slaws_markIntS_l2 (y2_0, y2_1, y2_2, ())) kk = (fun (kexit0 : Int → (List Int) → Option R) => (bif (decide (y2_1 < (y2_2.length : Int))) then (bif decide (0 ≤ y2_1) then (bif decide (y2_1 < (y2_2.length : Int)) then laws_markIntS_l2 n (IntKind.wrap .i64 (y2_0 + 1)) (IntKind.wrap .i64 (y2_1 + 1)) (y2_2.set (Int.toNat y2_1) y2_0) kexit0 else none) else none) else kexit0 y2_0 y2_2)) (fun r0 r1 => kk (.exit 0) (PkS.pack Tlaws_markIntS_l2_0 (r0, r1, ()))) := by kernel_rfl
theorem lelaws_markIntS_l2 : LoopEq tt sig (fun n => mkK []) (fun n => mkL (mkK []) []) Dlaws_markIntS_l2 Slaws_markIntS_l2 (loopIn 2 (bodyOf Try.f24)) (Plaws_markIntS_l2 @laws_markIntS_l2) where
  zero R q kk := by unfold Plaws_markIntS_l2; cases (PkS.un Slaws_markIntS_l2 q) <;> rfl
  succ n R q kk := by
    unfold Plaws_markIntS_l2
    cases h : (PkS.un Slaws_markIntS_l2 q) with
    | none => rfl
    | some d =>
      obtain ⟨y2_0, y2_1, y2_2, u⟩ := (d : Int × Int × (List Int) × Unit)
      have hp := PkS.un_pack h
      subst hp
      exact (elaws_markIntS_l2 @laws_markIntS_l2 n y2_0 y2_1 y2_2 kk).symm
theorem nllaws_markIntS_l2 : ∀ n, NatLP (Plaws_markIntS_l2 @laws_markIntS_l2 n) := lelaws_markIntS_l2.nat (fun n => mkK_nat (claws_markIntS n)) fun n => mkL_nat (mkK_nat (claws_markIntS n)) (l := []) trivial
theorem inlaws_markIntS_l2 (n : Nat) (R : Type) : LoopsOk Try.prog (mkL (mkK []) [] R) (loopIn 2 (bodyOf Try.f24)) := .eq (l := []) (by kernel_rfl) trivial
theorem lklaws_markIntS_l2 (n : Nat) (R : Type) (L0 : LK R) (h0 : ∀ id, firstRegion (loopIn 2 (bodyOf Try.f24)) = some id → L0 id = Dlaws_markIntS_l2.oracle (mkK [] R) (Plaws_markIntS_l2 @laws_markIntS_l2 n R)) : LoopOk Try.prog L0 (loopIn 2 (bodyOf Try.f24)) :=
  lelaws_markIntS_l2.ok mixed ttok (fun n => mkK_nat (claws_markIntS n)) (fun n => mkK_ok (claws_markIntS n)) (fun n => inlaws_markIntS_l2 n R) (mkK_nat (claws_markIntS n)) h0
@[reducible] def Slaws_markIntS : PkS := ⟨[.one (.whole (200000, 0)), .one (.int .i64)], [((200000, 0), .arr (.int .i64))]⟩
@[reducible] def Tlaws_markIntS : PkS := ⟨[.one (.int .i64), .one (.whole (300000, 0)), .one (.dead)], [((300000, 0), .arr (.int .i64))]⟩
def Hlaws_markIntS : List Sh := [.one .any, .one (.own (.int .i64)), .skip]
def Klaws_markIntS (g : ∀ {R : Type}, Nat → Int → (List Int) → (Int → (List Int) → Option R) → Option R) (n : Nat) : KPs := fun R p k => match (PkS.un Slaws_markIntS p : Option (Int × (List Int) × Unit)) with
  | some (x0, x1, _) => g n x0 x1 (fun r0 r1 => k (PkS.pack Tlaws_markIntS (r0, r1, ())))
  | none => none
theorem elaws_markIntS (laws_markIntS_l2 : ∀ {R : Type}, Nat → Int → Int → (List Int) → (Int → (List Int) → Option R) → Option R) {R : Type} (n : Nat) (x0 : Int) (x1 : List Int) (k : Pk → Option R) : evF tt sig (mkK [] R) (mkL (mkK []) [(2, Dlaws_markIntS_l2, Plaws_markIntS_l2 @laws_markIntS_l2 n)] R) Try.f24 Hlaws_markIntS (PkS.pack Slaws_markIntS (x0, x1, ())) k = (fun (k : Int → (List Int) → Option R) => (laws_markIntS_l2 n x0 0 x1 (fun r1 r2 => k r1 r2))) (fun r0 r1 => k (PkS.pack Tlaws_markIntS (r0, r1, ()))) := by kernel_rfl
theorem oklaws_markIntS (n : Nat) : FnOk Try.prog 24 (Klaws_markIntS @laws_markIntS n) := by
  refine fn_ok (sig := sig) mixed ttok (mkK_nat (claws_markIntS n)) (mkK_ok (claws_markIntS n)) (mkL_nat (mkK_nat (claws_markIntS n)) (l := [(2, Dlaws_markIntS_l2, Plaws_markIntS_l2 @laws_markIntS_l2 n)]) ⟨nllaws_markIntS_l2 n, trivial⟩) (fn := Try.f24) (c := bodyOf Try.f24) (by kernel_rfl) (by kernel_rfl) (by kernel_rfl) (.eq (l := [.lo (loopIn 2 (bodyOf Try.f24))]) (by kernel_rfl) ⟨(lklaws_markIntS_l2 n _ _ (at_id (i := 2) (by kernel_rfl) rfl)), trivial⟩) (shs := Hlaws_markIntS) (S := Slaws_markIntS) (h1 := by kernel_rfl) fun R p k => ?_
  unfold Klaws_markIntS
  cases h : (PkS.un Slaws_markIntS p) with
  | none => rfl
  | some d =>
    obtain ⟨x0, x1, u⟩ := (d : Int × (List Int) × Unit)
    have hp := PkS.un_pack h
    subst hp
    exact (elaws_markIntS @laws_markIntS_l2 n x0 x1 k).symm

/-! ### loop.example/g00269/laws.markRuleS -/
theorem claws_markRuleS (n : Nat) : AllOk Try.prog [(24, Klaws_markIntS @laws_markIntS n)] := ⟨oklaws_markIntS n, trivial⟩
@[reducible] def Slaws_markRuleS : PkS := ⟨[.one (.mp (200000, 0)), .one (.int .i64)], [((200000, 0), .dee (.pr (.int .i64) (.sl (.int .i64))))]⟩
@[reducible] def Tlaws_markRuleS : PkS := ⟨[.one (.int .i64), .one (.dead), .one (.dead)], []⟩
def Klaws_markRuleS (g : ∀ {R : Type}, Nat → Int → (List (Int × List Int)) → (Int → Option R) → Option R) (n : Nat) : KPs := fun R p k => match (PkS.un Slaws_markRuleS p : Option (Int × (List (Int × List Int)) × Unit)) with
  | some (x0, x1, _) => g n x0 x1 (fun r0 => k (PkS.pack Tlaws_markRuleS (r0, ())))
  | none => none
theorem dmlaws_markRuleS (n : Nat) (l : List Int) (q : Int) (h1 : l.length < n) (h2 : 0 ≤ q) (h3 : q + l.length ≤ 4611686018427387904) : ∃ rest rt, Klaws_markIntS @laws_markIntS n Pk (PkS.pack rowIntS (q, l, ())) some = some ⟨.one (.int .i64 (q + l.length)) :: rest, rt⟩ := by
  refine ⟨[.one (.whole (300000, 0)), .one .dead], [((300000, 0), .arr (.int .i64) (Q.marks l.length q))], (show Klaws_markIntS @laws_markIntS n Pk (PkS.pack rowIntS (q, l, ())) some = laws_markIntS n q l (fun a b => some (PkS.pack Tlaws_markIntS (a, b, ()))) from rfl).trans ?_⟩
  rw [Q.laws_markIntS_eq h1 h2 (by omega)]
  rfl
theorem oklaws_markRuleS (n : Nat) : FnOk Try.prog 23 (Klaws_markRuleS @laws_markRuleS n) := by
  have e : Klaws_markRuleS @laws_markRuleS n = markRK n := by kernel_rfl
  rw [e]
  exact markR_ok (fn24 := Try.f24) (c24 := bodyOf Try.f24) (by kernel_rfl) (by kernel_rfl) (by kernel_rfl) (oklaws_markIntS n) (dmlaws_markRuleS n) (fn := Try.f23) (c := bodyOf Try.f23) (by kernel_rfl) (by kernel_rfl) (by kernel_rfl)

/-! ### loop.example/g00269/laws.heldIntS -/
theorem claws_heldIntS (n : Nat) : AllOk Try.prog [] := trivial
@[reducible] def Slaws_heldIntS_l2 : PkS := ⟨[.one (.ro (.int .i64)), .one (.int .i64), .one (.int .i64), .one (.dead), .one (.dead)], []⟩
@[reducible] def Tlaws_heldIntS_l2_0 : PkS := ⟨[.one (.int .i64), .one (.dead), .one (.dead)], []⟩
@[reducible] def Tlaws_heldIntS_l2_1 : PkS := ⟨[.one (.int .i64), .one (.dead), .one (.dead)], []⟩
def Dlaws_heldIntS_l2 : LoopD := ⟨21, [0, 1, 5], [.one (.ro (.int .i64)), .one .any, .one .any, .skip, .skip], fun x => match x with
  | .ret => some ([4], [.one .any, .skip, .skip])
  | .exit 0 => some ([1], [.one .any, .skip, .skip])
  | _ => none⟩
def Plaws_heldIntS_l2 (g : ∀ {R : Type}, Nat → (List Int) → Int → Int → (Int → Option R) → (Int → Option R) → Option R) (n : Nat) : LPs := fun R q kk => match (PkS.un Slaws_heldIntS_l2 q : Option ((List Int) × Int × Int × Unit)) with
  | some (y2_0, y2_1, y2_2, _) => g n y2_0 y2_1 y2_2 (fun r0 => kk .ret (PkS.pack Tlaws_heldIntS_l2_0 (r0, ()))) (fun r0 => kk (.exit 0) (PkS.pack Tlaws_heldIntS_l2_1 (r0, ())))
  | none => none
theorem elaws_heldIntS_l2 (laws_heldIntS_l2 : ∀ {R : Type}, Nat → (List Int) → Int → Int → (Int → Option R) → (Int → Option R) → Option R) {R : Type} (n : Nat) (y2_0 : List Int) (y2_1 : Int) (y2_2 : Int) (kk : Ex → Pk → Option R) : Dlaws_heldIntS_l2.step tt sig (mkK [] R) (mkL (mkK []) [] R) (loopIn 2 (bodyOf Try.f25)) (fun q' => Plaws_heldIntS_l2 @laws_heldIntS_l2 n R q' kk) (PkS.pack Slaws_heldIntS_l2 (y2_0, y2_1, y2_2, ())) kk = (fun (kret : Int → Option R) (kexit0 : Int → Option R) => (bif (decide (y2_2 < (y2_0.length : Int))) then (bif decide (0 ≤ y2_2) then (bif decide (y2_2 < (y2_0.length : Int)) then (bif ((y2_0.getD (Int.toNat y2_2) 0) != y2_1) then kret (-1) else laws_heldIntS_l2 n y2_0 (IntKind.wrap .i64 (y2_1 + 1)) (IntKind.wrap .i64 (y2_2 + 1)) kret kexit0) else none) else none) else kexit0 y2_1)) (fun r0 => kk .ret (PkS.pack Tlaws_heldIntS_l2_0 (r0, ()))) (fun r0 => kk (.exit 0) (PkS.pack Tlaws_heldIntS_l2_1 (r0, ()))) := by kernel_rfl
theorem lelaws_heldIntS_l2 : LoopEq tt sig (fun n => mkK []) (fun n => mkL (mkK []) []) Dlaws_heldIntS_l2 Slaws_heldIntS_l2 (loopIn 2 (bodyOf Try.f25)) (Plaws_heldIntS_l2 @laws_heldIntS_l2) where
  zero R q kk := by unfold Plaws_heldIntS_l2; cases (PkS.un Slaws_heldIntS_l2 q) <;> rfl
  succ n R q kk := by
    unfold Plaws_heldIntS_l2
    cases h : (PkS.un Slaws_heldIntS_l2 q) with
    | none => rfl
    | some d =>
      obtain ⟨y2_0, y2_1, y2_2, u⟩ := (d : (List Int) × Int × Int × Unit)
      have hp := PkS.un_pack h
      subst hp
      exact (elaws_heldIntS_l2 @laws_heldIntS_l2 n y2_0 y2_1 y2_2 kk).symm
theorem nllaws_heldIntS_l2 : ∀ n, NatLP (Plaws_heldIntS_l2 @laws_heldIntS_l2 n) := lelaws_heldIntS_l2.nat (fun n => mkK_nat (claws_heldIntS n)) fun n => mkL_nat (mkK_nat (claws_heldIntS n)) (l := []) trivial
theorem inlaws_heldIntS_l2 (n : Nat) (R : Type) : LoopsOk Try.prog (mkL (mkK []) [] R) (loopIn 2 (bodyOf Try.f25)) := .eq (l := []) (by kernel_rfl) trivial
theorem lklaws_heldIntS_l2 (n : Nat) (R : Type) (L0 : LK R) (h0 : ∀ id, firstRegion (loopIn 2 (bodyOf Try.f25)) = some id → L0 id = Dlaws_heldIntS_l2.oracle (mkK [] R) (Plaws_heldIntS_l2 @laws_heldIntS_l2 n R)) : LoopOk Try.prog L0 (loopIn 2 (bodyOf Try.f25)) :=
  lelaws_heldIntS_l2.ok mixed ttok (fun n => mkK_nat (claws_heldIntS n)) (fun n => mkK_ok (claws_heldIntS n)) (fun n => inlaws_heldIntS_l2 n R) (mkK_nat (claws_heldIntS n)) h0
@[reducible] def Slaws_heldIntS : PkS := ⟨[.one (.ro (.int .i64)), .one (.int .i64)], []⟩
@[reducible] def Tlaws_heldIntS : PkS := ⟨[.one (.int .i64), .one (.dead), .one (.dead)], []⟩
def Hlaws_heldIntS : List Sh := [.one .any, .skip, .skip]
def Klaws_heldIntS (g : ∀ {R : Type}, Nat → (List Int) → Int → (Int → Option R) → Option R) (n : Nat) : KPs := fun R p k => match (PkS.un Slaws_heldIntS p : Option ((List Int) × Int × Unit)) with
  | some (x0, x1, _) => g n x0 x1 (fun r0 => k (PkS.pack Tlaws_heldIntS (r0, ())))
  | none => none
theorem elaws_heldIntS (laws_heldIntS_l2 : ∀ {R : Type}, Nat → (List Int) → Int → Int → (Int → Option R) → (Int → Option R) → Option R) {R : Type} (n : Nat) (x0 : List Int) (x1 : Int) (k : Pk → Option R) : evF tt sig (mkK [] R) (mkL (mkK []) [(2, Dlaws_heldIntS_l2, Plaws_heldIntS_l2 @laws_heldIntS_l2 n)] R) Try.f25 Hlaws_heldIntS (PkS.pack Slaws_heldIntS (x0, x1, ())) k = (fun (k : Int → Option R) => (laws_heldIntS_l2 n x0 x1 0 (fun r1 => k r1) (fun r2 => k r2))) (fun r0 => k (PkS.pack Tlaws_heldIntS (r0, ()))) := by kernel_rfl
theorem oklaws_heldIntS (n : Nat) : FnOk Try.prog 25 (Klaws_heldIntS @laws_heldIntS n) := by
  refine fn_ok (sig := sig) mixed ttok (mkK_nat (claws_heldIntS n)) (mkK_ok (claws_heldIntS n)) (mkL_nat (mkK_nat (claws_heldIntS n)) (l := [(2, Dlaws_heldIntS_l2, Plaws_heldIntS_l2 @laws_heldIntS_l2 n)]) ⟨nllaws_heldIntS_l2 n, trivial⟩) (fn := Try.f25) (c := bodyOf Try.f25) (by kernel_rfl) (by kernel_rfl) (by kernel_rfl) (.eq (l := [.lo (loopIn 2 (bodyOf Try.f25))]) (by kernel_rfl) ⟨(lklaws_heldIntS_l2 n _ _ (at_id (i := 2) (by kernel_rfl) rfl)), trivial⟩) (shs := Hlaws_heldIntS) (S := Slaws_heldIntS) (h1 := by kernel_rfl) fun R p k => ?_
  unfold Klaws_heldIntS
  cases h : (PkS.un Slaws_heldIntS p) with
  | none => rfl
  | some d =>
    obtain ⟨x0, x1, u⟩ := (d : (List Int) × Int × Unit)
    have hp := PkS.un_pack h
    subst hp
    exact (elaws_heldIntS @laws_heldIntS_l2 n x0 x1 k).symm

/-! ### loop.example/g00269/laws.FnExactLeastModel -/
theorem claws_FnExactLeastModel (n : Nat) : AllOk Try.prog [(12, Klaws_szRuleS @laws_szRuleS n), (14, Klaws_toRuleS @laws_toRuleS n), (18, Klaws_toIntS @laws_toIntS n), (30, Kspec_LeastModel @spec_LeastModel n), (31, Kimpl_LeastModel @impl_LeastModel n), (20, Klaws_eqIntS @laws_eqIntS n), (16, Klaws_eqRuleS @laws_eqRuleS n), (23, Klaws_markRuleS @laws_markRuleS n), (24, Klaws_markIntS @laws_markIntS n), (25, Klaws_heldIntS @laws_heldIntS n)] := ⟨oklaws_szRuleS n, ⟨oklaws_toRuleS n, ⟨oklaws_toIntS n, ⟨okspec_LeastModel n, ⟨okimpl_LeastModel n, ⟨oklaws_eqIntS n, ⟨oklaws_eqRuleS n, ⟨oklaws_markRuleS n, ⟨oklaws_markIntS n, ⟨oklaws_heldIntS n, trivial⟩⟩⟩⟩⟩⟩⟩⟩⟩⟩
@[reducible] def Slaws_FnExactLeastModel : PkS := ⟨[.one (.ro (.pr (.int .i64) (.sl (.int .i64)))), .one (.ro (.int .i64))], []⟩
@[reducible] def Tlaws_FnExactLeastModel : PkS := ⟨[.one (.bool), .one (.dead), .one (.dead)], []⟩
def Hlaws_FnExactLeastModel : List Sh := [.one .any, .skip, .skip]
def Klaws_FnExactLeastModel (g : ∀ {R : Type}, Nat → (List (Int × List Int)) → (List Int) → (Bool → Option R) → Option R) (n : Nat) : KPs := fun R p k => match (PkS.un Slaws_FnExactLeastModel p : Option ((List (Int × List Int)) × (List Int) × Unit)) with
  | some (x0, x1, _) => g n x0 x1 (fun r0 => k (PkS.pack Tlaws_FnExactLeastModel (r0, ())))
  | none => none
theorem elaws_FnExactLeastModel (laws_szRuleS : ∀ {R : Type}, Nat → (List (Int × List Int)) → Int → (Int → Option R) → Option R) (laws_toRuleS : ∀ {R : Type}, Nat → (List (Int × List Int)) → ((List (Int × List Int)) → Option R) → Option R) (laws_toIntS : ∀ {R : Type}, Nat → (List Int) → ((List Int) → Option R) → Option R) (spec_LeastModel : ∀ {R : Type}, Nat → (List (Int × List Int)) → (List Int) → (Int → Bool → (List Int) → Option R) → Option R) (impl_LeastModel : ∀ {R : Type}, Nat → (List (Int × List Int)) → (List Int) → (Int → Bool → (List Int) → Option R) → Option R) (laws_eqIntS : ∀ {R : Type}, Nat → (List Int) → (List Int) → (Bool → Option R) → Option R) (laws_eqRuleS : ∀ {R : Type}, Nat → (List (Int × List Int)) → (List (Int × List Int)) → (Bool → Option R) → Option R) (laws_markRuleS : ∀ {R : Type}, Nat → Int → (List (Int × List Int)) → (Int → Option R) → Option R) (laws_markIntS : ∀ {R : Type}, Nat → Int → (List Int) → (Int → (List Int) → Option R) → Option R) (laws_heldIntS : ∀ {R : Type}, Nat → (List Int) → Int → (Int → Option R) → Option R) {R : Type} (n : Nat) (x0 : List (Int × List Int)) (x1 : List Int) (k : Pk → Option R) : evF tt sig (mkK [(12, Klaws_szRuleS @laws_szRuleS n), (14, Klaws_toRuleS @laws_toRuleS n), (18, Klaws_toIntS @laws_toIntS n), (30, Kspec_LeastModel @spec_LeastModel n), (31, Kimpl_LeastModel @impl_LeastModel n), (20, Klaws_eqIntS @laws_eqIntS n), (16, Klaws_eqRuleS @laws_eqRuleS n), (23, Klaws_markRuleS @laws_markRuleS n), (24, Klaws_markIntS @laws_markIntS n), (25, Klaws_heldIntS @laws_heldIntS n)] R) (mkL (mkK [(12, Klaws_szRuleS @laws_szRuleS n), (14, Klaws_toRuleS @laws_toRuleS n), (18, Klaws_toIntS @laws_toIntS n), (30, Kspec_LeastModel @spec_LeastModel n), (31, Kimpl_LeastModel @impl_LeastModel n), (20, Klaws_eqIntS @laws_eqIntS n), (16, Klaws_eqRuleS @laws_eqRuleS n), (23, Klaws_markRuleS @laws_markRuleS n), (24, Klaws_markIntS @laws_markIntS n), (25, Klaws_heldIntS @laws_heldIntS n)]) [] R) Try.f8 Hlaws_FnExactLeastModel (PkS.pack Slaws_FnExactLeastModel (x0, x1, ())) k = (fun (k : Bool → Option R) => (bif (decide ((x1.length : Int) > 1048576)) then k true else (laws_szRuleS n x0 1048576 fun r1 => (bif (decide (r1 < 0)) then k true else (laws_toRuleS n x0 fun r2 => (laws_toIntS n x1 fun r3 => (spec_LeastModel n r2 r3 fun r4 r5 r6 => (laws_toRuleS n x0 fun r7 => (laws_toIntS n x1 fun r8 => (impl_LeastModel n r7 r8 fun r9 r10 r11 => (laws_eqIntS n r11 r6 fun r12 => (bif (!r12) then k false else (bif (r9 != r4) then k false else (bif (!(r10 == r5)) then k false else (laws_toRuleS n x0 fun r13 => (laws_eqRuleS n r7 r13 fun r14 => (bif (!r14) then k false else (laws_toIntS n x1 fun r15 => (laws_eqIntS n r8 r15 fun r16 => (bif (!r16) then k false else (laws_markRuleS n 1 r7 fun r17 => (laws_markIntS n r17 r8 fun r18 r19 => (bif (decide (r18 < 0)) then k false else (laws_eqIntS n r11 r6 fun r20 => (bif (!r20) then k false else (bif (r9 != r4) then k false else (bif (!(r10 == r5)) then k false else (laws_markIntS n 1 r11 fun r21 r22 => (laws_heldIntS n r22 1 fun r23 => (bif (decide (r23 < 0)) then k false else (bif (r23 != r21) then k false else (laws_toRuleS n x0 fun r24 => (laws_toIntS n x1 fun r25 => (impl_LeastModel n r24 r25 fun r26 r27 r28 => (laws_eqIntS n r28 r6 fun r29 => (bif (!r29) then k false else (bif (r26 != r4) then k false else (bif (!(r27 == r5)) then k false else (laws_heldIntS n r22 1 fun r30 => (bif (decide (r30 < 0)) then k false else (bif (r30 != r21) then k false else k true))))))))))))))))))))))))))))))))))))))))) (fun r0 => k (PkS.pack Tlaws_FnExactLeastModel (r0, ()))) := by kernel_rfl
theorem oklaws_FnExactLeastModel (n : Nat) : FnOk Try.prog 8 (Klaws_FnExactLeastModel @laws_FnExactLeastModel n) := by
  refine fn_ok (sig := sig) mixed ttok (mkK_nat (claws_FnExactLeastModel n)) (mkK_ok (claws_FnExactLeastModel n)) (mkL_nat (mkK_nat (claws_FnExactLeastModel n)) (l := []) trivial) (fn := Try.f8) (c := bodyOf Try.f8) (by kernel_rfl) (by kernel_rfl) (by kernel_rfl) (.eq (l := []) (by kernel_rfl) trivial) (shs := Hlaws_FnExactLeastModel) (S := Slaws_FnExactLeastModel) (h1 := by kernel_rfl) fun R p k => ?_
  unfold Klaws_FnExactLeastModel
  cases h : (PkS.un Slaws_FnExactLeastModel p) with
  | none => rfl
  | some d =>
    obtain ⟨x0, x1, u⟩ := (d : (List (Int × List Int)) × (List Int) × Unit)
    have hp := PkS.un_pack h
    subst hp
    exact (elaws_FnExactLeastModel @laws_szRuleS @laws_toRuleS @laws_toIntS @spec_LeastModel @impl_LeastModel @laws_eqIntS @laws_eqRuleS @laws_markRuleS @laws_markIntS @laws_heldIntS n x0 x1 k).symm
end Go.Am.G
