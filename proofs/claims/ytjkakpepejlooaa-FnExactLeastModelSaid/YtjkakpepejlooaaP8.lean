/- The plain law: what the functions compute answers as the law says, for all arguments. -/
import Derived.Test.YtjkakpepejlooaaF8
set_option linter.unusedVariables false
set_option linter.unusedSimpArgs false
namespace Go.Am.G
open Go Go.Am
theorem wrap64 {x : Int} (h1 : -9223372036854775808 ≤ x) (h2 : x ≤ 9223372036854775807) : IntKind.wrap .i64 x = x := by
  simp only [IntKind.wrap, IntKind.signed, IntKind.bits]
  simp
  omega
theorem getD_at {α : Type} (l : List α) (d : α) {j : Nat} (h : j < l.length) : l.getD (Int.toNat (j : Int)) d = l[j] := by
  rw [Int.toNat_natCast, List.getD_eq_getElem?_getD, List.getElem?_eq_getElem h]; rfl
theorem dlt {a b : Nat} (h : a < b) : decide ((a : Int) < (b : Int)) = true := decide_eq_true (by omega)
theorem dge {a b : Nat} (h : b ≤ a) : decide ((a : Int) < (b : Int)) = false := decide_eq_false (by omega)
theorem dnn (a : Nat) : decide (0 ≤ (a : Int)) = true := decide_eq_true (by omega)
theorem wrapS {j m : Nat} (h : j < m) (hm : m ≤ 9223372036854775807) : IntKind.wrap .i64 ((j : Int) + 1) = ((j + 1 : Nat) : Int) := by
  rw [wrap64 (by omega) (by omega)]; rfl
theorem spec_l1In_eq {R : Type} (n : Nat) (x a b : Int) (k : Bool → Option R) : spec_l1In n x a b k = k (decide (a ≤ x ∧ x ≤ b)) := by
  simp only [spec_l1In]
  by_cases h : x ≥ a
  · have : a ≤ x := h
    simp [this]
  · have : ¬ a ≤ x := h
    simp [this]
theorem impl_in_eq {R : Type} (n : Nat) (x a b : Int) (k : Bool → Option R) : impl_in n x a b k = k (decide (a ≤ x ∧ x ≤ b)) := by
  simp only [impl_in]
  by_cases h : x ≥ a
  · have : a ≤ x := h
    simp [this]
  · have : ¬ a ≤ x := h
    simp [this]
theorem bifk {R α : Type} (b : Bool) (x y : α) (k : α → Option R) : (bif b then k x else k y) = k (bif b then x else y) := by cases b <;> rfl
theorem loop_all {α R : Type} (l : List α) (q : α → Bool) (B : Nat) (F : Nat → Int → Option R) (ke kr : Option R)
    (step : ∀ (n j : Nat) (h : j < l.length), B ≤ n → F (n + 1) (j : Int) = bif q l[j] then F n ((j + 1 : Nat) : Int) else kr)
    (stop : ∀ n, F (n + 1) (l.length : Int) = ke) : ∀ (n j : Nat), B + (l.length - j) < n → j ≤ l.length → F n (j : Int) = bif (l.drop j).all q then ke else kr
  | 0, _, h, _ => by omega
  | n + 1, j, hn, hj => by
    by_cases h : j < l.length
    · rw [step n j h (by omega), List.drop_eq_getElem_cons h, List.all_cons, loop_all l q B F ke kr step stop n (j + 1) (by omega) (by omega)]
      cases q l[j] <;> rfl
    · have : j = l.length := by omega
      subst this
      rw [stop, List.drop_length]; rfl
theorem loop_all0 {α R : Type} (l : List α) (q : α → Bool) (B : Nat) (F : Nat → Int → Option R) (ke kr : Option R)
    (step : ∀ (n j : Nat) (h : j < l.length), B ≤ n → F (n + 1) (j : Int) = bif q l[j] then F n ((j + 1 : Nat) : Int) else kr)
    (stop : ∀ n, F (n + 1) (l.length : Int) = ke) {n : Nat} (hn : B + l.length < n) : F n 0 = bif l.all q then ke else kr := by
  have := loop_all l q B F ke kr step stop n 0 (by omega) (by omega)
  rw [List.drop_zero] at this
  exact this
theorem laws_eqIntS_loop {R : Type} (xs ys : List Int) (hl : xs.length = ys.length) (hb : xs.length ≤ 9223372036854775807) (kr : Bool → Option R) (ke : Option R) : ∀ (n j : Nat), xs.length - j < n → j ≤ xs.length →
    laws_eqIntS_l4 n xs ys (j : Int) kr ke = if xs.drop j = ys.drop j then ke else kr false
  | 0, _, h, _ => by omega
  | n + 1, j, hn, hj => by
    unfold laws_eqIntS_l4
    by_cases h : j < xs.length
    · have h' : j < ys.length := by omega
      rw [dlt h, dlt h', dnn, getD_at _ _ h, getD_at _ _ h', wrapS h hb, List.drop_eq_getElem_cons h, List.drop_eq_getElem_cons h']
      simp only [cond_true]
      by_cases he : xs[j] = ys[j]
      · have : (xs[j] != ys[j]) = false := by simp [he]
        rw [this, cond_false, laws_eqIntS_loop xs ys hl hb kr ke n (j + 1) (by omega) (by omega)]
        simp only [List.cons.injEq, he, true_and]
      · have : (xs[j] != ys[j]) = true := by simpa using he
        rw [this, cond_true, if_neg fun h => he (List.cons.inj h).1]
    · rw [dge (by omega)]
      have h1 : xs.drop j = [] := List.drop_eq_nil_iff.2 (by omega)
      have h2 : ys.drop j = [] := List.drop_eq_nil_iff.2 (by omega)
      simp [h1, h2]
theorem laws_eqIntS_eq {R : Type} {n : Nat} {xs ys : List Int} (hb : xs.length ≤ 9223372036854775807) (hn : xs.length < n) (k : Bool → Option R) : laws_eqIntS n xs ys k = k (decide (xs = ys)) := by
  unfold laws_eqIntS
  by_cases hl : xs.length = ys.length
  · have : ((xs.length : Int) != (ys.length : Int)) = false := by simp [hl]
    rw [this, cond_false]
    have := laws_eqIntS_loop xs ys hl hb k (k true) n 0 (by omega) (by omega)
    simp only [List.drop_zero] at this
    rw [show ((0 : Nat) : Int) = 0 from rfl] at this
    rw [this]
    split <;> simp_all
  · have : ((xs.length : Int) != (ys.length : Int)) = true := by simp; omega
    rw [this, cond_true, decide_eq_false fun h => hl (by rw [h])]
/-- Numbers one behind the other. -/
def marks : Nat → Int → List Int
  | 0, _ => []
  | m + 1, k => k :: marks m (k + 1)
theorem marks_length : ∀ m k, (marks m k).length = m
  | 0, _ => rfl
  | m + 1, k => by simp [marks, marks_length m]
theorem set_take_drop {α : Type} {l : List α} {j : Nat} (h : j < l.length) (x : α) : (l.set j x).take (j + 1) = l.take j ++ [x] := by
  rw [List.take_set, List.take_succ_eq_append_getElem h, List.set_append_right _ _ (by simp; omega)]
  simp [Nat.min_eq_left (Nat.le_of_lt h)]
theorem laws_markIntS_loop {R : Type} (ke : Int → List Int → Option R) : ∀ (n j : Nat) (l : List Int) (q : Int), l.length - j < n → j ≤ l.length → 0 ≤ q → q + (l.length - j : Nat) ≤ 9223372036854775807 → l.length ≤ 9223372036854775807 →
    laws_markIntS_l2 n q (j : Int) l ke = ke (q + (l.length - j : Nat)) (l.take j ++ marks (l.length - j) q)
  | 0, _, _, _, h, _, _, _, _ => by omega
  | n + 1, j, l, q, hn, hj, h0, h1, h2 => by
    unfold laws_markIntS_l2
    by_cases h : j < l.length
    · rw [dlt h, dnn, wrapS h (by omega), wrap64 (x := q + 1) (by omega) (by omega), Int.toNat_natCast]
      simp only [cond_true]
      rw [laws_markIntS_loop ke n (j + 1) (l.set j q) (q + 1) (by simp; omega) (by simp; omega) (by omega) (by simp; omega) (by simp; omega)]
      rw [List.length_set, set_take_drop h, List.append_assoc, show l.length - j = (l.length - (j + 1)) + 1 by omega]
      congr 1
      omega
    · rw [dge (by omega), cond_false, show l.length - j = 0 by omega, List.take_of_length_le (by omega)]
      simp [marks]
theorem laws_markIntS_eq {R : Type} {n : Nat} {l : List Int} {q : Int} (hn : l.length < n) (h0 : 0 ≤ q) (h1 : q + l.length ≤ 9223372036854775807) (k : Int → List Int → Option R) : laws_markIntS n q l k = k (q + l.length) (marks l.length q) := by
  unfold laws_markIntS
  have := laws_markIntS_loop k n 0 l q (by omega) (by omega) h0 (by omega) (by omega)
  simp only [List.take_zero, List.nil_append, Nat.sub_zero] at this
  exact this
theorem laws_heldIntS_loop {R : Type} (l : List Int) (kr ke : Int → Option R) : ∀ (n j : Nat) (q : Int), l.length - j < n → j ≤ l.length → 0 ≤ q → q + (l.length - j : Nat) ≤ 9223372036854775807 → l.length ≤ 9223372036854775807 → l.drop j = marks (l.length - j) q →
    laws_heldIntS_l2 n l q (j : Int) kr ke = ke (q + (l.length - j : Nat))
  | 0, _, _, h, _, _, _, _, _ => by omega
  | n + 1, j, q, hn, hj, h0, h1, h2, h3 => by
    unfold laws_heldIntS_l2
    by_cases h : j < l.length
    · rw [show l.length - j = (l.length - (j + 1)) + 1 by omega, List.drop_eq_getElem_cons h, marks] at h3
      injection h3 with h4 h5
      rw [dlt h, dnn, getD_at _ _ h, wrapS h h2, wrap64 (by omega) (by omega), h4, bne_self_eq_false]
      simp only [cond_true, cond_false]
      rw [laws_heldIntS_loop l kr ke n (j + 1) (q + 1) (by omega) (by omega) (by omega) (by omega) h2 h5]
      congr 1
      omega
    · rw [dge (by omega), cond_false, show l.length - j = 0 by omega]
      simp
theorem laws_heldIntS_eq {R : Type} {n m : Nat} {q : Int} (hn : m < n) (h0 : 0 ≤ q) (h1 : q + m ≤ 9223372036854775807) (k : Int → Option R) : laws_heldIntS n (marks m q) q k = k (q + m) := by
  unfold laws_heldIntS
  have := laws_heldIntS_loop (marks m q) k k n 0 q (by rw [marks_length]; omega) (by omega) h0 (by rw [marks_length]; omega) (by rw [marks_length]; omega) (by rw [marks_length]; simp)
  rw [marks_length] at this
  simp only [Nat.sub_zero] at this
  exact this
theorem laws_szIntS_eq {R : Type} (n : Nat) (l : List Int) (left : Int) (h0 : 0 ≤ left) (h1 : left ≤ 1048576) (hl : l.length ≤ 9223372036854775807) (k : Int → Option R) :
    laws_szIntS n l left k = if left < l.length then k (-1) else k (left - l.length) := by
  unfold laws_szIntS
  rw [wrap64 (by omega) (by omega)]
  by_cases h : left < l.length
  · rw [decide_eq_true (by omega), if_pos h]; rfl
  · rw [decide_eq_false (by omega), if_neg h]; rfl
theorem laws_szRuleS_loop (l : List (Int × List Int)) (hl : l.length ≤ 9223372036854775807) (hb : ∀ x ∈ l, x.2.length ≤ 9223372036854775807) : ∀ (n j : Nat) (left : Int), l.length - j < n → j ≤ l.length → 0 ≤ left → left ≤ 1048576 →
    ∃ r, (∀ (R : Type) (k : Int → Option R), laws_szRuleS_l5 n l left (j : Int) k k = k r) ∧ (0 ≤ r → ∀ x ∈ l.drop j, x.2.length ≤ 1048576)
  | 0, _, _, h, _, _, _ => by omega
  | n + 1, j, left, hn, hj, h0, h1 => by
    by_cases h : j < l.length
    · have hx := hb l[j] (List.getElem_mem h)
      by_cases c : left < l[j].2.length
      · refine ⟨-1, fun R k => ?_, fun h => by omega⟩
        rw [laws_szRuleS_l5, dlt h, dnn, getD_at _ _ h, wrapS h hl]
        simp only [cond_true, laws_szRule, laws_szIntS_eq n _ left h0 h1 hx, if_pos c]
        rfl
      · obtain ⟨r, h2, h3⟩ := laws_szRuleS_loop l hl hb n (j + 1) (left - l[j].2.length) (by omega) (by omega) (by omega) (by omega)
        refine ⟨r, fun R k => ?_, fun h4 x hx => ?_⟩
        · rw [laws_szRuleS_l5, dlt h, dnn, getD_at _ _ h, wrapS h hl]
          simp only [cond_true, laws_szRule, laws_szIntS_eq n _ left h0 h1 hx, if_neg c]
          rw [decide_eq_false (show ¬ left - (l[j].2.length : Int) < 0 by omega), cond_false, cond_false]
          exact h2 R k
        · rw [List.drop_eq_getElem_cons h] at hx
          rcases List.mem_cons.1 hx with rfl | hx
          · omega
          · exact h3 h4 x hx
    · refine ⟨left, fun R k => ?_, fun _ x hx => ?_⟩
      · rw [laws_szRuleS_l5, dge (by omega), cond_false]
      · rw [List.drop_eq_nil_iff.2 (by omega)] at hx
        cases hx
theorem laws_szRuleS_eq {n : Nat} {l : List (Int × List Int)} (hl : l.length ≤ 9223372036854775807) (hb : ∀ x ∈ l, x.2.length ≤ 9223372036854775807) (hn : l.length < n) :
    ∃ r, (∀ (R : Type) (k : Int → Option R), laws_szRuleS n l 1048576 k = k r) ∧ (0 ≤ r → l.length ≤ 1048576 ∧ ∀ x ∈ l, x.2.length ≤ 1048576) := by
  by_cases h : (1048576 : Int) - l.length < 0
  · refine ⟨-1, fun R k => ?_, fun h => by omega⟩
    unfold laws_szRuleS
    rw [wrap64 (by omega) (by omega), decide_eq_true h]; rfl
  · obtain ⟨r, h2, h3⟩ := laws_szRuleS_loop l hl hb n 0 (1048576 - l.length) (by omega) (by omega) (by omega) (by omega)
    refine ⟨r, fun R k => ?_, fun h4 => ⟨by omega, by simpa using h3 h4⟩⟩
    unfold laws_szRuleS
    rw [wrap64 (by omega) (by omega), decide_eq_false h, cond_false]
    exact h2 R k
theorem set_take_at {α : Type} {out l : List α} {j : Nat} (h : j < l.length) (ho : out.length = l.length) (ht : out.take j = l.take j) : (out.set j l[j]).take (j + 1) = l.take (j + 1) := by
  rw [List.take_set, List.take_succ_eq_append_getElem (by omega), List.take_succ_eq_append_getElem h, ht, List.set_append_right _ _ (by simp; omega)]
  rw [show j - (l.take j).length = 0 by simp; omega]
  rfl
theorem laws_toIntS_loop {R : Type} (l : List Int) (hb : l.length ≤ 9223372036854775807) (ke : List Int → Option R) : ∀ (n j : Nat) (out : List Int), l.length - j < n → j ≤ l.length → out.length = l.length → out.take j = l.take j →
    laws_toIntS_l3 n l (j : Int) out ke = ke l
  | 0, _, _, h, _, _, _ => by omega
  | n + 1, j, out, hn, hj, ho, ht => by
    unfold laws_toIntS_l3
    by_cases h : j < l.length
    · rw [dlt h, dnn, getD_at _ _ h, wrapS h hb, Int.toNat_natCast, ho, dlt h]
      simp only [cond_true]
      exact laws_toIntS_loop l hb ke n (j + 1) _ (by omega) (by omega) (by simpa using ho) (set_take_at h ho ht)
    · rw [dge (by omega), cond_false]
      have h1 : l.take j = l := List.take_of_length_le (by omega)
      rw [List.take_of_length_le (by omega), h1] at ht
      rw [ht]
theorem laws_toIntS_eq {R : Type} {n : Nat} {l : List Int} (hl : l.length ≤ 1048576) (hn : l.length < n) (k : List Int → Option R) : laws_toIntS n l k = k l := by
  unfold laws_toIntS
  rw [decide_eq_true (by omega), decide_eq_true (by omega), decide_eq_true (by omega)]
  simp only [cond_true, Int.toNat_natCast]
  exact laws_toIntS_loop l (by omega) k n 0 _ (by omega) (by omega) (by simp) (by simp)
theorem laws_eqRuleS_refl {R : Type} {n : Nat} {l : List (Int × List Int)} (hl : l.length ≤ 1048576) (hx : ∀ x ∈ l, x.2.length ≤ 1048576) (hn : 3000000 ≤ n) (k : Bool → Option R) : laws_eqRuleS n l l k = k true := by
  unfold laws_eqRuleS
  rw [bne_self_eq_false, cond_false]
  have := loop_all0 l (fun _ => true) 1048577 (fun n i => laws_eqRuleS_l4 n l l i (fun r2 => k r2) (k true)) (k true) (k false) (fun n j h hn => by
    have hx' := hx l[j] (List.getElem_mem h)
    show laws_eqRuleS_l4 (n + 1) l l (j : Int) _ _ = _
    rw [laws_eqRuleS_l4]
    rw [dlt h, dnn, getD_at _ _ h, wrapS h (by omega)]
    simp only [cond_true, laws_eqRule, bne_self_eq_false, cond_false, laws_eqIntS_eq (show l[j].2.length ≤ 9223372036854775807 by omega) (show l[j].2.length < n by omega), decide_true, Bool.not_true]) (fun n => by
    show laws_eqRuleS_l4 (n + 1) l l (l.length : Int) _ _ = _
    rw [laws_eqRuleS_l4]
    rw [dge (by omega)]; rfl) (n := n) (by omega)
  rw [this, List.all_eq_true.2 fun _ _ => rfl]
  rfl
/-- Numbers that rise, and are facts. -/
def riseFrom : Int → List Int → Bool
  | _, [] => true
  | v, x :: r => decide (v < x ∧ x ≤ 39) && riseFrom x r
def setB (l : List Int) : Bool := riseFrom (-1) l
def okRule (x : Int × List Int) : Bool := decide (0 ≤ x.1 ∧ x.1 ≤ 39) && setB x.2
def okRules (l : List (Int × List Int)) : Bool := decide (l.length ≤ 60) && l.all okRule
theorem spec_l8Set_loop {R : Type} (l : List Int) (hb : l.length ≤ 9223372036854775807) (kr : Bool → Option R) (ke : Option R) : ∀ (n j : Nat) (v : Int), l.length - j < n → j ≤ l.length → -1 ≤ v →
    (j = 0 → v = -1) → (∀ (h : j - 1 < l.length), 0 < j → l[j - 1] = v) →
    spec_l8Set_l2 n l l (l.length : Int) (j : Int) kr ke = bif riseFrom v (l.drop j) then ke else kr false
  | 0, _, _, h, _, _, _, _ => by omega
  | n + 1, j, v, hn, hj, hv, h0, h1 => by
    unfold spec_l8Set_l2
    by_cases h : j < l.length
    · rw [dlt h, dnn, getD_at _ _ h, wrapS h hb, List.drop_eq_getElem_cons h]
      simp only [cond_true, spec_l1In_eq, riseFrom]
      have ih := fun (h2 : -1 ≤ l[j]) => spec_l8Set_loop l hb kr ke n (j + 1) l[j] (by omega) (by omega) h2 (by omega) (fun _ _ => rfl)
      by_cases hz : j = 0
      · have hv := h0 hz
        subst hv
        rw [decide_eq_false (show ¬ ((j : Int) > 0) by omega)]
        by_cases c1 : 0 ≤ l[j] ∧ l[j] ≤ 39
        · rw [decide_eq_true c1, decide_eq_true (show -1 < l[j] ∧ l[j] ≤ 39 by omega)]
          simp only [Bool.not_true, cond_false, Bool.true_and]
          exact ih (by omega)
        · rw [decide_eq_false c1, decide_eq_false (show ¬ (-1 < l[j] ∧ l[j] ≤ 39) by omega)]; rfl
      · have hp : j - 1 < l.length := by omega
        have hq := h1 hp (by omega)
        rw [decide_eq_true (show ((j : Int) > 0) by omega), wrap64 (x := (j : Int) - 1) (by omega) (by omega), show (j : Int) - 1 = ((j - 1 : Nat) : Int) by omega, dnn, dlt hp, getD_at _ _ hp, hq]
        simp only [cond_true]
        by_cases c1 : 0 ≤ l[j] ∧ l[j] ≤ 39
        · rw [decide_eq_true c1]
          simp only [Bool.not_true, cond_false]
          by_cases c3 : v < l[j]
          · rw [decide_eq_false (show ¬ (v ≥ l[j]) by omega), decide_eq_true (show v < l[j] ∧ l[j] ≤ 39 by omega)]
            simp only [cond_false, Bool.true_and]
            exact ih (by omega)
          · rw [decide_eq_true (show (v ≥ l[j]) by omega), decide_eq_false (show ¬ (v < l[j] ∧ l[j] ≤ 39) by omega)]; rfl
        · rw [decide_eq_false c1, decide_eq_false (show ¬ (v < l[j] ∧ l[j] ≤ 39) by omega)]; rfl
    · rw [dge (by omega), List.drop_eq_nil_iff.2 (by omega)]; rfl
theorem spec_l8Set_eq {R : Type} {n : Nat} {l : List Int} (hb : l.length ≤ 9223372036854775807) (hn : l.length < n) (k : Bool → Option R) : spec_l8Set n l k = k (setB l) := by
  unfold spec_l8Set
  have := spec_l8Set_loop l hb k (k true) n 0 (-1) (by omega) (by omega) (by omega) (fun _ => rfl) (fun _ h => by omega)
  rw [show ((0 : Nat) : Int) = 0 from rfl, List.drop_zero] at this
  rw [this]
  unfold setB
  cases riseFrom (-1) l <;> rfl
theorem impl_rising_loop {R : Type} (l : List Int) (hb : l.length ≤ 9223372036854775807) (kr : Bool → Option R) (ke : Option R) : ∀ (n j : Nat) (v : Int), l.length - j < n → j ≤ l.length → -1 ≤ v →
    (j = 0 → v = -1) → (∀ (h : j - 1 < l.length), 0 < j → l[j - 1] = v) →
    impl_rising_l2 n l 40 l (l.length : Int) (j : Int) kr ke = bif riseFrom v (l.drop j) then ke else kr false
  | 0, _, _, h, _, _, _, _ => by omega
  | n + 1, j, v, hn, hj, hv, h0, h1 => by
    unfold impl_rising_l2
    by_cases h : j < l.length
    · rw [dlt h, dnn, getD_at _ _ h, wrapS h hb, List.drop_eq_getElem_cons h, wrap64 (x := 40 - 1) (by omega) (by omega), show (40 : Int) - 1 = 39 from rfl]
      simp only [cond_true, impl_in_eq, riseFrom]
      have ih := fun (h2 : -1 ≤ l[j]) => impl_rising_loop l hb kr ke n (j + 1) l[j] (by omega) (by omega) h2 (by omega) (fun _ _ => rfl)
      by_cases hz : j = 0
      · have hv := h0 hz
        subst hv
        rw [decide_eq_false (show ¬ ((j : Int) > 0) by omega)]
        by_cases c1 : 0 ≤ l[j] ∧ l[j] ≤ 39
        · rw [decide_eq_true c1, decide_eq_true (show -1 < l[j] ∧ l[j] ≤ 39 by omega)]
          simp only [Bool.not_true, cond_false, Bool.true_and]
          exact ih (by omega)
        · rw [decide_eq_false c1, decide_eq_false (show ¬ (-1 < l[j] ∧ l[j] ≤ 39) by omega)]; rfl
      · have hp : j - 1 < l.length := by omega
        have hq := h1 hp (by omega)
        rw [decide_eq_true (show ((j : Int) > 0) by omega), wrap64 (x := (j : Int) - 1) (by omega) (by omega), show (j : Int) - 1 = ((j - 1 : Nat) : Int) by omega, dnn, dlt hp, getD_at _ _ hp, hq]
        simp only [cond_true]
        by_cases c1 : 0 ≤ l[j] ∧ l[j] ≤ 39
        · rw [decide_eq_true c1]
          simp only [Bool.not_true, cond_false]
          by_cases c3 : v < l[j]
          · rw [decide_eq_false (show ¬ (v ≥ l[j]) by omega), decide_eq_true (show v < l[j] ∧ l[j] ≤ 39 by omega)]
            simp only [cond_false, Bool.true_and]
            exact ih (by omega)
          · rw [decide_eq_true (show (v ≥ l[j]) by omega), decide_eq_false (show ¬ (v < l[j] ∧ l[j] ≤ 39) by omega)]; rfl
        · rw [decide_eq_false c1, decide_eq_false (show ¬ (v < l[j] ∧ l[j] ≤ 39) by omega)]; rfl
    · rw [dge (by omega), List.drop_eq_nil_iff.2 (by omega)]; rfl
theorem impl_isSet_eq {R : Type} {n : Nat} {l : List Int} (hb : l.length ≤ 9223372036854775807) (hn : l.length < n) (k : Bool → Option R) : impl_isSet n l k = k (setB l) := by
  unfold impl_isSet impl_rising
  have := impl_rising_loop l hb k (k true) n 0 (-1) (by omega) (by omega) (by omega) (fun _ => rfl) (fun _ h => by omega)
  rw [show ((0 : Nat) : Int) = 0 from rfl, List.drop_zero] at this
  rw [this]
  unfold setB
  cases riseFrom (-1) l <;> rfl
theorem spec_GoodRules_eq {R : Type} {n : Nat} {l : List (Int × List Int)} (hl : l.length ≤ 1048576) (hx : ∀ x ∈ l, x.2.length ≤ 1048576) (hn : 3000000 ≤ n) (k : Bool → Option R) : spec_GoodRules n l k = k (okRules l) := by
  unfold spec_GoodRules
  have := loop_all0 l okRule 1048577 (fun n i => spec_GoodRules_l2 n l l (l.length : Int) i (fun r3 => k r3) (fun r4 => k (decide ((r4.length : Int) ≤ 60)))) (k (decide ((l.length : Int) ≤ 60))) (k false) (fun n j h hn => by
    have hx' := hx l[j] (List.getElem_mem h)
    show spec_GoodRules_l2 (n + 1) l l (l.length : Int) (j : Int) _ _ = _
    rw [spec_GoodRules_l2]
    rw [dlt h, dnn, getD_at _ _ h, wrapS h (by omega)]
    simp only [cond_true, spec_l1In_eq, spec_l8Set_eq (show l[j].2.length ≤ 9223372036854775807 by omega) (show l[j].2.length < n by omega), okRule]
    cases decide (0 ≤ l[j].1 ∧ l[j].1 ≤ 39) <;> cases setB l[j].2 <;> rfl) (fun n => by
    show spec_GoodRules_l2 (n + 1) l l (l.length : Int) (l.length : Int) _ _ = _
    rw [spec_GoodRules_l2]
    rw [dge (by omega)]; rfl) (n := n) (by omega)
  rw [this, bifk]
  congr 1
  unfold okRules
  cases l.all okRule with
  | true => simp only [cond_true, Bool.and_true]; apply decide_eq_decide.2; omega
  | false => simp
theorem impl_GoodRules_eq {R : Type} {n : Nat} {l : List (Int × List Int)} (hl : l.length ≤ 1048576) (hx : ∀ x ∈ l, x.2.length ≤ 1048576) (hn : 3000000 ≤ n) (k : Bool → Option R) : impl_GoodRules n l k = k (okRules l) := by
  unfold impl_GoodRules slices_ContainsFunc_impl_Rule_impl_GoodRules_c1 slices_IndexFunc_impl_Rule_impl_GoodRules_c1
  have := loop_all0 l okRule 1048577 (fun n i => slices_IndexFunc_impl_Rule_impl_GoodRules_c1_l2 n l (l.length : Int) i (fun r2 => k (!decide (r2 ≥ 0))) (k (!decide ((-1 : Int) ≥ 0)))) (k true) (k false) (fun n j h hn => by
    have hx' := hx l[j] (List.getElem_mem h)
    show slices_IndexFunc_impl_Rule_impl_GoodRules_c1_l2 (n + 1) l (l.length : Int) (j : Int) _ _ = _
    rw [slices_IndexFunc_impl_Rule_impl_GoodRules_c1_l2]
    rw [dlt h, dnn, getD_at _ _ h, wrapS h (by omega)]
    simp only [cond_true, impl_GoodRules_c1, impl_isFact, impl_in_eq, impl_isSet_eq (show l[j].2.length ≤ 9223372036854775807 by omega) (show l[j].2.length < n by omega), okRule]
    cases decide (0 ≤ l[j].1 ∧ l[j].1 ≤ 39) <;> cases setB l[j].2 <;> rfl) (fun n => by
    show slices_IndexFunc_impl_Rule_impl_GoodRules_c1_l2 (n + 1) l (l.length : Int) (l.length : Int) _ _ = _
    rw [slices_IndexFunc_impl_Rule_impl_GoodRules_c1_l2]
    rw [dge (by omega)]; rfl) (n := n) (by omega)
  rw [this]
  unfold okRules
  by_cases c : l.length ≤ 60
  · rw [decide_eq_true (show (l.length : Int) ≤ 60 by omega), decide_eq_true c]
    cases l.all okRule <;> rfl
  · rw [decide_eq_false (show ¬ (l.length : Int) ≤ 60 by omega), decide_eq_false c]
    rfl
theorem slices_Index_loop {R : Type} (l : List Int) (hb : l.length ≤ 9223372036854775807) (x : Int) (kr : Int → Option R) (ke y : Option R) (hk : ∀ j : Nat, kr (j : Int) = y) : ∀ (n j : Nat), l.length - j < n → j ≤ l.length →
    slices_Index_int_l2 n l x (l.length : Int) (j : Int) kr ke = if x ∈ l.drop j then y else ke
  | 0, _, h, _ => by omega
  | n + 1, j, hn, hj => by
    rw [slices_Index_int_l2]
    by_cases h : j < l.length
    · rw [dlt h, dnn, getD_at _ _ h, wrapS h hb, List.drop_eq_getElem_cons h]
      simp only [cond_true, List.mem_cons]
      by_cases c : x = l[j]
      · rw [beq_iff_eq.2 c, cond_true, if_pos (.inl c)]; exact hk j
      · rw [beq_eq_false_iff_ne.2 c, cond_false, slices_Index_loop l hb x kr ke y hk n (j + 1) (by omega) (by omega)]
        simp only [c, false_or]
    · rw [dge (by omega), List.drop_eq_nil_iff.2 (by omega)]
      simp
theorem slices_Contains_eq {R : Type} {n : Nat} {l : List Int} (hb : l.length ≤ 9223372036854775807) (hn : l.length < n) (x : Int) (k : Bool → Option R) : slices_Contains_int n l x k = k (decide (x ∈ l)) := by
  unfold slices_Contains_int slices_Index_int
  have := slices_Index_loop (R := R) l hb x (fun r1 => k (decide (r1 ≥ 0))) (k (decide ((-1 : Int) ≥ 0))) (k true) (fun j => by rw [decide_eq_true (show (j : Int) ≥ 0 by omega)]) n 0 (by omega) (by omega)
  rw [show ((0 : Nat) : Int) = 0 from rfl, List.drop_zero] at this
  rw [this]
  by_cases c : x ∈ l
  · rw [if_pos c, decide_eq_true c]
  · rw [if_neg c, decide_eq_false c]; rfl
theorem okRules_all {l : List (Int × List Int)} (h : okRules l = true) {x : Int × List Int} (hx : x ∈ l) : 0 ≤ x.1 ∧ x.1 ≤ 39 ∧ setB x.2 = true := by
  simp only [okRules, Bool.and_eq_true, List.all_eq_true, okRule, decide_eq_true_eq] at h
  have := h.2 x hx
  exact ⟨this.1.1, this.1.2, this.2⟩
theorem riseFrom_iff : ∀ {l : List Int} {v : Int}, riseFrom v l = true ↔ l.Pairwise (· < ·) ∧ ∀ x ∈ l, v < x ∧ x ≤ 39
  | [], v => by simp [riseFrom]
  | y :: r, v => by
    have ih := riseFrom_iff (l := r) (v := y)
    simp only [riseFrom, Bool.and_eq_true, decide_eq_true_eq, ih, List.pairwise_cons, List.mem_cons]
    constructor
    · rintro ⟨h1, h2, h3⟩
      refine ⟨⟨fun x hx => (h3 x hx).1, h2⟩, fun x hx => ?_⟩
      rcases hx with rfl | hx
      · exact h1
      · have := h3 x hx
        omega
    · rintro ⟨⟨h1, h2⟩, h3⟩
      exact ⟨h3 y (.inl rfl), h2, fun x hx => ⟨h1 x hx, (h3 x (.inr hx)).2⟩⟩
theorem setB_iff {l : List Int} : setB l = true ↔ l.Pairwise (· < ·) ∧ ∀ x ∈ l, 0 ≤ x ∧ x ≤ 39 := by
  unfold setB
  rw [riseFrom_iff]
  constructor <;> rintro ⟨h1, h2⟩ <;> exact ⟨h1, fun x hx => by have := h2 x hx; omega⟩
theorem pw_ext : ∀ {a b : List Int}, a.Pairwise (· < ·) → b.Pairwise (· < ·) → (∀ x, x ∈ a ↔ x ∈ b) → a = b
  | [], [], _, _, _ => rfl
  | [], y :: b, _, _, h => absurd ((h y).2 (List.mem_cons_self ..)) (by simp)
  | x :: a, [], _, _, h => absurd ((h x).1 (List.mem_cons_self ..)) (by simp)
  | x :: a, y :: b, ha, hb, h => by
    rw [List.pairwise_cons] at ha hb
    have e : x = y := by
      have h1 := (h x).1 (List.mem_cons_self ..)
      have h2 := (h y).2 (List.mem_cons_self ..)
      rcases List.mem_cons.1 h1 with h1 | h1
      · exact h1
      · rcases List.mem_cons.1 h2 with h2 | h2
        · exact h2.symm
        · have := hb.1 x h1
          have := ha.1 y h2
          omega
    subst e
    rw [pw_ext ha.2 hb.2 fun z => ?_]
    constructor
    · intro hz
      rcases List.mem_cons.1 ((h z).1 (List.mem_cons_of_mem _ hz)) with rfl | h2
      · exact absurd (ha.1 z hz) (by omega)
      · exact h2
    · intro hz
      rcases List.mem_cons.1 ((h z).2 (List.mem_cons_of_mem _ hz)) with rfl | h2
      · exact absurd (hb.1 z hz) (by omega)
      · exact h2
theorem range_len : ∀ (N : Nat) (q : List Int), q.Nodup → (∀ x ∈ q, 0 ≤ x ∧ x < (N : Int)) → q.length ≤ N
  | 0, q, _, h => by
    cases q with
    | nil => simp
    | cons x q => have := h x (List.mem_cons_self ..); omega
  | N + 1, q, hq, h => by
    by_cases c : (N : Int) ∈ q
    · have h1 := range_len N (q.erase (N : Int)) (hq.erase _) fun x hx => by
        have h2 := (List.Nodup.mem_erase_iff hq).1 hx
        have h3 := h x h2.2
        have := h2.1
        omega
      rw [List.length_erase_of_mem c] at h1
      omega
    · have := range_len N q hq fun x hx => by
        have h3 := h x hx
        have : x ≠ (N : Int) := fun h => c (h ▸ hx)
        omega
      omega
theorem pw_nodup {q : List Int} (h : q.Pairwise (· < ·)) : q.Nodup := h.imp fun h => Int.ne_of_lt h
theorem set_len {q : List Int} (h : setB q = true) : q.length ≤ 40 := by
  have h := setB_iff.1 h
  exact range_len 40 q (pw_nodup h.1) fun x hx => by have := h.2 x hx; omega
theorem pw_split {l : List Int} (hp : l.Pairwise (· < ·)) {m : Nat} (h : m < l.length) : (∀ y ∈ l.take m, y < l[m]) ∧ (∀ y ∈ l.drop (m + 1), l[m] < y) := by
  have e : l.take m ++ l[m] :: l.drop (m + 1) = l := by rw [← List.drop_eq_getElem_cons h, List.take_append_drop]
  have h2 : (l.take m ++ l[m] :: l.drop (m + 1)).Pairwise (· < ·) := by rw [e]; exact hp
  have h3 := List.pairwise_append.1 h2
  exact ⟨fun y hy => h3.2.2 y hy _ (List.mem_cons_self ..), (List.pairwise_cons.1 h3.2.1).1⟩
theorem cmp_Less_eq {R : Type} (n : Nat) (a b : Int) (k : Bool → Option R) : cmp_Less_int n a b k = k (decide (a < b)) := by
  simp only [cmp_Less_int, cmp_isNaN_int, bne_self_eq_false, cond_false]
theorem mid_eq {i j : Nat} (h : i + j ≤ 4000000) : IntKind.wrap .i64 ((Int.fdiv (IntKind.wrap .u64 ((IntKind.wrap .i64 ((i : Int) + (j : Int))))) (2 ^ (min (Int.toNat 1) (IntKind.bits .u64))))) = (((i + j) / 2 : Nat) : Int) := by
  rw [wrap64 (x := (i : Int) + (j : Int)) (by omega) (by omega)]
  have h1 : IntKind.wrap .u64 ((i : Int) + (j : Int)) = (i : Int) + (j : Int) := by
    simp only [IntKind.wrap, IntKind.signed, IntKind.bits]
    simp
    omega
  have h2 : (2 ^ (min (Int.toNat 1) (IntKind.bits .u64)) : Int) = 2 := rfl
  rw [h1, h2, Int.fdiv_eq_ediv_of_nonneg _ (by omega), wrap64 (by omega) (by omega)]
  omega
theorem bin_loop (l : List Int) (x : Int) (hp : l.Pairwise (· < ·)) (hb : l.length ≤ 1048576) : ∀ (n i j : Nat), j - i < n → i ≤ j → j ≤ l.length → (∀ y ∈ l.take i, y < x) → (∀ y ∈ l.drop j, x ≤ y) →
    ∃ m : Nat, m ≤ l.length ∧ (∀ y ∈ l.take m, y < x) ∧ (∀ y ∈ l.drop m, x ≤ y) ∧ ∀ (R : Type) (k : List Int → Int → Int → Int → Option R), slices_BinarySearch_int_l3 n l x (l.length : Int) (i : Int) (j : Int) k = k l x (l.length : Int) (m : Int)
  | 0, _, _, h, _, _, _, _ => by omega
  | n + 1, i, j, hn, hij, hj, h1, h2 => by
    by_cases h : i < j
    · have hm : (i + j) / 2 < l.length := by omega
      have hs := pw_split hp hm
      by_cases c : l[(i + j) / 2] < x
      · obtain ⟨m, m1, m2, m3, m4⟩ := bin_loop l x hp hb n ((i + j) / 2 + 1) j (by omega) (by omega) hj (fun y hy => by
          rw [List.take_succ_eq_append_getElem hm] at hy
          rcases List.mem_append.1 hy with hy | hy
          · have := hs.1 y hy; omega
          · rw [List.mem_singleton.1 hy]; exact c) h2
        refine ⟨m, m1, m2, m3, fun R k => ?_⟩
        rw [slices_BinarySearch_int_l3]
        simp only [mid_eq (show i + j ≤ 4000000 by omega), dnn, dlt hm, dlt h, cond_true, getD_at _ _ hm, cmp_Less_eq, decide_eq_true c, wrapS hm (show l.length ≤ 9223372036854775807 by omega)]
        exact m4 R k
      · obtain ⟨m, m1, m2, m3, m4⟩ := bin_loop l x hp hb n i ((i + j) / 2) (by omega) (by omega) (by omega) h1 (fun y hy => by
          rw [List.drop_eq_getElem_cons hm] at hy
          rcases List.mem_cons.1 hy with rfl | hy
          · omega
          · have := hs.2 y hy; omega)
        refine ⟨m, m1, m2, m3, fun R k => ?_⟩
        rw [slices_BinarySearch_int_l3]
        simp only [mid_eq (show i + j ≤ 4000000 by omega), dnn, dlt hm, dlt h, cond_true, cond_false, getD_at _ _ hm, cmp_Less_eq, decide_eq_false c]
        exact m4 R k
    · have : i = j := by omega
      subst this
      refine ⟨i, hj, h1, h2, fun R k => ?_⟩
      rw [slices_BinarySearch_int_l3]
      rw [dge (Nat.le_refl _), cond_false]
theorem bin_ex {n : Nat} {l : List Int} {x : Int} (hp : l.Pairwise (· < ·)) (hb : l.length ≤ 1048576) (hn : l.length < n) :
    ∃ m : Nat, m ≤ l.length ∧ (∀ y ∈ l.take m, y < x) ∧ (∀ y ∈ l.drop m, x ≤ y) ∧ ∀ (R : Type) (k : Int → Bool → Option R), slices_BinarySearch_int n l x k = k (m : Int) (decide (x ∈ l)) := by
  obtain ⟨m, m1, m2, m3, m4⟩ := bin_loop l x hp hb n 0 l.length (by omega) (by omega) (by omega) (by simp) (by simp)
  refine ⟨m, m1, m2, m3, fun R k => ?_⟩
  unfold slices_BinarySearch_int
  rw [show ((0 : Nat) : Int) = 0 from rfl] at m4
  rw [m4]
  have hmem : x ∈ l ↔ x ∈ l.drop m := by
    constructor
    · intro h
      rw [← List.take_append_drop m l] at h
      rcases List.mem_append.1 h with h | h
      · exact absurd (m2 x h) (by omega)
      · exact h
    · exact List.mem_of_mem_drop
  by_cases h : m < l.length
  · rw [dlt h, dnn, getD_at _ _ h]
    simp only [cond_true, slices_isNaN_int, bne_self_eq_false, cond_false]
    by_cases c : l[m] = x
    · rw [beq_iff_eq.2 c, cond_true, decide_eq_true (show x ∈ l from c ▸ List.getElem_mem h)]
    · rw [beq_eq_false_iff_ne.2 c, cond_false, decide_eq_false]
      intro hx
      have hx := hmem.1 hx
      rw [List.drop_eq_getElem_cons h] at hx
      rcases List.mem_cons.1 hx with hx | hx
      · exact c hx.symm
      · have := (pw_split hp h).2 x hx
        have := m3 l[m] (by rw [List.drop_eq_getElem_cons h]; exact List.mem_cons_self ..)
        omega
  · rw [dge (by omega), cond_false, decide_eq_false]
    rw [hmem, List.drop_eq_nil_iff.2 (by omega)]
    simp
theorem impl_with_ex {n : Nat} {M : List Int} (hs : setB M = true) (hn : 41 ≤ n) {x : Int} (hx : 0 ≤ x ∧ x ≤ 39) :
    ∃ M', setB M' = true ∧ (∀ y, y ∈ M' ↔ y = x ∨ y ∈ M) ∧ (x ∉ M → M'.length = M.length + 1) ∧ ∀ (R : Type) (k : List Int → Option R), impl_with n x M k = k M' := by
  have hl := set_len hs
  have h := setB_iff.1 hs
  obtain ⟨m, m1, m2, m3, m4⟩ := bin_ex (n := n) (x := x) h.1 (by omega) (by omega)
  by_cases c : x ∈ M
  · refine ⟨M, hs, fun y => ⟨.inr, fun h => ?_⟩, fun h => absurd c h, fun R k => ?_⟩
    · rcases h with rfl | h
      · exact c
      · exact h
    · unfold impl_with
      rw [m4, decide_eq_true c, cond_true]
  · have hm3 : ∀ y ∈ M.drop m, x < y := fun y hy => by
      have := m3 y hy
      have : x ≠ y := fun h => c (h ▸ List.mem_of_mem_drop hy)
      omega
    have hmem : ∀ y, y ∈ M.take m ++ [x] ++ M.drop m ↔ y = x ∨ y ∈ M := fun y => by
      conv => rhs; rw [← List.take_append_drop m M]
      simp only [List.mem_append, List.mem_singleton]
      constructor
      · rintro ((h | h) | h)
        · exact .inr (.inl h)
        · exact .inl h
        · exact .inr (.inr h)
      · rintro (h | h | h)
        · exact .inl (.inr h)
        · exact .inl (.inl h)
        · exact .inr h
    refine ⟨M.take m ++ [x] ++ M.drop m, setB_iff.2 ⟨?_, fun y hy => ?_⟩, hmem, fun _ => ?_, fun R k => ?_⟩
    · have hp : (M.take m ++ M.drop m).Pairwise (· < ·) := by rw [List.take_append_drop]; exact h.1
      have hp := List.pairwise_append.1 hp
      rw [List.append_assoc]
      refine List.pairwise_append.2 ⟨hp.1, List.pairwise_append.2 ⟨by simp, hp.2.1, fun a ha b hb => ?_⟩, fun a ha b hb => ?_⟩
      · rw [List.mem_singleton.1 ha]; exact hm3 b hb
      · rcases List.mem_append.1 hb with hb | hb
        · rw [List.mem_singleton.1 hb]; exact m2 a ha
        · exact hp.2.2 a ha b hb
    · rcases (hmem y).1 hy with rfl | h2
      · exact hx
      · exact h.2 y h2
    · simp only [List.length_append, List.length_take, List.length_drop, List.length_singleton]
      omega
    · unfold impl_with slices_Clone_int slices_Insert_int
      rw [m4, decide_eq_false c, cond_false, decide_eq_true (show 0 + M.length ≤ LIM by simp [LIM]; omega), cond_true]
      show (bif decide (0 ≤ (m : Int)) && (decide ((m : Int) ≤ (M.length : Int)) && (decide (0 < [x].length) && decide (M.length + [x].length ≤ LIM))) then k (M.take (Int.toNat (m : Int)) ++ [x] ++ M.drop (Int.toNat (m : Int))) else none) = _
      rw [dnn, decide_eq_true (show (m : Int) ≤ (M.length : Int) by omega), decide_eq_true (show 0 < [x].length by simp), decide_eq_true (show M.length + [x].length ≤ LIM by simp [LIM]; omega), Int.toNat_natCast]
      rfl
/-- One number, and all rules that ask for it: what has come, what each rule still waits for, the steps. -/
def onRules (a : Int) : List (Int × List Int) → Nat → List Int → List Int → Nat → List Int × List Int × Nat
  | [], _, q, cnt, w => (q, cnt, w)
  | r :: t, j, q, cnt, w =>
    if a ∈ r.2 then onRules a t (j + 1) (if cnt.getD j 0 - 1 = 0 ∧ r.1 ∉ q then q ++ [r.1] else q) (cnt.set j (cnt.getD j 0 - 1)) (w + 1)
    else onRules a t (j + 1) q cnt w
def runQ (l : List (Int × List Int)) : Nat → Nat → List Int → List Int → Nat → List Int × List Int × Nat
  | 0, _, q, cnt, w => (q, cnt, w)
  | f + 1, at', q, cnt, w => if at' < q.length then runQ l f (at' + 1) (onRules (q.getD at' 0) l 0 q cnt w).1 (onRules (q.getD at' 0) l 0 q cnt w).2.1 (onRules (q.getD at' 0) l 0 q cnt w).2.2 else (q, cnt, w)
def addNew (q : List Int) (x : Int) : List Int := if x ∈ q then q else q ++ [x]
def facts0 (l : List (Int × List Int)) (q : List Int) : List Int := l.foldl (fun q r => if r.2.length = 0 then addNew q r.1 else q) q
def facts1 (m : List Int) (q : List Int) : List Int := m.foldl addNew q
def cnt0 (l : List (Int × List Int)) : List Int := l.map fun r => (r.2.length : Int)
def runAll (l : List (Int × List Int)) (m : List Int) : List Int × List Int × Nat := runQ l 41 0 (facts1 m (facts0 l [])) (cnt0 l) 0
/-- Facts, each once. -/
def Qk (q : List Int) : Prop := q.Nodup ∧ ∀ x ∈ q, 0 ≤ x ∧ x ≤ 39
theorem Qk.len {q : List Int} (h : Qk q) : q.length ≤ 40 := range_len 40 q h.1 fun x hx => by have := h.2 x hx; omega
theorem Qk.snoc {q : List Int} (h : Qk q) {x : Int} (hx : 0 ≤ x ∧ x ≤ 39) (hn : x ∉ q) : Qk (q ++ [x]) := by
  refine ⟨List.nodup_append.2 ⟨h.1, by simp, fun a ha b hb => ?_⟩, fun y hy => ?_⟩
  · rw [List.mem_singleton.1 hb]
    exact fun e => hn (e ▸ ha)
  · rcases List.mem_append.1 hy with hy | hy
    · exact h.2 y hy
    · rw [List.mem_singleton.1 hy]; exact hx
theorem Qk.add {q : List Int} (h : Qk q) {x : Int} (hx : 0 ≤ x ∧ x ≤ 39) : Qk (addNew q x) := by
  unfold addNew
  split
  · exact h
  · next c => exact h.snoc hx c
theorem addNew_mem {q : List Int} {x y : Int} : y ∈ addNew q x ↔ y = x ∨ y ∈ q := by
  unfold addNew
  split
  · next c => exact ⟨.inr, fun h => h.elim (fun h => h ▸ c) id⟩
  · simp only [List.mem_append, List.mem_singleton]
    exact ⟨fun h => h.elim .inr .inl, fun h => h.elim .inr .inl⟩
structure RunOk (m : Nat) (q cnt : List Int) (w : Nat) : Prop where
  qk : Qk q
  len : cnt.length = m
  lo : ∀ c ∈ cnt, -(w : Int) ≤ c
  hi : ∀ c ∈ cnt, c ≤ 1048576
theorem RunOk.bnd {m : Nat} {q cnt : List Int} {w : Nat} (h : RunOk m q cnt w) {j : Nat} (hj : j < cnt.length) : -(w : Int) ≤ cnt.getD j 0 ∧ cnt.getD j 0 ≤ 1048576 := by
  rw [List.getD_eq_getElem?_getD, List.getElem?_eq_getElem hj]
  exact ⟨h.lo _ (List.getElem_mem hj), h.hi _ (List.getElem_mem hj)⟩
theorem RunOk.step {m : Nat} {q cnt : List Int} {w : Nat} (h : RunOk m q cnt w) {j : Nat} (hj : j < m) {x : Int} (hx : 0 ≤ x ∧ x ≤ 39) :
    RunOk m (if cnt.getD j 0 - 1 = 0 ∧ x ∉ q then q ++ [x] else q) (cnt.set j (cnt.getD j 0 - 1)) (w + 1) where
  qk := by
    split
    · next c => exact h.qk.snoc hx c.2
    · exact h.qk
  len := by rw [List.length_set]; exact h.len
  lo := fun c hc => by
    rcases List.mem_or_eq_of_mem_set hc with hc | rfl
    · have := h.lo c hc; omega
    · have := h.bnd (j := j) (by rw [h.len]; exact hj); omega
  hi := fun c hc => by
    rcases List.mem_or_eq_of_mem_set hc with hc | rfl
    · exact h.hi c hc
    · have := h.bnd (j := j) (by rw [h.len]; exact hj); omega
theorem onRules_ok {m : Nat} (a : Int) : ∀ (t : List (Int × List Int)) (j : Nat) (q cnt : List Int) (w : Nat), RunOk m q cnt w → j + t.length = m → (∀ r ∈ t, 0 ≤ r.1 ∧ r.1 ≤ 39) →
    RunOk m (onRules a t j q cnt w).1 (onRules a t j q cnt w).2.1 (onRules a t j q cnt w).2.2 ∧ (onRules a t j q cnt w).2.2 ≤ w + t.length ∧ ∃ e, (onRules a t j q cnt w).1 = q ++ e
  | [], j, q, cnt, w, h, _, _ => ⟨h, by simp [onRules], [], by simp [onRules]⟩
  | r :: t, j, q, cnt, w, h, hm, hr => by
    have hr' := hr r (List.mem_cons_self ..)
    rw [List.length_cons] at hm
    rw [onRules, List.length_cons]
    split
    · obtain ⟨h1, h2, e, h3⟩ := onRules_ok a t (j + 1) _ _ _ (h.step (j := j) (by omega) hr') (by omega) fun r hr'' => hr r (List.mem_cons_of_mem _ hr'')
      refine ⟨h1, by omega, ?_⟩
      rw [h3]
      split
      · exact ⟨r.1 :: e, by simp⟩
      · exact ⟨e, rfl⟩
    · obtain ⟨h1, h2, e, h3⟩ := onRules_ok a t (j + 1) q cnt w h (by omega) fun r hr'' => hr r (List.mem_cons_of_mem _ hr'')
      exact ⟨h1, by omega, e, h3⟩
theorem getD_set_at {α : Type} (l : List α) (d v : α) {j : Nat} (h : j < l.length) : (l.set (Int.toNat (j : Int)) v).getD (Int.toNat (j : Int)) d = v := by
  rw [Int.toNat_natCast, List.getD_eq_getElem?_getD, List.getElem?_set_self h]; rfl
def Cm (come : List Bool) (q : List Int) : Prop := come.length = 40 ∧ ∀ z : Int, 0 ≤ z → z ≤ 39 → come.getD z.toNat false = decide (z ∈ q)
theorem Cm.add {come : List Bool} {q : List Int} (h : Cm come q) {x : Int} (hx : 0 ≤ x ∧ x ≤ 39) : Cm (come.set x.toNat true) (q ++ [x]) := by
  refine ⟨by rw [List.length_set]; exact h.1, fun z h0 h1 => ?_⟩
  by_cases c : z = x
  · subst c
    have := h.1
    rw [List.getD_eq_getElem?_getD, List.getElem?_set_self (by omega)]
    simp
  · have : x.toNat ≠ z.toNat := by omega
    have h2 := h.2 z h0 h1
    rw [List.getD_eq_getElem?_getD] at h2 ⊢
    rw [List.getElem?_set_ne this, h2]
    simp [c]
theorem spec_l1Has_eq {R : Type} {n : Nat} {l : List Int} (hb : l.length ≤ 9223372036854775807) (hn : l.length < n) (x : Int) (k : Bool → Option R) : spec_l1Has n l x k = k (decide (x ∈ l)) := by
  unfold spec_l1Has
  have := loop_all0 l (fun y => !(y == x)) 0 (fun n i => spec_l1Has_l2 n x l (l.length : Int) i (fun r1 => k r1) (k false)) (k false) (k true) (fun n j h hn => by
    show spec_l1Has_l2 (n + 1) x l (l.length : Int) (j : Int) _ _ = _
    rw [spec_l1Has_l2]
    rw [dlt h, dnn, getD_at _ _ h, wrapS h hb]
    simp only [cond_true]
    cases l[j] == x <;> rfl) (fun n => by
    show spec_l1Has_l2 (n + 1) x l (l.length : Int) (l.length : Int) _ _ = _
    rw [spec_l1Has_l2]
    rw [dge (by omega)]; rfl) (n := n) (by omega)
  rw [this]
  by_cases c : x ∈ l
  · rw [decide_eq_true c, show (l.all fun y => !(y == x)) = false from ?_]
    · rfl
    · rw [List.all_eq_false]
      exact ⟨x, c, by simp⟩
  · rw [decide_eq_false c, List.all_eq_true.2 fun y hy => ?_]
    · rfl
    · simp only [Bool.not_eq_true', beq_eq_false_iff_ne]
      exact fun e => c (e ▸ hy)
theorem spec_run6 (l : List (Int × List Int)) (m : List Int) (hl : l.length ≤ 60) (hh : ∀ r ∈ l, 0 ≤ r.1 ∧ r.1 ≤ 39) : ∀ (n j : Nat) (come : List Bool) (why q left : List Int), l.length - j < n → j ≤ l.length → Cm come q → Qk q → why.length = 40 → left.length = l.length → left.take j = (cnt0 l).take j →
    ∃ come' why', Cm come' (facts0 (l.drop j) q) ∧ why'.length = 40 ∧ Qk (facts0 (l.drop j) q) ∧ ∀ (R : Type) (k : List (Int × List Int) → List Int → List Bool → List Int → List Int → List Int → Option R), spec_l8Run_l6 n l m l (l.length : Int) (j : Int) come why q left k = k l m come' why' (facts0 (l.drop j) q) (cnt0 l)
  | 0, _, _, _, _, _, h, _, _, _, _, _, _ => by omega
  | n + 1, j, come, why, q, left, hn, hj, hc, hq, hw, hlf, ht => by
    have hc0 : (cnt0 l).length = l.length := by simp [cnt0]
    by_cases h : j < l.length
    · have hx := hh l[j] (List.getElem_mem h)
      have hjl : j < left.length := by omega
      have hql := hq.len
      have ht' : (left.set (Int.toNat (j : Int)) (l[j].2.length : Int)).take (j + 1) = (cnt0 l).take (j + 1) := by
        have := set_take_at (l := cnt0 l) (out := left) (j := j) (by omega) (by omega) ht
        rw [show (cnt0 l)[j]'(by omega) = (l[j].2.length : Int) by simp [cnt0]] at this
        rw [Int.toNat_natCast]
        exact this
      rw [List.drop_eq_getElem_cons h]
      by_cases c : l[j].2.length = 0
      · by_cases d : l[j].1 ∈ q
        · have e : facts0 (l[j] :: l.drop (j + 1)) q = facts0 (l.drop (j + 1)) q := by
            show facts0 (l.drop (j + 1)) (if l[j].2.length = 0 then addNew q l[j].1 else q) = _
            rw [if_pos c, addNew, if_pos d]
          rw [e]
          obtain ⟨come', why', h1, h2, h3, h4⟩ := spec_run6 l m hl hh n (j + 1) come why q (left.set (Int.toNat (j : Int)) (l[j].2.length : Int)) (by omega) (by omega) hc hq hw (by simpa using hlf) ht'
          refine ⟨come', why', h1, h2, h3, fun R k => ?_⟩
          rw [spec_l8Run_l6]
          simp only [dlt h, dnn, getD_at _ _ h, wrapS h (show l.length ≤ 9223372036854775807 by omega), List.length_set, dlt hjl, getD_set_at _ _ _ hjl, beq_iff_eq.2 (show (l[j].2.length : Int) = 0 by omega), cond_true,
            decide_eq_true hx.1, hc.1, decide_eq_true (show l[j].1 < ((40 : Nat) : Int) by omega), hc.2 _ hx.1 hx.2, decide_eq_true d, Bool.not_true, cond_false]
          exact h4 R k
        · have e : facts0 (l[j] :: l.drop (j + 1)) q = facts0 (l.drop (j + 1)) (q ++ [l[j].1]) := by
            show facts0 (l.drop (j + 1)) (if l[j].2.length = 0 then addNew q l[j].1 else q) = _
            rw [if_pos c, addNew, if_neg d]
          rw [e]
          obtain ⟨come', why', h1, h2, h3, h4⟩ := spec_run6 l m hl hh n (j + 1) (come.set (Int.toNat l[j].1) true) (why.set (Int.toNat l[j].1) (j : Int)) (q ++ [l[j].1]) (left.set (Int.toNat (j : Int)) (l[j].2.length : Int)) (by omega) (by omega) (hc.add hx) (hq.snoc hx d) (by simpa using hw) (by simpa using hlf) ht'
          refine ⟨come', why', h1, h2, h3, fun R k => ?_⟩
          rw [spec_l8Run_l6]
          simp only [dlt h, dnn, getD_at _ _ h, wrapS h (show l.length ≤ 9223372036854775807 by omega), List.length_set, dlt hjl, getD_set_at _ _ _ hjl, beq_iff_eq.2 (show (l[j].2.length : Int) = 0 by omega), cond_true,
            decide_eq_true hx.1, hc.1, hw, decide_eq_true (show l[j].1 < ((40 : Nat) : Int) by omega), hc.2 _ hx.1 hx.2, decide_eq_false d, Bool.not_false, decide_eq_true (show q.length + [l[j].1].length ≤ LIM by simp [LIM]; omega)]
          exact h4 R k
      · have e : facts0 (l[j] :: l.drop (j + 1)) q = facts0 (l.drop (j + 1)) q := by
          show facts0 (l.drop (j + 1)) (if l[j].2.length = 0 then addNew q l[j].1 else q) = _
          rw [if_neg c]
        rw [e]
        obtain ⟨come', why', h1, h2, h3, h4⟩ := spec_run6 l m hl hh n (j + 1) come why q (left.set (Int.toNat (j : Int)) (l[j].2.length : Int)) (by omega) (by omega) hc hq hw (by simpa using hlf) ht'
        refine ⟨come', why', h1, h2, h3, fun R k => ?_⟩
        rw [spec_l8Run_l6]
        simp only [dlt h, dnn, getD_at _ _ h, wrapS h (show l.length ≤ 9223372036854775807 by omega), List.length_set, dlt hjl, getD_set_at _ _ _ hjl, beq_eq_false_iff_ne.2 (show (l[j].2.length : Int) ≠ 0 by omega), cond_true, cond_false]
        exact h4 R k
    · rw [List.drop_eq_nil_iff.2 (by omega)]
      refine ⟨come, why, hc, hw, hq, fun R k => ?_⟩
      rw [spec_l8Run_l6]
      rw [dge (by omega), cond_false]
      have h1 : (cnt0 l).take j = cnt0 l := List.take_of_length_le (by omega)
      rw [List.take_of_length_le (by omega), h1] at ht
      rw [ht]; rfl
theorem spec_run15 (l : List (Int × List Int)) (m : List Int) (hm : m.length ≤ 1048576) (hh : ∀ x ∈ m, 0 ≤ x ∧ x ≤ 39) (left : List Int) : ∀ (n j : Nat) (come : List Bool) (why q : List Int), m.length - j < n → j ≤ m.length → Cm come q → Qk q → why.length = 40 →
    ∃ come' why', Cm come' (facts1 (m.drop j) q) ∧ why'.length = 40 ∧ Qk (facts1 (m.drop j) q) ∧ ∀ (R : Type) (k : List (Int × List Int) → List Bool → List Int → List Int → List Int → Option R), spec_l8Run_l15 n l m (m.length : Int) (j : Int) come why q left k = k l come' why' (facts1 (m.drop j) q) left
  | 0, _, _, _, _, h, _, _, _, _ => by omega
  | n + 1, j, come, why, q, hn, hj, hc, hq, hw => by
    by_cases h : j < m.length
    · have hx := hh m[j] (List.getElem_mem h)
      have hql := hq.len
      rw [List.drop_eq_getElem_cons h]
      by_cases d : m[j] ∈ q
      · have e : facts1 (m[j] :: m.drop (j + 1)) q = facts1 (m.drop (j + 1)) q := by
          show facts1 (m.drop (j + 1)) (addNew q m[j]) = _
          rw [addNew, if_pos d]
        rw [e]
        obtain ⟨come', why', h1, h2, h3, h4⟩ := spec_run15 l m hm hh left n (j + 1) come (why.set (Int.toNat m[j]) (-1)) q (by omega) (by omega) hc hq (by simpa using hw)
        refine ⟨come', why', h1, h2, h3, fun R k => ?_⟩
        rw [spec_l8Run_l15]
        simp only [dlt h, dnn, getD_at _ _ h, wrapS h (show m.length ≤ 9223372036854775807 by omega), cond_true, decide_eq_true hx.1, hc.1, hw, decide_eq_true (show m[j] < ((40 : Nat) : Int) by omega), hc.2 _ hx.1 hx.2, decide_eq_true d, Bool.not_true, cond_false]
        exact h4 R k
      · have e : facts1 (m[j] :: m.drop (j + 1)) q = facts1 (m.drop (j + 1)) (q ++ [m[j]]) := by
          show facts1 (m.drop (j + 1)) (addNew q m[j]) = _
          rw [addNew, if_neg d]
        rw [e]
        obtain ⟨come', why', h1, h2, h3, h4⟩ := spec_run15 l m hm hh left n (j + 1) (come.set (Int.toNat m[j]) true) (why.set (Int.toNat m[j]) (-1)) (q ++ [m[j]]) (by omega) (by omega) (hc.add hx) (hq.snoc hx d) (by simpa using hw)
        refine ⟨come', why', h1, h2, h3, fun R k => ?_⟩
        rw [spec_l8Run_l15]
        simp only [dlt h, dnn, getD_at _ _ h, wrapS h (show m.length ≤ 9223372036854775807 by omega), cond_true, decide_eq_true hx.1, hc.1, hw, decide_eq_true (show m[j] < ((40 : Nat) : Int) by omega), hc.2 _ hx.1 hx.2, decide_eq_false d, Bool.not_false, decide_eq_true (show q.length + [m[j]].length ≤ LIM by simp [LIM]; omega)]
        exact h4 R k
    · rw [List.drop_eq_nil_iff.2 (by omega)]
      refine ⟨come, why, hc, hw, hq, fun R k => ?_⟩
      rw [spec_l8Run_l15]
      rw [dge (by omega)]; rfl
theorem getD_nat {α : Type} (l : List α) (d : α) {j : Nat} (h : j < l.length) : l.getD j d = l[j] := by
  rw [List.getD_eq_getElem?_getD, List.getElem?_eq_getElem h]; rfl
theorem spec_run27 (l : List (Int × List Int)) (hl : l.length ≤ 60) (hh : ∀ r ∈ l, 0 ≤ r.1 ∧ r.1 ≤ 39 ∧ r.2.length ≤ 40) (a : Int) (at' : Nat) : ∀ (n j : Nat) (come : List Bool) (why q cnt : List Int) (w : Nat), 50 + (l.length - j) < n → j ≤ l.length → Cm come q → RunOk l.length q cnt w → why.length = 40 → w + (l.length - j) ≤ 100000 → at' < q.length → q.getD at' 0 = a →
    ∃ come' why', Cm come' (onRules a (l.drop j) j q cnt w).1 ∧ why'.length = 40 ∧ ∀ (R : Type) (k : List (Int × List Int) → Int → Int → List Bool → List Int → List Int → List Int → Option R), spec_l8Run_l27 n l (w : Int) (at' : Int) l (l.length : Int) (j : Int) come why q cnt k = k l ((onRules a (l.drop j) j q cnt w).2.2 : Int) (at' : Int) come' why' (onRules a (l.drop j) j q cnt w).1 (onRules a (l.drop j) j q cnt w).2.1
  | 0, _, _, _, _, _, _, h, _, _, _, _, _, _, _ => by omega
  | n + 1, j, come, why, q, cnt, w, hn, hj, hc, hr, hw, hwb, hat, ha => by
    by_cases h : j < l.length
    · have hx := hh l[j] (List.getElem_mem h)
      have hx2 : 0 ≤ l[j].1 ∧ l[j].1 ≤ 39 := ⟨hx.1, hx.2.1⟩
      have hql := hr.qk.len
      have hjc : j < cnt.length := by rw [hr.len]; exact h
      have hb := hr.bnd hjc
      have hst := hr.step h hx2
      rw [List.drop_eq_getElem_cons h]
      by_cases c : a ∈ l[j].2
      · by_cases c0 : cnt.getD j 0 - 1 = 0
        · by_cases d : l[j].1 ∈ q
          · have e : onRules a (l[j] :: l.drop (j + 1)) j q cnt w = onRules a (l.drop (j + 1)) (j + 1) q (cnt.set j (cnt.getD j 0 - 1)) (w + 1) := by
              rw [onRules, if_pos c, if_neg (fun h => h.2 d)]
            rw [if_neg (fun h => h.2 d)] at hst
            rw [e]
            obtain ⟨come', why', h1, h2, h3⟩ := spec_run27 l hl hh a at' n (j + 1) come why q (cnt.set j (cnt.getD j 0 - 1)) (w + 1) (by omega) (by omega) hc hst hw (by omega) hat ha
            refine ⟨come', why', h1, h2, fun R k => ?_⟩
            rw [spec_l8Run_l27]
            simp only [dlt h, dnn, dlt hat, ha, getD_nat _ _ h, spec_l1Has_eq (show l[j].2.length ≤ 9223372036854775807 by omega) (show l[j].2.length < n by omega), decide_eq_true c, Bool.not_true, cond_false, cond_true, dlt hjc, List.length_set, Int.toNat_natCast,
              wrap64 (x := cnt.getD j 0 - 1) (by omega) (by omega), wrapS h (show l.length ≤ 9223372036854775807 by omega), wrapS (show w < w + 1 by omega) (show w + 1 ≤ 9223372036854775807 by omega)]
            rw [beq_iff_eq.2 (show (cnt.set j (cnt.getD j 0 - 1)).getD j 0 = 0 by have := getD_set_at cnt 0 (cnt.getD j 0 - 1) hjc; rw [Int.toNat_natCast] at this; omega)]
            simp only [cond_true, decide_eq_true hx.1, hc.1, decide_eq_true (show l[j].1 < ((40 : Nat) : Int) by omega), hc.2 _ hx.1 hx.2.1, decide_eq_true d, Bool.not_true, cond_false]
            exact h3 R k
          · have e : onRules a (l[j] :: l.drop (j + 1)) j q cnt w = onRules a (l.drop (j + 1)) (j + 1) (q ++ [l[j].1]) (cnt.set j (cnt.getD j 0 - 1)) (w + 1) := by
              rw [onRules, if_pos c, if_pos ⟨c0, d⟩]
            rw [if_pos ⟨c0, d⟩] at hst
            rw [e]
            obtain ⟨come', why', h1, h2, h3⟩ := spec_run27 l hl hh a at' n (j + 1) (come.set (Int.toNat l[j].1) true) (why.set (Int.toNat l[j].1) (j : Int)) (q ++ [l[j].1]) (cnt.set j (cnt.getD j 0 - 1)) (w + 1) (by omega) (by omega) (hc.add hx2) hst (by simpa using hw) (by omega) (by simp; omega) (by
              rw [← ha, List.getD_eq_getElem?_getD, List.getD_eq_getElem?_getD, List.getElem?_append_left hat])
            refine ⟨come', why', h1, h2, fun R k => ?_⟩
            rw [spec_l8Run_l27]
            simp only [dlt h, dnn, dlt hat, ha, getD_nat _ _ h, spec_l1Has_eq (show l[j].2.length ≤ 9223372036854775807 by omega) (show l[j].2.length < n by omega), decide_eq_true c, Bool.not_true, cond_false, cond_true, dlt hjc, List.length_set, Int.toNat_natCast,
              wrap64 (x := cnt.getD j 0 - 1) (by omega) (by omega), wrapS h (show l.length ≤ 9223372036854775807 by omega), wrapS (show w < w + 1 by omega) (show w + 1 ≤ 9223372036854775807 by omega)]
            rw [beq_iff_eq.2 (show (cnt.set j (cnt.getD j 0 - 1)).getD j 0 = 0 by have := getD_set_at cnt 0 (cnt.getD j 0 - 1) hjc; rw [Int.toNat_natCast] at this; omega)]
            simp only [cond_true, decide_eq_true hx.1, hc.1, hw, decide_eq_true (show l[j].1 < ((40 : Nat) : Int) by omega), hc.2 _ hx.1 hx.2.1, decide_eq_false d, Bool.not_false, decide_eq_true (show q.length + [l[j].1].length ≤ LIM by simp [LIM]; omega)]
            exact h3 R k
        · have e : onRules a (l[j] :: l.drop (j + 1)) j q cnt w = onRules a (l.drop (j + 1)) (j + 1) q (cnt.set j (cnt.getD j 0 - 1)) (w + 1) := by
            rw [onRules, if_pos c, if_neg (fun h => c0 h.1)]
          rw [if_neg (fun h => c0 h.1)] at hst
          rw [e]
          obtain ⟨come', why', h1, h2, h3⟩ := spec_run27 l hl hh a at' n (j + 1) come why q (cnt.set j (cnt.getD j 0 - 1)) (w + 1) (by omega) (by omega) hc hst hw (by omega) hat ha
          refine ⟨come', why', h1, h2, fun R k => ?_⟩
          rw [spec_l8Run_l27]
          simp only [dlt h, dnn, dlt hat, ha, getD_nat _ _ h, spec_l1Has_eq (show l[j].2.length ≤ 9223372036854775807 by omega) (show l[j].2.length < n by omega), decide_eq_true c, Bool.not_true, cond_false, cond_true, dlt hjc, List.length_set, Int.toNat_natCast,
            wrap64 (x := cnt.getD j 0 - 1) (by omega) (by omega), wrapS h (show l.length ≤ 9223372036854775807 by omega), wrapS (show w < w + 1 by omega) (show w + 1 ≤ 9223372036854775807 by omega)]
          rw [beq_eq_false_iff_ne.2 (show (cnt.set j (cnt.getD j 0 - 1)).getD j 0 ≠ 0 by have := getD_set_at cnt 0 (cnt.getD j 0 - 1) hjc; rw [Int.toNat_natCast] at this; omega)]
          simp only [cond_false]
          exact h3 R k
      · have e : onRules a (l[j] :: l.drop (j + 1)) j q cnt w = onRules a (l.drop (j + 1)) (j + 1) q cnt w := by
          rw [onRules, if_neg c]
        rw [e]
        obtain ⟨come', why', h1, h2, h3⟩ := spec_run27 l hl hh a at' n (j + 1) come why q cnt w (by omega) (by omega) hc hr hw (by omega) hat ha
        refine ⟨come', why', h1, h2, fun R k => ?_⟩
        rw [spec_l8Run_l27]
        simp only [dlt h, dnn, dlt hat, Int.toNat_natCast, ha, getD_nat _ _ h, spec_l1Has_eq (show l[j].2.length ≤ 9223372036854775807 by omega) (show l[j].2.length < n by omega), decide_eq_false c, Bool.not_false, cond_true, wrapS h (show l.length ≤ 9223372036854775807 by omega)]
        exact h3 R k
    · rw [List.drop_eq_nil_iff.2 (by omega)]
      refine ⟨come, why, hc, hw, fun R k => ?_⟩
      rw [spec_l8Run_l27]
      rw [dge (by omega)]; rfl
theorem spec_run24 (l : List (Int × List Int)) (hl : l.length ≤ 60) (hh : ∀ r ∈ l, 0 ≤ r.1 ∧ r.1 ≤ 39 ∧ r.2.length ≤ 40) : ∀ (f n at' : Nat) (come : List Bool) (why q cnt : List Int) (w : Nat), 41 ≤ f + at' → f + 200 ≤ n → at' ≤ q.length → Cm come q → RunOk l.length q cnt w → why.length = 40 → w + 60 * f ≤ 90000 →
    ∃ come' why', Cm come' (runQ l f at' q cnt w).1 ∧ ∀ (R : Type) (k : Int → List Bool → List Int → List Int → Option R), spec_l8Run_l24 n l (w : Int) (at' : Int) come why q cnt k = k ((runQ l f at' q cnt w).2.2 : Int) come' why' (runQ l f at' q cnt w).1
  | 0, n, at', come, why, q, cnt, w, hf, _, ha, _, hr, _, _ => by have := hr.qk.len; omega
  | f + 1, 0, at', come, why, q, cnt, w, hf, h, _, _, _, _, _ => by omega
  | f + 1, n + 1, at', come, why, q, cnt, w, hf, hn, ha, hc, hr, hw, hwb => by
    have hql := hr.qk.len
    by_cases h : at' < q.length
    · obtain ⟨come1, why1, h1, h2, h3⟩ := spec_run27 l hl hh (q.getD at' 0) at' n 0 come why q cnt w (by omega) (by omega) hc hr hw (by omega) h rfl
      obtain ⟨g1, g2, e, g3⟩ := onRules_ok (m := l.length) (q.getD at' 0) l 0 q cnt w hr (by omega) fun r hr => ⟨(hh r hr).1, (hh r hr).2.1⟩
      rw [List.drop_zero] at h1 h3
      have hq' : at' + 1 ≤ (onRules (q.getD at' 0) l 0 q cnt w).1.length := by rw [g3, List.length_append]; omega
      obtain ⟨come2, why2, k1, k2⟩ := spec_run24 l hl hh f n (at' + 1) come1 why1 _ _ _ (by omega) (by omega) hq' h1 g1 h2 (by omega)
      have e : runQ l (f + 1) at' q cnt w = runQ l f (at' + 1) (onRules (q.getD at' 0) l 0 q cnt w).1 (onRules (q.getD at' 0) l 0 q cnt w).2.1 (onRules (q.getD at' 0) l 0 q cnt w).2.2 := by rw [runQ, if_pos h]
      rw [e]
      refine ⟨come2, why2, k1, fun R k => ?_⟩
      rw [spec_l8Run_l24]
      rw [dlt h, cond_true]
      rw [show ((0 : Nat) : Int) = 0 from rfl] at h3
      rw [h3, wrapS h (by omega)]
      exact k2 R k
    · have e : runQ l (f + 1) at' q cnt w = (q, cnt, w) := by rw [runQ, if_neg h]
      rw [e]
      refine ⟨come, why, hc, fun R k => ?_⟩
      rw [spec_l8Run_l24]
      rw [dge (by omega), cond_false]
theorem runQ_ok (l : List (Int × List Int)) (hh : ∀ r ∈ l, 0 ≤ r.1 ∧ r.1 ≤ 39) : ∀ (f at' : Nat) (q cnt : List Int) (w : Nat), RunOk l.length q cnt w → RunOk l.length (runQ l f at' q cnt w).1 (runQ l f at' q cnt w).2.1 (runQ l f at' q cnt w).2.2
  | 0, _, _, _, _, h => h
  | f + 1, at', q, cnt, w, h => by
    rw [runQ]
    split
    · exact runQ_ok l hh f (at' + 1) _ _ _ (onRules_ok (m := l.length) (q.getD at' 0) l 0 q cnt w h (by omega) hh).1
    · exact h
theorem cnt0_ok {l : List (Int × List Int)} (hh : ∀ r ∈ l, 0 ≤ r.1 ∧ r.1 ≤ 39 ∧ r.2.length ≤ 40) {q : List Int} (hq : Qk q) : RunOk l.length q (cnt0 l) 0 where
  qk := hq
  len := by simp [cnt0]
  lo := fun c hc => by
    simp only [cnt0, List.mem_map] at hc
    obtain ⟨r, _, rfl⟩ := hc
    omega
  hi := fun c hc => by
    simp only [cnt0, List.mem_map] at hc
    obtain ⟨r, hr, rfl⟩ := hc
    have := (hh r hr).2.2
    omega
theorem okRules_in {l : List (Int × List Int)} (h : okRules l = true) : l.length ≤ 60 ∧ ∀ r ∈ l, 0 ≤ r.1 ∧ r.1 ≤ 39 ∧ r.2.length ≤ 40 := by
  refine ⟨?_, fun r hr => ?_⟩
  · simp only [okRules, Bool.and_eq_true, decide_eq_true_eq] at h
    exact h.1
  · have := okRules_all h hr
    exact ⟨this.1, this.2.1, set_len this.2.2⟩
theorem facts0_ok {l : List (Int × List Int)} (hh : ∀ r ∈ l, 0 ≤ r.1 ∧ r.1 ≤ 39) : ∀ {q : List Int}, Qk q → Qk (facts0 l q) := by
  induction l with
  | nil => exact fun h => h
  | cons r l ih =>
    intro q hq
    show Qk (facts0 l (if r.2.length = 0 then addNew q r.1 else q))
    refine ih (fun x hx => hh x (List.mem_cons_of_mem _ hx)) ?_
    split
    · exact hq.add (hh r (List.mem_cons_self ..))
    · exact hq
theorem facts1_ok {m : List Int} (hh : ∀ r ∈ m, 0 ≤ r ∧ r ≤ 39) : ∀ {q : List Int}, Qk q → Qk (facts1 m q) := by
  induction m with
  | nil => exact fun h => h
  | cons r m ih =>
    intro q hq
    show Qk (facts1 m (addNew q r))
    exact ih (fun x hx => hh x (List.mem_cons_of_mem _ hx)) (hq.add (hh r (List.mem_cons_self ..)))
theorem facts1_mem {m : List Int} : ∀ {q : List Int} {y : Int}, y ∈ facts1 m q ↔ y ∈ m ∨ y ∈ q := by
  induction m with
  | nil => intro q y; simp [facts1]
  | cons r m ih =>
    intro q y
    show y ∈ facts1 m (addNew q r) ↔ _
    rw [ih, addNew_mem, List.mem_cons]
    constructor
    · rintro (h | h | h)
      · exact .inl (.inr h)
      · exact .inl (.inl h)
      · exact .inr h
    · rintro ((h | h) | h)
      · exact .inr (.inl h)
      · exact .inl h
      · exact .inr (.inr h)
theorem Qk.nil : Qk [] := ⟨List.nodup_nil, fun x h => by simp at h⟩
theorem spec_run_ex {n : Nat} {l : List (Int × List Int)} {m : List Int} (ho : okRules l = true) (hm : setB m = true) (hn : 1000 ≤ n) :
    ∃ come why, Cm come (runAll l m).1 ∧ ∀ (R : Type) (k : Int → List Bool → List Int → List Int → Option R), spec_l8Run n l m k = k ((runAll l m).2.2 : Int) come why (runAll l m).1 := by
  obtain ⟨hl, hh⟩ := okRules_in ho
  have hml := set_len hm
  have hmm := (setB_iff.1 hm).2
  obtain ⟨c1, w1, a1, a2, a3, a4⟩ := spec_run6 l m hl (fun r hr => ⟨(hh r hr).1, (hh r hr).2.1⟩) n 0 (List.replicate 40 false) (List.replicate 40 0) [] (List.replicate (Int.toNat (l.length : Int)) 0) (by omega) (by omega)
    ⟨by simp, fun z h0 h1 => by rw [List.getD_eq_getElem?_getD, List.getElem?_replicate]; split <;> rfl⟩ .nil (by simp) (by simp) (by simp)
  obtain ⟨c2, w2, b1, b2, b3, b4⟩ := spec_run15 l m (by omega) hmm (cnt0 l) n 0 c1 w1 _ (by omega) (by omega) a1 a3 a2
  rw [List.drop_zero] at a4 b4 b1 b3
  rw [List.drop_zero] at b1 b3 b4
  obtain ⟨c3, w3, d1, d2⟩ := spec_run24 l hl hh 41 n 0 c2 w2 _ (cnt0 l) 0 (by omega) (by omega) (by omega) b1 (cnt0_ok hh b3) b2 (by omega)
  refine ⟨c3, w3, d1, fun R k => ?_⟩
  unfold spec_l8Run
  rw [dnn, decide_eq_true (show (l.length : Int) ≤ (l.length : Int) by omega), decide_eq_true (show (l.length : Int) ≤ 1099511627776 by omega)]
  simp only [cond_true]
  rw [show ((0 : Nat) : Int) = 0 from rfl] at a4 b4 d2
  rw [a4, b4]
  exact d2 R k
theorem impl_c1_ex {n : Nat} {l : List (Int × List Int)} {j : Nat} (h : j < l.length) (hx : 0 ≤ l[j].1 ∧ l[j].1 ≤ 39) {M used Q : List Int} (hs : setB M = true) (hu : used.length ≤ M.length) (hQ : Q.length ≤ 1000) (hn : 50 ≤ n) :
    ∃ M' used', setB M' = true ∧ used'.length ≤ M'.length ∧ (∀ y, y ∈ M' ↔ y = l[j].1 ∨ y ∈ M) ∧ ∀ (R : Type) (w : Int) (k : List Int → List (Int × List Int) → List Int → List Int → Int → Option R), impl_least_c1 n (j : Int) Q l M used w k = k (if l[j].1 ∈ M then Q else Q ++ [l[j].1]) l M' used' w := by
  have hl := set_len hs
  by_cases c : l[j].1 ∈ M
  · refine ⟨M, used, hs, hu, fun y => ⟨.inr, fun h => h.elim (fun e => e ▸ c) id⟩, fun R w k => ?_⟩
    unfold impl_least_c1
    rw [dnn, dlt h, getD_at _ _ h]
    simp only [cond_true, slices_Contains_eq (show M.length ≤ 9223372036854775807 by omega) (show M.length < n by omega), decide_eq_true c, if_pos c]
  · obtain ⟨M', a1, a2, a3, a4⟩ := impl_with_ex (n := n) hs (by omega) hx
    have a3 := a3 c
    refine ⟨M', used ++ [(j : Int)], a1, by rw [List.length_append, List.length_singleton]; omega, a2, fun R w k => ?_⟩
    unfold impl_least_c1
    rw [dnn, dlt h, getD_at _ _ h]
    simp only [cond_true, slices_Contains_eq (show M.length ≤ 9223372036854775807 by omega) (show M.length < n by omega), decide_eq_false c, if_neg c, cond_false]
    rw [a4, decide_eq_true (show used.length + [(j : Int)].length ≤ LIM by simp [LIM]; omega), decide_eq_true (show Q.length + [l[j].1].length ≤ LIM by simp [LIM]; omega)]
    rfl
theorem impl_run5 (l : List (Int × List Int)) (m : List Int) (hl : l.length ≤ 60) (hh : ∀ r ∈ l, 0 ≤ r.1 ∧ r.1 ≤ 39) : ∀ (n j : Nat) (M used cnt q : List Int), 60 + (l.length - j) < n → j ≤ l.length → setB M = true → used.length ≤ M.length → (∀ y, y ∈ M ↔ y ∈ m ∨ y ∈ q) → Qk q → cnt.length = j →
    ∃ M' used', setB M' = true ∧ used'.length ≤ M'.length ∧ (∀ y, y ∈ M' ↔ y ∈ m ∨ y ∈ facts0 (l.drop j) q) ∧ ∀ (R : Type) (a b : List Int) (c w : Int) (k : List Int → List (Int × List Int) → List Int → List Int → Int → List Int → List Int → Int → List Int → List Int → Option R),
      impl_least_l5 n m l (l.length : Int) (j : Int) l a b c M used w cnt q k = k m l a b c M' used' w (cnt ++ cnt0 (l.drop j)) (facts0 (l.drop j) q)
  | 0, _, _, _, _, _, h, _, _, _, _, _, _ => by omega
  | n + 1, j, M, used, cnt, q, hn, hj, hs, hu, hm, hq, hc => by
    have hql := hq.len
    by_cases h : j < l.length
    · have hx := hh l[j] (List.getElem_mem h)
      rw [List.drop_eq_getElem_cons h]
      have ec : cnt ++ cnt0 (l[j] :: l.drop (j + 1)) = (cnt ++ [(l[j].2.length : Int)]) ++ cnt0 (l.drop (j + 1)) := by
        rw [List.append_assoc]; rfl
      rw [ec]
      by_cases c : l[j].2.length = 0
      · obtain ⟨M1, u1, a1, a2, a3, a4⟩ := impl_c1_ex (n := n) h hx hs hu (Q := []) (by simp) (by omega)
        have e : facts0 (l[j] :: l.drop (j + 1)) q = facts0 (l.drop (j + 1)) (addNew q l[j].1) := by
          show facts0 (l.drop (j + 1)) (if l[j].2.length = 0 then addNew q l[j].1 else q) = _
          rw [if_pos c]
        rw [e]
        obtain ⟨M2, u2, b1, b2, b3, b4⟩ := impl_run5 l m hl hh n (j + 1) M1 u1 (cnt ++ [(l[j].2.length : Int)]) (addNew q l[j].1) (by omega) (by omega) a1 a2 (fun y => by
          rw [a3, hm, addNew_mem]
          constructor
          · rintro (h | h | h)
            · exact .inr (.inl h)
            · exact .inl h
            · exact .inr (.inr h)
          · rintro (h | h | h)
            · exact .inr (.inl h)
            · exact .inl h
            · exact .inr (.inr h)) (hq.add hx) (by simp; omega)
        refine ⟨M2, u2, b1, b2, b3, fun R x y z w k => ?_⟩
        rw [impl_least_l5]
        simp only [dlt h, dnn, getD_at _ _ h, cond_true, decide_eq_true (show cnt.length + [(l[j].2.length : Int)].length ≤ LIM by simp [LIM]; omega), decide_eq_false (show ¬ (l[j].2.length : Int) > 0 by omega), cond_false, a4, slices_Contains_eq (show q.length ≤ 9223372036854775807 by omega) (show q.length < n by omega), wrapS h (show l.length ≤ 9223372036854775807 by omega)]
        by_cases d : l[j].1 ∈ q
        · have := b4 R x y z w k
          rw [addNew, if_pos d] at this ⊢
          rw [decide_eq_true d]
          exact this
        · have := b4 R x y z w k
          rw [addNew, if_neg d] at this ⊢
          rw [decide_eq_false d, decide_eq_true (show q.length + [l[j].1].length ≤ LIM by simp [LIM]; omega)]
          exact this
      · have e : facts0 (l[j] :: l.drop (j + 1)) q = facts0 (l.drop (j + 1)) q := by
          show facts0 (l.drop (j + 1)) (if l[j].2.length = 0 then addNew q l[j].1 else q) = _
          rw [if_neg c]
        rw [e]
        obtain ⟨M2, u2, b1, b2, b3, b4⟩ := impl_run5 l m hl hh n (j + 1) M used (cnt ++ [(l[j].2.length : Int)]) q (by omega) (by omega) hs hu hm hq (by simp; omega)
        refine ⟨M2, u2, b1, b2, b3, fun R x y z w k => ?_⟩
        rw [impl_least_l5]
        simp only [dlt h, dnn, getD_at _ _ h, cond_true, decide_eq_true (show cnt.length + [(l[j].2.length : Int)].length ≤ LIM by simp [LIM]; omega), decide_eq_true (show (l[j].2.length : Int) > 0 by omega), wrapS h (show l.length ≤ 9223372036854775807 by omega)]
        exact b4 R x y z w k
    · rw [List.drop_eq_nil_iff.2 (by omega)]
      refine ⟨M, used, hs, hu, hm, fun R x y z w k => ?_⟩
      rw [impl_least_l5]
      rw [dge (by omega), cond_false]
      simp [cnt0, facts0]
theorem impl_run14 {R : Type} (l : List (Int × List Int)) (m : List Int) (hm : m.length ≤ 40) (hh : ∀ r ∈ m, 0 ≤ r ∧ r ≤ 39) (a b : List Int) (c w : Int) (M used cnt : List Int) (k : List (Int × List Int) → List Int → List Int → Int → List Int → List Int → Int → List Int → List Int → Option R) : ∀ (n j : Nat) (q : List Int), 60 + (m.length - j) < n → j ≤ m.length → Qk q →
      impl_least_l14 n m (m.length : Int) (j : Int) l a b c M used w cnt q k = k l a b c M used w cnt (facts1 (m.drop j) q)
  | 0, _, _, h, _, _ => by omega
  | n + 1, j, q, hn, hj, hq => by
    have hql := hq.len
    by_cases h : j < m.length
    · have hx := hh m[j] (List.getElem_mem h)
      have ih := impl_run14 l m hm hh a b c w M used cnt k n (j + 1) (addNew q m[j]) (by omega) (by omega) (hq.add hx)
      rw [List.drop_eq_getElem_cons h]
      rw [impl_least_l14]
      simp only [dlt h, dnn, getD_at _ _ h, cond_true, slices_Contains_eq (show q.length ≤ 9223372036854775807 by omega) (show q.length < n by omega), wrapS h (show m.length ≤ 9223372036854775807 by omega)]
      show _ = k l a b c M used w cnt (facts1 (m.drop (j + 1)) (addNew q m[j]))
      by_cases d : m[j] ∈ q
      · rw [addNew, if_pos d] at ih ⊢
        rw [decide_eq_true d]
        exact ih
      · rw [addNew, if_neg d] at ih ⊢
        rw [decide_eq_false d, decide_eq_true (show q.length + [m[j]].length ≤ LIM by simp [LIM]; omega)]
        exact ih
    · rw [List.drop_eq_nil_iff.2 (by omega)]
      rw [impl_least_l14]
      rw [dge (by omega)]; rfl
theorem impl_run23 (l : List (Int × List Int)) (hl : l.length ≤ 60) (hh : ∀ r ∈ l, 0 ≤ r.1 ∧ r.1 ≤ 39 ∧ r.2.length ≤ 40) (x : Int) (s : Nat) : ∀ (n j : Nat) (M used q cnt : List Int) (w : Nat), 60 + (l.length - j) < n → j ≤ l.length → setB M = true → used.length ≤ M.length → (∀ y, y ∈ M ↔ y ∈ q) → RunOk l.length q cnt w → w + (l.length - j) ≤ 100000 → s ≤ q.length →
    ∃ M' used', setB M' = true ∧ used'.length ≤ M'.length ∧ (∀ y, y ∈ M' ↔ y ∈ (onRules x (l.drop j) j q cnt w).1) ∧ ∀ (R : Type) (a b : List Int) (c : Int) (k : List (Int × List Int) → List Int → List Int → Int → List Int → List Int → Int → List Int → List Int → Option R),
      impl_least_l23 n x l (l.length : Int) (j : Int) l a b c M used (w : Int) cnt (q.drop s) k = k l a b c M' used' ((onRules x (l.drop j) j q cnt w).2.2 : Int) (onRules x (l.drop j) j q cnt w).2.1 ((onRules x (l.drop j) j q cnt w).1.drop s)
  | 0, _, _, _, _, _, _, h, _, _, _, _, _, _, _ => by omega
  | n + 1, j, M, used, q, cnt, w, hn, hj, hs, hu, hm, hr, hwb, hsq => by
    by_cases h : j < l.length
    · have hx := hh l[j] (List.getElem_mem h)
      have hx2 : 0 ≤ l[j].1 ∧ l[j].1 ≤ 39 := ⟨hx.1, hx.2.1⟩
      have hql := hr.qk.len
      have hjc : j < cnt.length := by rw [hr.len]; exact h
      have hb := hr.bnd hjc
      have hst := hr.step h hx2
      rw [List.drop_eq_getElem_cons h]
      by_cases c : x ∈ l[j].2
      · have e : onRules x (l[j] :: l.drop (j + 1)) j q cnt w = onRules x (l.drop (j + 1)) (j + 1) (if cnt.getD j 0 - 1 = 0 ∧ l[j].1 ∉ q then q ++ [l[j].1] else q) (cnt.set j (cnt.getD j 0 - 1)) (w + 1) := by
          rw [onRules, if_pos c]
        rw [e]
        have hset : (cnt.set j (cnt.getD j 0 - 1)).getD j 0 = cnt.getD j 0 - 1 := by
          have := getD_set_at cnt 0 (cnt.getD j 0 - 1) hjc
          rw [Int.toNat_natCast] at this
          exact this
        by_cases c0 : cnt.getD j 0 - 1 = 0
        · obtain ⟨M1, u1, a1, a2, a3, a4⟩ := impl_c1_ex (n := n) h hx2 hs hu (Q := q.drop s) (by simp; omega) (by omega)
          have eq1 : (if cnt.getD j 0 - 1 = 0 ∧ l[j].1 ∉ q then q ++ [l[j].1] else q) = if l[j].1 ∈ q then q else q ++ [l[j].1] := by
            by_cases d : l[j].1 ∈ q
            · rw [if_neg (fun h => h.2 d), if_pos d]
            · rw [if_pos ⟨c0, d⟩, if_neg d]
          have eq2 : (if l[j].1 ∈ M then q.drop s else q.drop s ++ [l[j].1]) = (if l[j].1 ∈ q then q else q ++ [l[j].1]).drop s := by
            by_cases d : l[j].1 ∈ q
            · rw [if_pos ((hm _).2 d), if_pos d]
            · rw [if_neg (fun h => d ((hm _).1 h)), if_neg d, List.drop_append_of_le_length hsq]
          rw [eq1] at hst ⊢
          obtain ⟨M2, u2, b1, b2, b3, b4⟩ := impl_run23 l hl hh x s n (j + 1) M1 u1 (if l[j].1 ∈ q then q else q ++ [l[j].1]) (cnt.set j (cnt.getD j 0 - 1)) (w + 1) (by omega) (by omega) a1 a2 (fun y => by
            rw [a3, hm]
            by_cases d : l[j].1 ∈ q
            · rw [if_pos d]
              exact ⟨fun h => h.elim (fun e => e ▸ d) id, .inr⟩
            · rw [if_neg d, List.mem_append, List.mem_singleton]
              exact ⟨fun h => h.elim .inr .inl, fun h => h.elim .inr .inl⟩) hst (by omega) (by
            by_cases d : l[j].1 ∈ q
            · rw [if_pos d]; exact hsq
            · rw [if_neg d, List.length_append]; omega)
          refine ⟨M2, u2, b1, b2, b3, fun R y z v k => ?_⟩
          rw [impl_least_l23]
          simp only [dlt h, dnn, Int.toNat_natCast, getD_nat _ _ h, slices_Contains_eq (show l[j].2.length ≤ 9223372036854775807 by omega) (show l[j].2.length < n by omega), decide_eq_true c, Bool.not_true, cond_false, cond_true, dlt hjc, List.length_set,
            wrap64 (x := cnt.getD j 0 - 1) (by omega) (by omega), wrapS h (show l.length ≤ 9223372036854775807 by omega), wrapS (show w < w + 1 by omega) (show w + 1 ≤ 9223372036854775807 by omega)]
          rw [hset, beq_iff_eq.2 c0, cond_true, a4, eq2]
          exact b4 R y z v k
        · rw [if_neg (fun h => c0 h.1)] at hst ⊢
          obtain ⟨M2, u2, b1, b2, b3, b4⟩ := impl_run23 l hl hh x s n (j + 1) M used q (cnt.set j (cnt.getD j 0 - 1)) (w + 1) (by omega) (by omega) hs hu hm hst (by omega) hsq
          refine ⟨M2, u2, b1, b2, b3, fun R y z v k => ?_⟩
          rw [impl_least_l23]
          simp only [dlt h, dnn, Int.toNat_natCast, getD_nat _ _ h, slices_Contains_eq (show l[j].2.length ≤ 9223372036854775807 by omega) (show l[j].2.length < n by omega), decide_eq_true c, Bool.not_true, cond_false, cond_true, dlt hjc, List.length_set,
            wrap64 (x := cnt.getD j 0 - 1) (by omega) (by omega), wrapS h (show l.length ≤ 9223372036854775807 by omega), wrapS (show w < w + 1 by omega) (show w + 1 ≤ 9223372036854775807 by omega)]
          rw [hset, beq_eq_false_iff_ne.2 c0, cond_false]
          exact b4 R y z v k
      · have e : onRules x (l[j] :: l.drop (j + 1)) j q cnt w = onRules x (l.drop (j + 1)) (j + 1) q cnt w := by
          rw [onRules, if_neg c]
        rw [e]
        obtain ⟨M2, u2, b1, b2, b3, b4⟩ := impl_run23 l hl hh x s n (j + 1) M used q cnt w (by omega) (by omega) hs hu hm hr (by omega) hsq
        refine ⟨M2, u2, b1, b2, b3, fun R y z v k => ?_⟩
        rw [impl_least_l23]
        simp only [dlt h, dnn, Int.toNat_natCast, getD_nat _ _ h, slices_Contains_eq (show l[j].2.length ≤ 9223372036854775807 by omega) (show l[j].2.length < n by omega), decide_eq_false c, Bool.not_false, cond_true, wrapS h (show l.length ≤ 9223372036854775807 by omega)]
        exact b4 R y z v k
    · rw [List.drop_eq_nil_iff.2 (by omega)]
      refine ⟨M, used, hs, hu, hm, fun R y z v k => ?_⟩
      rw [impl_least_l23]
      rw [dge (by omega)]; rfl
theorem impl_run19 (l : List (Int × List Int)) (hl : l.length ≤ 60) (hh : ∀ r ∈ l, 0 ≤ r.1 ∧ r.1 ≤ 39 ∧ r.2.length ≤ 40) : ∀ (f n at' : Nat) (M used q cnt : List Int) (w : Nat), 41 ≤ f + at' → f + 200 ≤ n → at' ≤ q.length → setB M = true → used.length ≤ M.length → (∀ y, y ∈ M ↔ y ∈ q) → RunOk l.length q cnt w → w + 60 * f ≤ 90000 →
    ∃ M' used', setB M' = true ∧ (∀ y, y ∈ M' ↔ y ∈ (runQ l f at' q cnt w).1) ∧ ∀ (R : Type) (a b : List Int) (c : Int) (k : List Int → List Int → Int → List Int → List Int → Int → Option R), impl_least_l19 n l a b c M used (w : Int) cnt (q.drop at') k = k a b c M' used' ((runQ l f at' q cnt w).2.2 : Int)
  | 0, n, at', M, used, q, cnt, w, hf, _, ha, _, _, _, hr, _ => by have := hr.qk.len; omega
  | f + 1, 0, at', M, used, q, cnt, w, hf, h, _, _, _, _, _, _ => by omega
  | f + 1, n + 1, at', M, used, q, cnt, w, hf, hn, ha, hs, hu, hm, hr, hwb => by
    have hql := hr.qk.len
    by_cases h : at' < q.length
    · obtain ⟨M1, u1, h1, h2, h3, h4⟩ := impl_run23 l hl hh (q.getD at' 0) (at' + 1) n 0 M used q cnt w (by omega) (by omega) hs hu hm hr (by omega) (by omega)
      obtain ⟨g1, g2, e, g3⟩ := onRules_ok (m := l.length) (q.getD at' 0) l 0 q cnt w hr (by omega) fun r hr => ⟨(hh r hr).1, (hh r hr).2.1⟩
      rw [List.drop_zero] at h3 h4
      have hq' : at' + 1 ≤ (onRules (q.getD at' 0) l 0 q cnt w).1.length := by rw [g3, List.length_append]; omega
      obtain ⟨M2, u2, k1, k2, k3⟩ := impl_run19 l hl hh f n (at' + 1) M1 u1 _ _ _ (by omega) (by omega) hq' h1 h2 h3 g1 (by omega)
      have e : runQ l (f + 1) at' q cnt w = runQ l f (at' + 1) (onRules (q.getD at' 0) l 0 q cnt w).1 (onRules (q.getD at' 0) l 0 q cnt w).2.1 (onRules (q.getD at' 0) l 0 q cnt w).2.2 := by rw [runQ, if_pos h]
      rw [e]
      refine ⟨M2, u2, k1, k2, fun R a b c k => ?_⟩
      have e1 : (q.drop at').getD 0 0 = q.getD at' 0 := by
        rw [List.getD_eq_getElem?_getD, List.getElem?_drop, List.getD_eq_getElem?_getD]; rfl
      have e2 : ((q.drop at').drop 1).take ((Int.toNat ((q.drop at').length : Int)) - 1) = q.drop (at' + 1) := by
        rw [List.drop_drop, List.take_of_length_le (by simp; omega)]
      have e3 : (q.drop at').length = q.length - at' := by simp
      rw [impl_least_l19]
      rw [e1, e2, e3, decide_eq_true (show ((q.length - at' : Nat) : Int) > 0 by omega), decide_eq_true (show 1 ≤ ((q.length - at' : Nat) : Int) by omega), decide_eq_true (show ((q.length - at' : Nat) : Int) ≤ ((q.length - at' : Nat) : Int) by omega)]
      simp only [cond_true]
      rw [show ((0 : Nat) : Int) = 0 from rfl] at h4
      rw [h4]
      exact k3 R a b c k
    · have e : runQ l (f + 1) at' q cnt w = (q, cnt, w) := by rw [runQ, if_neg h]
      rw [e]
      refine ⟨M, used, hs, hm, fun R a b c k => ?_⟩
      have e3 : (q.drop at').length = 0 := by simp; omega
      rw [impl_least_l19]
      rw [e3]
      rfl
theorem impl_run_ex {n : Nat} {l : List (Int × List Int)} {m : List Int} (ho : okRules l = true) (hm : setB m = true) (hn : 1000 ≤ n) :
    ∃ M used, setB M = true ∧ (∀ y, y ∈ M ↔ y ∈ (runAll l m).1) ∧ ∀ (R : Type) (k : Int → List Int → List Int → Option R), impl_least n l m k = k ((runAll l m).2.2 : Int) M used := by
  obtain ⟨hl, hh⟩ := okRules_in ho
  have hh' : ∀ r ∈ l, 0 ≤ r.1 ∧ r.1 ≤ 39 := fun r hr => ⟨(hh r hr).1, (hh r hr).2.1⟩
  have hml := set_len hm
  have hmm := (setB_iff.1 hm).2
  obtain ⟨M1, u1, a1, a2, a3, a4⟩ := impl_run5 l m hl hh' n 0 m [] [] [] (by omega) (by omega) hm (by simp) (fun y => by simp) .nil rfl
  rw [List.drop_zero] at a3 a4
  have q1 := facts0_ok hh' .nil
  have q2 := facts1_ok hmm q1
  obtain ⟨M2, u2, b1, b2, b3⟩ := impl_run19 l hl hh 41 n 0 M1 u1 (facts1 m (facts0 l [])) (cnt0 l) 0 (by omega) (by omega) (by omega) a1 a2 (fun y => by rw [a3, facts1_mem]) (cnt0_ok hh q2) (by omega)
  refine ⟨M2, u2, b1, b2, fun R k => ?_⟩
  unfold impl_least slices_Clone_int
  rw [decide_eq_true (show 0 + m.length ≤ LIM by simp [LIM]; omega), cond_true]
  rw [show ((0 : Nat) : Int) = 0 from rfl] at a4 b3
  have c4 := fun (R : Type) (a b : List Int) (c w : Int) (M used cnt : List Int) k => impl_run14 (R := R) l m hml hmm a b c w M used cnt k n 0 (facts0 l []) (by omega) (by omega) q1
  rw [show ((0 : Nat) : Int) = 0 from rfl, List.drop_zero] at c4
  simp only [a4, List.nil_append, c4]
  rw [List.drop_zero] at b3
  exact b3 R [] [] 0 _
/-- How many of a body have not been worked off. -/
def wait (P b : List Int) : Nat := (b.filter fun y => decide (y ∉ P)).length
theorem wait_congr {P Q b : List Int} (h : ∀ y, y ∈ P ↔ y ∈ Q) : wait P b = wait Q b := by
  unfold wait
  congr 2
  funext y
  exact decide_eq_decide.2 (not_congr (h y))
theorem wait_skip {a : Int} {P : List Int} : ∀ {b : List Int}, a ∉ b → wait (a :: P) b = wait P b
  | [], _ => rfl
  | y :: b, h => by
    have hy : y ≠ a := fun e => h (e ▸ List.mem_cons_self ..)
    have ih := wait_skip (a := a) (P := P) (b := b) fun h2 => h (List.mem_cons_of_mem _ h2)
    unfold wait at ih ⊢
    rw [List.filter_cons, List.filter_cons]
    by_cases c : y ∈ P
    · simp only [List.mem_cons, hy, false_or, c, not_true, decide_false, Bool.false_eq_true, if_false] at ih ⊢
      exact ih
    · simp only [List.mem_cons, hy, false_or, c, not_false_iff, decide_true, if_true, List.length_cons] at ih ⊢
      rw [ih]
theorem wait_take {a : Int} {P : List Int} (ha : a ∉ P) : ∀ {b : List Int}, b.Nodup → a ∈ b → wait P b = wait (a :: P) b + 1
  | [], _, h => by simp at h
  | y :: b, hn, h => by
    rw [List.nodup_cons] at hn
    by_cases e : y = a
    · subst e
      have := wait_skip (a := y) (P := P) hn.1
      unfold wait at this ⊢
      rw [List.filter_cons, List.filter_cons]
      simp only [List.mem_cons, true_or, not_true, decide_false, ha, not_false_iff, decide_true, if_true, List.length_cons] at this ⊢
      rw [← this]
      rfl
    · have ih := wait_take ha hn.2 ((List.mem_cons.1 h).elim (fun h => absurd h.symm e) id)
      unfold wait at ih ⊢
      rw [List.filter_cons, List.filter_cons]
      by_cases c : y ∈ P
      · simp only [List.mem_cons, e, false_or, c, not_true, decide_false] at ih ⊢
        exact ih
      · simp only [List.mem_cons, e, false_or, c, not_false_iff, decide_true, if_true, List.length_cons] at ih ⊢
        rw [ih]
theorem wait_zero {P b : List Int} : wait P b = 0 ↔ ∀ y ∈ b, y ∈ P := by
  unfold wait
  rw [List.length_eq_zero_iff, List.filter_eq_nil_iff]
  constructor
  · intro h y hy
    have := h y hy
    simpa using this
  · intro h y hy
    simpa using h y hy
theorem sum_set : ∀ (l : List Int) (j : Nat), j < l.length → (l.set j (l.getD j 0 - 1)).sum = l.sum - 1
  | [], _, h => by simp at h
  | x :: l, 0, _ => by simp only [List.set_cons_zero, List.sum_cons, List.getD_cons_zero]; omega
  | x :: l, j + 1, h => by
    have := sum_set l j (by simpa using h)
    simp only [List.set_cons_succ, List.sum_cons, List.getD_cons_succ, this]
    omega
theorem sum_nonneg : ∀ (l : List Int), (∀ c ∈ l, 0 ≤ c) → 0 ≤ l.sum
  | [], _ => by simp
  | x :: l, h => by
    have := sum_nonneg l fun c hc => h c (List.mem_cons_of_mem _ hc)
    have := h x (List.mem_cons_self ..)
    simp only [List.sum_cons]; omega
theorem getD_set_ne {l : List Int} {i j : Nat} (h : i ≠ j) (v : Int) : (l.set j v).getD i 0 = l.getD i 0 := by
  rw [List.getD_eq_getElem?_getD, List.getD_eq_getElem?_getD, List.getElem?_set_ne (fun e => h e.symm)]
structure InvS (l : List (Int × List Int)) (S : Int → Prop) (T : Int) (q cnt : List Int) (w : Nat) : Prop where
  hd : ∀ i (h : i < l.length), cnt.getD i 0 = 0 → l[i].1 ∈ q
  sub : ∀ x ∈ q, S x
  sum : cnt.sum + w = T
/-- Under way: rules ahead of `j` know of `a`. -/
structure InvI (l : List (Int × List Int)) (S : Int → Prop) (T : Int) (a : Int) (P : List Int) (j : Nat) (q cnt : List Int) (w : Nat) : Prop where
  s : InvS l S T q cnt w
  aq : a ∈ q
  pq : ∀ y ∈ P, y ∈ q
  c1 : ∀ i (h : i < l.length), i < j → cnt.getD i 0 = wait (a :: P) l[i].2
  c2 : ∀ i (h : i < l.length), j ≤ i → cnt.getD i 0 = wait P l[i].2
theorem onRules_inv {l : List (Int × List Int)} {S : Int → Prop} {T : Int} (hn : ∀ r ∈ l, r.2.Nodup) (hS : ∀ r ∈ l, (∀ y ∈ r.2, S y) → S r.1) {a : Int} {P : List Int} (ha : a ∉ P) :
    ∀ (t : List (Int × List Int)) (j : Nat) (q cnt : List Int) (w : Nat), l.drop j = t → j ≤ l.length → cnt.length = l.length → InvI l S T a P j q cnt w →
    InvI l S T a P l.length (onRules a t j q cnt w).1 (onRules a t j q cnt w).2.1 (onRules a t j q cnt w).2.2
  | [], j, q, cnt, w, ht, hj, hc, h => by
    have : j = l.length := by
      have := congrArg List.length ht
      simp at this; omega
    subst this
    exact h
  | r :: t, j, q, cnt, w, ht, hj, hc, h => by
    have hlt : j < l.length := by
      have := congrArg List.length ht
      simp at this; omega
    have e := ht
    rw [List.drop_eq_getElem_cons hlt] at e
    injection e with e1 e2
    have hr : r ∈ l := e1 ▸ List.getElem_mem hlt
    have hcj := h.c2 j hlt (Nat.le_refl _)
    rw [e1] at hcj
    rw [onRules]
    split
    · next c =>
      have hw := wait_take ha (hn r hr) c
      have hv : cnt.getD j 0 - 1 = wait (a :: P) r.2 := by omega
      have hset : (cnt.set j (cnt.getD j 0 - 1)).getD j 0 = wait (a :: P) r.2 := by
        rw [List.getD_eq_getElem?_getD, List.getElem?_set_self (by omega)]; exact hv
      have hsub : ∀ y ∈ q, y ∈ (if cnt.getD j 0 - 1 = 0 ∧ r.1 ∉ q then q ++ [r.1] else q) := fun y hy => by
        split
        · exact List.mem_append_left _ hy
        · exact hy
      refine onRules_inv hn hS ha t (j + 1) _ _ _ e2 (by omega) (by simpa using hc) ⟨⟨fun i hi h0 => ?_, fun x hx => ?_, ?_⟩, hsub _ h.aq, fun y hy => hsub _ (h.pq y hy), fun i hi hij => ?_, fun i hi hij => ?_⟩
      · by_cases c1 : i = j
        · subst c1
          rw [hset] at h0
          rw [e1]
          by_cases d : r.1 ∈ q
          · exact hsub _ d
          · rw [if_pos ⟨by omega, d⟩]; simp
        · rw [getD_set_ne c1] at h0
          exact hsub _ (h.s.hd i hi h0)
      · split at hx
        · next c3 =>
          rcases List.mem_append.1 hx with hx | hx
          · exact h.s.sub x hx
          · rw [List.mem_singleton.1 hx]
            refine hS r hr fun y hy => ?_
            have := wait_zero.1 (show wait (a :: P) r.2 = 0 by omega) y hy
            rcases List.mem_cons.1 this with rfl | h5
            · exact h.s.sub _ h.aq
            · exact h.s.sub _ (h.pq _ h5)
        · exact h.s.sub x hx
      · rw [sum_set _ _ (by omega)]
        have := h.s.sum
        omega
      · by_cases c1 : i = j
        · subst c1
          rw [hset, e1]
        · rw [getD_set_ne c1]
          exact h.c1 i hi (by omega)
      · rw [getD_set_ne (by omega)]
        exact h.c2 i hi (by omega)
    · next c =>
      refine onRules_inv hn hS ha t (j + 1) q cnt w e2 (by omega) hc ⟨h.s, h.aq, h.pq, fun i hi hij => ?_, fun i hi hij => h.c2 i hi (by omega)⟩
      by_cases c1 : i = j
      · subst c1
        rw [h.c2 i hi (by omega), e1, wait_skip c]
      · exact h.c1 i hi (by omega)
/-- Between two numbers. -/
structure InvO (l : List (Int × List Int)) (S : Int → Prop) (T : Int) (at' : Nat) (q cnt : List Int) (w : Nat) : Prop where
  s : InvS l S T q cnt w
  c : ∀ i (h : i < l.length), cnt.getD i 0 = wait (q.take at') l[i].2
theorem runQ_inv {l : List (Int × List Int)} {S : Int → Prop} {T : Int} (hh : ∀ r ∈ l, 0 ≤ r.1 ∧ r.1 ≤ 39) (hn : ∀ r ∈ l, r.2.Nodup) (hS : ∀ r ∈ l, (∀ y ∈ r.2, S y) → S r.1) :
    ∀ (f at' : Nat) (q cnt : List Int) (w : Nat), 41 ≤ f + at' → at' ≤ q.length → RunOk l.length q cnt w → InvO l S T at' q cnt w →
    InvO l S T (runQ l f at' q cnt w).1.length (runQ l f at' q cnt w).1 (runQ l f at' q cnt w).2.1 (runQ l f at' q cnt w).2.2 ∧ ∃ e, (runQ l f at' q cnt w).1 = q ++ e
  | 0, at', q, cnt, w, hf, ha, hr, _ => by have := hr.qk.len; omega
  | f + 1, at', q, cnt, w, hf, ha, hr, h => by
    rw [runQ]
    split
    · next hlt =>
      have hap : q.getD at' 0 = q[at'] := getD_nat q 0 hlt
      have hnd : q.getD at' 0 ∉ q.take at' := by
        rw [hap]
        have h1 := hr.qk.1
        rw [← List.take_append_drop at' q, List.drop_eq_getElem_cons hlt] at h1
        have h2 := (List.nodup_append.1 h1).2.2
        exact fun hm => h2 _ hm _ (List.mem_cons_self ..) rfl
      obtain ⟨g1, g2, e, g3⟩ := onRules_ok (m := l.length) (q.getD at' 0) l 0 q cnt w hr (by omega) hh
      have hi := onRules_inv hn hS hnd l 0 q cnt w (by simp) (by omega) hr.len ⟨h.s, by rw [hap]; exact List.getElem_mem hlt, fun y hy => List.mem_of_mem_take hy, fun i _ hij => by omega, fun i hi _ => h.c i hi⟩
      obtain ⟨k1, e2, k2⟩ := runQ_inv hh hn hS f (at' + 1) _ _ _ (by omega) (by rw [g3, List.length_append]; omega) g1 ⟨hi.s, fun i hi2 => by
        rw [hi.c1 i hi2 hi2]
        refine congrArg (fun x : Nat => (x : Int)) (wait_congr fun y => ?_)
        rw [g3, List.take_append_of_le_length (by omega), List.take_succ_eq_append_getElem hlt, hap, List.mem_cons, List.mem_append, List.mem_singleton]
        exact ⟨fun h => h.elim .inr .inl, fun h => h.elim .inr .inl⟩⟩
      refine ⟨k1, e ++ e2, ?_⟩
      rw [k2, g3, List.append_assoc]
    · next hlt =>
      have : at' = q.length := by omega
      subst this
      exact ⟨h, [], by simp⟩
theorem facts0_mem {l : List (Int × List Int)} : ∀ {q : List Int} {y : Int}, y ∈ facts0 l q ↔ y ∈ q ∨ ∃ r ∈ l, r.2.length = 0 ∧ r.1 = y := by
  induction l with
  | nil => intro q y; simp [facts0]
  | cons r l ih =>
    intro q y
    show y ∈ facts0 l (if r.2.length = 0 then addNew q r.1 else q) ↔ _
    rw [ih]
    by_cases c : r.2.length = 0
    · rw [if_pos c, addNew_mem]
      constructor
      · rintro ((h | h) | ⟨r', h1, h2⟩)
        · exact .inr ⟨r, List.mem_cons_self .., c, h.symm⟩
        · exact .inl h
        · exact .inr ⟨r', List.mem_cons_of_mem _ h1, h2⟩
      · rintro (h | ⟨r', h1, h2⟩)
        · exact .inl (.inr h)
        · rcases List.mem_cons.1 h1 with rfl | h1
          · exact .inl (.inl h2.2.symm)
          · exact .inr ⟨r', h1, h2⟩
    · rw [if_neg c]
      constructor
      · rintro (h | ⟨r', h1, h2⟩)
        · exact .inl h
        · exact .inr ⟨r', List.mem_cons_of_mem _ h1, h2⟩
      · rintro (h | ⟨r', h1, h2⟩)
        · exact .inl h
        · rcases List.mem_cons.1 h1 with rfl | h1
          · exact absurd h2.1 c
          · exact .inr ⟨r', h1, h2⟩
theorem wait_nil (b : List Int) : wait [] b = b.length := by
  unfold wait
  rw [List.filter_eq_self.2 (by simp)]
theorem cnt0_getD (l : List (Int × List Int)) {i : Nat} (h : i < l.length) : (cnt0 l).getD i 0 = (l[i].2.length : Int) := by
  rw [List.getD_eq_getElem?_getD, List.getElem?_eq_getElem (by simpa [cnt0] using h)]
  simp [cnt0]
/-- The run's facts are a model with the given ones, lie in each such, and took no more steps than bodies have parts. -/
theorem runAll_inv {l : List (Int × List Int)} {m : List Int} (ho : okRules l = true) (hm : setB m = true) (S : Int → Prop) (hS : ∀ r ∈ l, (∀ y ∈ r.2, S y) → S r.1) (hmS : ∀ x ∈ m, S x) :
    (∀ x ∈ (runAll l m).1, S x) ∧ (∀ r ∈ l, (∀ y ∈ r.2, y ∈ (runAll l m).1) → r.1 ∈ (runAll l m).1) ∧ (∀ x ∈ m, x ∈ (runAll l m).1) ∧ ((runAll l m).2.2 : Int) ≤ (cnt0 l).sum ∧ (∀ x ∈ (runAll l m).1, 0 ≤ x ∧ x ≤ 39) := by
  obtain ⟨hl, hh⟩ := okRules_in ho
  have hh' : ∀ r ∈ l, 0 ≤ r.1 ∧ r.1 ≤ 39 := fun r hr => ⟨(hh r hr).1, (hh r hr).2.1⟩
  have hmm := (setB_iff.1 hm).2
  have hnd : ∀ r ∈ l, r.2.Nodup := fun r hr => pw_nodup (setB_iff.1 (okRules_all ho hr).2.2).1
  have q2 := facts1_ok hmm (facts0_ok hh' .nil)
  have hr0 := cnt0_ok hh q2
  have h0 : InvO l S (cnt0 l).sum 0 (facts1 m (facts0 l [])) (cnt0 l) 0 := ⟨⟨fun i hi h0 => by
      rw [cnt0_getD l hi] at h0
      rw [facts1_mem, facts0_mem]
      exact .inr (.inr ⟨l[i], List.getElem_mem hi, by omega, rfl⟩), fun x hx => by
      rw [facts1_mem, facts0_mem] at hx
      rcases hx with hx | hx | ⟨r, h1, h2, rfl⟩
      · exact hmS x hx
      · simp at hx
      · exact hS r h1 fun y hy => by rw [List.length_eq_zero_iff.1 h2] at hy; simp at hy, by simp⟩, fun i hi => by rw [cnt0_getD l hi, List.take_zero, wait_nil]⟩
  obtain ⟨h1, e, h2⟩ := runQ_inv hh' hnd hS 41 0 _ _ _ (by omega) (by omega) hr0 h0
  have h3 := runQ_ok l hh' 41 0 _ _ _ hr0
  have hc : ∀ i (h : i < l.length), ((runAll l m).2.1).getD i 0 = wait (runAll l m).1 l[i].2 := fun i hi => by
    have := h1.c i hi
    rw [List.take_length] at this
    exact this
  refine ⟨h1.s.sub, fun r hr hb => ?_, fun x hx => ?_, ?_, h3.qk.2⟩
  · obtain ⟨i, hi, rfl⟩ := List.getElem_of_mem hr
    refine h1.s.hd i hi ?_
    have := hc i hi
    rw [wait_zero.2 hb] at this
    exact this
  · show x ∈ (runQ l 41 0 (facts1 m (facts0 l [])) (cnt0 l) 0).1
    rw [h2]
    exact List.mem_append_left _ (facts1_mem.2 (.inl hx))
  · have hs := h1.s.sum
    have : 0 ≤ ((runAll l m).2.1).sum := sum_nonneg _ fun c hc' => by
      obtain ⟨i, hi, rfl⟩ := List.getElem_of_mem hc'
      have hi2 : i < l.length := by rw [← h3.len]; exact hi
      have := hc i hi2
      rw [List.getD_eq_getElem?_getD, List.getElem?_eq_getElem hi] at this
      show 0 ≤ ((runAll l m).2.1)[i]
      have e : ((runAll l m).2.1)[i] = (wait (runAll l m).1 l[i].2 : Int) := this
      omega
    have e : ((runAll l m).2.1).sum + (runAll l m).2.2 = (cnt0 l).sum := hs
    omega
theorem spec_l8List_loop {come : List Bool} {q : List Int} (hc : Cm come q) : ∀ (n j : Nat) (out : List Int), 40 - j < n → j ≤ 40 → out.Pairwise (· < ·) → (∀ y, y ∈ out ↔ y ∈ q ∧ 0 ≤ y ∧ y < j) → out.length ≤ j →
    ∃ out', out'.Pairwise (· < ·) ∧ (∀ y, y ∈ out' ↔ y ∈ q ∧ 0 ≤ y ∧ y ≤ 39) ∧ ∀ (R : Type) (k : List Int → Option R), spec_l8List_l3 n come (come.length : Int) (j : Int) out k = k out'
  | 0, _, _, h, _, _, _, _ => by omega
  | n + 1, j, out, hn, hj, hp, hm, hlen => by
    have hcl := hc.1
    by_cases h : j < 40
    · have hcj := hc.2 (j : Int) (by omega) (by omega)
      by_cases d : (j : Int) ∈ q
      · obtain ⟨o, a1, a2, a3⟩ := spec_l8List_loop hc n (j + 1) (out ++ [(j : Int)]) (by omega) (by omega) (List.pairwise_append.2 ⟨hp, by simp, fun a ha b hb => by
            rw [List.mem_singleton.1 hb]
            exact ((hm a).1 ha).2.2⟩) (fun y => by
            rw [List.mem_append, hm, List.mem_singleton]
            constructor
            · rintro (h | rfl)
              · exact ⟨h.1, h.2.1, by omega⟩
              · exact ⟨d, by omega, by omega⟩
            · rintro ⟨h1, h2, h3⟩
              by_cases e : y = (j : Int)
              · exact .inr e
              · exact .inl ⟨h1, h2, by omega⟩) (by simp; omega)
        refine ⟨o, a1, a2, fun R k => ?_⟩
        rw [spec_l8List_l3]
        rw [hcl] at a3 ⊢
        rw [dlt h, dnn, hcj, decide_eq_true d, decide_eq_true (show out.length + [(j : Int)].length ≤ LIM by simp [LIM]; omega), wrapS h (by omega)]
        exact a3 R k
      · obtain ⟨o, a1, a2, a3⟩ := spec_l8List_loop hc n (j + 1) out (by omega) (by omega) hp (fun y => by
            rw [hm]
            constructor
            · rintro ⟨h1, h2, h3⟩; exact ⟨h1, h2, by omega⟩
            · rintro ⟨h1, h2, h3⟩
              have : y ≠ (j : Int) := fun e => d (e ▸ h1)
              exact ⟨h1, h2, by omega⟩) (by omega)
        refine ⟨o, a1, a2, fun R k => ?_⟩
        rw [spec_l8List_l3]
        rw [hcl] at a3 ⊢
        rw [dlt h, dnn, hcj, decide_eq_false d, wrapS h (by omega)]
        exact a3 R k
    · refine ⟨out, hp, fun y => ?_, fun R k => ?_⟩
      · rw [hm]
        constructor <;> (rintro ⟨h1, h2, h3⟩; exact ⟨h1, h2, by omega⟩)
      · rw [spec_l8List_l3]
        rw [hcl, dge (by omega), cond_false]
theorem spec_l8List_ex {n : Nat} {come : List Bool} {q : List Int} (hc : Cm come q) (hq : ∀ x ∈ q, 0 ≤ x ∧ x ≤ 39) (hn : 50 ≤ n) : ∃ out, setB out = true ∧ (∀ y, y ∈ out ↔ y ∈ q) ∧ ∀ (R : Type) (k : List Int → Option R), spec_l8List n come k = k out := by
  obtain ⟨o, a1, a2, a3⟩ := spec_l8List_loop hc n 0 [] (by omega) (by omega) List.Pairwise.nil (fun y => by simp) (by simp)
  refine ⟨o, setB_iff.2 ⟨a1, fun x hx => ((a2 x).1 hx).2⟩, fun y => ?_, fun R k => ?_⟩
  · rw [a2]
    exact ⟨fun h => h.1, fun h => ⟨h, hq y h⟩⟩
  · unfold spec_l8List
    rw [show ((0 : Nat) : Int) = 0 from rfl] at a3
    exact a3 R k
theorem impl_rulesOk_eq {R : Type} {n : Nat} {l : List (Int × List Int)} {m : List Int} (hl : l.length ≤ 1048576) (hx : ∀ x ∈ l, x.2.length ≤ 1048576) (hm : m.length ≤ 1048576) (hn : 5000000 ≤ n) (k : Bool → Option R) : impl_rulesOk n l m k = k (okRules l && setB m) := by
  unfold impl_rulesOk
  rw [impl_GoodRules_eq hl hx (by omega)]
  cases okRules l with
  | false => rfl
  | true =>
    rw [cond_true, impl_isSet_eq (by omega) (by omega)]
    rfl
theorem toRuleS_dee {R : Type} {n : Nat} {l : List (Int × List Int)} (hl : l.length ≤ 1048576) (hx : ∀ x ∈ l, x.2.length ≤ 1048576) (hn : 3000000 ≤ n) (k : List (Int × List Int) → Option R) : laws_toRuleS n l k = k l := by
  unfold laws_toRuleS
  have h : (l.all fun x => decide (x.2.length ≤ 1048576) && decide (x.2.length < n)) = true := by
    rw [List.all_eq_true]
    intro x hm
    have := hx x hm
    rw [decide_eq_true this, decide_eq_true (show x.2.length < n by omega)]; rfl
  rw [decide_eq_true hl, h]; rfl
theorem markTo_le : ∀ {l : List (Int × List Int)} (q : Int), (∀ x ∈ l, x.2.length ≤ 1048576) → q ≤ markTo l q ∧ markTo l q ≤ q + l.length * 1048577
  | [], q, _ => by simp [markTo]
  | x :: l, q, h => by
    have h1 := h x List.mem_cons_self
    have ih := markTo_le (l := l) (q + 1 + x.2.length) fun y hy => h y (List.mem_cons_of_mem _ hy)
    rw [markTo]
    simp only [List.length_cons]
    omega
theorem markRuleS_dee {R : Type} {n : Nat} {l : List (Int × List Int)} (hl : l.length ≤ 1048576) (hx : ∀ x ∈ l, x.2.length ≤ 1048576) (hn : 3000000 ≤ n) (k : Int → Option R) : laws_markRuleS n 1 l k = k (markTo l 1) := by
  unfold laws_markRuleS
  have h : (l.all fun x => decide (x.2.length < n)) = true := by
    rw [List.all_eq_true]
    intro x hm
    have := hx x hm
    exact decide_eq_true (by omega)
  have h2 := markTo_le 1 hx
  rw [decide_eq_true (show (0 : Int) ≤ 1 by omega), decide_eq_true (show markTo l 1 ≤ 4611686018427387904 by omega), decide_eq_true (show l.length ≤ 4611686018427387904 by omega), h]; rfl
theorem marksIn {R : Type} {n : Nat} {l : List (Int × List Int)} {m : List Int} (hl : l.length ≤ 1048576) (hx : ∀ x ∈ l, x.2.length ≤ 1048576) (hm : m.length ≤ 1048576) (hn : 3000000 ≤ n) (k : Int → List Int → Option R) : laws_markIntS n (markTo l 1) m k = k (markTo l 1 + m.length) (marks m.length (markTo l 1)) := by
  have h2 := markTo_le 1 hx
  exact laws_markIntS_eq (by omega) (by omega) (by omega) k
theorem marksNeg {l : List (Int × List Int)} {m : List Int} (hx : ∀ x ∈ l, x.2.length ≤ 1048576) : decide (markTo l 1 + (m.length : Int) < 0) = false := by
  have h2 := markTo_le 1 hx
  exact decide_eq_false (by omega)
/-- What both sides tell: the least model, in order, and the work. -/
theorem least_both {n : Nat} {l : List (Int × List Int)} {m : List Int} (ho : okRules l = true) (hm : setB m = true) (hn : 1000 ≤ n) : ∃ (M used : List Int) (come : List Bool) (why : List Int), setB M = true ∧
    (∀ (R : Type) (k : Int → List Bool → List Int → List Int → Option R), spec_l8Run n l m k = k ((runAll l m).2.2 : Int) come why (runAll l m).1) ∧ (∀ (R : Type) (k : List Int → Option R), spec_l8List n come k = k M) ∧
    ∀ (R : Type) (k : Int → List Int → List Int → Option R), impl_least n l m k = k ((runAll l m).2.2 : Int) M used := by
  obtain ⟨come, why, h1, h2⟩ := spec_run_ex ho hm hn
  obtain ⟨M, used, i1, i2, i3⟩ := impl_run_ex ho hm hn
  obtain ⟨out, o1, o2, o3⟩ := spec_l8List_ex (n := n) h1 (runAll_inv ho hm (fun _ => True) (fun _ _ _ => trivial) (fun _ _ => trivial)).2.2.2.2 (by omega)
  have e : out = M := pw_ext (setB_iff.1 o1).1 (setB_iff.1 i1).1 fun y => by rw [o2, i2]
  subst e
  exact ⟨out, used, come, why, o1, h2, o3, i3⟩
theorem key {R : Type} {n : Nat} (l : List (Int × List Int)) (m : List Int) (hn : 5000000 + l.length ≤ n) (hl : l.length ≤ 9223372036854775807) (hb : ∀ x ∈ l, x.2.length ≤ 9223372036854775807) (k : Bool → Option R) : laws_FnExactLeastModel n l m k = k true := by
  unfold laws_FnExactLeastModel
  by_cases hm : (m.length : Int) > 1048576
  · rw [decide_eq_true hm]; rfl
  · rw [decide_eq_false hm, cond_false]
    obtain ⟨r, h1, h2⟩ := laws_szRuleS_eq (n := n) hl hb (by omega)
    rw [h1]
    by_cases c : r < 0
    · rw [decide_eq_true c]; rfl
    · rw [decide_eq_false c, cond_false]
      obtain ⟨a, b⟩ := h2 (by omega)
      have hml : m.length ≤ 1048576 := by omega
      obtain ⟨w, ok, out, hol, hs, hi⟩ : ∃ (w : Int) (ok : Bool) (out : List Int), out.length ≤ 1048576 ∧ (∀ k : Int → Bool → List Int → Option R, spec_LeastModel n l m k = k w ok out) ∧ ∀ k : Int → Bool → List Int → Option R, impl_LeastModel n l m k = k w ok out := by
        unfold spec_LeastModel impl_LeastModel
        simp only [spec_GoodRules_eq a b (show 3000000 ≤ n by omega), spec_l8Set_eq (l := m) (by omega) (show m.length < n by omega), impl_rulesOk_eq a b hml (show 5000000 ≤ n by omega)]
        cases ho : okRules l with
        | false => exact ⟨0, false, [], by simp, fun k => rfl, fun k => rfl⟩
        | true =>
          cases hs : setB m with
          | false => exact ⟨0, false, [], by simp, fun k => rfl, fun k => rfl⟩
          | true =>
            obtain ⟨M, used, come, why, g1, g2, g3, g4⟩ := least_both ho hs (show 1000 ≤ n by omega)
            have := set_len g1
            exact ⟨((runAll l m).2.2 : Int), true, M, by omega, fun k => by simp only [Bool.not_true, cond_false, g2, g3], fun k => by simp only [Bool.and_self, Bool.not_true, cond_false, g4]⟩
      simp only [toRuleS_dee a b (show 3000000 ≤ n by omega), laws_toIntS_eq hml (show m.length < n by omega), hs, hi, laws_eqIntS_eq (xs := out) (ys := out) (show out.length ≤ 9223372036854775807 by omega) (show out.length < n by omega), decide_true, Bool.not_true, cond_false, beq_self_eq_true,
        laws_eqRuleS_refl a b (show 3000000 ≤ n by omega), laws_eqIntS_eq (xs := m) (ys := m) (show m.length ≤ 9223372036854775807 by omega) (show m.length < n by omega), markRuleS_dee a b (show 3000000 ≤ n by omega), marksIn a b hml (show 3000000 ≤ n by omega), marksNeg b,
        laws_markIntS_eq (l := out) (q := 1) (show out.length < n by omega) (by omega) (by omega), laws_heldIntS_eq (m := out.length) (q := 1) (show out.length < n by omega) (by omega) (by omega), decide_eq_false (show ¬ (1 : Int) + out.length < 0 by omega), bne_self_eq_false]
theorem plain : Plain := fun l m hl _ R k => ⟨_, key l m (Nat.le_refl _) hl.1 (fun x hx => (hl.2 x hx).2.1) k⟩
end Go.Am.G
