/- The plain law: what the functions compute answers as the law says, for all arguments. -/
import Derived.Test.YtjkakpepejlooaaF5
set_option linter.unusedVariables false
set_option linter.unusedSimpArgs false
namespace Go.Am.G
open Go Go.Am
theorem wrap64 {x : Int} (h1 : -9223372036854775808 ≤ x) (h2 : x ≤ 9223372036854775807) : IntKind.wrap .i64 x = x := by
  simp only [IntKind.wrap, IntKind.signed, IntKind.bits]
  simp
  omega
theorem getD_at {α : Type} (l : List α) (d : α) {j : Nat} (h : j < l.length) : l.getD (Int.toNat (j : Int)) d = l[j] := by
  rw [Int.toNat_natCast, List.getD_eq_getElem?_getD, List.getElem?_eq_getElem h]; rfl
theorem dlt {a b : Nat} (h : a < b) : decide ((a : Int) < (b : Int)) = true := decide_eq_true (by omega)
theorem dge {a b : Nat} (h : b ≤ a) : decide ((a : Int) < (b : Int)) = false := decide_eq_false (by omega)
theorem dnn (a : Nat) : decide (0 ≤ (a : Int)) = true := decide_eq_true (by omega)
theorem wrapS {j m : Nat} (h : j < m) (hm : m ≤ 9223372036854775807) : IntKind.wrap .i64 ((j : Int) + 1) = ((j + 1 : Nat) : Int) := by
  rw [wrap64 (by omega) (by omega)]; rfl
theorem spec_l1In_eq {R : Type} (n : Nat) (x a b : Int) (k : Bool → Option R) : spec_l1In n x a b k = k (decide (a ≤ x ∧ x ≤ b)) := by
  simp only [spec_l1In]
  by_cases h : x ≥ a
  · have : a ≤ x := h
    simp [this]
  · have : ¬ a ≤ x := h
    simp [this]
theorem impl_in_eq {R : Type} (n : Nat) (x a b : Int) (k : Bool → Option R) : impl_in n x a b k = k (decide (a ≤ x ∧ x ≤ b)) := by
  simp only [impl_in]
  by_cases h : x ≥ a
  · have : a ≤ x := h
    simp [this]
  · have : ¬ a ≤ x := h
    simp [this]
theorem bifk {R α : Type} (b : Bool) (x y : α) (k : α → Option R) : (bif b then k x else k y) = k (bif b then x else y) := by cases b <;> rfl
theorem loop_all {α R : Type} (l : List α) (q : α → Bool) (B : Nat) (F : Nat → Int → Option R) (ke kr : Option R)
    (step : ∀ (n j : Nat) (h : j < l.length), B ≤ n → F (n + 1) (j : Int) = bif q l[j] then F n ((j + 1 : Nat) : Int) else kr)
    (stop : ∀ n, F (n + 1) (l.length : Int) = ke) : ∀ (n j : Nat), B + (l.length - j) < n → j ≤ l.length → F n (j : Int) = bif (l.drop j).all q then ke else kr
  | 0, _, h, _ => by omega
  | n + 1, j, hn, hj => by
    by_cases h : j < l.length
    · rw [step n j h (by omega), List.drop_eq_getElem_cons h, List.all_cons, loop_all l q B F ke kr step stop n (j + 1) (by omega) (by omega)]
      cases q l[j] <;> rfl
    · have : j = l.length := by omega
      subst this
      rw [stop, List.drop_length]; rfl
theorem loop_all0 {α R : Type} (l : List α) (q : α → Bool) (B : Nat) (F : Nat → Int → Option R) (ke kr : Option R)
    (step : ∀ (n j : Nat) (h : j < l.length), B ≤ n → F (n + 1) (j : Int) = bif q l[j] then F n ((j + 1 : Nat) : Int) else kr)
    (stop : ∀ n, F (n + 1) (l.length : Int) = ke) {n : Nat} (hn : B + l.length < n) : F n 0 = bif l.all q then ke else kr := by
  have := loop_all l q B F ke kr step stop n 0 (by omega) (by omega)
  rw [List.drop_zero] at this
  exact this
theorem laws_eqIntS_loop {R : Type} (xs ys : List Int) (hl : xs.length = ys.length) (hb : xs.length ≤ 9223372036854775807) (kr : Bool → Option R) (ke : Option R) : ∀ (n j : Nat), xs.length - j < n → j ≤ xs.length →
    laws_eqIntS_l4 n xs ys (j : Int) kr ke = if xs.drop j = ys.drop j then ke else kr false
  | 0, _, h, _ => by omega
  | n + 1, j, hn, hj => by
    unfold laws_eqIntS_l4
    by_cases h : j < xs.length
    · have h' : j < ys.length := by omega
      rw [dlt h, dlt h', dnn, getD_at _ _ h, getD_at _ _ h', wrapS h hb, List.drop_eq_getElem_cons h, List.drop_eq_getElem_cons h']
      simp only [cond_true]
      by_cases he : xs[j] = ys[j]
      · have : (xs[j] != ys[j]) = false := by simp [he]
        rw [this, cond_false, laws_eqIntS_loop xs ys hl hb kr ke n (j + 1) (by omega) (by omega)]
        simp only [List.cons.injEq, he, true_and]
      · have : (xs[j] != ys[j]) = true := by simpa using he
        rw [this, cond_true, if_neg fun h => he (List.cons.inj h).1]
    · rw [dge (by omega)]
      have h1 : xs.drop j = [] := List.drop_eq_nil_iff.2 (by omega)
      have h2 : ys.drop j = [] := List.drop_eq_nil_iff.2 (by omega)
      simp [h1, h2]
theorem laws_eqIntS_eq {R : Type} {n : Nat} {xs ys : List Int} (hb : xs.length ≤ 9223372036854775807) (hn : xs.length < n) (k : Bool → Option R) : laws_eqIntS n xs ys k = k (decide (xs = ys)) := by
  unfold laws_eqIntS
  by_cases hl : xs.length = ys.length
  · have : ((xs.length : Int) != (ys.length : Int)) = false := by simp [hl]
    rw [this, cond_false]
    have := laws_eqIntS_loop xs ys hl hb k (k true) n 0 (by omega) (by omega)
    simp only [List.drop_zero] at this
    rw [show ((0 : Nat) : Int) = 0 from rfl] at this
    rw [this]
    split <;> simp_all
  · have : ((xs.length : Int) != (ys.length : Int)) = true := by simp; omega
    rw [this, cond_true, decide_eq_false fun h => hl (by rw [h])]
/-- Numbers one behind the other. -/
def marks : Nat → Int → List Int
  | 0, _ => []
  | m + 1, k => k :: marks m (k + 1)
theorem marks_length : ∀ m k, (marks m k).length = m
  | 0, _ => rfl
  | m + 1, k => by simp [marks, marks_length m]
theorem set_take_drop {α : Type} {l : List α} {j : Nat} (h : j < l.length) (x : α) : (l.set j x).take (j + 1) = l.take j ++ [x] := by
  rw [List.take_set, List.take_succ_eq_append_getElem h, List.set_append_right _ _ (by simp; omega)]
  simp [Nat.min_eq_left (Nat.le_of_lt h)]
theorem laws_markIntS_loop {R : Type} (ke : Int → List Int → Option R) : ∀ (n j : Nat) (l : List Int) (q : Int), l.length - j < n → j ≤ l.length → 0 ≤ q → q + (l.length - j : Nat) ≤ 9223372036854775807 → l.length ≤ 9223372036854775807 →
    laws_markIntS_l2 n q (j : Int) l ke = ke (q + (l.length - j : Nat)) (l.take j ++ marks (l.length - j) q)
  | 0, _, _, _, h, _, _, _, _ => by omega
  | n + 1, j, l, q, hn, hj, h0, h1, h2 => by
    unfold laws_markIntS_l2
    by_cases h : j < l.length
    · rw [dlt h, dnn, wrapS h (by omega), wrap64 (x := q + 1) (by omega) (by omega), Int.toNat_natCast]
      simp only [cond_true]
      rw [laws_markIntS_loop ke n (j + 1) (l.set j q) (q + 1) (by simp; omega) (by simp; omega) (by omega) (by simp; omega) (by simp; omega)]
      rw [List.length_set, set_take_drop h, List.append_assoc, show l.length - j = (l.length - (j + 1)) + 1 by omega]
      congr 1
      omega
    · rw [dge (by omega), cond_false, show l.length - j = 0 by omega, List.take_of_length_le (by omega)]
      simp [marks]
theorem laws_markIntS_eq {R : Type} {n : Nat} {l : List Int} {q : Int} (hn : l.length < n) (h0 : 0 ≤ q) (h1 : q + l.length ≤ 9223372036854775807) (k : Int → List Int → Option R) : laws_markIntS n q l k = k (q + l.length) (marks l.length q) := by
  unfold laws_markIntS
  have := laws_markIntS_loop k n 0 l q (by omega) (by omega) h0 (by omega) (by omega)
  simp only [List.take_zero, List.nil_append, Nat.sub_zero] at this
  exact this
theorem laws_heldIntS_loop {R : Type} (l : List Int) (kr ke : Int → Option R) : ∀ (n j : Nat) (q : Int), l.length - j < n → j ≤ l.length → 0 ≤ q → q + (l.length - j : Nat) ≤ 9223372036854775807 → l.length ≤ 9223372036854775807 → l.drop j = marks (l.length - j) q →
    laws_heldIntS_l2 n l q (j : Int) kr ke = ke (q + (l.length - j : Nat))
  | 0, _, _, h, _, _, _, _, _ => by omega
  | n + 1, j, q, hn, hj, h0, h1, h2, h3 => by
    unfold laws_heldIntS_l2
    by_cases h : j < l.length
    · rw [show l.length - j = (l.length - (j + 1)) + 1 by omega, List.drop_eq_getElem_cons h, marks] at h3
      injection h3 with h4 h5
      rw [dlt h, dnn, getD_at _ _ h, wrapS h h2, wrap64 (by omega) (by omega), h4, bne_self_eq_false]
      simp only [cond_true, cond_false]
      rw [laws_heldIntS_loop l kr ke n (j + 1) (q + 1) (by omega) (by omega) (by omega) (by omega) h2 h5]
      congr 1
      omega
    · rw [dge (by omega), cond_false, show l.length - j = 0 by omega]
      simp
theorem laws_heldIntS_eq {R : Type} {n m : Nat} {q : Int} (hn : m < n) (h0 : 0 ≤ q) (h1 : q + m ≤ 9223372036854775807) (k : Int → Option R) : laws_heldIntS n (marks m q) q k = k (q + m) := by
  unfold laws_heldIntS
  have := laws_heldIntS_loop (marks m q) k k n 0 q (by rw [marks_length]; omega) (by omega) h0 (by rw [marks_length]; omega) (by rw [marks_length]; omega) (by rw [marks_length]; simp)
  rw [marks_length] at this
  simp only [Nat.sub_zero] at this
  exact this
theorem laws_szIntS_eq {R : Type} (n : Nat) (l : List Int) (left : Int) (h0 : 0 ≤ left) (h1 : left ≤ 1048576) (hl : l.length ≤ 9223372036854775807) (k : Int → Option R) :
    laws_szIntS n l left k = if left < l.length then k (-1) else k (left - l.length) := by
  unfold laws_szIntS
  rw [wrap64 (by omega) (by omega)]
  by_cases h : left < l.length
  · rw [decide_eq_true (by omega), if_pos h]; rfl
  · rw [decide_eq_false (by omega), if_neg h]; rfl
theorem laws_szRuleS_loop (l : List (Int × List Int)) (hl : l.length ≤ 9223372036854775807) (hb : ∀ x ∈ l, x.2.length ≤ 9223372036854775807) : ∀ (n j : Nat) (left : Int), l.length - j < n → j ≤ l.length → 0 ≤ left → left ≤ 1048576 →
    ∃ r, (∀ (R : Type) (k : Int → Option R), laws_szRuleS_l5 n l left (j : Int) k k = k r) ∧ (0 ≤ r → ∀ x ∈ l.drop j, x.2.length ≤ 1048576)
  | 0, _, _, h, _, _, _ => by omega
  | n + 1, j, left, hn, hj, h0, h1 => by
    by_cases h : j < l.length
    · have hx := hb l[j] (List.getElem_mem h)
      by_cases c : left < l[j].2.length
      · refine ⟨-1, fun R k => ?_, fun h => by omega⟩
        rw [laws_szRuleS_l5, dlt h, dnn, getD_at _ _ h, wrapS h hl]
        simp only [cond_true, laws_szRule, laws_szIntS_eq n _ left h0 h1 hx, if_pos c]
        rfl
      · obtain ⟨r, h2, h3⟩ := laws_szRuleS_loop l hl hb n (j + 1) (left - l[j].2.length) (by omega) (by omega) (by omega) (by omega)
        refine ⟨r, fun R k => ?_, fun h4 x hx => ?_⟩
        · rw [laws_szRuleS_l5, dlt h, dnn, getD_at _ _ h, wrapS h hl]
          simp only [cond_true, laws_szRule, laws_szIntS_eq n _ left h0 h1 hx, if_neg c]
          rw [decide_eq_false (show ¬ left - (l[j].2.length : Int) < 0 by omega), cond_false, cond_false]
          exact h2 R k
        · rw [List.drop_eq_getElem_cons h] at hx
          rcases List.mem_cons.1 hx with rfl | hx
          · omega
          · exact h3 h4 x hx
    · refine ⟨left, fun R k => ?_, fun _ x hx => ?_⟩
      · rw [laws_szRuleS_l5, dge (by omega), cond_false]
      · rw [List.drop_eq_nil_iff.2 (by omega)] at hx
        cases hx
theorem laws_szRuleS_eq {n : Nat} {l : List (Int × List Int)} (hl : l.length ≤ 9223372036854775807) (hb : ∀ x ∈ l, x.2.length ≤ 9223372036854775807) (hn : l.length < n) :
    ∃ r, (∀ (R : Type) (k : Int → Option R), laws_szRuleS n l 1048576 k = k r) ∧ (0 ≤ r → l.length ≤ 1048576 ∧ ∀ x ∈ l, x.2.length ≤ 1048576) := by
  by_cases h : (1048576 : Int) - l.length < 0
  · refine ⟨-1, fun R k => ?_, fun h => by omega⟩
    unfold laws_szRuleS
    rw [wrap64 (by omega) (by omega), decide_eq_true h]; rfl
  · obtain ⟨r, h2, h3⟩ := laws_szRuleS_loop l hl hb n 0 (1048576 - l.length) (by omega) (by omega) (by omega) (by omega)
    refine ⟨r, fun R k => ?_, fun h4 => ⟨by omega, by simpa using h3 h4⟩⟩
    unfold laws_szRuleS
    rw [wrap64 (by omega) (by omega), decide_eq_false h, cond_false]
    exact h2 R k
theorem set_take_at {α : Type} {out l : List α} {j : Nat} (h : j < l.length) (ho : out.length = l.length) (ht : out.take j = l.take j) : (out.set j l[j]).take (j + 1) = l.take (j + 1) := by
  rw [List.take_set, List.take_succ_eq_append_getElem (by omega), List.take_succ_eq_append_getElem h, ht, List.set_append_right _ _ (by simp; omega)]
  rw [show j - (l.take j).length = 0 by simp; omega]
  rfl
theorem laws_toIntS_loop {R : Type} (l : List Int) (hb : l.length ≤ 9223372036854775807) (ke : List Int → Option R) : ∀ (n j : Nat) (out : List Int), l.length - j < n → j ≤ l.length → out.length = l.length → out.take j = l.take j →
    laws_toIntS_l3 n l (j : Int) out ke = ke l
  | 0, _, _, h, _, _, _ => by omega
  | n + 1, j, out, hn, hj, ho, ht => by
    unfold laws_toIntS_l3
    by_cases h : j < l.length
    · rw [dlt h, dnn, getD_at _ _ h, wrapS h hb, Int.toNat_natCast, ho, dlt h]
      simp only [cond_true]
      exact laws_toIntS_loop l hb ke n (j + 1) _ (by omega) (by omega) (by simpa using ho) (set_take_at h ho ht)
    · rw [dge (by omega), cond_false]
      have h1 : l.take j = l := List.take_of_length_le (by omega)
      rw [List.take_of_length_le (by omega), h1] at ht
      rw [ht]
theorem laws_toIntS_eq {R : Type} {n : Nat} {l : List Int} (hl : l.length ≤ 1048576) (hn : l.length < n) (k : List Int → Option R) : laws_toIntS n l k = k l := by
  unfold laws_toIntS
  rw [decide_eq_true (by omega), decide_eq_true (by omega), decide_eq_true (by omega)]
  simp only [cond_true, Int.toNat_natCast]
  exact laws_toIntS_loop l (by omega) k n 0 _ (by omega) (by omega) (by simp) (by simp)
theorem laws_eqRuleS_refl {R : Type} {n : Nat} {l : List (Int × List Int)} (hl : l.length ≤ 1048576) (hx : ∀ x ∈ l, x.2.length ≤ 1048576) (hn : 3000000 ≤ n) (k : Bool → Option R) : laws_eqRuleS n l l k = k true := by
  unfold laws_eqRuleS
  rw [bne_self_eq_false, cond_false]
  have := loop_all0 l (fun _ => true) 1048577 (fun n i => laws_eqRuleS_l4 n l l i (fun r2 => k r2) (k true)) (k true) (k false) (fun n j h hn => by
    have hx' := hx l[j] (List.getElem_mem h)
    show laws_eqRuleS_l4 (n + 1) l l (j : Int) _ _ = _
    rw [laws_eqRuleS_l4]
    rw [dlt h, dnn, getD_at _ _ h, wrapS h (by omega)]
    simp only [cond_true, laws_eqRule, bne_self_eq_false, cond_false, laws_eqIntS_eq (show l[j].2.length ≤ 9223372036854775807 by omega) (show l[j].2.length < n by omega), decide_true, Bool.not_true]) (fun n => by
    show laws_eqRuleS_l4 (n + 1) l l (l.length : Int) _ _ = _
    rw [laws_eqRuleS_l4]
    rw [dge (by omega)]; rfl) (n := n) (by omega)
  rw [this, List.all_eq_true.2 fun _ _ => rfl]
  rfl
/-- Numbers that rise, and are facts. -/
def riseFrom : Int → List Int → Bool
  | _, [] => true
  | v, x :: r => decide (v < x ∧ x ≤ 39) && riseFrom x r
def setB (l : List Int) : Bool := riseFrom (-1) l
def okRule (x : Int × List Int) : Bool := decide (0 ≤ x.1 ∧ x.1 ≤ 39) && setB x.2
def okRules (l : List (Int × List Int)) : Bool := decide (l.length ≤ 60) && l.all okRule
theorem spec_l8Set_loop {R : Type} (l : List Int) (hb : l.length ≤ 9223372036854775807) (kr : Bool → Option R) (ke : Option R) : ∀ (n j : Nat) (v : Int), l.length - j < n → j ≤ l.length → -1 ≤ v →
    (j = 0 → v = -1) → (∀ (h : j - 1 < l.length), 0 < j → l[j - 1] = v) →
    spec_l8Set_l2 n l l (l.length : Int) (j : Int) kr ke = bif riseFrom v (l.drop j) then ke else kr false
  | 0, _, _, h, _, _, _, _ => by omega
  | n + 1, j, v, hn, hj, hv, h0, h1 => by
    unfold spec_l8Set_l2
    by_cases h : j < l.length
    · rw [dlt h, dnn, getD_at _ _ h, wrapS h hb, List.drop_eq_getElem_cons h]
      simp only [cond_true, spec_l1In_eq, riseFrom]
      have ih := fun (h2 : -1 ≤ l[j]) => spec_l8Set_loop l hb kr ke n (j + 1) l[j] (by omega) (by omega) h2 (by omega) (fun _ _ => rfl)
      by_cases hz : j = 0
      · have hv := h0 hz
        subst hv
        rw [decide_eq_false (show ¬ ((j : Int) > 0) by omega)]
        by_cases c1 : 0 ≤ l[j] ∧ l[j] ≤ 39
        · rw [decide_eq_true c1, decide_eq_true (show -1 < l[j] ∧ l[j] ≤ 39 by omega)]
          simp only [Bool.not_true, cond_false, Bool.true_and]
          exact ih (by omega)
        · rw [decide_eq_false c1, decide_eq_false (show ¬ (-1 < l[j] ∧ l[j] ≤ 39) by omega)]; rfl
      · have hp : j - 1 < l.length := by omega
        have hq := h1 hp (by omega)
        rw [decide_eq_true (show ((j : Int) > 0) by omega), wrap64 (x := (j : Int) - 1) (by omega) (by omega), show (j : Int) - 1 = ((j - 1 : Nat) : Int) by omega, dnn, dlt hp, getD_at _ _ hp, hq]
        simp only [cond_true]
        by_cases c1 : 0 ≤ l[j] ∧ l[j] ≤ 39
        · rw [decide_eq_true c1]
          simp only [Bool.not_true, cond_false]
          by_cases c3 : v < l[j]
          · rw [decide_eq_false (show ¬ (v ≥ l[j]) by omega), decide_eq_true (show v < l[j] ∧ l[j] ≤ 39 by omega)]
            simp only [cond_false, Bool.true_and]
            exact ih (by omega)
          · rw [decide_eq_true (show (v ≥ l[j]) by omega), decide_eq_false (show ¬ (v < l[j] ∧ l[j] ≤ 39) by omega)]; rfl
        · rw [decide_eq_false c1, decide_eq_false (show ¬ (v < l[j] ∧ l[j] ≤ 39) by omega)]; rfl
    · rw [dge (by omega), List.drop_eq_nil_iff.2 (by omega)]; rfl
theorem spec_l8Set_eq {R : Type} {n : Nat} {l : List Int} (hb : l.length ≤ 9223372036854775807) (hn : l.length < n) (k : Bool → Option R) : spec_l8Set n l k = k (setB l) := by
  unfold spec_l8Set
  have := spec_l8Set_loop l hb k (k true) n 0 (-1) (by omega) (by omega) (by omega) (fun _ => rfl) (fun _ h => by omega)
  rw [show ((0 : Nat) : Int) = 0 from rfl, List.drop_zero] at this
  rw [this]
  unfold setB
  cases riseFrom (-1) l <;> rfl
theorem impl_rising_loop {R : Type} (l : List Int) (hb : l.length ≤ 9223372036854775807) (kr : Bool → Option R) (ke : Option R) : ∀ (n j : Nat) (v : Int), l.length - j < n → j ≤ l.length → -1 ≤ v →
    (j = 0 → v = -1) → (∀ (h : j - 1 < l.length), 0 < j → l[j - 1] = v) →
    impl_rising_l2 n l 40 l (l.length : Int) (j : Int) kr ke = bif riseFrom v (l.drop j) then ke else kr false
  | 0, _, _, h, _, _, _, _ => by omega
  | n + 1, j, v, hn, hj, hv, h0, h1 => by
    unfold impl_rising_l2
    by_cases h : j < l.length
    · rw [dlt h, dnn, getD_at _ _ h, wrapS h hb, List.drop_eq_getElem_cons h, wrap64 (x := 40 - 1) (by omega) (by omega), show (40 : Int) - 1 = 39 from rfl]
      simp only [cond_true, impl_in_eq, riseFrom]
      have ih := fun (h2 : -1 ≤ l[j]) => impl_rising_loop l hb kr ke n (j + 1) l[j] (by omega) (by omega) h2 (by omega) (fun _ _ => rfl)
      by_cases hz : j = 0
      · have hv := h0 hz
        subst hv
        rw [decide_eq_false (show ¬ ((j : Int) > 0) by omega)]
        by_cases c1 : 0 ≤ l[j] ∧ l[j] ≤ 39
        · rw [decide_eq_true c1, decide_eq_true (show -1 < l[j] ∧ l[j] ≤ 39 by omega)]
          simp only [Bool.not_true, cond_false, Bool.true_and]
          exact ih (by omega)
        · rw [decide_eq_false c1, decide_eq_false (show ¬ (-1 < l[j] ∧ l[j] ≤ 39) by omega)]; rfl
      · have hp : j - 1 < l.length := by omega
        have hq := h1 hp (by omega)
        rw [decide_eq_true (show ((j : Int) > 0) by omega), wrap64 (x := (j : Int) - 1) (by omega) (by omega), show (j : Int) - 1 = ((j - 1 : Nat) : Int) by omega, dnn, dlt hp, getD_at _ _ hp, hq]
        simp only [cond_true]
        by_cases c1 : 0 ≤ l[j] ∧ l[j] ≤ 39
        · rw [decide_eq_true c1]
          simp only [Bool.not_true, cond_false]
          by_cases c3 : v < l[j]
          · rw [decide_eq_false (show ¬ (v ≥ l[j]) by omega), decide_eq_true (show v < l[j] ∧ l[j] ≤ 39 by omega)]
            simp only [cond_false, Bool.true_and]
            exact ih (by omega)
          · rw [decide_eq_true (show (v ≥ l[j]) by omega), decide_eq_false (show ¬ (v < l[j] ∧ l[j] ≤ 39) by omega)]; rfl
        · rw [decide_eq_false c1, decide_eq_false (show ¬ (v < l[j] ∧ l[j] ≤ 39) by omega)]; rfl
    · rw [dge (by omega), List.drop_eq_nil_iff.2 (by omega)]; rfl
theorem impl_isSet_eq {R : Type} {n : Nat} {l : List Int} (hb : l.length ≤ 9223372036854775807) (hn : l.length < n) (k : Bool → Option R) : impl_isSet n l k = k (setB l) := by
  unfold impl_isSet impl_rising
  have := impl_rising_loop l hb k (k true) n 0 (-1) (by omega) (by omega) (by omega) (fun _ => rfl) (fun _ h => by omega)
  rw [show ((0 : Nat) : Int) = 0 from rfl, List.drop_zero] at this
  rw [this]
  unfold setB
  cases riseFrom (-1) l <;> rfl
theorem spec_GoodRules_eq {R : Type} {n : Nat} {l : List (Int × List Int)} (hl : l.length ≤ 1048576) (hx : ∀ x ∈ l, x.2.length ≤ 1048576) (hn : 3000000 ≤ n) (k : Bool → Option R) : spec_GoodRules n l k = k (okRules l) := by
  unfold spec_GoodRules
  have := loop_all0 l okRule 1048577 (fun n i => spec_GoodRules_l2 n l l (l.length : Int) i (fun r3 => k r3) (fun r4 => k (decide ((r4.length : Int) ≤ 60)))) (k (decide ((l.length : Int) ≤ 60))) (k false) (fun n j h hn => by
    have hx' := hx l[j] (List.getElem_mem h)
    show spec_GoodRules_l2 (n + 1) l l (l.length : Int) (j : Int) _ _ = _
    rw [spec_GoodRules_l2]
    rw [dlt h, dnn, getD_at _ _ h, wrapS h (by omega)]
    simp only [cond_true, spec_l1In_eq, spec_l8Set_eq (show l[j].2.length ≤ 9223372036854775807 by omega) (show l[j].2.length < n by omega), okRule]
    cases decide (0 ≤ l[j].1 ∧ l[j].1 ≤ 39) <;> cases setB l[j].2 <;> rfl) (fun n => by
    show spec_GoodRules_l2 (n + 1) l l (l.length : Int) (l.length : Int) _ _ = _
    rw [spec_GoodRules_l2]
    rw [dge (by omega)]; rfl) (n := n) (by omega)
  rw [this, bifk]
  congr 1
  unfold okRules
  cases l.all okRule with
  | true => simp only [cond_true, Bool.and_true]; apply decide_eq_decide.2; omega
  | false => simp
theorem impl_GoodRules_eq {R : Type} {n : Nat} {l : List (Int × List Int)} (hl : l.length ≤ 1048576) (hx : ∀ x ∈ l, x.2.length ≤ 1048576) (hn : 3000000 ≤ n) (k : Bool → Option R) : impl_GoodRules n l k = k (okRules l) := by
  unfold impl_GoodRules slices_ContainsFunc_impl_Rule_impl_GoodRules_c1 slices_IndexFunc_impl_Rule_impl_GoodRules_c1
  have := loop_all0 l okRule 1048577 (fun n i => slices_IndexFunc_impl_Rule_impl_GoodRules_c1_l2 n l (l.length : Int) i (fun r2 => k (!decide (r2 ≥ 0))) (k (!decide ((-1 : Int) ≥ 0)))) (k true) (k false) (fun n j h hn => by
    have hx' := hx l[j] (List.getElem_mem h)
    show slices_IndexFunc_impl_Rule_impl_GoodRules_c1_l2 (n + 1) l (l.length : Int) (j : Int) _ _ = _
    rw [slices_IndexFunc_impl_Rule_impl_GoodRules_c1_l2]
    rw [dlt h, dnn, getD_at _ _ h, wrapS h (by omega)]
    simp only [cond_true, impl_GoodRules_c1, impl_isFact, impl_in_eq, impl_isSet_eq (show l[j].2.length ≤ 9223372036854775807 by omega) (show l[j].2.length < n by omega), okRule]
    cases decide (0 ≤ l[j].1 ∧ l[j].1 ≤ 39) <;> cases setB l[j].2 <;> rfl) (fun n => by
    show slices_IndexFunc_impl_Rule_impl_GoodRules_c1_l2 (n + 1) l (l.length : Int) (l.length : Int) _ _ = _
    rw [slices_IndexFunc_impl_Rule_impl_GoodRules_c1_l2]
    rw [dge (by omega)]; rfl) (n := n) (by omega)
  rw [this]
  unfold okRules
  by_cases c : l.length ≤ 60
  · rw [decide_eq_true (show (l.length : Int) ≤ 60 by omega), decide_eq_true c]
    cases l.all okRule <;> rfl
  · rw [decide_eq_false (show ¬ (l.length : Int) ≤ 60 by omega), decide_eq_false c]
    rfl
theorem slices_Index_loop {R : Type} (l : List Int) (hb : l.length ≤ 9223372036854775807) (x : Int) (kr : Int → Option R) (ke y : Option R) (hk : ∀ j : Nat, kr (j : Int) = y) : ∀ (n j : Nat), l.length - j < n → j ≤ l.length →
    slices_Index_int_l2 n l x (l.length : Int) (j : Int) kr ke = if x ∈ l.drop j then y else ke
  | 0, _, h, _ => by omega
  | n + 1, j, hn, hj => by
    rw [slices_Index_int_l2]
    by_cases h : j < l.length
    · rw [dlt h, dnn, getD_at _ _ h, wrapS h hb, List.drop_eq_getElem_cons h]
      simp only [cond_true, List.mem_cons]
      by_cases c : x = l[j]
      · rw [beq_iff_eq.2 c, cond_true, if_pos (.inl c)]; exact hk j
      · rw [beq_eq_false_iff_ne.2 c, cond_false, slices_Index_loop l hb x kr ke y hk n (j + 1) (by omega) (by omega)]
        simp only [c, false_or]
    · rw [dge (by omega), List.drop_eq_nil_iff.2 (by omega)]
      simp
theorem slices_Contains_eq {R : Type} {n : Nat} {l : List Int} (hb : l.length ≤ 9223372036854775807) (hn : l.length < n) (x : Int) (k : Bool → Option R) : slices_Contains_int n l x k = k (decide (x ∈ l)) := by
  unfold slices_Contains_int slices_Index_int
  have := slices_Index_loop (R := R) l hb x (fun r1 => k (decide (r1 ≥ 0))) (k (decide ((-1 : Int) ≥ 0))) (k true) (fun j => by rw [decide_eq_true (show (j : Int) ≥ 0 by omega)]) n 0 (by omega) (by omega)
  rw [show ((0 : Nat) : Int) = 0 from rfl, List.drop_zero] at this
  rw [this]
  by_cases c : x ∈ l
  · rw [if_pos c, decide_eq_true c]
  · rw [if_neg c, decide_eq_false c]; rfl
theorem impl_contains_eq {R : Type} {n : Nat} {m l : List Int} (hm : m.length ≤ 1048576) (hl : l.length ≤ 1048576) (hn : 3000000 ≤ n) (k : Bool → Option R) : impl_contains n m l k = k (l.all fun x => decide (x ∈ m)) := by
  unfold impl_contains slices_ContainsFunc_int_impl_contains_c1 slices_IndexFunc_int_impl_contains_c1
  have := loop_all0 l (fun x => decide (x ∈ m)) 1048577 (fun n i => slices_IndexFunc_int_impl_contains_c1_l2 n l (l.length : Int) i m (fun r3 r4 => k (!decide (r3 ≥ 0))) (fun r5 => k (!decide ((-1 : Int) ≥ 0)))) (k true) (k false) (fun n j h hn => by
    show slices_IndexFunc_int_impl_contains_c1_l2 (n + 1) l (l.length : Int) (j : Int) m _ _ = _
    rw [slices_IndexFunc_int_impl_contains_c1_l2]
    rw [dlt h, dnn, getD_at _ _ h, wrapS h (by omega)]
    simp only [cond_true, impl_contains_c1, slices_Contains_eq (show m.length ≤ 9223372036854775807 by omega) (show m.length < n by omega)]
    cases decide (l[j] ∈ m) with
    | true => rfl
    | false =>
      show k (!decide ((j : Int) ≥ 0)) = k false
      rw [decide_eq_true (show (j : Int) ≥ 0 by omega)]; rfl) (fun n => by
    show slices_IndexFunc_int_impl_contains_c1_l2 (n + 1) l (l.length : Int) (l.length : Int) m _ _ = _
    rw [slices_IndexFunc_int_impl_contains_c1_l2]
    rw [dge (by omega)]; rfl) (n := n) (by omega)
  rw [this]
  cases l.all fun x => decide (x ∈ m) <;> rfl
/-- A set, marked. -/
def markB (s : List Bool) (m : List Int) : List Bool := m.foldl (fun s x => s.set x.toNat true) s
theorem markB_length : ∀ (m : List Int) (s : List Bool), (markB s m).length = s.length
  | [], _ => rfl
  | x :: r, s => by
    show (markB (s.set x.toNat true) r).length = _
    rw [markB_length r]; simp
theorem markB_get : ∀ (m : List Int) (s : List Bool) (z : Int), (∀ x ∈ m, 0 ≤ x) → 0 ≤ z → z.toNat < s.length → (markB s m).getD z.toNat false = (s.getD z.toNat false || decide (z ∈ m))
  | [], s, z, _, _, _ => by simp [markB]
  | x :: r, s, z, h, hz, hs => by
    show (markB (s.set x.toNat true) r).getD z.toNat false = _
    rw [markB_get r _ z (fun y hy => h y (List.mem_cons_of_mem _ hy)) hz (by simpa using hs)]
    have hx := h x (List.mem_cons_self ..)
    by_cases c : z = x
    · subst c
      simp [List.getD_eq_getElem?_getD, hs]
    · have : x.toNat ≠ z.toNat := by omega
      simp [List.getD_eq_getElem?_getD, List.getElem?_set_ne this, c]
theorem riseFrom_mem : ∀ {l : List Int} {v : Int}, riseFrom v l = true → ∀ x ∈ l, v < x ∧ x ≤ 39
  | [], _, _, x, hx => by cases hx
  | y :: r, v, h, x, hx => by
    simp only [riseFrom, Bool.and_eq_true, decide_eq_true_eq] at h
    rcases List.mem_cons.1 hx with rfl | hx
    · exact h.1
    · have := riseFrom_mem h.2 x hx
      omega
theorem setB_mem {l : List Int} (h : setB l = true) {x : Int} (hx : x ∈ l) : 0 ≤ x ∧ x ≤ 39 := by
  have := riseFrom_mem h x hx
  omega
theorem spec_l8In_loop {R : Type} (l : List Int) (hb : l.length ≤ 9223372036854775807) (hr : ∀ x ∈ l, 0 ≤ x ∧ x ≤ 39) (k : List Bool → Option R) : ∀ (n j : Nat) (s : List Bool), l.length - j < n → j ≤ l.length → s.length = 40 →
    spec_l8In_l3 n l (l.length : Int) (j : Int) s k = k (markB s (l.drop j))
  | 0, _, _, h, _, _ => by omega
  | n + 1, j, s, hn, hj, hs => by
    rw [spec_l8In_l3]
    by_cases h : j < l.length
    · have hx := hr l[j] (List.getElem_mem h)
      rw [dlt h, dnn, getD_at _ _ h, wrapS h hb, List.drop_eq_getElem_cons h, decide_eq_true hx.1, decide_eq_true (show l[j] < (s.length : Int) by omega)]
      simp only [cond_true]
      rw [spec_l8In_loop l hb hr k n (j + 1) _ (by omega) (by omega) (by simpa using hs)]
      rfl
    · rw [dge (by omega), List.drop_eq_nil_iff.2 (by omega)]; rfl
theorem spec_l8In_eq {R : Type} {n : Nat} {l : List Int} (hb : l.length ≤ 9223372036854775807) (hn : l.length < n) (hs : setB l = true) (k : List Bool → Option R) : spec_l8In n l k = k (markB (List.replicate 40 false) l) := by
  unfold spec_l8In
  have := spec_l8In_loop l hb (fun x hx => setB_mem hs hx) k n 0 (List.replicate 40 false) (by omega) (by omega) (by simp)
  rw [show ((0 : Nat) : Int) = 0 from rfl, List.drop_zero] at this
  exact this
theorem mark_get {m : List Int} (hs : setB m = true) {z : Int} (h0 : 0 ≤ z) (h1 : z ≤ 39) : (markB (List.replicate 40 false) m).getD z.toNat false = decide (z ∈ m) := by
  rw [markB_get m _ z (fun x hx => (setB_mem hs hx).1) h0 (by simp; omega)]
  have : (List.replicate 40 false).getD z.toNat false = false := by
    rw [List.getD_eq_getElem?_getD, List.getElem?_replicate]
    split <;> rfl
  rw [this, Bool.false_or]
theorem spec_l8Holds_eq {R : Type} {n : Nat} {m b : List Int} (hm : setB m = true) (hb : setB b = true) (hl : b.length ≤ 1048576) (hn : 3000000 ≤ n) (hd : Int) (k : Bool → Option R) :
    spec_l8Holds n hd b (markB (List.replicate 40 false) m) k = k (b.all fun x => decide (x ∈ m)) := by
  unfold spec_l8Holds
  have hlen : (markB (List.replicate 40 false) m).length = 40 := by rw [markB_length]; simp
  have := loop_all0 b (fun x => decide (x ∈ m)) 0 (fun n i => spec_l8Holds_l2 n (markB (List.replicate 40 false) m) b (b.length : Int) i (fun r1 => k r1) (k true)) (k true) (k false) (fun n j h hn => by
    have hx := setB_mem hb (List.getElem_mem h)
    show spec_l8Holds_l2 (n + 1) _ b (b.length : Int) (j : Int) _ _ = _
    rw [spec_l8Holds_l2]
    rw [dlt h, dnn, getD_at _ _ h, wrapS h (by omega), hlen, decide_eq_true hx.1, decide_eq_true (show b[j] < ((40 : Nat) : Int) by omega), mark_get hm hx.1 hx.2]
    simp only [cond_true]
    cases decide (b[j] ∈ m) <;> rfl) (fun n => by
    show spec_l8Holds_l2 (n + 1) _ b (b.length : Int) (b.length : Int) _ _ = _
    rw [spec_l8Holds_l2]
    rw [dge (by omega)]; rfl) (n := n) (by omega)
  rw [this]
  cases b.all fun x => decide (x ∈ m) <;> rfl
theorem okRules_all {l : List (Int × List Int)} (h : okRules l = true) {x : Int × List Int} (hx : x ∈ l) : 0 ≤ x.1 ∧ x.1 ≤ 39 ∧ setB x.2 = true := by
  simp only [okRules, Bool.and_eq_true, List.all_eq_true, okRule, decide_eq_true_eq] at h
  have := h.2 x hx
  exact ⟨this.1.1, this.1.2, this.2⟩
theorem riseFrom_iff : ∀ {l : List Int} {v : Int}, riseFrom v l = true ↔ l.Pairwise (· < ·) ∧ ∀ x ∈ l, v < x ∧ x ≤ 39
  | [], v => by simp [riseFrom]
  | y :: r, v => by
    have ih := riseFrom_iff (l := r) (v := y)
    simp only [riseFrom, Bool.and_eq_true, decide_eq_true_eq, ih, List.pairwise_cons, List.mem_cons]
    constructor
    · rintro ⟨h1, h2, h3⟩
      refine ⟨⟨fun x hx => (h3 x hx).1, h2⟩, fun x hx => ?_⟩
      rcases hx with rfl | hx
      · exact h1
      · have := h3 x hx
        omega
    · rintro ⟨⟨h1, h2⟩, h3⟩
      exact ⟨h3 y (.inl rfl), h2, fun x hx => ⟨h1 x hx, (h3 x (.inr hx)).2⟩⟩
theorem setB_iff {l : List Int} : setB l = true ↔ l.Pairwise (· < ·) ∧ ∀ x ∈ l, 0 ≤ x ∧ x ≤ 39 := by
  unfold setB
  rw [riseFrom_iff]
  constructor <;> rintro ⟨h1, h2⟩ <;> exact ⟨h1, fun x hx => by have := h2 x hx; omega⟩
theorem pw_ext : ∀ {a b : List Int}, a.Pairwise (· < ·) → b.Pairwise (· < ·) → (∀ x, x ∈ a ↔ x ∈ b) → a = b
  | [], [], _, _, _ => rfl
  | [], y :: b, _, _, h => absurd ((h y).2 (List.mem_cons_self ..)) (by simp)
  | x :: a, [], _, _, h => absurd ((h x).1 (List.mem_cons_self ..)) (by simp)
  | x :: a, y :: b, ha, hb, h => by
    rw [List.pairwise_cons] at ha hb
    have e : x = y := by
      have h1 := (h x).1 (List.mem_cons_self ..)
      have h2 := (h y).2 (List.mem_cons_self ..)
      rcases List.mem_cons.1 h1 with h1 | h1
      · exact h1
      · rcases List.mem_cons.1 h2 with h2 | h2
        · exact h2.symm
        · have := hb.1 x h1
          have := ha.1 y h2
          omega
    subst e
    rw [pw_ext ha.2 hb.2 fun z => ?_]
    constructor
    · intro hz
      rcases List.mem_cons.1 ((h z).1 (List.mem_cons_of_mem _ hz)) with rfl | h2
      · exact absurd (ha.1 z hz) (by omega)
      · exact h2
    · intro hz
      rcases List.mem_cons.1 ((h z).2 (List.mem_cons_of_mem _ hz)) with rfl | h2
      · exact absurd (hb.1 z hz) (by omega)
      · exact h2
theorem range_len : ∀ (N : Nat) (q : List Int), q.Nodup → (∀ x ∈ q, 0 ≤ x ∧ x < (N : Int)) → q.length ≤ N
  | 0, q, _, h => by
    cases q with
    | nil => simp
    | cons x q => have := h x (List.mem_cons_self ..); omega
  | N + 1, q, hq, h => by
    by_cases c : (N : Int) ∈ q
    · have h1 := range_len N (q.erase (N : Int)) (hq.erase _) fun x hx => by
        have h2 := (List.Nodup.mem_erase_iff hq).1 hx
        have h3 := h x h2.2
        have := h2.1
        omega
      rw [List.length_erase_of_mem c] at h1
      omega
    · have := range_len N q hq fun x hx => by
        have h3 := h x hx
        have : x ≠ (N : Int) := fun h => c (h ▸ hx)
        omega
      omega
theorem pw_nodup {q : List Int} (h : q.Pairwise (· < ·)) : q.Nodup := h.imp fun h => Int.ne_of_lt h
theorem set_len {q : List Int} (h : setB q = true) : q.length ≤ 40 := by
  have h := setB_iff.1 h
  exact range_len 40 q (pw_nodup h.1) fun x hx => by have := h.2 x hx; omega
theorem pw_split {l : List Int} (hp : l.Pairwise (· < ·)) {m : Nat} (h : m < l.length) : (∀ y ∈ l.take m, y < l[m]) ∧ (∀ y ∈ l.drop (m + 1), l[m] < y) := by
  have e : l.take m ++ l[m] :: l.drop (m + 1) = l := by rw [← List.drop_eq_getElem_cons h, List.take_append_drop]
  have h2 : (l.take m ++ l[m] :: l.drop (m + 1)).Pairwise (· < ·) := by rw [e]; exact hp
  have h3 := List.pairwise_append.1 h2
  exact ⟨fun y hy => h3.2.2 y hy _ (List.mem_cons_self ..), (List.pairwise_cons.1 h3.2.1).1⟩
theorem cmp_Less_eq {R : Type} (n : Nat) (a b : Int) (k : Bool → Option R) : cmp_Less_int n a b k = k (decide (a < b)) := by
  simp only [cmp_Less_int, cmp_isNaN_int, bne_self_eq_false, cond_false]
theorem mid_eq {i j : Nat} (h : i + j ≤ 4000000) : IntKind.wrap .i64 ((Int.fdiv (IntKind.wrap .u64 ((IntKind.wrap .i64 ((i : Int) + (j : Int))))) (2 ^ (min (Int.toNat 1) (IntKind.bits .u64))))) = (((i + j) / 2 : Nat) : Int) := by
  rw [wrap64 (x := (i : Int) + (j : Int)) (by omega) (by omega)]
  have h1 : IntKind.wrap .u64 ((i : Int) + (j : Int)) = (i : Int) + (j : Int) := by
    simp only [IntKind.wrap, IntKind.signed, IntKind.bits]
    simp
    omega
  have h2 : (2 ^ (min (Int.toNat 1) (IntKind.bits .u64)) : Int) = 2 := rfl
  rw [h1, h2, Int.fdiv_eq_ediv_of_nonneg _ (by omega), wrap64 (by omega) (by omega)]
  omega
theorem bin_loop (l : List Int) (x : Int) (hp : l.Pairwise (· < ·)) (hb : l.length ≤ 1048576) : ∀ (n i j : Nat), j - i < n → i ≤ j → j ≤ l.length → (∀ y ∈ l.take i, y < x) → (∀ y ∈ l.drop j, x ≤ y) →
    ∃ m : Nat, m ≤ l.length ∧ (∀ y ∈ l.take m, y < x) ∧ (∀ y ∈ l.drop m, x ≤ y) ∧ ∀ (R : Type) (k : List Int → Int → Int → Int → Option R), slices_BinarySearch_int_l3 n l x (l.length : Int) (i : Int) (j : Int) k = k l x (l.length : Int) (m : Int)
  | 0, _, _, h, _, _, _, _ => by omega
  | n + 1, i, j, hn, hij, hj, h1, h2 => by
    by_cases h : i < j
    · have hm : (i + j) / 2 < l.length := by omega
      have hs := pw_split hp hm
      by_cases c : l[(i + j) / 2] < x
      · obtain ⟨m, m1, m2, m3, m4⟩ := bin_loop l x hp hb n ((i + j) / 2 + 1) j (by omega) (by omega) hj (fun y hy => by
          rw [List.take_succ_eq_append_getElem hm] at hy
          rcases List.mem_append.1 hy with hy | hy
          · have := hs.1 y hy; omega
          · rw [List.mem_singleton.1 hy]; exact c) h2
        refine ⟨m, m1, m2, m3, fun R k => ?_⟩
        rw [slices_BinarySearch_int_l3]
        simp only [mid_eq (show i + j ≤ 4000000 by omega), dnn, dlt hm, dlt h, cond_true, getD_at _ _ hm, cmp_Less_eq, decide_eq_true c, wrapS hm (show l.length ≤ 9223372036854775807 by omega)]
        exact m4 R k
      · obtain ⟨m, m1, m2, m3, m4⟩ := bin_loop l x hp hb n i ((i + j) / 2) (by omega) (by omega) (by omega) h1 (fun y hy => by
          rw [List.drop_eq_getElem_cons hm] at hy
          rcases List.mem_cons.1 hy with rfl | hy
          · omega
          · have := hs.2 y hy; omega)
        refine ⟨m, m1, m2, m3, fun R k => ?_⟩
        rw [slices_BinarySearch_int_l3]
        simp only [mid_eq (show i + j ≤ 4000000 by omega), dnn, dlt hm, dlt h, cond_true, cond_false, getD_at _ _ hm, cmp_Less_eq, decide_eq_false c]
        exact m4 R k
    · have : i = j := by omega
      subst this
      refine ⟨i, hj, h1, h2, fun R k => ?_⟩
      rw [slices_BinarySearch_int_l3]
      rw [dge (Nat.le_refl _), cond_false]
theorem bin_ex {n : Nat} {l : List Int} {x : Int} (hp : l.Pairwise (· < ·)) (hb : l.length ≤ 1048576) (hn : l.length < n) :
    ∃ m : Nat, m ≤ l.length ∧ (∀ y ∈ l.take m, y < x) ∧ (∀ y ∈ l.drop m, x ≤ y) ∧ ∀ (R : Type) (k : Int → Bool → Option R), slices_BinarySearch_int n l x k = k (m : Int) (decide (x ∈ l)) := by
  obtain ⟨m, m1, m2, m3, m4⟩ := bin_loop l x hp hb n 0 l.length (by omega) (by omega) (by omega) (by simp) (by simp)
  refine ⟨m, m1, m2, m3, fun R k => ?_⟩
  unfold slices_BinarySearch_int
  rw [show ((0 : Nat) : Int) = 0 from rfl] at m4
  rw [m4]
  have hmem : x ∈ l ↔ x ∈ l.drop m := by
    constructor
    · intro h
      rw [← List.take_append_drop m l] at h
      rcases List.mem_append.1 h with h | h
      · exact absurd (m2 x h) (by omega)
      · exact h
    · exact List.mem_of_mem_drop
  by_cases h : m < l.length
  · rw [dlt h, dnn, getD_at _ _ h]
    simp only [cond_true, slices_isNaN_int, bne_self_eq_false, cond_false]
    by_cases c : l[m] = x
    · rw [beq_iff_eq.2 c, cond_true, decide_eq_true (show x ∈ l from c ▸ List.getElem_mem h)]
    · rw [beq_eq_false_iff_ne.2 c, cond_false, decide_eq_false]
      intro hx
      have hx := hmem.1 hx
      rw [List.drop_eq_getElem_cons h] at hx
      rcases List.mem_cons.1 hx with hx | hx
      · exact c hx.symm
      · have := (pw_split hp h).2 x hx
        have := m3 l[m] (by rw [List.drop_eq_getElem_cons h]; exact List.mem_cons_self ..)
        omega
  · rw [dge (by omega), cond_false, decide_eq_false]
    rw [hmem, List.drop_eq_nil_iff.2 (by omega)]
    simp
theorem impl_with_ex {n : Nat} {M : List Int} (hs : setB M = true) (hn : 41 ≤ n) {x : Int} (hx : 0 ≤ x ∧ x ≤ 39) :
    ∃ M', setB M' = true ∧ (∀ y, y ∈ M' ↔ y = x ∨ y ∈ M) ∧ (x ∉ M → M'.length = M.length + 1) ∧ ∀ (R : Type) (k : List Int → Option R), impl_with n x M k = k M' := by
  have hl := set_len hs
  have h := setB_iff.1 hs
  obtain ⟨m, m1, m2, m3, m4⟩ := bin_ex (n := n) (x := x) h.1 (by omega) (by omega)
  by_cases c : x ∈ M
  · refine ⟨M, hs, fun y => ⟨.inr, fun h => ?_⟩, fun h => absurd c h, fun R k => ?_⟩
    · rcases h with rfl | h
      · exact c
      · exact h
    · unfold impl_with
      rw [m4, decide_eq_true c, cond_true]
  · have hm3 : ∀ y ∈ M.drop m, x < y := fun y hy => by
      have := m3 y hy
      have : x ≠ y := fun h => c (h ▸ List.mem_of_mem_drop hy)
      omega
    have hmem : ∀ y, y ∈ M.take m ++ [x] ++ M.drop m ↔ y = x ∨ y ∈ M := fun y => by
      conv => rhs; rw [← List.take_append_drop m M]
      simp only [List.mem_append, List.mem_singleton]
      constructor
      · rintro ((h | h) | h)
        · exact .inr (.inl h)
        · exact .inl h
        · exact .inr (.inr h)
      · rintro (h | h | h)
        · exact .inl (.inr h)
        · exact .inl (.inl h)
        · exact .inr h
    refine ⟨M.take m ++ [x] ++ M.drop m, setB_iff.2 ⟨?_, fun y hy => ?_⟩, hmem, fun _ => ?_, fun R k => ?_⟩
    · have hp : (M.take m ++ M.drop m).Pairwise (· < ·) := by rw [List.take_append_drop]; exact h.1
      have hp := List.pairwise_append.1 hp
      rw [List.append_assoc]
      refine List.pairwise_append.2 ⟨hp.1, List.pairwise_append.2 ⟨by simp, hp.2.1, fun a ha b hb => ?_⟩, fun a ha b hb => ?_⟩
      · rw [List.mem_singleton.1 ha]; exact hm3 b hb
      · rcases List.mem_append.1 hb with hb | hb
        · rw [List.mem_singleton.1 hb]; exact m2 a ha
        · exact hp.2.2 a ha b hb
    · rcases (hmem y).1 hy with rfl | h2
      · exact hx
      · exact h.2 y h2
    · simp only [List.length_append, List.length_take, List.length_drop, List.length_singleton]
      omega
    · unfold impl_with slices_Clone_int slices_Insert_int
      rw [m4, decide_eq_false c, cond_false, decide_eq_true (show 0 + M.length ≤ LIM by simp [LIM]; omega), cond_true]
      show (bif decide (0 ≤ (m : Int)) && (decide ((m : Int) ≤ (M.length : Int)) && (decide (0 < [x].length) && decide (M.length + [x].length ≤ LIM))) then k (M.take (Int.toNat (m : Int)) ++ [x] ++ M.drop (Int.toNat (m : Int))) else none) = _
      rw [dnn, decide_eq_true (show (m : Int) ≤ (M.length : Int) by omega), decide_eq_true (show 0 < [x].length by simp), decide_eq_true (show M.length + [x].length ≤ LIM by simp [LIM]; omega), Int.toNat_natCast]
      rfl
def Cm (come : List Bool) (q : List Int) : Prop := come.length = 40 ∧ ∀ z : Int, 0 ≤ z → z ≤ 39 → come.getD z.toNat false = decide (z ∈ q)
theorem Cm.add {come : List Bool} {q : List Int} (h : Cm come q) {x : Int} (hx : 0 ≤ x ∧ x ≤ 39) : Cm (come.set x.toNat true) (q ++ [x]) := by
  refine ⟨by rw [List.length_set]; exact h.1, fun z h0 h1 => ?_⟩
  by_cases c : z = x
  · subst c
    have := h.1
    rw [List.getD_eq_getElem?_getD, List.getElem?_set_self (by omega)]
    simp
  · have : x.toNat ≠ z.toNat := by omega
    have h2 := h.2 z h0 h1
    rw [List.getD_eq_getElem?_getD] at h2 ⊢
    rw [List.getElem?_set_ne this, h2]
    simp [c]
theorem okRules_in {l : List (Int × List Int)} (h : okRules l = true) : l.length ≤ 60 ∧ ∀ r ∈ l, 0 ≤ r.1 ∧ r.1 ≤ 39 ∧ r.2.length ≤ 40 := by
  refine ⟨?_, fun r hr => ?_⟩
  · simp only [okRules, Bool.and_eq_true, decide_eq_true_eq] at h
    exact h.1
  · have := okRules_all h hr
    exact ⟨this.1, this.2.1, set_len this.2.2⟩
theorem spec_l8List_loop {come : List Bool} {q : List Int} (hc : Cm come q) : ∀ (n j : Nat) (out : List Int), 40 - j < n → j ≤ 40 → out.Pairwise (· < ·) → (∀ y, y ∈ out ↔ y ∈ q ∧ 0 ≤ y ∧ y < j) → out.length ≤ j →
    ∃ out', out'.Pairwise (· < ·) ∧ (∀ y, y ∈ out' ↔ y ∈ q ∧ 0 ≤ y ∧ y ≤ 39) ∧ ∀ (R : Type) (k : List Int → Option R), spec_l8List_l3 n come (come.length : Int) (j : Int) out k = k out'
  | 0, _, _, h, _, _, _, _ => by omega
  | n + 1, j, out, hn, hj, hp, hm, hlen => by
    have hcl := hc.1
    by_cases h : j < 40
    · have hcj := hc.2 (j : Int) (by omega) (by omega)
      by_cases d : (j : Int) ∈ q
      · obtain ⟨o, a1, a2, a3⟩ := spec_l8List_loop hc n (j + 1) (out ++ [(j : Int)]) (by omega) (by omega) (List.pairwise_append.2 ⟨hp, by simp, fun a ha b hb => by
            rw [List.mem_singleton.1 hb]
            exact ((hm a).1 ha).2.2⟩) (fun y => by
            rw [List.mem_append, hm, List.mem_singleton]
            constructor
            · rintro (h | rfl)
              · exact ⟨h.1, h.2.1, by omega⟩
              · exact ⟨d, by omega, by omega⟩
            · rintro ⟨h1, h2, h3⟩
              by_cases e : y = (j : Int)
              · exact .inr e
              · exact .inl ⟨h1, h2, by omega⟩) (by simp; omega)
        refine ⟨o, a1, a2, fun R k => ?_⟩
        rw [spec_l8List_l3]
        rw [hcl] at a3 ⊢
        rw [dlt h, dnn, hcj, decide_eq_true d, decide_eq_true (show out.length + [(j : Int)].length ≤ LIM by simp [LIM]; omega), wrapS h (by omega)]
        exact a3 R k
      · obtain ⟨o, a1, a2, a3⟩ := spec_l8List_loop hc n (j + 1) out (by omega) (by omega) hp (fun y => by
            rw [hm]
            constructor
            · rintro ⟨h1, h2, h3⟩; exact ⟨h1, h2, by omega⟩
            · rintro ⟨h1, h2, h3⟩
              have : y ≠ (j : Int) := fun e => d (e ▸ h1)
              exact ⟨h1, h2, by omega⟩) (by omega)
        refine ⟨o, a1, a2, fun R k => ?_⟩
        rw [spec_l8List_l3]
        rw [hcl] at a3 ⊢
        rw [dlt h, dnn, hcj, decide_eq_false d, wrapS h (by omega)]
        exact a3 R k
    · refine ⟨out, hp, fun y => ?_, fun R k => ?_⟩
      · rw [hm]
        constructor <;> (rintro ⟨h1, h2, h3⟩; exact ⟨h1, h2, by omega⟩)
      · rw [spec_l8List_l3]
        rw [hcl, dge (by omega), cond_false]
theorem spec_l8List_ex {n : Nat} {come : List Bool} {q : List Int} (hc : Cm come q) (hq : ∀ x ∈ q, 0 ≤ x ∧ x ≤ 39) (hn : 50 ≤ n) : ∃ out, setB out = true ∧ (∀ y, y ∈ out ↔ y ∈ q) ∧ ∀ (R : Type) (k : List Int → Option R), spec_l8List n come k = k out := by
  obtain ⟨o, a1, a2, a3⟩ := spec_l8List_loop hc n 0 [] (by omega) (by omega) List.Pairwise.nil (fun y => by simp) (by simp)
  refine ⟨o, setB_iff.2 ⟨a1, fun x hx => ((a2 x).1 hx).2⟩, fun y => ?_, fun R k => ?_⟩
  · rw [a2]
    exact ⟨fun h => h.1, fun h => ⟨h, hq y h⟩⟩
  · unfold spec_l8List
    rw [show ((0 : Nat) : Int) = 0 from rfl] at a3
    exact a3 R k
theorem impl_rulesOk_eq {R : Type} {n : Nat} {l : List (Int × List Int)} {m : List Int} (hl : l.length ≤ 1048576) (hx : ∀ x ∈ l, x.2.length ≤ 1048576) (hm : m.length ≤ 1048576) (hn : 5000000 ≤ n) (k : Bool → Option R) : impl_rulesOk n l m k = k (okRules l && setB m) := by
  unfold impl_rulesOk
  rw [impl_GoodRules_eq hl hx (by omega)]
  cases okRules l with
  | false => rfl
  | true =>
    rw [cond_true, impl_isSet_eq (by omega) (by omega)]
    rfl
theorem toRuleS_dee {R : Type} {n : Nat} {l : List (Int × List Int)} (hl : l.length ≤ 1048576) (hx : ∀ x ∈ l, x.2.length ≤ 1048576) (hn : 3000000 ≤ n) (k : List (Int × List Int) → Option R) : laws_toRuleS n l k = k l := by
  unfold laws_toRuleS
  have h : (l.all fun x => decide (x.2.length ≤ 1048576) && decide (x.2.length < n)) = true := by
    rw [List.all_eq_true]
    intro x hm
    have := hx x hm
    rw [decide_eq_true this, decide_eq_true (show x.2.length < n by omega)]; rfl
  rw [decide_eq_true hl, h]; rfl
theorem markTo_le : ∀ {l : List (Int × List Int)} (q : Int), (∀ x ∈ l, x.2.length ≤ 1048576) → q ≤ markTo l q ∧ markTo l q ≤ q + l.length * 1048577
  | [], q, _ => by simp [markTo]
  | x :: l, q, h => by
    have h1 := h x List.mem_cons_self
    have ih := markTo_le (l := l) (q + 1 + x.2.length) fun y hy => h y (List.mem_cons_of_mem _ hy)
    rw [markTo]
    simp only [List.length_cons]
    omega
theorem markRuleS_dee {R : Type} {n : Nat} {l : List (Int × List Int)} (hl : l.length ≤ 1048576) (hx : ∀ x ∈ l, x.2.length ≤ 1048576) (hn : 3000000 ≤ n) (k : Int → Option R) : laws_markRuleS n 1 l k = k (markTo l 1) := by
  unfold laws_markRuleS
  have h : (l.all fun x => decide (x.2.length < n)) = true := by
    rw [List.all_eq_true]
    intro x hm
    have := hx x hm
    exact decide_eq_true (by omega)
  have h2 := markTo_le 1 hx
  rw [decide_eq_true (show (0 : Int) ≤ 1 by omega), decide_eq_true (show markTo l 1 ≤ 4611686018427387904 by omega), decide_eq_true (show l.length ≤ 4611686018427387904 by omega), h]; rfl
theorem marksIn {R : Type} {n : Nat} {l : List (Int × List Int)} {m : List Int} (hl : l.length ≤ 1048576) (hx : ∀ x ∈ l, x.2.length ≤ 1048576) (hm : m.length ≤ 1048576) (hn : 3000000 ≤ n) (k : Int → List Int → Option R) : laws_markIntS n (markTo l 1) m k = k (markTo l 1 + m.length) (marks m.length (markTo l 1)) := by
  have h2 := markTo_le 1 hx
  exact laws_markIntS_eq (by omega) (by omega) (by omega) k
theorem marksNeg {l : List (Int × List Int)} {m : List Int} (hx : ∀ x ∈ l, x.2.length ≤ 1048576) : decide (markTo l 1 + (m.length : Int) < 0) = false := by
  have h2 := markTo_le 1 hx
  exact decide_eq_false (by omega)
def hdM (m : List Int) (l : List (Int × List Int)) : List Int := (l.filter fun r => r.2.all fun z => decide (z ∈ m)).map (·.1)
theorem hdM_cons (m : List Int) (r : Int × List Int) (l : List (Int × List Int)) : hdM m (r :: l) = if (r.2.all fun z => decide (z ∈ m)) = true then r.1 :: hdM m l else hdM m l := by
  unfold hdM
  rw [List.filter_cons]
  split <;> rfl
theorem mem_hdM {m : List Int} {l : List (Int × List Int)} {y : Int} : y ∈ hdM m l ↔ ∃ r ∈ l, (∀ z ∈ r.2, z ∈ m) ∧ r.1 = y := by
  unfold hdM
  rw [List.mem_map]
  constructor
  · rintro ⟨r, h, rfl⟩
    obtain ⟨h1, h2⟩ := List.mem_filter.1 h
    exact ⟨r, h1, fun z hz => of_decide_eq_true (List.all_eq_true.1 h2 z hz), rfl⟩
  · rintro ⟨r, h1, h2, rfl⟩
    exact ⟨r, List.mem_filter.2 ⟨h1, List.all_eq_true.2 fun z hz => decide_eq_true (h2 z hz)⟩, rfl⟩
theorem spec_step_loop {l : List (Int × List Int)} {m : List Int} (hl : l.length ≤ 60) (hh : ∀ r ∈ l, (0 ≤ r.1 ∧ r.1 ≤ 39) ∧ setB r.2 = true) (hm : setB m = true) : ∀ (c n j : Nat) (come : List Bool) (q : List Int), c + 3000100 < n → j + c = l.length → Cm come q →
    ∃ come', Cm come' (q ++ hdM m (l.drop j)) ∧ ∀ (R : Type) (k : List Bool → Option R), spec_l8Step_l4 n l (l.length : Int) (j : Int) (markB (List.replicate 40 false) m) come k = k come'
  | c, 0, _, _, _, h, _, _ => by omega
  | 0, n + 1, j, come, q, hn, hj, hc => ⟨come, by rw [List.drop_eq_nil_iff.2 (by omega)]; simpa [hdM] using hc, fun R k => by rw [spec_l8Step_l4, dge (by omega)]; rfl⟩
  | c + 1, n + 1, j, come, q, hn, hj, hc => by
    have h : j < l.length := by omega
    obtain ⟨hr, hb⟩ := hh l[j] (List.getElem_mem h)
    have hbl := set_len hb
    rw [List.drop_eq_getElem_cons h, hdM_cons]
    have hcl := hc.1
    by_cases c1 : (l[j].2.all fun z => decide (z ∈ m)) = true
    · obtain ⟨come', h1, h2⟩ := spec_step_loop hl hh hm c n (j + 1) _ _ (by omega) (by omega) (hc.add hr)
      rw [if_pos c1]
      refine ⟨come', by simpa using h1, fun R k => ?_⟩
      rw [spec_l8Step_l4, dlt h, dnn, getD_at _ _ h, spec_l8Holds_eq hm hb (by omega) (by omega), c1, wrapS h (by omega), decide_eq_true hr.1, decide_eq_true (show l[j].1 < (come.length : Int) by omega)]
      exact h2 R k
    · obtain ⟨come', h1, h2⟩ := spec_step_loop hl hh hm c n (j + 1) come q (by omega) (by omega) hc
      rw [if_neg c1]
      refine ⟨come', h1, fun R k => ?_⟩
      have c2 : (l[j].2.all fun z => decide (z ∈ m)) = false := by simpa using c1
      rw [spec_l8Step_l4, dlt h, dnn, getD_at _ _ h, spec_l8Holds_eq hm hb (by omega) (by omega), c2, wrapS h (by omega)]
      exact h2 R k
theorem okRules_set {l : List (Int × List Int)} (ho : okRules l = true) : ∀ r ∈ l, (0 ≤ r.1 ∧ r.1 ≤ 39) ∧ setB r.2 = true := fun r hr => by
  have := okRules_all ho hr
  exact ⟨⟨this.1, this.2.1⟩, this.2.2⟩
theorem spec_step_ex {n : Nat} {l : List (Int × List Int)} {m : List Int} (ho : okRules l = true) (hm : setB m = true) (hn : 3001000 ≤ n) : ∃ out, setB out = true ∧ (∀ y, y ∈ out ↔ y ∈ m ∨ y ∈ hdM m l) ∧ ∀ (R : Type) (k : List Int → Option R), spec_l8Step n l m k = k out := by
  have hl := (okRules_in ho).1
  have hml := set_len hm
  have hc0 : Cm (markB (List.replicate 40 false) m) m := ⟨by rw [markB_length]; simp, fun z h0 h1 => mark_get hm h0 h1⟩
  obtain ⟨come, h1, h2⟩ := spec_step_loop hl (okRules_set ho) hm l.length n 0 _ m (by omega) (by omega) hc0
  rw [List.drop_zero] at h1
  obtain ⟨out, o1, o2, o3⟩ := spec_l8List_ex (n := n) h1 (fun x hx => by
    rcases List.mem_append.1 hx with h | h
    · exact setB_mem hm h
    · obtain ⟨r, hr, _, rfl⟩ := mem_hdM.1 h
      exact (okRules_set ho r hr).1) (by omega)
  refine ⟨out, o1, fun y => by rw [o2, List.mem_append], fun R k => ?_⟩
  unfold spec_l8Step
  rw [show ((0 : Nat) : Int) = 0 from rfl] at h2
  rw [spec_l8In_eq (by omega) (by omega) hm, spec_l8In_eq (by omega) (by omega) hm, h2, o3]
theorem impl_step_loop {l : List (Int × List Int)} {m : List Int} (hl : l.length ≤ 60) (hh : ∀ r ∈ l, (0 ≤ r.1 ∧ r.1 ≤ 39) ∧ setB r.2 = true) (hm : setB m = true) : ∀ (c n j : Nat) (M : List Int), c + 3000100 < n → j + c = l.length → setB M = true →
    ∃ M', setB M' = true ∧ (∀ y, y ∈ M' ↔ y ∈ M ∨ y ∈ hdM m (l.drop j)) ∧ ∀ (R : Type) (k : List Int → Option R), impl_once_l3 n m l (l.length : Int) (j : Int) M k = k M'
  | c, 0, _, _, h, _, _ => by omega
  | 0, n + 1, j, M, hn, hj, hM => ⟨M, hM, fun y => by rw [List.drop_eq_nil_iff.2 (by omega)]; simp [hdM], fun R k => by rw [impl_once_l3, dge (by omega)]; rfl⟩
  | c + 1, n + 1, j, M, hn, hj, hM => by
    have h : j < l.length := by omega
    obtain ⟨hr, hb⟩ := hh l[j] (List.getElem_mem h)
    have hbl := set_len hb
    have hml := set_len hm
    rw [List.drop_eq_getElem_cons h, hdM_cons]
    by_cases c1 : (l[j].2.all fun z => decide (z ∈ m)) = true
    · obtain ⟨M1, a1, a2, _, a3⟩ := impl_with_ex (n := n) hM (by omega) (x := l[j].1) hr
      obtain ⟨M', h1, h2, h3⟩ := impl_step_loop hl hh hm c n (j + 1) M1 (by omega) (by omega) a1
      rw [if_pos c1]
      refine ⟨M', h1, fun y => by rw [h2, a2, List.mem_cons]; exact ⟨fun h => by rcases h with (h | h) | h <;> simp [h], fun h => by rcases h with h | h | h <;> simp [h]⟩, fun R k => ?_⟩
      rw [impl_once_l3, dlt h, dnn, getD_at _ _ h, impl_contains_eq (by omega) (by omega) (by omega), c1, wrapS h (by omega)]
      simp only [cond_true]
      rw [a3]
      exact h3 R k
    · obtain ⟨M', h1, h2, h3⟩ := impl_step_loop hl hh hm c n (j + 1) M (by omega) (by omega) hM
      rw [if_neg c1]
      refine ⟨M', h1, h2, fun R k => ?_⟩
      have c2 : (l[j].2.all fun z => decide (z ∈ m)) = false := by simpa using c1
      rw [impl_once_l3, dlt h, dnn, getD_at _ _ h, impl_contains_eq (by omega) (by omega) (by omega), c2, wrapS h (by omega)]
      exact h3 R k
theorem impl_step_ex {n : Nat} {l : List (Int × List Int)} {m : List Int} (ho : okRules l = true) (hm : setB m = true) (hn : 3001000 ≤ n) : ∃ out, setB out = true ∧ (∀ y, y ∈ out ↔ y ∈ m ∨ y ∈ hdM m l) ∧ ∀ (R : Type) (k : List Int → Option R), impl_once n l m k = k out := by
  have hl := (okRules_in ho).1
  have hml := set_len hm
  obtain ⟨M', h1, h2, h3⟩ := impl_step_loop hl (okRules_set ho) hm l.length n 0 m (by omega) (by omega) hm
  rw [List.drop_zero] at h2
  refine ⟨M', h1, h2, fun R k => ?_⟩
  unfold impl_once slices_Clone_int
  rw [decide_eq_true (show 0 + m.length ≤ LIM by simp [LIM]; omega), cond_true]
  rw [show ((0 : Nat) : Int) = 0 from rfl] at h3
  exact h3 R _
theorem set_ext {a b : List Int} (ha : setB a = true) (hb : setB b = true) (h : ∀ y, y ∈ a ↔ y ∈ b) : a = b := pw_ext (setB_iff.1 ha).1 (setB_iff.1 hb).1 h
theorem key {R : Type} {n : Nat} (l : List (Int × List Int)) (m : List Int) (hn : 5000000 + l.length ≤ n) (hl : l.length ≤ 9223372036854775807) (hb : ∀ x ∈ l, x.2.length ≤ 9223372036854775807) (k : Bool → Option R) : laws_FnExactStepOnce n l m k = k true := by
  unfold laws_FnExactStepOnce
  by_cases hm : (m.length : Int) > 1048576
  · rw [decide_eq_true hm]; rfl
  · rw [decide_eq_false hm, cond_false]
    obtain ⟨r, h1, h2⟩ := laws_szRuleS_eq (n := n) hl hb (by omega)
    rw [h1]
    by_cases c : r < 0
    · rw [decide_eq_true c]; rfl
    · rw [decide_eq_false c, cond_false]
      obtain ⟨a, b⟩ := h2 (by omega)
      have hml : m.length ≤ 1048576 := by omega
      obtain ⟨ok, out, hol, hs, hi⟩ : ∃ (ok : Bool) (out : List Int), out.length ≤ 1048576 ∧ (∀ k : Bool → List Int → Option R, spec_StepOnce n l m k = k ok out) ∧ ∀ k : Bool → List Int → Option R, impl_StepOnce n l m k = k ok out := by
        unfold spec_StepOnce impl_StepOnce
        simp only [spec_GoodRules_eq a b (show 3000000 ≤ n by omega), spec_l8Set_eq (l := m) (by omega) (show m.length < n by omega), impl_rulesOk_eq a b hml (show 5000000 ≤ n by omega)]
        cases ho : okRules l with
        | false => exact ⟨false, [], by simp, fun k => rfl, fun k => rfl⟩
        | true =>
          cases hs : setB m with
          | false => exact ⟨false, [], by simp, fun k => rfl, fun k => rfl⟩
          | true =>
            obtain ⟨out, o1, o2, o3⟩ := spec_step_ex (n := n) ho hs (by omega)
            obtain ⟨M, i1, i2, i3⟩ := impl_step_ex (n := n) ho hs (by omega)
            have e : out = M := set_ext o1 i1 fun y => by rw [o2, i2]
            subst e
            have := set_len o1
            exact ⟨true, out, by omega, fun k => by simp only [Bool.not_true, cond_false, o3], fun k => by simp only [Bool.and_self, Bool.not_true, cond_false, i3]⟩
      simp only [toRuleS_dee a b (show 3000000 ≤ n by omega), laws_toIntS_eq hml (show m.length < n by omega), hs, hi, laws_eqIntS_eq (xs := out) (ys := out) (show out.length ≤ 9223372036854775807 by omega) (show out.length < n by omega), decide_true, Bool.not_true, cond_false, beq_self_eq_true,
        laws_eqRuleS_refl a b (show 3000000 ≤ n by omega), laws_eqIntS_eq (xs := m) (ys := m) (show m.length ≤ 9223372036854775807 by omega) (show m.length < n by omega), markRuleS_dee a b (show 3000000 ≤ n by omega), marksIn a b hml (show 3000000 ≤ n by omega), marksNeg b,
        laws_markIntS_eq (l := out) (q := 1) (show out.length < n by omega) (by omega) (by omega), laws_heldIntS_eq (m := out.length) (q := 1) (show out.length < n by omega) (by omega) (by omega), decide_eq_false (show ¬ (1 : Int) + out.length < 0 by omega), bne_self_eq_false]
theorem plain : Plain := fun l m hl _ R k => ⟨_, key l m (Nat.le_refl _) hl.1 (fun x hx => (hl.2 x hx).2.1) k⟩
end Go.Am.G
