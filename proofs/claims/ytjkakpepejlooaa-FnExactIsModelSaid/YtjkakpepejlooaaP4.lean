/- The plain law: what the functions compute answers as the law says, for all arguments. -/
import Derived.Test.YtjkakpepejlooaaF4
set_option linter.unusedVariables false
set_option linter.unusedSimpArgs false
namespace Go.Am.G
open Go Go.Am
theorem wrap64 {x : Int} (h1 : -9223372036854775808 ≤ x) (h2 : x ≤ 9223372036854775807) : IntKind.wrap .i64 x = x := by
  simp only [IntKind.wrap, IntKind.signed, IntKind.bits]
  simp
  omega
theorem getD_at {α : Type} (l : List α) (d : α) {j : Nat} (h : j < l.length) : l.getD (Int.toNat (j : Int)) d = l[j] := by
  rw [Int.toNat_natCast, List.getD_eq_getElem?_getD, List.getElem?_eq_getElem h]; rfl
theorem dlt {a b : Nat} (h : a < b) : decide ((a : Int) < (b : Int)) = true := decide_eq_true (by omega)
theorem dge {a b : Nat} (h : b ≤ a) : decide ((a : Int) < (b : Int)) = false := decide_eq_false (by omega)
theorem dnn (a : Nat) : decide (0 ≤ (a : Int)) = true := decide_eq_true (by omega)
theorem wrapS {j m : Nat} (h : j < m) (hm : m ≤ 9223372036854775807) : IntKind.wrap .i64 ((j : Int) + 1) = ((j + 1 : Nat) : Int) := by
  rw [wrap64 (by omega) (by omega)]; rfl
theorem spec_l1In_eq {R : Type} (n : Nat) (x a b : Int) (k : Bool → Option R) : spec_l1In n x a b k = k (decide (a ≤ x ∧ x ≤ b)) := by
  simp only [spec_l1In]
  by_cases h : x ≥ a
  · have : a ≤ x := h
    simp [this]
  · have : ¬ a ≤ x := h
    simp [this]
theorem impl_in_eq {R : Type} (n : Nat) (x a b : Int) (k : Bool → Option R) : impl_in n x a b k = k (decide (a ≤ x ∧ x ≤ b)) := by
  simp only [impl_in]
  by_cases h : x ≥ a
  · have : a ≤ x := h
    simp [this]
  · have : ¬ a ≤ x := h
    simp [this]
theorem bifk {R α : Type} (b : Bool) (x y : α) (k : α → Option R) : (bif b then k x else k y) = k (bif b then x else y) := by cases b <;> rfl
theorem loop_all {α R : Type} (l : List α) (q : α → Bool) (B : Nat) (F : Nat → Int → Option R) (ke kr : Option R)
    (step : ∀ (n j : Nat) (h : j < l.length), B ≤ n → F (n + 1) (j : Int) = bif q l[j] then F n ((j + 1 : Nat) : Int) else kr)
    (stop : ∀ n, F (n + 1) (l.length : Int) = ke) : ∀ (n j : Nat), B + (l.length - j) < n → j ≤ l.length → F n (j : Int) = bif (l.drop j).all q then ke else kr
  | 0, _, h, _ => by omega
  | n + 1, j, hn, hj => by
    by_cases h : j < l.length
    · rw [step n j h (by omega), List.drop_eq_getElem_cons h, List.all_cons, loop_all l q B F ke kr step stop n (j + 1) (by omega) (by omega)]
      cases q l[j] <;> rfl
    · have : j = l.length := by omega
      subst this
      rw [stop, List.drop_length]; rfl
theorem loop_all0 {α R : Type} (l : List α) (q : α → Bool) (B : Nat) (F : Nat → Int → Option R) (ke kr : Option R)
    (step : ∀ (n j : Nat) (h : j < l.length), B ≤ n → F (n + 1) (j : Int) = bif q l[j] then F n ((j + 1 : Nat) : Int) else kr)
    (stop : ∀ n, F (n + 1) (l.length : Int) = ke) {n : Nat} (hn : B + l.length < n) : F n 0 = bif l.all q then ke else kr := by
  have := loop_all l q B F ke kr step stop n 0 (by omega) (by omega)
  rw [List.drop_zero] at this
  exact this
theorem laws_eqIntS_loop {R : Type} (xs ys : List Int) (hl : xs.length = ys.length) (hb : xs.length ≤ 9223372036854775807) (kr : Bool → Option R) (ke : Option R) : ∀ (n j : Nat), xs.length - j < n → j ≤ xs.length →
    laws_eqIntS_l4 n xs ys (j : Int) kr ke = if xs.drop j = ys.drop j then ke else kr false
  | 0, _, h, _ => by omega
  | n + 1, j, hn, hj => by
    unfold laws_eqIntS_l4
    by_cases h : j < xs.length
    · have h' : j < ys.length := by omega
      rw [dlt h, dlt h', dnn, getD_at _ _ h, getD_at _ _ h', wrapS h hb, List.drop_eq_getElem_cons h, List.drop_eq_getElem_cons h']
      simp only [cond_true]
      by_cases he : xs[j] = ys[j]
      · have : (xs[j] != ys[j]) = false := by simp [he]
        rw [this, cond_false, laws_eqIntS_loop xs ys hl hb kr ke n (j + 1) (by omega) (by omega)]
        simp only [List.cons.injEq, he, true_and]
      · have : (xs[j] != ys[j]) = true := by simpa using he
        rw [this, cond_true, if_neg fun h => he (List.cons.inj h).1]
    · rw [dge (by omega)]
      have h1 : xs.drop j = [] := List.drop_eq_nil_iff.2 (by omega)
      have h2 : ys.drop j = [] := List.drop_eq_nil_iff.2 (by omega)
      simp [h1, h2]
theorem laws_eqIntS_eq {R : Type} {n : Nat} {xs ys : List Int} (hb : xs.length ≤ 9223372036854775807) (hn : xs.length < n) (k : Bool → Option R) : laws_eqIntS n xs ys k = k (decide (xs = ys)) := by
  unfold laws_eqIntS
  by_cases hl : xs.length = ys.length
  · have : ((xs.length : Int) != (ys.length : Int)) = false := by simp [hl]
    rw [this, cond_false]
    have := laws_eqIntS_loop xs ys hl hb k (k true) n 0 (by omega) (by omega)
    simp only [List.drop_zero] at this
    rw [show ((0 : Nat) : Int) = 0 from rfl] at this
    rw [this]
    split <;> simp_all
  · have : ((xs.length : Int) != (ys.length : Int)) = true := by simp; omega
    rw [this, cond_true, decide_eq_false fun h => hl (by rw [h])]
theorem laws_szIntS_eq {R : Type} (n : Nat) (l : List Int) (left : Int) (h0 : 0 ≤ left) (h1 : left ≤ 1048576) (hl : l.length ≤ 9223372036854775807) (k : Int → Option R) :
    laws_szIntS n l left k = if left < l.length then k (-1) else k (left - l.length) := by
  unfold laws_szIntS
  rw [wrap64 (by omega) (by omega)]
  by_cases h : left < l.length
  · rw [decide_eq_true (by omega), if_pos h]; rfl
  · rw [decide_eq_false (by omega), if_neg h]; rfl
theorem laws_szRuleS_loop (l : List (Int × List Int)) (hl : l.length ≤ 9223372036854775807) (hb : ∀ x ∈ l, x.2.length ≤ 9223372036854775807) : ∀ (n j : Nat) (left : Int), l.length - j < n → j ≤ l.length → 0 ≤ left → left ≤ 1048576 →
    ∃ r, (∀ (R : Type) (k : Int → Option R), laws_szRuleS_l5 n l left (j : Int) k k = k r) ∧ (0 ≤ r → ∀ x ∈ l.drop j, x.2.length ≤ 1048576)
  | 0, _, _, h, _, _, _ => by omega
  | n + 1, j, left, hn, hj, h0, h1 => by
    by_cases h : j < l.length
    · have hx := hb l[j] (List.getElem_mem h)
      by_cases c : left < l[j].2.length
      · refine ⟨-1, fun R k => ?_, fun h => by omega⟩
        rw [laws_szRuleS_l5, dlt h, dnn, getD_at _ _ h, wrapS h hl]
        simp only [cond_true, laws_szRule, laws_szIntS_eq n _ left h0 h1 hx, if_pos c]
        rfl
      · obtain ⟨r, h2, h3⟩ := laws_szRuleS_loop l hl hb n (j + 1) (left - l[j].2.length) (by omega) (by omega) (by omega) (by omega)
        refine ⟨r, fun R k => ?_, fun h4 x hx => ?_⟩
        · rw [laws_szRuleS_l5, dlt h, dnn, getD_at _ _ h, wrapS h hl]
          simp only [cond_true, laws_szRule, laws_szIntS_eq n _ left h0 h1 hx, if_neg c]
          rw [decide_eq_false (show ¬ left - (l[j].2.length : Int) < 0 by omega), cond_false, cond_false]
          exact h2 R k
        · rw [List.drop_eq_getElem_cons h] at hx
          rcases List.mem_cons.1 hx with rfl | hx
          · omega
          · exact h3 h4 x hx
    · refine ⟨left, fun R k => ?_, fun _ x hx => ?_⟩
      · rw [laws_szRuleS_l5, dge (by omega), cond_false]
      · rw [List.drop_eq_nil_iff.2 (by omega)] at hx
        cases hx
theorem laws_szRuleS_eq {n : Nat} {l : List (Int × List Int)} (hl : l.length ≤ 9223372036854775807) (hb : ∀ x ∈ l, x.2.length ≤ 9223372036854775807) (hn : l.length < n) :
    ∃ r, (∀ (R : Type) (k : Int → Option R), laws_szRuleS n l 1048576 k = k r) ∧ (0 ≤ r → l.length ≤ 1048576 ∧ ∀ x ∈ l, x.2.length ≤ 1048576) := by
  by_cases h : (1048576 : Int) - l.length < 0
  · refine ⟨-1, fun R k => ?_, fun h => by omega⟩
    unfold laws_szRuleS
    rw [wrap64 (by omega) (by omega), decide_eq_true h]; rfl
  · obtain ⟨r, h2, h3⟩ := laws_szRuleS_loop l hl hb n 0 (1048576 - l.length) (by omega) (by omega) (by omega) (by omega)
    refine ⟨r, fun R k => ?_, fun h4 => ⟨by omega, by simpa using h3 h4⟩⟩
    unfold laws_szRuleS
    rw [wrap64 (by omega) (by omega), decide_eq_false h, cond_false]
    exact h2 R k
theorem set_take_at {α : Type} {out l : List α} {j : Nat} (h : j < l.length) (ho : out.length = l.length) (ht : out.take j = l.take j) : (out.set j l[j]).take (j + 1) = l.take (j + 1) := by
  rw [List.take_set, List.take_succ_eq_append_getElem (by omega), List.take_succ_eq_append_getElem h, ht, List.set_append_right _ _ (by simp; omega)]
  rw [show j - (l.take j).length = 0 by simp; omega]
  rfl
theorem laws_toIntS_loop {R : Type} (l : List Int) (hb : l.length ≤ 9223372036854775807) (ke : List Int → Option R) : ∀ (n j : Nat) (out : List Int), l.length - j < n → j ≤ l.length → out.length = l.length → out.take j = l.take j →
    laws_toIntS_l3 n l (j : Int) out ke = ke l
  | 0, _, _, h, _, _, _ => by omega
  | n + 1, j, out, hn, hj, ho, ht => by
    unfold laws_toIntS_l3
    by_cases h : j < l.length
    · rw [dlt h, dnn, getD_at _ _ h, wrapS h hb, Int.toNat_natCast, ho, dlt h]
      simp only [cond_true]
      exact laws_toIntS_loop l hb ke n (j + 1) _ (by omega) (by omega) (by simpa using ho) (set_take_at h ho ht)
    · rw [dge (by omega), cond_false]
      have h1 : l.take j = l := List.take_of_length_le (by omega)
      rw [List.take_of_length_le (by omega), h1] at ht
      rw [ht]
theorem laws_toIntS_eq {R : Type} {n : Nat} {l : List Int} (hl : l.length ≤ 1048576) (hn : l.length < n) (k : List Int → Option R) : laws_toIntS n l k = k l := by
  unfold laws_toIntS
  rw [decide_eq_true (by omega), decide_eq_true (by omega), decide_eq_true (by omega)]
  simp only [cond_true, Int.toNat_natCast]
  exact laws_toIntS_loop l (by omega) k n 0 _ (by omega) (by omega) (by simp) (by simp)
theorem laws_toRuleS_loop {R : Type} (l : List (Int × List Int)) (hb : l.length ≤ 9223372036854775807) (hx : ∀ x ∈ l, x.2.length ≤ 1048576) (ke : List (Int × List Int) → Option R) : ∀ (n j : Nat) (out : List (Int × List Int)), 1048577 + (l.length - j) < n → j ≤ l.length → out.length = l.length → out.take j = l.take j →
    laws_toRuleS_l3 n l (j : Int) out ke = ke l
  | 0, _, _, h, _, _, _ => by omega
  | n + 1, j, out, hn, hj, ho, ht => by
    unfold laws_toRuleS_l3
    by_cases h : j < l.length
    · have hx' := hx l[j] (List.getElem_mem h)
      rw [dlt h, dnn, getD_at _ _ h, wrapS h hb, Int.toNat_natCast, ho, dlt h]
      simp only [cond_true, laws_toRule, laws_toIntS_eq hx' (show l[j].2.length < n by omega)]
      exact laws_toRuleS_loop l hb hx ke n (j + 1) _ (by omega) (by omega) (by simpa using ho) (set_take_at h ho ht)
    · rw [dge (by omega), cond_false]
      have h1 : l.take j = l := List.take_of_length_le (by omega)
      rw [List.take_of_length_le (by omega), h1] at ht
      rw [ht]
theorem laws_toRuleS_eq {R : Type} {n : Nat} {l : List (Int × List Int)} (hl : l.length ≤ 1048576) (hx : ∀ x ∈ l, x.2.length ≤ 1048576) (hn : 3000000 ≤ n) (k : List (Int × List Int) → Option R) : laws_toRuleS n l k = k l := by
  unfold laws_toRuleS
  rw [decide_eq_true (by omega), decide_eq_true (by omega), decide_eq_true (by omega)]
  simp only [cond_true, Int.toNat_natCast]
  exact laws_toRuleS_loop l (by omega) hx k n 0 _ (by omega) (by omega) (by simp) (by simp)
theorem laws_eqRuleS_refl {R : Type} {n : Nat} {l : List (Int × List Int)} (hl : l.length ≤ 1048576) (hx : ∀ x ∈ l, x.2.length ≤ 1048576) (hn : 3000000 ≤ n) (k : Bool → Option R) : laws_eqRuleS n l l k = k true := by
  unfold laws_eqRuleS
  rw [bne_self_eq_false, cond_false]
  have := loop_all0 l (fun _ => true) 1048577 (fun n i => laws_eqRuleS_l4 n l l i (fun r2 => k r2) (k true)) (k true) (k false) (fun n j h hn => by
    have hx' := hx l[j] (List.getElem_mem h)
    show laws_eqRuleS_l4 (n + 1) l l (j : Int) _ _ = _
    rw [laws_eqRuleS_l4]
    rw [dlt h, dnn, getD_at _ _ h, wrapS h (by omega)]
    simp only [cond_true, laws_eqRule, bne_self_eq_false, cond_false, laws_eqIntS_eq (show l[j].2.length ≤ 9223372036854775807 by omega) (show l[j].2.length < n by omega), decide_true, Bool.not_true]) (fun n => by
    show laws_eqRuleS_l4 (n + 1) l l (l.length : Int) _ _ = _
    rw [laws_eqRuleS_l4]
    rw [dge (by omega)]; rfl) (n := n) (by omega)
  rw [this, List.all_eq_true.2 fun _ _ => rfl]
  rfl
/-- Numbers that rise, and are facts. -/
def riseFrom : Int → List Int → Bool
  | _, [] => true
  | v, x :: r => decide (v < x ∧ x ≤ 39) && riseFrom x r
def setB (l : List Int) : Bool := riseFrom (-1) l
def okRule (x : Int × List Int) : Bool := decide (0 ≤ x.1 ∧ x.1 ≤ 39) && setB x.2
def okRules (l : List (Int × List Int)) : Bool := decide (l.length ≤ 60) && l.all okRule
theorem spec_l8Set_loop {R : Type} (l : List Int) (hb : l.length ≤ 9223372036854775807) (kr : Bool → Option R) (ke : Option R) : ∀ (n j : Nat) (v : Int), l.length - j < n → j ≤ l.length → -1 ≤ v →
    (j = 0 → v = -1) → (∀ (h : j - 1 < l.length), 0 < j → l[j - 1] = v) →
    spec_l8Set_l2 n l l (l.length : Int) (j : Int) kr ke = bif riseFrom v (l.drop j) then ke else kr false
  | 0, _, _, h, _, _, _, _ => by omega
  | n + 1, j, v, hn, hj, hv, h0, h1 => by
    unfold spec_l8Set_l2
    by_cases h : j < l.length
    · rw [dlt h, dnn, getD_at _ _ h, wrapS h hb, List.drop_eq_getElem_cons h]
      simp only [cond_true, spec_l1In_eq, riseFrom]
      have ih := fun (h2 : -1 ≤ l[j]) => spec_l8Set_loop l hb kr ke n (j + 1) l[j] (by omega) (by omega) h2 (by omega) (fun _ _ => rfl)
      by_cases hz : j = 0
      · have hv := h0 hz
        subst hv
        rw [decide_eq_false (show ¬ ((j : Int) > 0) by omega)]
        by_cases c1 : 0 ≤ l[j] ∧ l[j] ≤ 39
        · rw [decide_eq_true c1, decide_eq_true (show -1 < l[j] ∧ l[j] ≤ 39 by omega)]
          simp only [Bool.not_true, cond_false, Bool.true_and]
          exact ih (by omega)
        · rw [decide_eq_false c1, decide_eq_false (show ¬ (-1 < l[j] ∧ l[j] ≤ 39) by omega)]; rfl
      · have hp : j - 1 < l.length := by omega
        have hq := h1 hp (by omega)
        rw [decide_eq_true (show ((j : Int) > 0) by omega), wrap64 (x := (j : Int) - 1) (by omega) (by omega), show (j : Int) - 1 = ((j - 1 : Nat) : Int) by omega, dnn, dlt hp, getD_at _ _ hp, hq]
        simp only [cond_true]
        by_cases c1 : 0 ≤ l[j] ∧ l[j] ≤ 39
        · rw [decide_eq_true c1]
          simp only [Bool.not_true, cond_false]
          by_cases c3 : v < l[j]
          · rw [decide_eq_false (show ¬ (v ≥ l[j]) by omega), decide_eq_true (show v < l[j] ∧ l[j] ≤ 39 by omega)]
            simp only [cond_false, Bool.true_and]
            exact ih (by omega)
          · rw [decide_eq_true (show (v ≥ l[j]) by omega), decide_eq_false (show ¬ (v < l[j] ∧ l[j] ≤ 39) by omega)]; rfl
        · rw [decide_eq_false c1, decide_eq_false (show ¬ (v < l[j] ∧ l[j] ≤ 39) by omega)]; rfl
    · rw [dge (by omega), List.drop_eq_nil_iff.2 (by omega)]; rfl
theorem spec_l8Set_eq {R : Type} {n : Nat} {l : List Int} (hb : l.length ≤ 9223372036854775807) (hn : l.length < n) (k : Bool → Option R) : spec_l8Set n l k = k (setB l) := by
  unfold spec_l8Set
  have := spec_l8Set_loop l hb k (k true) n 0 (-1) (by omega) (by omega) (by omega) (fun _ => rfl) (fun _ h => by omega)
  rw [show ((0 : Nat) : Int) = 0 from rfl, List.drop_zero] at this
  rw [this]
  unfold setB
  cases riseFrom (-1) l <;> rfl
theorem impl_rising_loop {R : Type} (l : List Int) (hb : l.length ≤ 9223372036854775807) (kr : Bool → Option R) (ke : Option R) : ∀ (n j : Nat) (v : Int), l.length - j < n → j ≤ l.length → -1 ≤ v →
    (j = 0 → v = -1) → (∀ (h : j - 1 < l.length), 0 < j → l[j - 1] = v) →
    impl_rising_l2 n l 40 l (l.length : Int) (j : Int) kr ke = bif riseFrom v (l.drop j) then ke else kr false
  | 0, _, _, h, _, _, _, _ => by omega
  | n + 1, j, v, hn, hj, hv, h0, h1 => by
    unfold impl_rising_l2
    by_cases h : j < l.length
    · rw [dlt h, dnn, getD_at _ _ h, wrapS h hb, List.drop_eq_getElem_cons h, wrap64 (x := 40 - 1) (by omega) (by omega), show (40 : Int) - 1 = 39 from rfl]
      simp only [cond_true, impl_in_eq, riseFrom]
      have ih := fun (h2 : -1 ≤ l[j]) => impl_rising_loop l hb kr ke n (j + 1) l[j] (by omega) (by omega) h2 (by omega) (fun _ _ => rfl)
      by_cases hz : j = 0
      · have hv := h0 hz
        subst hv
        rw [decide_eq_false (show ¬ ((j : Int) > 0) by omega)]
        by_cases c1 : 0 ≤ l[j] ∧ l[j] ≤ 39
        · rw [decide_eq_true c1, decide_eq_true (show -1 < l[j] ∧ l[j] ≤ 39 by omega)]
          simp only [Bool.not_true, cond_false, Bool.true_and]
          exact ih (by omega)
        · rw [decide_eq_false c1, decide_eq_false (show ¬ (-1 < l[j] ∧ l[j] ≤ 39) by omega)]; rfl
      · have hp : j - 1 < l.length := by omega
        have hq := h1 hp (by omega)
        rw [decide_eq_true (show ((j : Int) > 0) by omega), wrap64 (x := (j : Int) - 1) (by omega) (by omega), show (j : Int) - 1 = ((j - 1 : Nat) : Int) by omega, dnn, dlt hp, getD_at _ _ hp, hq]
        simp only [cond_true]
        by_cases c1 : 0 ≤ l[j] ∧ l[j] ≤ 39
        · rw [decide_eq_true c1]
          simp only [Bool.not_true, cond_false]
          by_cases c3 : v < l[j]
          · rw [decide_eq_false (show ¬ (v ≥ l[j]) by omega), decide_eq_true (show v < l[j] ∧ l[j] ≤ 39 by omega)]
            simp only [cond_false, Bool.true_and]
            exact ih (by omega)
          · rw [decide_eq_true (show (v ≥ l[j]) by omega), decide_eq_false (show ¬ (v < l[j] ∧ l[j] ≤ 39) by omega)]; rfl
        · rw [decide_eq_false c1, decide_eq_false (show ¬ (v < l[j] ∧ l[j] ≤ 39) by omega)]; rfl
    · rw [dge (by omega), List.drop_eq_nil_iff.2 (by omega)]; rfl
theorem impl_isSet_eq {R : Type} {n : Nat} {l : List Int} (hb : l.length ≤ 9223372036854775807) (hn : l.length < n) (k : Bool → Option R) : impl_isSet n l k = k (setB l) := by
  unfold impl_isSet impl_rising
  have := impl_rising_loop l hb k (k true) n 0 (-1) (by omega) (by omega) (by omega) (fun _ => rfl) (fun _ h => by omega)
  rw [show ((0 : Nat) : Int) = 0 from rfl, List.drop_zero] at this
  rw [this]
  unfold setB
  cases riseFrom (-1) l <;> rfl
theorem spec_GoodRules_eq {R : Type} {n : Nat} {l : List (Int × List Int)} (hl : l.length ≤ 1048576) (hx : ∀ x ∈ l, x.2.length ≤ 1048576) (hn : 3000000 ≤ n) (k : Bool → Option R) : spec_GoodRules n l k = k (okRules l) := by
  unfold spec_GoodRules
  have := loop_all0 l okRule 1048577 (fun n i => spec_GoodRules_l2 n l l (l.length : Int) i (fun r3 => k r3) (fun r4 => k (decide ((r4.length : Int) ≤ 60)))) (k (decide ((l.length : Int) ≤ 60))) (k false) (fun n j h hn => by
    have hx' := hx l[j] (List.getElem_mem h)
    show spec_GoodRules_l2 (n + 1) l l (l.length : Int) (j : Int) _ _ = _
    rw [spec_GoodRules_l2]
    rw [dlt h, dnn, getD_at _ _ h, wrapS h (by omega)]
    simp only [cond_true, spec_l1In_eq, spec_l8Set_eq (show l[j].2.length ≤ 9223372036854775807 by omega) (show l[j].2.length < n by omega), okRule]
    cases decide (0 ≤ l[j].1 ∧ l[j].1 ≤ 39) <;> cases setB l[j].2 <;> rfl) (fun n => by
    show spec_GoodRules_l2 (n + 1) l l (l.length : Int) (l.length : Int) _ _ = _
    rw [spec_GoodRules_l2]
    rw [dge (by omega)]; rfl) (n := n) (by omega)
  rw [this, bifk]
  congr 1
  unfold okRules
  cases l.all okRule with
  | true => simp only [cond_true, Bool.and_true]; apply decide_eq_decide.2; omega
  | false => simp
theorem impl_GoodRules_eq {R : Type} {n : Nat} {l : List (Int × List Int)} (hl : l.length ≤ 1048576) (hx : ∀ x ∈ l, x.2.length ≤ 1048576) (hn : 3000000 ≤ n) (k : Bool → Option R) : impl_GoodRules n l k = k (okRules l) := by
  unfold impl_GoodRules slices_ContainsFunc_impl_Rule_impl_GoodRules_c1 slices_IndexFunc_impl_Rule_impl_GoodRules_c1
  have := loop_all0 l okRule 1048577 (fun n i => slices_IndexFunc_impl_Rule_impl_GoodRules_c1_l2 n l (l.length : Int) i (fun r2 => k (!decide (r2 ≥ 0))) (k (!decide ((-1 : Int) ≥ 0)))) (k true) (k false) (fun n j h hn => by
    have hx' := hx l[j] (List.getElem_mem h)
    show slices_IndexFunc_impl_Rule_impl_GoodRules_c1_l2 (n + 1) l (l.length : Int) (j : Int) _ _ = _
    rw [slices_IndexFunc_impl_Rule_impl_GoodRules_c1_l2]
    rw [dlt h, dnn, getD_at _ _ h, wrapS h (by omega)]
    simp only [cond_true, impl_GoodRules_c1, impl_isFact, impl_in_eq, impl_isSet_eq (show l[j].2.length ≤ 9223372036854775807 by omega) (show l[j].2.length < n by omega), okRule]
    cases decide (0 ≤ l[j].1 ∧ l[j].1 ≤ 39) <;> cases setB l[j].2 <;> rfl) (fun n => by
    show slices_IndexFunc_impl_Rule_impl_GoodRules_c1_l2 (n + 1) l (l.length : Int) (l.length : Int) _ _ = _
    rw [slices_IndexFunc_impl_Rule_impl_GoodRules_c1_l2]
    rw [dge (by omega)]; rfl) (n := n) (by omega)
  rw [this]
  unfold okRules
  by_cases c : l.length ≤ 60
  · rw [decide_eq_true (show (l.length : Int) ≤ 60 by omega), decide_eq_true c]
    cases l.all okRule <;> rfl
  · rw [decide_eq_false (show ¬ (l.length : Int) ≤ 60 by omega), decide_eq_false c]
    rfl
theorem slices_Index_loop {R : Type} (l : List Int) (hb : l.length ≤ 9223372036854775807) (x : Int) (kr : Int → Option R) (ke y : Option R) (hk : ∀ j : Nat, kr (j : Int) = y) : ∀ (n j : Nat), l.length - j < n → j ≤ l.length →
    slices_Index_int_l2 n l x (l.length : Int) (j : Int) kr ke = if x ∈ l.drop j then y else ke
  | 0, _, h, _ => by omega
  | n + 1, j, hn, hj => by
    rw [slices_Index_int_l2]
    by_cases h : j < l.length
    · rw [dlt h, dnn, getD_at _ _ h, wrapS h hb, List.drop_eq_getElem_cons h]
      simp only [cond_true, List.mem_cons]
      by_cases c : x = l[j]
      · rw [beq_iff_eq.2 c, cond_true, if_pos (.inl c)]; exact hk j
      · rw [beq_eq_false_iff_ne.2 c, cond_false, slices_Index_loop l hb x kr ke y hk n (j + 1) (by omega) (by omega)]
        simp only [c, false_or]
    · rw [dge (by omega), List.drop_eq_nil_iff.2 (by omega)]
      simp
theorem slices_Contains_eq {R : Type} {n : Nat} {l : List Int} (hb : l.length ≤ 9223372036854775807) (hn : l.length < n) (x : Int) (k : Bool → Option R) : slices_Contains_int n l x k = k (decide (x ∈ l)) := by
  unfold slices_Contains_int slices_Index_int
  have := slices_Index_loop (R := R) l hb x (fun r1 => k (decide (r1 ≥ 0))) (k (decide ((-1 : Int) ≥ 0))) (k true) (fun j => by rw [decide_eq_true (show (j : Int) ≥ 0 by omega)]) n 0 (by omega) (by omega)
  rw [show ((0 : Nat) : Int) = 0 from rfl, List.drop_zero] at this
  rw [this]
  by_cases c : x ∈ l
  · rw [if_pos c, decide_eq_true c]
  · rw [if_neg c, decide_eq_false c]; rfl
theorem impl_contains_eq {R : Type} {n : Nat} {m l : List Int} (hm : m.length ≤ 1048576) (hl : l.length ≤ 1048576) (hn : 3000000 ≤ n) (k : Bool → Option R) : impl_contains n m l k = k (l.all fun x => decide (x ∈ m)) := by
  unfold impl_contains slices_ContainsFunc_int_impl_contains_c1 slices_IndexFunc_int_impl_contains_c1
  have := loop_all0 l (fun x => decide (x ∈ m)) 1048577 (fun n i => slices_IndexFunc_int_impl_contains_c1_l2 n l (l.length : Int) i m (fun r3 r4 => k (!decide (r3 ≥ 0))) (fun r5 => k (!decide ((-1 : Int) ≥ 0)))) (k true) (k false) (fun n j h hn => by
    show slices_IndexFunc_int_impl_contains_c1_l2 (n + 1) l (l.length : Int) (j : Int) m _ _ = _
    rw [slices_IndexFunc_int_impl_contains_c1_l2]
    rw [dlt h, dnn, getD_at _ _ h, wrapS h (by omega)]
    simp only [cond_true, impl_contains_c1, slices_Contains_eq (show m.length ≤ 9223372036854775807 by omega) (show m.length < n by omega)]
    cases decide (l[j] ∈ m) with
    | true => rfl
    | false =>
      show k (!decide ((j : Int) ≥ 0)) = k false
      rw [decide_eq_true (show (j : Int) ≥ 0 by omega)]; rfl) (fun n => by
    show slices_IndexFunc_int_impl_contains_c1_l2 (n + 1) l (l.length : Int) (l.length : Int) m _ _ = _
    rw [slices_IndexFunc_int_impl_contains_c1_l2]
    rw [dge (by omega)]; rfl) (n := n) (by omega)
  rw [this]
  cases l.all fun x => decide (x ∈ m) <;> rfl
/-- A set, marked. -/
def markB (s : List Bool) (m : List Int) : List Bool := m.foldl (fun s x => s.set x.toNat true) s
theorem markB_length : ∀ (m : List Int) (s : List Bool), (markB s m).length = s.length
  | [], _ => rfl
  | x :: r, s => by
    show (markB (s.set x.toNat true) r).length = _
    rw [markB_length r]; simp
theorem markB_get : ∀ (m : List Int) (s : List Bool) (z : Int), (∀ x ∈ m, 0 ≤ x) → 0 ≤ z → z.toNat < s.length → (markB s m).getD z.toNat false = (s.getD z.toNat false || decide (z ∈ m))
  | [], s, z, _, _, _ => by simp [markB]
  | x :: r, s, z, h, hz, hs => by
    show (markB (s.set x.toNat true) r).getD z.toNat false = _
    rw [markB_get r _ z (fun y hy => h y (List.mem_cons_of_mem _ hy)) hz (by simpa using hs)]
    have hx := h x (List.mem_cons_self ..)
    by_cases c : z = x
    · subst c
      simp [List.getD_eq_getElem?_getD, hs]
    · have : x.toNat ≠ z.toNat := by omega
      simp [List.getD_eq_getElem?_getD, List.getElem?_set_ne this, c]
theorem riseFrom_mem : ∀ {l : List Int} {v : Int}, riseFrom v l = true → ∀ x ∈ l, v < x ∧ x ≤ 39
  | [], _, _, x, hx => by cases hx
  | y :: r, v, h, x, hx => by
    simp only [riseFrom, Bool.and_eq_true, decide_eq_true_eq] at h
    rcases List.mem_cons.1 hx with rfl | hx
    · exact h.1
    · have := riseFrom_mem h.2 x hx
      omega
theorem setB_mem {l : List Int} (h : setB l = true) {x : Int} (hx : x ∈ l) : 0 ≤ x ∧ x ≤ 39 := by
  have := riseFrom_mem h x hx
  omega
theorem spec_l8In_loop {R : Type} (l : List Int) (hb : l.length ≤ 9223372036854775807) (hr : ∀ x ∈ l, 0 ≤ x ∧ x ≤ 39) (k : List Bool → Option R) : ∀ (n j : Nat) (s : List Bool), l.length - j < n → j ≤ l.length → s.length = 40 →
    spec_l8In_l3 n l (l.length : Int) (j : Int) s k = k (markB s (l.drop j))
  | 0, _, _, h, _, _ => by omega
  | n + 1, j, s, hn, hj, hs => by
    rw [spec_l8In_l3]
    by_cases h : j < l.length
    · have hx := hr l[j] (List.getElem_mem h)
      rw [dlt h, dnn, getD_at _ _ h, wrapS h hb, List.drop_eq_getElem_cons h, decide_eq_true hx.1, decide_eq_true (show l[j] < (s.length : Int) by omega)]
      simp only [cond_true]
      rw [spec_l8In_loop l hb hr k n (j + 1) _ (by omega) (by omega) (by simpa using hs)]
      rfl
    · rw [dge (by omega), List.drop_eq_nil_iff.2 (by omega)]; rfl
theorem spec_l8In_eq {R : Type} {n : Nat} {l : List Int} (hb : l.length ≤ 9223372036854775807) (hn : l.length < n) (hs : setB l = true) (k : List Bool → Option R) : spec_l8In n l k = k (markB (List.replicate 40 false) l) := by
  unfold spec_l8In
  have := spec_l8In_loop l hb (fun x hx => setB_mem hs hx) k n 0 (List.replicate 40 false) (by omega) (by omega) (by simp)
  rw [show ((0 : Nat) : Int) = 0 from rfl, List.drop_zero] at this
  exact this
theorem mark_get {m : List Int} (hs : setB m = true) {z : Int} (h0 : 0 ≤ z) (h1 : z ≤ 39) : (markB (List.replicate 40 false) m).getD z.toNat false = decide (z ∈ m) := by
  rw [markB_get m _ z (fun x hx => (setB_mem hs hx).1) h0 (by simp; omega)]
  have : (List.replicate 40 false).getD z.toNat false = false := by
    rw [List.getD_eq_getElem?_getD, List.getElem?_replicate]
    split <;> rfl
  rw [this, Bool.false_or]
theorem spec_l8Holds_eq {R : Type} {n : Nat} {m b : List Int} (hm : setB m = true) (hb : setB b = true) (hl : b.length ≤ 1048576) (hn : 3000000 ≤ n) (hd : Int) (k : Bool → Option R) :
    spec_l8Holds n hd b (markB (List.replicate 40 false) m) k = k (b.all fun x => decide (x ∈ m)) := by
  unfold spec_l8Holds
  have hlen : (markB (List.replicate 40 false) m).length = 40 := by rw [markB_length]; simp
  have := loop_all0 b (fun x => decide (x ∈ m)) 0 (fun n i => spec_l8Holds_l2 n (markB (List.replicate 40 false) m) b (b.length : Int) i (fun r1 => k r1) (k true)) (k true) (k false) (fun n j h hn => by
    have hx := setB_mem hb (List.getElem_mem h)
    show spec_l8Holds_l2 (n + 1) _ b (b.length : Int) (j : Int) _ _ = _
    rw [spec_l8Holds_l2]
    rw [dlt h, dnn, getD_at _ _ h, wrapS h (by omega), hlen, decide_eq_true hx.1, decide_eq_true (show b[j] < ((40 : Nat) : Int) by omega), mark_get hm hx.1 hx.2]
    simp only [cond_true]
    cases decide (b[j] ∈ m) <;> rfl) (fun n => by
    show spec_l8Holds_l2 (n + 1) _ b (b.length : Int) (b.length : Int) _ _ = _
    rw [spec_l8Holds_l2]
    rw [dge (by omega)]; rfl) (n := n) (by omega)
  rw [this]
  cases b.all fun x => decide (x ∈ m) <;> rfl
/-- A set is a model of rules. -/
def modelB (l : List (Int × List Int)) (m : List Int) : Bool := l.all fun x => !(x.2.all fun y => decide (y ∈ m)) || decide (x.1 ∈ m)
theorem okRules_all {l : List (Int × List Int)} (h : okRules l = true) {x : Int × List Int} (hx : x ∈ l) : 0 ≤ x.1 ∧ x.1 ≤ 39 ∧ setB x.2 = true := by
  simp only [okRules, Bool.and_eq_true, List.all_eq_true, okRule, decide_eq_true_eq] at h
  have := h.2 x hx
  exact ⟨this.1.1, this.1.2, this.2⟩
theorem spec_IsModel_eq {R : Type} {n : Nat} {l : List (Int × List Int)} {m : List Int} (hl : l.length ≤ 1048576) (hx : ∀ x ∈ l, x.2.length ≤ 1048576) (hm : m.length ≤ 1048576) (hn : 5000000 ≤ n) (k : Bool → Bool → Option R) :
    spec_IsModel n l m k = if okRules l = true ∧ setB m = true then k (modelB l m) true else k false false := by
  unfold spec_IsModel
  rw [spec_GoodRules_eq hl hx (by omega)]
  cases ho : okRules l with
  | false => rfl
  | true =>
    rw [spec_l8Set_eq (by omega) (by omega)]
    cases hs : setB m with
    | false => rfl
    | true =>
      simp only [Bool.not_true, cond_false, and_self, if_true]
      rw [spec_l8In_eq (by omega) (by omega) hs]
      have hlen : (markB (List.replicate 40 false) m).length = 40 := by rw [markB_length]; simp
      have := loop_all0 l (fun x => !(x.2.all fun y => decide (y ∈ m)) || decide (x.1 ∈ m)) 3000000 (fun n i => spec_IsModel_l5 n l (l.length : Int) i (markB (List.replicate 40 false) m) (fun r5 r6 => k r5 r6) (k true true)) (k true true) (k false true) (fun n j h hn => by
        have hr := okRules_all ho (List.getElem_mem h)
        have hbl := hx l[j] (List.getElem_mem h)
        show spec_IsModel_l5 (n + 1) l (l.length : Int) (j : Int) _ _ _ = _
        rw [spec_IsModel_l5]
        rw [dlt h, dnn, getD_at _ _ h, wrapS h (by omega), hlen, decide_eq_true hr.1, decide_eq_true (show l[j].1 < ((40 : Nat) : Int) by omega), mark_get hs hr.1 hr.2.1]
        simp only [cond_true, spec_l8Holds_eq hs hr.2.2 hbl hn]
        cases l[j].2.all fun y => decide (y ∈ m) <;> cases decide (l[j].1 ∈ m) <;> rfl) (fun n => by
        show spec_IsModel_l5 (n + 1) l (l.length : Int) (l.length : Int) _ _ _ = _
        rw [spec_IsModel_l5]
        rw [dge (by omega)]; rfl) (n := n) (by omega)
      rw [this]
      unfold modelB
      cases l.all fun x => !(x.2.all fun y => decide (y ∈ m)) || decide (x.1 ∈ m) <;> rfl
theorem impl_IsModel_eq {R : Type} {n : Nat} {l : List (Int × List Int)} {m : List Int} (hl : l.length ≤ 1048576) (hx : ∀ x ∈ l, x.2.length ≤ 1048576) (hm : m.length ≤ 1048576) (hn : 5000000 ≤ n) (k : Bool → Bool → Option R) :
    impl_IsModel n l m k = if okRules l = true ∧ setB m = true then k (modelB l m) true else k false false := by
  unfold impl_IsModel impl_rulesOk
  rw [impl_GoodRules_eq hl hx (by omega)]
  cases ho : okRules l with
  | false => rfl
  | true =>
    rw [cond_true, impl_isSet_eq (by omega) (by omega)]
    cases hs : setB m with
    | false => rfl
    | true =>
      simp only [Bool.not_true, cond_false, and_self, if_true]
      unfold slices_ContainsFunc_impl_Rule_impl_IsModel_c1 slices_IndexFunc_impl_Rule_impl_IsModel_c1
      have := loop_all0 l (fun x => !(x.2.all fun y => decide (y ∈ m)) || decide (x.1 ∈ m)) 3000000 (fun n i => slices_IndexFunc_impl_Rule_impl_IsModel_c1_l2 n l (l.length : Int) i m (fun r3 r4 => k (!decide (r3 ≥ 0)) true) (fun r5 => k (!decide ((-1 : Int) ≥ 0)) true)) (k true true) (k false true) (fun n j h hn => by
        have hbl := hx l[j] (List.getElem_mem h)
        show slices_IndexFunc_impl_Rule_impl_IsModel_c1_l2 (n + 1) l (l.length : Int) (j : Int) _ _ _ = _
        rw [slices_IndexFunc_impl_Rule_impl_IsModel_c1_l2]
        rw [dlt h, dnn, getD_at _ _ h, wrapS h (by omega)]
        simp only [cond_true, impl_IsModel_c1, impl_contains_eq hm hbl hn, slices_Contains_eq (show m.length ≤ 9223372036854775807 by omega) (show m.length < n by omega)]
        have hj : (k (!decide ((j : Int) ≥ 0)) true) = k false true := by rw [decide_eq_true (show (j : Int) ≥ 0 by omega)]; rfl
        cases l[j].2.all fun y => decide (y ∈ m) with
        | false => rfl
        | true =>
          cases decide (l[j].1 ∈ m) with
          | true => rfl
          | false => exact hj) (fun n => by
        show slices_IndexFunc_impl_Rule_impl_IsModel_c1_l2 (n + 1) l (l.length : Int) (l.length : Int) _ _ _ = _
        rw [slices_IndexFunc_impl_Rule_impl_IsModel_c1_l2]
        rw [dge (by omega)]; rfl) (n := n) (by omega)
      rw [this]
      unfold modelB
      cases l.all fun x => !(x.2.all fun y => decide (y ∈ m)) || decide (x.1 ∈ m) <;> rfl
theorem key {R : Type} {n : Nat} (l : List (Int × List Int)) (m : List Int) (hn : 5000000 + l.length ≤ n) (hl : l.length ≤ 9223372036854775807) (hb : ∀ x ∈ l, x.2.length ≤ 9223372036854775807) (k : Bool → Option R) : laws_FnExactIsModel n l m k = k true := by
  unfold laws_FnExactIsModel
  by_cases hm : (m.length : Int) > 1048576
  · rw [decide_eq_true hm]; rfl
  · rw [decide_eq_false hm, cond_false]
    obtain ⟨r, h1, h2⟩ := laws_szRuleS_eq (n := n) hl hb (by omega)
    rw [h1]
    by_cases c : r < 0
    · rw [decide_eq_true c]; rfl
    · rw [decide_eq_false c, cond_false]
      obtain ⟨a, b⟩ := h2 (by omega)
      simp only [laws_toRuleS_eq a b (show 3000000 ≤ n by omega), laws_toIntS_eq (show m.length ≤ 1048576 by omega) (show m.length < n by omega), spec_IsModel_eq a b (show m.length ≤ 1048576 by omega) (show 5000000 ≤ n by omega), impl_IsModel_eq a b (show m.length ≤ 1048576 by omega) (show 5000000 ≤ n by omega),
        laws_eqRuleS_refl a b (show 3000000 ≤ n by omega), laws_eqIntS_eq (show m.length ≤ 9223372036854775807 by omega) (show m.length < n by omega)]
      split <;> simp
theorem plain : Plain := fun l m hl _ _ k => ⟨_, key l m (Nat.le_refl _) hl.1 (fun x hx => (hl.2 x hx).2.1) k⟩
end Go.Am.G
