/- The plain law: what the functions compute answers as the law says, for all arguments. -/
import Derived.Test.YtkbaenelfhakbaaF4
set_option linter.unusedVariables false
set_option linter.unusedSimpArgs false
namespace Go.Am.G
open Go Go.Am
theorem wrap64 {x : Int} (h1 : -9223372036854775808 ≤ x) (h2 : x ≤ 9223372036854775807) : IntKind.wrap .i64 x = x := by
  simp only [IntKind.wrap, IntKind.signed, IntKind.bits]
  simp
  omega
theorem spec_l1In_eq {R : Type} (n : Nat) (x a b : Int) (k : Bool → Option R) : spec_l1In n x a b k = k (decide (a ≤ x ∧ x ≤ b)) := by
  simp only [spec_l1In]
  by_cases h : x ≥ a
  · have : a ≤ x := h
    simp [this]
  · have : ¬ a ≤ x := h
    simp [this]
theorem impl_in_eq {R : Type} (n : Nat) (x a b : Int) (k : Bool → Option R) : impl_in n x a b k = k (decide (a ≤ x ∧ x ≤ b)) := by
  simp only [impl_in]
  by_cases h : x ≥ a
  · have : a ≤ x := h
    simp [this]
  · have : ¬ a ≤ x := h
    simp [this]
theorem bifk {R α : Type} (b : Bool) (x y : α) (k : α → Option R) : (bif b then k x else k y) = k (bif b then x else y) := by cases b <;> rfl
theorem getD_at {α : Type} (l : List α) (d : α) {j : Nat} (h : j < l.length) : l.getD (Int.toNat (j : Int)) d = l[j] := by
  rw [Int.toNat_natCast, List.getD_eq_getElem?_getD, List.getElem?_eq_getElem h]; rfl
theorem dlt {a b : Nat} (h : a < b) : decide ((a : Int) < (b : Int)) = true := decide_eq_true (by omega)
theorem dge {a b : Nat} (h : b ≤ a) : decide ((a : Int) < (b : Int)) = false := decide_eq_false (by omega)
theorem dnn (a : Nat) : decide (0 ≤ (a : Int)) = true := decide_eq_true (by omega)
theorem wrapS {j m : Nat} (h : j < m) (hm : m ≤ 9223372036854775807) : IntKind.wrap .i64 ((j : Int) + 1) = ((j + 1 : Nat) : Int) := by
  rw [wrap64 (by omega) (by omega)]; rfl
theorem laws_szItemS_eq {R : Type} (n : Nat) (l : List (Int × Int)) (left : Int) (h0 : 0 ≤ left) (h1 : left ≤ 1048576) (hl : l.length ≤ 9223372036854775807) (k : Int → Option R) :
    laws_szItemS n l left k = if left < l.length then k (-1) else k (left - l.length) := by
  unfold laws_szItemS
  rw [wrap64 (by omega) (by omega)]
  by_cases h : left < l.length
  · rw [decide_eq_true (by omega), if_pos h]; rfl
  · rw [decide_eq_false (by omega), if_neg h]; rfl
theorem laws_toItemS_loop {R : Type} (l : List (Int × Int)) (hb : l.length ≤ 9223372036854775807) (ke : List (Int × Int) → Option R) : ∀ (n j : Nat) (out : List (Int × Int)), l.length - j < n → j ≤ l.length → out.length = l.length → out.take j = l.take j →
    laws_toItemS_l3 n l (j : Int) out ke = ke l
  | 0, _, _, h, _, _, _ => by omega
  | n + 1, j, out, hn, hj, ho, ht => by
    unfold laws_toItemS_l3
    by_cases h : j < l.length
    · rw [dlt h, dnn, getD_at _ _ h, wrapS h hb, Int.toNat_natCast, ho, dlt h]
      simp only [cond_true, laws_toItem]
      refine laws_toItemS_loop l hb ke n (j + 1) _ (by omega) (by omega) (by simpa using ho) ?_
      rw [List.take_set, List.take_succ_eq_append_getElem (by omega), List.take_succ_eq_append_getElem h, ht, List.set_append_right _ _ (by simp; omega)]
      rw [show j - (l.take j).length = 0 by simp; omega]
      rfl
    · rw [dge (by omega), cond_false]
      have h1 : l.take j = l := List.take_of_length_le (by omega)
      rw [List.take_of_length_le (by omega), h1] at ht
      rw [ht]
theorem laws_toItemS_eq {R : Type} {n : Nat} {l : List (Int × Int)} (hl : l.length ≤ 1048576) (hn : l.length < n) (k : List (Int × Int) → Option R) : laws_toItemS n l k = k l := by
  unfold laws_toItemS
  rw [decide_eq_true (by omega), decide_eq_true (by omega), decide_eq_true (by omega)]
  simp only [cond_true, Int.toNat_natCast]
  exact laws_toItemS_loop l (by omega) k n 0 _ (by omega) (by omega) (by simp) (by simp)
theorem laws_eqItem_eq {R : Type} (n : Nat) (a b c d : Int) (k : Bool → Option R) : laws_eqItem n a b c d k = k (decide ((a, b) = (c, d))) := by
  unfold laws_eqItem
  by_cases h1 : a = c
  · by_cases h2 : b = d
    · simp [h1, h2]
    · have : (b != d) = true := by simpa using h2
      simp [h1, h2, this]
  · have : (a != c) = true := by simpa using h1
    simp [h1, this]
theorem laws_eqItemS_loop {R : Type} (xs ys : List (Int × Int)) (hl : xs.length = ys.length) (hb : xs.length ≤ 9223372036854775807) (kr : Bool → Option R) (ke : Option R) : ∀ (n j : Nat), xs.length - j < n → j ≤ xs.length →
    laws_eqItemS_l4 n xs ys (j : Int) kr ke = if xs.drop j = ys.drop j then ke else kr false
  | 0, _, h, _ => by omega
  | n + 1, j, hn, hj => by
    unfold laws_eqItemS_l4
    by_cases h : j < xs.length
    · have h' : j < ys.length := by omega
      rw [dlt h, dlt h', dnn, getD_at _ _ h, getD_at _ _ h', wrapS h hb, List.drop_eq_getElem_cons h, List.drop_eq_getElem_cons h']
      simp only [cond_true, laws_eqItem_eq]
      by_cases he : xs[j] = ys[j]
      · rw [decide_eq_true (by rw [he]), Bool.not_true, cond_false, laws_eqItemS_loop xs ys hl hb kr ke n (j + 1) (by omega) (by omega)]
        simp only [List.cons.injEq, he, true_and]
      · rw [decide_eq_false (by exact he), Bool.not_false, cond_true, if_neg fun h => he (List.cons.inj h).1]
    · rw [dge (by omega)]
      have h1 : xs.drop j = [] := List.drop_eq_nil_iff.2 (by omega)
      have h2 : ys.drop j = [] := List.drop_eq_nil_iff.2 (by omega)
      simp [h1, h2]
theorem laws_eqItemS_eq {R : Type} {n : Nat} {xs ys : List (Int × Int)} (hb : xs.length ≤ 9223372036854775807) (hn : xs.length < n) (k : Bool → Option R) : laws_eqItemS n xs ys k = k (decide (xs = ys)) := by
  unfold laws_eqItemS
  by_cases hl : xs.length = ys.length
  · have : ((xs.length : Int) != (ys.length : Int)) = false := by simp [hl]
    rw [this, cond_false]
    have := laws_eqItemS_loop xs ys hl hb k (k true) n 0 (by omega) (by omega)
    simp only [List.drop_zero] at this
    rw [show ((0 : Nat) : Int) = 0 from rfl] at this
    rw [this]
    split <;> simp_all
  · have : ((xs.length : Int) != (ys.length : Int)) = true := by simp; omega
    rw [this, cond_true, decide_eq_false fun h => hl (by rw [h])]
def goodFrom : Int → Int → List (Int × Int) → Bool
  | _, _, [] => true
  | u, v, x :: r => decide (u < x.1 ∧ x.1 ≤ 1000 ∧ v < x.2 ∧ x.2 ≤ 1000000) && goodFrom x.1 x.2 r
def goodI (l : List (Int × Int)) : Bool := decide (l.length ≤ 20) && goodFrom 0 (-1) l
theorem getD_prev {α : Type} (l : List α) (d : α) {j : Nat} (hj : 0 < j) (h : j ≤ l.length) (hb : l.length ≤ 9223372036854775807) : IntKind.wrap .i64 ((j : Int) - 1) = ((j - 1 : Nat) : Int) := by
  rw [wrap64 (by omega) (by omega)]; omega
theorem spec_GoodItems_loop {R : Type} (l : List (Int × Int)) (hb : l.length ≤ 9223372036854775807) (kr : Bool → Option R) (ke : List (Int × Int) → Option R) : ∀ (n j : Nat) (u v : Int), l.length - j < n → j ≤ l.length → 0 ≤ u → -1 ≤ v →
    (j = 0 → u = 0 ∧ v = -1) → (∀ (h : j - 1 < l.length), 0 < j → l[j - 1] = (u, v)) →
    spec_GoodItems_l2 n l l (l.length : Int) (j : Int) kr ke = bif goodFrom u v (l.drop j) then ke l else kr false
  | 0, _, _, _, h, _, _, _, _, _ => by omega
  | n + 1, j, u, v, hn, hj, hu, hv, h0, h1 => by
    unfold spec_GoodItems_l2
    by_cases h : j < l.length
    · rw [dlt h, dnn, getD_at _ _ h, wrapS h hb, List.drop_eq_getElem_cons h]
      simp only [cond_true, spec_l1In_eq, goodFrom]
      have ih := spec_GoodItems_loop l hb kr ke n (j + 1) l[j].1 l[j].2 (by omega) (by omega)
      by_cases hz : j = 0
      · obtain ⟨rfl, rfl⟩ := h0 hz
        rw [decide_eq_false (show ¬ ((j : Int) > 0) by omega)]
        by_cases c1 : 1 ≤ l[j].1 ∧ l[j].1 ≤ 1000
        · by_cases c2 : 0 ≤ l[j].2 ∧ l[j].2 ≤ 1000000
          · rw [decide_eq_true c1, decide_eq_true c2, decide_eq_true (show 0 < l[j].1 ∧ l[j].1 ≤ 1000 ∧ -1 < l[j].2 ∧ l[j].2 ≤ 1000000 by omega)]
            simp only [Bool.not_true, cond_false, Bool.true_and]
            exact ih (by omega) (by omega) (by omega) (fun _ _ => rfl)
          · rw [decide_eq_true c1, decide_eq_false c2, decide_eq_false (show ¬ (0 < l[j].1 ∧ l[j].1 ≤ 1000 ∧ -1 < l[j].2 ∧ l[j].2 ≤ 1000000) by omega)]; rfl
        · rw [decide_eq_false c1, decide_eq_false (show ¬ (0 < l[j].1 ∧ l[j].1 ≤ 1000 ∧ -1 < l[j].2 ∧ l[j].2 ≤ 1000000) by omega)]; rfl
      · have hp : j - 1 < l.length := by omega
        have hq := h1 hp (by omega)
        rw [decide_eq_true (show ((j : Int) > 0) by omega), getD_prev l (0, 0) (by omega) (by omega) hb, dnn, dlt hp, getD_at _ _ hp, hq]
        simp only [cond_true]
        by_cases c1 : 1 ≤ l[j].1 ∧ l[j].1 ≤ 1000
        · by_cases c2 : 0 ≤ l[j].2 ∧ l[j].2 ≤ 1000000
          · rw [decide_eq_true c1, decide_eq_true c2]
            simp only [Bool.not_true, cond_false]
            by_cases c3 : u < l[j].1
            · by_cases c4 : v < l[j].2
              · rw [decide_eq_false (show ¬ (u ≥ l[j].1) by omega), decide_eq_false (show ¬ (v ≥ l[j].2) by omega), decide_eq_true (show u < l[j].1 ∧ l[j].1 ≤ 1000 ∧ v < l[j].2 ∧ l[j].2 ≤ 1000000 by omega)]
                simp only [cond_false, Bool.true_and]
                exact ih (by omega) (by omega) (by omega) (fun _ _ => rfl)
              · rw [decide_eq_false (show ¬ (u ≥ l[j].1) by omega), decide_eq_true (show (v ≥ l[j].2) by omega), decide_eq_false (show ¬ (u < l[j].1 ∧ l[j].1 ≤ 1000 ∧ v < l[j].2 ∧ l[j].2 ≤ 1000000) by omega)]; rfl
            · rw [decide_eq_true (show (u ≥ l[j].1) by omega), decide_eq_false (show ¬ (u < l[j].1 ∧ l[j].1 ≤ 1000 ∧ v < l[j].2 ∧ l[j].2 ≤ 1000000) by omega)]; rfl
          · rw [decide_eq_true c1, decide_eq_false c2, decide_eq_false (show ¬ (u < l[j].1 ∧ l[j].1 ≤ 1000 ∧ v < l[j].2 ∧ l[j].2 ≤ 1000000) by omega)]; rfl
        · rw [decide_eq_false c1, decide_eq_false (show ¬ (u < l[j].1 ∧ l[j].1 ≤ 1000 ∧ v < l[j].2 ∧ l[j].2 ≤ 1000000) by omega)]; rfl
    · rw [dge (by omega), List.drop_eq_nil_iff.2 (by omega)]; rfl
theorem spec_GoodItems_eq {R : Type} {n : Nat} {l : List (Int × Int)} (hb : l.length ≤ 9223372036854775807) (hn : l.length < n) (k : Bool → Option R) : spec_GoodItems n l k = k (goodI l) := by
  unfold spec_GoodItems
  have := spec_GoodItems_loop l hb k (fun r4 => k (decide ((r4.length : Int) ≤ 20))) n 0 0 (-1) (by omega) (by omega) (by omega) (by omega) (fun _ => ⟨rfl, rfl⟩) (fun _ h => by omega)
  rw [show ((0 : Nat) : Int) = 0 from rfl] at this
  rw [this, List.drop_zero, bifk]
  congr 1
  unfold goodI
  cases goodFrom 0 (-1) l with
  | true => simp only [cond_true, Bool.and_true]; apply decide_eq_decide.2; omega
  | false => simp
theorem impl_isVersion_eq {R : Type} (n : Nat) (x : Int) (k : Bool → Option R) : impl_isVersion n x k = k (decide (0 ≤ x ∧ x ≤ 1000000)) := by
  unfold impl_isVersion
  rw [impl_in_eq]
theorem impl_GoodItems_loop {R : Type} (l : List (Int × Int)) (hb : l.length ≤ 9223372036854775807) (kr : Bool → Option R) (ke : Option R) : ∀ (n j : Nat) (u v : Int), l.length - j < n → j ≤ l.length → 0 ≤ u → -1 ≤ v →
    (j = 0 → u = 0 ∧ v = -1) → (∀ (h : j - 1 < l.length), 0 < j → l[j - 1] = (u, v)) →
    impl_GoodItems_l4 n l l (l.length : Int) (j : Int) kr ke = bif goodFrom u v (l.drop j) then ke else kr false
  | 0, _, _, _, h, _, _, _, _, _ => by omega
  | n + 1, j, u, v, hn, hj, hu, hv, h0, h1 => by
    unfold impl_GoodItems_l4
    by_cases h : j < l.length
    · rw [dlt h, dnn, getD_at _ _ h, wrapS h hb, List.drop_eq_getElem_cons h]
      simp only [cond_true, impl_in_eq, impl_isVersion_eq, goodFrom]
      have ih := impl_GoodItems_loop l hb kr ke n (j + 1) l[j].1 l[j].2 (by omega) (by omega)
      by_cases hz : j = 0
      · obtain ⟨rfl, rfl⟩ := h0 hz
        rw [decide_eq_false (show ¬ ((j : Int) > 0) by omega)]
        by_cases c1 : 1 ≤ l[j].1 ∧ l[j].1 ≤ 1000
        · by_cases c2 : 0 ≤ l[j].2 ∧ l[j].2 ≤ 1000000
          · rw [decide_eq_true c1, decide_eq_true c2, decide_eq_true (show 0 < l[j].1 ∧ l[j].1 ≤ 1000 ∧ -1 < l[j].2 ∧ l[j].2 ≤ 1000000 by omega)]
            simp only [Bool.not_true, cond_false, Bool.true_and]
            exact ih (by omega) (by omega) (by omega) (fun _ _ => rfl)
          · rw [decide_eq_true c1, decide_eq_false c2, decide_eq_false (show ¬ (0 < l[j].1 ∧ l[j].1 ≤ 1000 ∧ -1 < l[j].2 ∧ l[j].2 ≤ 1000000) by omega)]; rfl
        · rw [decide_eq_false c1, decide_eq_false (show ¬ (0 < l[j].1 ∧ l[j].1 ≤ 1000 ∧ -1 < l[j].2 ∧ l[j].2 ≤ 1000000) by omega)]; rfl
      · have hp : j - 1 < l.length := by omega
        have hq := h1 hp (by omega)
        rw [decide_eq_true (show ((j : Int) > 0) by omega), getD_prev l (0, 0) (by omega) (by omega) hb, dnn, dlt hp, getD_at _ _ hp, hq]
        simp only [cond_true]
        by_cases c1 : 1 ≤ l[j].1 ∧ l[j].1 ≤ 1000
        · by_cases c2 : 0 ≤ l[j].2 ∧ l[j].2 ≤ 1000000
          · rw [decide_eq_true c1, decide_eq_true c2]
            simp only [Bool.not_true, cond_false]
            by_cases c3 : u < l[j].1
            · by_cases c4 : v < l[j].2
              · rw [decide_eq_false (show ¬ (l[j].1 ≤ u) by omega), decide_eq_false (show ¬ (l[j].2 ≤ v) by omega), decide_eq_true (show u < l[j].1 ∧ l[j].1 ≤ 1000 ∧ v < l[j].2 ∧ l[j].2 ≤ 1000000 by omega)]
                simp only [cond_false, Bool.true_and]
                exact ih (by omega) (by omega) (by omega) (fun _ _ => rfl)
              · rw [decide_eq_false (show ¬ (l[j].1 ≤ u) by omega), decide_eq_true (show (l[j].2 ≤ v) by omega), decide_eq_false (show ¬ (u < l[j].1 ∧ l[j].1 ≤ 1000 ∧ v < l[j].2 ∧ l[j].2 ≤ 1000000) by omega)]; rfl
            · rw [decide_eq_true (show (l[j].1 ≤ u) by omega), decide_eq_false (show ¬ (u < l[j].1 ∧ l[j].1 ≤ 1000 ∧ v < l[j].2 ∧ l[j].2 ≤ 1000000) by omega)]; rfl
          · rw [decide_eq_true c1, decide_eq_false c2, decide_eq_false (show ¬ (u < l[j].1 ∧ l[j].1 ≤ 1000 ∧ v < l[j].2 ∧ l[j].2 ≤ 1000000) by omega)]; rfl
        · rw [decide_eq_false c1, decide_eq_false (show ¬ (u < l[j].1 ∧ l[j].1 ≤ 1000 ∧ v < l[j].2 ∧ l[j].2 ≤ 1000000) by omega)]; rfl
    · rw [dge (by omega), List.drop_eq_nil_iff.2 (by omega)]; rfl
theorem impl_GoodItems_eq {R : Type} {n : Nat} {l : List (Int × Int)} (hb : l.length ≤ 9223372036854775807) (hn : l.length < n) (k : Bool → Option R) : impl_GoodItems n l k = k (goodI l) := by
  unfold impl_GoodItems
  have := impl_GoodItems_loop l hb k (k true) n 0 0 (-1) (by omega) (by omega) (by omega) (by omega) (fun _ => ⟨rfl, rfl⟩) (fun _ h => by omega)
  rw [show ((0 : Nat) : Int) = 0 from rfl] at this
  rw [this, List.drop_zero, bifk, bifk]
  congr 1
  unfold goodI
  by_cases h : l.length ≤ 20
  · rw [decide_eq_false (by omega), decide_eq_true h]
    cases goodFrom 0 (-1) l <;> rfl
  · rw [decide_eq_true (by omega), decide_eq_false h]
    cases goodFrom 0 (-1) l <;> rfl
/-- The last of items, by what it tells. -/
def lastI (l : List (Int × Int)) : Int × Int := l.getLast?.getD (0, 0)
theorem getD_last {l : List (Int × Int)} (h : l ≠ []) (hb : l.length ≤ 9223372036854775807) : l.getD (Int.toNat (IntKind.wrap .i64 ((l.length : Int) - 1))) (0, 0) = lastI l := by
  have := List.length_pos_iff.2 h
  rw [wrap64 (by omega) (by omega), show (l.length : Int) - 1 = ((l.length - 1 : Nat) : Int) by omega, getD_at _ _ (by omega), ← List.getLast_eq_getElem h]
  rw [lastI, List.getLast?_eq_some_getLast h]; rfl
theorem dlast {l : List (Int × Int)} (h : l ≠ []) (hb : l.length ≤ 9223372036854775807) : decide (0 ≤ IntKind.wrap .i64 ((l.length : Int) - 1)) = true ∧ decide (IntKind.wrap .i64 ((l.length : Int) - 1) < (l.length : Int)) = true := by
  have := List.length_pos_iff.2 h
  rw [wrap64 (by omega) (by omega)]
  exact ⟨decide_eq_true (by omega), decide_eq_true (by omega)⟩
theorem len0 {l : List (Int × Int)} (h : l ≠ []) : ((l.length : Int) == 0) = false := by
  have := List.length_pos_iff.2 h
  simp; omega
theorem impl_last_eq {R : Type} {n : Nat} {l : List (Int × Int)} (hb : l.length ≤ 9223372036854775807) (k : Int → Option R) : impl_last n l k = k (lastI l).1 := by
  unfold impl_last
  by_cases h : l = []
  · subst h; rfl
  · rw [len0 h, (dlast h hb).1, (dlast h hb).2, getD_last h hb]; rfl
theorem spec_l11Last_eq {R : Type} {n : Nat} {l : List (Int × Int)} (hb : l.length ≤ 9223372036854775807) (k : Int → Option R) : spec_l11Last n l k = k (lastI l).1 := by
  unfold spec_l11Last
  by_cases h : l = []
  · subst h; rfl
  · rw [len0 h, (dlast h hb).1, (dlast h hb).2, getD_last h hb]; rfl
theorem goodI_len {l : List (Int × Int)} (h : goodI l = true) : l.length ≤ 20 := by
  simp only [goodI, Bool.and_eq_true, decide_eq_true_eq] at h
  exact h.1
/-- Items that are cut: what is told behind the last id falls away. -/
def cutF (upto : Int) : Int → List (Int × Int) → List (Int × Int)
  | _, [] => []
  | u, x :: r => if u < upto then (if upto < x.1 then (upto, x.2) :: cutF upto upto r else x :: cutF upto x.1 r) else []
theorem cutF_stop {upto : Int} : ∀ r, cutF upto upto r = []
  | [] => rfl
  | x :: r => by unfold cutF; rw [if_neg (by omega)]
theorem lastI_snoc (l : List (Int × Int)) (x : Int × Int) : lastI (l ++ [x]) = x := by simp [lastI]
theorem cutF_length {upto : Int} : ∀ (r : List (Int × Int)) (u : Int), (cutF upto u r).length ≤ r.length
  | [], _ => by simp [cutF]
  | x :: r, u => by
    have h1 := cutF_length (upto := upto) r upto
    have h2 := cutF_length (upto := upto) r x.1
    unfold cutF
    split
    · split <;> simp <;> omega
    · simp
theorem spec_l11Cut_loop {R : Type} {l : List (Int × Int)} (hl : l.length ≤ 9223372036854775807) (upto : Int) (k : List (Int × Int) → Option R) : ∀ (n j : Nat) (v : Int) (out : List (Int × Int)), l.length - j < n → j ≤ l.length → out.length ≤ j → out.length + (l.length - j) ≤ 1000000 → (lastI out).1 ≤ upto → goodFrom (lastI out).1 v (l.drop j) = true →
    spec_l11Cut_l3 n upto l (l.length : Int) (j : Int) out k = k (out ++ cutF upto (lastI out).1 (l.drop j))
  | 0, _, _, _, h, _, _, _, _, _ => by omega
  | n + 1, j, v, out, hn, hj, ho, ho2, hu, hg => by
    unfold spec_l11Cut_l3
    by_cases h : j < l.length
    · rw [List.drop_eq_getElem_cons h] at hg ⊢
      simp only [goodFrom, Bool.and_eq_true, decide_eq_true_eq] at hg
      rw [dlt h, dnn, getD_at _ _ h, wrapS h hl]
      simp only [cond_true, spec_l11Last_eq (show out.length ≤ 9223372036854775807 by omega)]
      unfold cutF
      by_cases c : (lastI out).1 = upto
      · rw [beq_iff_eq.2 c, if_neg (by omega)]; simp
      · rw [beq_eq_false_iff_ne.2 c, if_pos (by omega), cond_false, decide_eq_true (show out.length + [(upto, l[j].2)].length ≤ LIM by simp [LIM]; omega), decide_eq_true (show out.length + [(l[j].1, l[j].2)].length ≤ LIM by simp [LIM]; omega)]
        by_cases c2 : upto < l[j].1
        · rw [decide_eq_true (show l[j].1 > upto by omega), if_pos c2, cond_true, cond_true]
          cases n with
          | zero => omega
          | succ n =>
            unfold spec_l11Cut_l3
            by_cases h' : j + 1 < l.length
            · rw [dlt h', dnn, cond_true, cond_true, cond_true, spec_l11Last_eq (by simp; omega), lastI_snoc, beq_self_eq_true, cond_true, cutF_stop]
            · rw [dge (by omega), cond_false, cutF_stop]
        · rw [decide_eq_false (show ¬ l[j].1 > upto by omega), if_neg c2, cond_false, cond_true]
          have := spec_l11Cut_loop hl upto k n (j + 1) l[j].2 (out ++ [(l[j].1, l[j].2)]) (by omega) (by omega) (by simp; omega) (by simp; omega) (by rw [lastI_snoc]; exact Int.not_lt.1 c2) (by rw [lastI_snoc]; exact hg.2)
          rw [this, lastI_snoc]
          simp
    · rw [dge (by omega), List.drop_eq_nil_iff.2 (by omega)]
      simp [cutF]
theorem impl_cut_loop {R : Type} {l : List (Int × Int)} (hl : l.length ≤ 9223372036854775807) (upto : Int) (k : List (Int × Int) → Option R) : ∀ (n j : Nat) (v : Int) (out : List (Int × Int)), l.length - j < n → j ≤ l.length → out.length ≤ j → out.length + (l.length - j) ≤ 1000000 → (lastI out).1 ≤ upto → ((lastI out).1 = upto ∨ goodFrom (lastI out).1 v (l.drop j) = true) →
    impl_CutItems_l5 n upto l (l.length : Int) (j : Int) out k = k (out ++ cutF upto (lastI out).1 (l.drop j))
  | 0, _, _, _, h, _, _, _, _, _ => by omega
  | n + 1, j, v, out, hn, hj, ho, ho2, hu, hg => by
    unfold impl_CutItems_l5
    by_cases h : j < l.length
    · rw [List.drop_eq_getElem_cons h] at hg ⊢
      rw [dlt h, dnn, getD_at _ _ h, wrapS h hl]
      simp only [cond_true, impl_last_eq (show out.length ≤ 9223372036854775807 by omega)]
      by_cases c : (lastI out).1 = upto
      · rw [decide_eq_false (by omega), cond_false, impl_cut_loop hl upto k n (j + 1) 0 out (by omega) (by omega) (by omega) (by omega) hu (.inl c), c, cutF_stop, cutF_stop]
      · have hg := hg.resolve_left c
        simp only [goodFrom, Bool.and_eq_true, decide_eq_true_eq] at hg
        unfold cutF
        rw [decide_eq_true (show (lastI out).1 < upto by omega), if_pos (show (lastI out).1 < upto by omega), cond_true]
        by_cases c2 : upto < l[j].1
        · rw [if_pos c2, if_pos c2, decide_eq_true (by simp [LIM]; omega), cond_true,
            impl_cut_loop hl upto k n (j + 1) 0 (out ++ [(upto, l[j].2)]) (by omega) (by omega) (by simp; omega) (by simp; omega) (by rw [lastI_snoc]; exact Int.le_refl _) (.inl (by rw [lastI_snoc])), lastI_snoc]
          simp
        · rw [if_neg c2, if_neg c2, decide_eq_true (by simp [LIM]; omega), cond_true,
            impl_cut_loop hl upto k n (j + 1) l[j].2 (out ++ [(l[j].1, l[j].2)]) (by omega) (by omega) (by simp; omega) (by simp; omega) (by rw [lastI_snoc]; exact Int.not_lt.1 c2) (.inr (by rw [lastI_snoc]; exact hg.2)), lastI_snoc]
          simp
    · rw [dge (by omega), List.drop_eq_nil_iff.2 (by omega)]
      simp [cutF]
theorem goodI_from {l : List (Int × Int)} (h : goodI l = true) : goodFrom 0 (-1) l = true := by
  simp only [goodI, Bool.and_eq_true] at h
  exact h.2
theorem spec_l11Cut_eq {R : Type} {l : List (Int × Int)} (hg : goodI l = true) {upto : Int} (hu : 0 ≤ upto) {n : Nat} (hn : 100 ≤ n) (k : List (Int × Int) → Option R) : spec_l11Cut n l upto k = k (cutF upto 0 l) := by
  have hl := goodI_len hg
  unfold spec_l11Cut
  exact spec_l11Cut_loop (by omega) upto k n 0 (-1) [] (by omega) (by omega) (by simp) (by simp; omega) (by simpa [lastI] using hu) (by simpa [lastI] using goodI_from hg)
theorem impl_CutItems_eq {R : Type} {l : List (Int × Int)} (upto : Int) {n : Nat} (hn : 1048700 ≤ n) (hl : l.length ≤ 1048576) (k : Bool → List (Int × Int) → Option R) : impl_CutItems n l upto k = if goodI l = true ∧ 0 ≤ upto ∧ upto ≤ (lastI l).1 then k true (cutF upto 0 l) else k false [] := by
  unfold impl_CutItems
  rw [impl_GoodItems_eq (by omega) (by omega)]
  cases hg : goodI l with
  | false => simp
  | true =>
    have hl := goodI_len hg
    rw [impl_last_eq (by omega), impl_in_eq]
    by_cases c : 0 ≤ upto ∧ upto ≤ (lastI l).1
    · rw [decide_eq_true c, if_pos ⟨rfl, c⟩]
      simp only [Bool.not_true, cond_false]
      exact impl_cut_loop (by omega) upto (k true) n 0 (-1) [] (by omega) (by omega) (by simp) (by simp; omega) (by simpa [lastI] using c.1) (.inr (by simpa [lastI] using goodI_from hg))
    · rw [decide_eq_false c, if_neg fun h => c h.2]
      simp
theorem spec_CutItems_eq {R : Type} {l : List (Int × Int)} (upto : Int) {n : Nat} (hn : 1048700 ≤ n) (hl : l.length ≤ 1048576) (k : List (Int × Int) → Bool → Option R) : spec_CutItems n l upto k = if goodI l = true ∧ 0 ≤ upto ∧ upto ≤ (lastI l).1 then k (cutF upto 0 l) true else k [] false := by
  unfold spec_CutItems
  rw [spec_GoodItems_eq (by omega) (by omega)]
  cases hg : goodI l with
  | false => simp
  | true =>
    have hl := goodI_len hg
    rw [spec_l11Last_eq (by omega), spec_l1In_eq]
    by_cases c : 0 ≤ upto ∧ upto ≤ (lastI l).1
    · rw [decide_eq_true c, if_pos ⟨rfl, c⟩]
      simp only [Bool.not_true, cond_false]
      rw [spec_l11Cut_eq hg c.1 (by omega)]
    · rw [decide_eq_false c, if_neg fun h => c h.2]
      simp
/-- Items that are numbered through. -/
def marksI : Nat → Int → List (Int × Int)
  | 0, _ => []
  | m + 1, k => (k, k + 1) :: marksI m (k + 2)
theorem marksI_length : ∀ m k, (marksI m k).length = m
  | 0, _ => rfl
  | m + 1, k => by simp [marksI, marksI_length m]
theorem set_take_dropI {α : Type} {l : List α} {j : Nat} (h : j < l.length) (x : α) : (l.set j x).take (j + 1) = l.take j ++ [x] := by
  rw [List.take_set, List.take_succ_eq_append_getElem h, List.set_append_right _ _ (by simp; omega)]
  rw [show j - (l.take j).length = 0 by simp; omega]
  rfl
theorem laws_markItemS_loop {R : Type} (ke : Int → List (Int × Int) → Option R) : ∀ (n j : Nat) (l : List (Int × Int)) (q : Int), l.length - j < n → j ≤ l.length → 0 ≤ q → q + 2 * (l.length - j : Nat) ≤ 9223372036854775807 → l.length ≤ 9223372036854775807 →
    laws_markItemS_l2 n q (j : Int) l ke = ke (q + 2 * (l.length - j : Nat)) (l.take j ++ marksI (l.length - j) q)
  | 0, _, _, _, h, _, _, _, _ => by omega
  | n + 1, j, l, q, hn, hj, h0, h1, h2 => by
    unfold laws_markItemS_l2
    by_cases h : j < l.length
    · rw [dlt h, dnn, wrapS h (by omega), wrap64 (x := q + 1) (by omega) (by omega), wrap64 (x := q + 1 + 1) (by omega) (by omega), Int.toNat_natCast, List.length_set, dlt h]
      have e : (l.set j (q, (l.getD j (0, 0)).2)).getD j (0, 0) = (q, (l.getD j (0, 0)).2) := by
        rw [List.getD_eq_getElem?_getD, List.getElem?_set_self (by omega)]; rfl
      rw [e, List.set_set]
      simp only [cond_true]
      rw [laws_markItemS_loop ke n (j + 1) _ (q + 1 + 1) (by simp; omega) (by simp; omega) (by omega) (by simp; omega) (by simp; omega)]
      rw [List.length_set, set_take_dropI h, List.append_assoc, show l.length - j = (l.length - (j + 1)) + 1 by omega, marksI, show q + 1 + 1 = q + 2 by omega]
      congr 1
      omega
    · rw [dge (by omega), cond_false, show l.length - j = 0 by omega, List.take_of_length_le (by omega)]
      simp [marksI]
theorem laws_markItemS_eq {R : Type} {n : Nat} {l : List (Int × Int)} {q : Int} (hn : l.length < n) (h0 : 0 ≤ q) (h1 : q + 2 * l.length ≤ 9223372036854775807) (k : Int → List (Int × Int) → Option R) : laws_markItemS n q l k = k (q + 2 * l.length) (marksI l.length q) := by
  unfold laws_markItemS
  have := laws_markItemS_loop k n 0 l q (by omega) (by omega) h0 (by omega) (by omega)
  simp only [List.take_zero, List.nil_append, Nat.sub_zero] at this
  exact this
theorem laws_heldItemS_loop {R : Type} (l : List (Int × Int)) (kr ke : Int → Option R) : ∀ (n j : Nat) (q : Int), l.length - j < n → j ≤ l.length → 0 ≤ q → q + 2 * (l.length - j : Nat) ≤ 9223372036854775807 → l.length ≤ 9223372036854775807 → l.drop j = marksI (l.length - j) q →
    laws_heldItemS_l2 n l q (j : Int) kr ke = ke (q + 2 * (l.length - j : Nat))
  | 0, _, _, h, _, _, _, _, _ => by omega
  | n + 1, j, q, hn, hj, h0, h1, h2, h3 => by
    unfold laws_heldItemS_l2
    by_cases h : j < l.length
    · rw [show l.length - j = (l.length - (j + 1)) + 1 by omega, List.drop_eq_getElem_cons h, marksI] at h3
      injection h3 with h4 h5
      rw [dlt h, dnn, getD_at _ _ h, wrapS h h2, wrap64 (x := q + 1) (by omega) (by omega), wrap64 (x := q + 1 + 1) (by omega) (by omega), h4, bne_self_eq_false, bne_self_eq_false]
      simp only [cond_true, cond_false]
      rw [show q + 1 + 1 = q + 2 by omega, laws_heldItemS_loop l kr ke n (j + 1) (q + 2) (by omega) (by omega) (by omega) (by omega) h2 h5]
      congr 1
      omega
    · rw [dge (by omega), cond_false, show l.length - j = 0 by omega]
      simp
theorem laws_heldItemS_eq {R : Type} {n m : Nat} {q : Int} (hn : m < n) (h0 : 0 ≤ q) (h1 : q + 2 * m ≤ 9223372036854775807) (k : Int → Option R) : laws_heldItemS n (marksI m q) q k = k (q + 2 * m) := by
  unfold laws_heldItemS
  have := laws_heldItemS_loop (marksI m q) k k n 0 q (by rw [marksI_length]; omega) (by omega) h0 (by rw [marksI_length]; omega) (by rw [marksI_length]; omega) (by rw [marksI_length]; simp)
  rw [marksI_length] at this
  simp only [Nat.sub_zero] at this
  exact this
theorem key {R : Type} {n : Nat} (hn : 1049700 ≤ n) (l : List (Int × Int)) (x : Int) (hl : l.length ≤ 9223372036854775807) (k : Bool → Option R) : laws_FnExactCutItems n l x k = k true := by
  unfold laws_FnExactCutItems
  rw [laws_szItemS_eq n l _ (by omega) (by omega) hl]
  split
  · rfl
  rename_i h
  rw [decide_eq_false (by omega), cond_false]
  have a1 : l.length ≤ 1048576 := by omega
  have a2 : l.length < n := by omega
  have main : ∀ (b : Bool) (o : List (Int × Int)), o.length ≤ 1048576 → (∀ R k, impl_CutItems (R := R) n l x k = k b o) → (∀ R k, spec_CutItems (R := R) n l x k = k o b) → laws_FnExactCutItems n l x k = k true := by
    intro b o hol h1 h2
    unfold laws_FnExactCutItems
    rw [laws_szItemS_eq n l _ (by omega) (by omega) hl, if_neg h, decide_eq_false (by omega), cond_false]
    rw [laws_toItemS_eq a1 a2, h2, laws_toItemS_eq a1 a2, h1, laws_eqItemS_eq (by omega) (by omega)]
    simp only [decide_true, Bool.not_true, cond_false, beq_self_eq_true]
    rw [laws_toItemS_eq a1 a2, laws_eqItemS_eq (by omega) (by omega)]
    simp only [decide_true, Bool.not_true, cond_false, beq_self_eq_true]
    rw [laws_markItemS_eq (by omega) (by omega) (by omega), decide_eq_false (by omega), cond_false, laws_eqItemS_eq (by omega) (by omega)]
    simp only [decide_true, Bool.not_true, cond_false, beq_self_eq_true]
    rw [laws_markItemS_eq (by omega) (by omega) (by omega), laws_heldItemS_eq (by omega) (by omega) (by omega), decide_eq_false (by omega), bne_self_eq_false, cond_false, cond_false, laws_toItemS_eq a1 a2, h1, laws_eqItemS_eq (by omega) (by omega)]
    simp only [decide_true, Bool.not_true, cond_false, beq_self_eq_true]
    rw [laws_heldItemS_eq (by omega) (by omega) (by omega), decide_eq_false (by omega), bne_self_eq_false, cond_false, cond_false]
  have e : laws_FnExactCutItems n l x k = k true := by
    by_cases c : goodI l = true ∧ 0 ≤ x ∧ x ≤ (lastI l).1
    · have h3 := cutF_length (upto := x) l 0
      exact main true (cutF x 0 l) (by omega) (fun R k => by rw [impl_CutItems_eq x (by omega) a1, if_pos c]) (fun R k => by rw [spec_CutItems_eq x (by omega) a1, if_pos c])
    · exact main false [] (by simp) (fun R k => by rw [impl_CutItems_eq x (by omega) a1, if_neg c]) (fun R k => by rw [spec_CutItems_eq x (by omega) a1, if_neg c])
  unfold laws_FnExactCutItems at e
  rw [laws_szItemS_eq n l _ (by omega) (by omega) hl, if_neg h, decide_eq_false (by omega), cond_false] at e
  exact e
theorem plain : Plain := fun l x hl _ _ k => ⟨_, key (Nat.le_refl _) l x hl.1 k⟩
end Go.Am.G
