/- The plain law: what the functions compute answers as the law says, for all arguments. -/
import Derived.Test.YtkbaenelfhakbaaF5
set_option linter.unusedVariables false
set_option linter.unusedSimpArgs false
namespace Go.Am.G
open Go Go.Am
theorem wrap64 {x : Int} (h1 : -9223372036854775808 ≤ x) (h2 : x ≤ 9223372036854775807) : IntKind.wrap .i64 x = x := by
  simp only [IntKind.wrap, IntKind.signed, IntKind.bits]
  simp
  omega
theorem spec_l1In_eq {R : Type} (n : Nat) (x a b : Int) (k : Bool → Option R) : spec_l1In n x a b k = k (decide (a ≤ x ∧ x ≤ b)) := by
  simp only [spec_l1In]
  by_cases h : x ≥ a
  · have : a ≤ x := h
    simp [this]
  · have : ¬ a ≤ x := h
    simp [this]
theorem impl_in_eq {R : Type} (n : Nat) (x a b : Int) (k : Bool → Option R) : impl_in n x a b k = k (decide (a ≤ x ∧ x ≤ b)) := by
  simp only [impl_in]
  by_cases h : x ≥ a
  · have : a ≤ x := h
    simp [this]
  · have : ¬ a ≤ x := h
    simp [this]
theorem bifk {R α : Type} (b : Bool) (x y : α) (k : α → Option R) : (bif b then k x else k y) = k (bif b then x else y) := by cases b <;> rfl
theorem getD_at {α : Type} (l : List α) (d : α) {j : Nat} (h : j < l.length) : l.getD (Int.toNat (j : Int)) d = l[j] := by
  rw [Int.toNat_natCast, List.getD_eq_getElem?_getD, List.getElem?_eq_getElem h]; rfl
theorem dlt {a b : Nat} (h : a < b) : decide ((a : Int) < (b : Int)) = true := decide_eq_true (by omega)
theorem dge {a b : Nat} (h : b ≤ a) : decide ((a : Int) < (b : Int)) = false := decide_eq_false (by omega)
theorem dnn (a : Nat) : decide (0 ≤ (a : Int)) = true := decide_eq_true (by omega)
theorem wrapS {j m : Nat} (h : j < m) (hm : m ≤ 9223372036854775807) : IntKind.wrap .i64 ((j : Int) + 1) = ((j + 1 : Nat) : Int) := by
  rw [wrap64 (by omega) (by omega)]; rfl
theorem laws_szItemS_eq {R : Type} (n : Nat) (l : List (Int × Int)) (left : Int) (h0 : 0 ≤ left) (h1 : left ≤ 1048576) (hl : l.length ≤ 9223372036854775807) (k : Int → Option R) :
    laws_szItemS n l left k = if left < l.length then k (-1) else k (left - l.length) := by
  unfold laws_szItemS
  rw [wrap64 (by omega) (by omega)]
  by_cases h : left < l.length
  · rw [decide_eq_true (by omega), if_pos h]; rfl
  · rw [decide_eq_false (by omega), if_neg h]; rfl
theorem laws_toItemS_loop {R : Type} (l : List (Int × Int)) (hb : l.length ≤ 9223372036854775807) (ke : List (Int × Int) → Option R) : ∀ (n j : Nat) (out : List (Int × Int)), l.length - j < n → j ≤ l.length → out.length = l.length → out.take j = l.take j →
    laws_toItemS_l3 n l (j : Int) out ke = ke l
  | 0, _, _, h, _, _, _ => by omega
  | n + 1, j, out, hn, hj, ho, ht => by
    unfold laws_toItemS_l3
    by_cases h : j < l.length
    · rw [dlt h, dnn, getD_at _ _ h, wrapS h hb, Int.toNat_natCast, ho, dlt h]
      simp only [cond_true, laws_toItem]
      refine laws_toItemS_loop l hb ke n (j + 1) _ (by omega) (by omega) (by simpa using ho) ?_
      rw [List.take_set, List.take_succ_eq_append_getElem (by omega), List.take_succ_eq_append_getElem h, ht, List.set_append_right _ _ (by simp; omega)]
      rw [show j - (l.take j).length = 0 by simp; omega]
      rfl
    · rw [dge (by omega), cond_false]
      have h1 : l.take j = l := List.take_of_length_le (by omega)
      rw [List.take_of_length_le (by omega), h1] at ht
      rw [ht]
theorem laws_toItemS_eq {R : Type} {n : Nat} {l : List (Int × Int)} (hl : l.length ≤ 1048576) (hn : l.length < n) (k : List (Int × Int) → Option R) : laws_toItemS n l k = k l := by
  unfold laws_toItemS
  rw [decide_eq_true (by omega), decide_eq_true (by omega), decide_eq_true (by omega)]
  simp only [cond_true, Int.toNat_natCast]
  exact laws_toItemS_loop l (by omega) k n 0 _ (by omega) (by omega) (by simp) (by simp)
theorem laws_eqItem_eq {R : Type} (n : Nat) (a b c d : Int) (k : Bool → Option R) : laws_eqItem n a b c d k = k (decide ((a, b) = (c, d))) := by
  unfold laws_eqItem
  by_cases h1 : a = c
  · by_cases h2 : b = d
    · simp [h1, h2]
    · have : (b != d) = true := by simpa using h2
      simp [h1, h2, this]
  · have : (a != c) = true := by simpa using h1
    simp [h1, this]
theorem laws_eqItemS_loop {R : Type} (xs ys : List (Int × Int)) (hl : xs.length = ys.length) (hb : xs.length ≤ 9223372036854775807) (kr : Bool → Option R) (ke : Option R) : ∀ (n j : Nat), xs.length - j < n → j ≤ xs.length →
    laws_eqItemS_l4 n xs ys (j : Int) kr ke = if xs.drop j = ys.drop j then ke else kr false
  | 0, _, h, _ => by omega
  | n + 1, j, hn, hj => by
    unfold laws_eqItemS_l4
    by_cases h : j < xs.length
    · have h' : j < ys.length := by omega
      rw [dlt h, dlt h', dnn, getD_at _ _ h, getD_at _ _ h', wrapS h hb, List.drop_eq_getElem_cons h, List.drop_eq_getElem_cons h']
      simp only [cond_true, laws_eqItem_eq]
      by_cases he : xs[j] = ys[j]
      · rw [decide_eq_true (by rw [he]), Bool.not_true, cond_false, laws_eqItemS_loop xs ys hl hb kr ke n (j + 1) (by omega) (by omega)]
        simp only [List.cons.injEq, he, true_and]
      · rw [decide_eq_false (by exact he), Bool.not_false, cond_true, if_neg fun h => he (List.cons.inj h).1]
    · rw [dge (by omega)]
      have h1 : xs.drop j = [] := List.drop_eq_nil_iff.2 (by omega)
      have h2 : ys.drop j = [] := List.drop_eq_nil_iff.2 (by omega)
      simp [h1, h2]
theorem laws_eqItemS_eq {R : Type} {n : Nat} {xs ys : List (Int × Int)} (hb : xs.length ≤ 9223372036854775807) (hn : xs.length < n) (k : Bool → Option R) : laws_eqItemS n xs ys k = k (decide (xs = ys)) := by
  unfold laws_eqItemS
  by_cases hl : xs.length = ys.length
  · have : ((xs.length : Int) != (ys.length : Int)) = false := by simp [hl]
    rw [this, cond_false]
    have := laws_eqItemS_loop xs ys hl hb k (k true) n 0 (by omega) (by omega)
    simp only [List.drop_zero] at this
    rw [show ((0 : Nat) : Int) = 0 from rfl] at this
    rw [this]
    split <;> simp_all
  · have : ((xs.length : Int) != (ys.length : Int)) = true := by simp; omega
    rw [this, cond_true, decide_eq_false fun h => hl (by rw [h])]
def goodFrom : Int → Int → List (Int × Int) → Bool
  | _, _, [] => true
  | u, v, x :: r => decide (u < x.1 ∧ x.1 ≤ 1000 ∧ v < x.2 ∧ x.2 ≤ 1000000) && goodFrom x.1 x.2 r
def goodI (l : List (Int × Int)) : Bool := decide (l.length ≤ 20) && goodFrom 0 (-1) l
theorem getD_prev {α : Type} (l : List α) (d : α) {j : Nat} (hj : 0 < j) (h : j ≤ l.length) (hb : l.length ≤ 9223372036854775807) : IntKind.wrap .i64 ((j : Int) - 1) = ((j - 1 : Nat) : Int) := by
  rw [wrap64 (by omega) (by omega)]; omega
theorem spec_GoodItems_loop {R : Type} (l : List (Int × Int)) (hb : l.length ≤ 9223372036854775807) (kr : Bool → Option R) (ke : List (Int × Int) → Option R) : ∀ (n j : Nat) (u v : Int), l.length - j < n → j ≤ l.length → 0 ≤ u → -1 ≤ v →
    (j = 0 → u = 0 ∧ v = -1) → (∀ (h : j - 1 < l.length), 0 < j → l[j - 1] = (u, v)) →
    spec_GoodItems_l2 n l l (l.length : Int) (j : Int) kr ke = bif goodFrom u v (l.drop j) then ke l else kr false
  | 0, _, _, _, h, _, _, _, _, _ => by omega
  | n + 1, j, u, v, hn, hj, hu, hv, h0, h1 => by
    unfold spec_GoodItems_l2
    by_cases h : j < l.length
    · rw [dlt h, dnn, getD_at _ _ h, wrapS h hb, List.drop_eq_getElem_cons h]
      simp only [cond_true, spec_l1In_eq, goodFrom]
      have ih := spec_GoodItems_loop l hb kr ke n (j + 1) l[j].1 l[j].2 (by omega) (by omega)
      by_cases hz : j = 0
      · obtain ⟨rfl, rfl⟩ := h0 hz
        rw [decide_eq_false (show ¬ ((j : Int) > 0) by omega)]
        by_cases c1 : 1 ≤ l[j].1 ∧ l[j].1 ≤ 1000
        · by_cases c2 : 0 ≤ l[j].2 ∧ l[j].2 ≤ 1000000
          · rw [decide_eq_true c1, decide_eq_true c2, decide_eq_true (show 0 < l[j].1 ∧ l[j].1 ≤ 1000 ∧ -1 < l[j].2 ∧ l[j].2 ≤ 1000000 by omega)]
            simp only [Bool.not_true, cond_false, Bool.true_and]
            exact ih (by omega) (by omega) (by omega) (fun _ _ => rfl)
          · rw [decide_eq_true c1, decide_eq_false c2, decide_eq_false (show ¬ (0 < l[j].1 ∧ l[j].1 ≤ 1000 ∧ -1 < l[j].2 ∧ l[j].2 ≤ 1000000) by omega)]; rfl
        · rw [decide_eq_false c1, decide_eq_false (show ¬ (0 < l[j].1 ∧ l[j].1 ≤ 1000 ∧ -1 < l[j].2 ∧ l[j].2 ≤ 1000000) by omega)]; rfl
      · have hp : j - 1 < l.length := by omega
        have hq := h1 hp (by omega)
        rw [decide_eq_true (show ((j : Int) > 0) by omega), getD_prev l (0, 0) (by omega) (by omega) hb, dnn, dlt hp, getD_at _ _ hp, hq]
        simp only [cond_true]
        by_cases c1 : 1 ≤ l[j].1 ∧ l[j].1 ≤ 1000
        · by_cases c2 : 0 ≤ l[j].2 ∧ l[j].2 ≤ 1000000
          · rw [decide_eq_true c1, decide_eq_true c2]
            simp only [Bool.not_true, cond_false]
            by_cases c3 : u < l[j].1
            · by_cases c4 : v < l[j].2
              · rw [decide_eq_false (show ¬ (u ≥ l[j].1) by omega), decide_eq_false (show ¬ (v ≥ l[j].2) by omega), decide_eq_true (show u < l[j].1 ∧ l[j].1 ≤ 1000 ∧ v < l[j].2 ∧ l[j].2 ≤ 1000000 by omega)]
                simp only [cond_false, Bool.true_and]
                exact ih (by omega) (by omega) (by omega) (fun _ _ => rfl)
              · rw [decide_eq_false (show ¬ (u ≥ l[j].1) by omega), decide_eq_true (show (v ≥ l[j].2) by omega), decide_eq_false (show ¬ (u < l[j].1 ∧ l[j].1 ≤ 1000 ∧ v < l[j].2 ∧ l[j].2 ≤ 1000000) by omega)]; rfl
            · rw [decide_eq_true (show (u ≥ l[j].1) by omega), decide_eq_false (show ¬ (u < l[j].1 ∧ l[j].1 ≤ 1000 ∧ v < l[j].2 ∧ l[j].2 ≤ 1000000) by omega)]; rfl
          · rw [decide_eq_true c1, decide_eq_false c2, decide_eq_false (show ¬ (u < l[j].1 ∧ l[j].1 ≤ 1000 ∧ v < l[j].2 ∧ l[j].2 ≤ 1000000) by omega)]; rfl
        · rw [decide_eq_false c1, decide_eq_false (show ¬ (u < l[j].1 ∧ l[j].1 ≤ 1000 ∧ v < l[j].2 ∧ l[j].2 ≤ 1000000) by omega)]; rfl
    · rw [dge (by omega), List.drop_eq_nil_iff.2 (by omega)]; rfl
theorem spec_GoodItems_eq {R : Type} {n : Nat} {l : List (Int × Int)} (hb : l.length ≤ 9223372036854775807) (hn : l.length < n) (k : Bool → Option R) : spec_GoodItems n l k = k (goodI l) := by
  unfold spec_GoodItems
  have := spec_GoodItems_loop l hb k (fun r4 => k (decide ((r4.length : Int) ≤ 20))) n 0 0 (-1) (by omega) (by omega) (by omega) (by omega) (fun _ => ⟨rfl, rfl⟩) (fun _ h => by omega)
  rw [show ((0 : Nat) : Int) = 0 from rfl] at this
  rw [this, List.drop_zero, bifk]
  congr 1
  unfold goodI
  cases goodFrom 0 (-1) l with
  | true => simp only [cond_true, Bool.and_true]; apply decide_eq_decide.2; omega
  | false => simp
theorem impl_isVersion_eq {R : Type} (n : Nat) (x : Int) (k : Bool → Option R) : impl_isVersion n x k = k (decide (0 ≤ x ∧ x ≤ 1000000)) := by
  unfold impl_isVersion
  rw [impl_in_eq]
theorem impl_GoodItems_loop {R : Type} (l : List (Int × Int)) (hb : l.length ≤ 9223372036854775807) (kr : Bool → Option R) (ke : Option R) : ∀ (n j : Nat) (u v : Int), l.length - j < n → j ≤ l.length → 0 ≤ u → -1 ≤ v →
    (j = 0 → u = 0 ∧ v = -1) → (∀ (h : j - 1 < l.length), 0 < j → l[j - 1] = (u, v)) →
    impl_GoodItems_l4 n l l (l.length : Int) (j : Int) kr ke = bif goodFrom u v (l.drop j) then ke else kr false
  | 0, _, _, _, h, _, _, _, _, _ => by omega
  | n + 1, j, u, v, hn, hj, hu, hv, h0, h1 => by
    unfold impl_GoodItems_l4
    by_cases h : j < l.length
    · rw [dlt h, dnn, getD_at _ _ h, wrapS h hb, List.drop_eq_getElem_cons h]
      simp only [cond_true, impl_in_eq, impl_isVersion_eq, goodFrom]
      have ih := impl_GoodItems_loop l hb kr ke n (j + 1) l[j].1 l[j].2 (by omega) (by omega)
      by_cases hz : j = 0
      · obtain ⟨rfl, rfl⟩ := h0 hz
        rw [decide_eq_false (show ¬ ((j : Int) > 0) by omega)]
        by_cases c1 : 1 ≤ l[j].1 ∧ l[j].1 ≤ 1000
        · by_cases c2 : 0 ≤ l[j].2 ∧ l[j].2 ≤ 1000000
          · rw [decide_eq_true c1, decide_eq_true c2, decide_eq_true (show 0 < l[j].1 ∧ l[j].1 ≤ 1000 ∧ -1 < l[j].2 ∧ l[j].2 ≤ 1000000 by omega)]
            simp only [Bool.not_true, cond_false, Bool.true_and]
            exact ih (by omega) (by omega) (by omega) (fun _ _ => rfl)
          · rw [decide_eq_true c1, decide_eq_false c2, decide_eq_false (show ¬ (0 < l[j].1 ∧ l[j].1 ≤ 1000 ∧ -1 < l[j].2 ∧ l[j].2 ≤ 1000000) by omega)]; rfl
        · rw [decide_eq_false c1, decide_eq_false (show ¬ (0 < l[j].1 ∧ l[j].1 ≤ 1000 ∧ -1 < l[j].2 ∧ l[j].2 ≤ 1000000) by omega)]; rfl
      · have hp : j - 1 < l.length := by omega
        have hq := h1 hp (by omega)
        rw [decide_eq_true (show ((j : Int) > 0) by omega), getD_prev l (0, 0) (by omega) (by omega) hb, dnn, dlt hp, getD_at _ _ hp, hq]
        simp only [cond_true]
        by_cases c1 : 1 ≤ l[j].1 ∧ l[j].1 ≤ 1000
        · by_cases c2 : 0 ≤ l[j].2 ∧ l[j].2 ≤ 1000000
          · rw [decide_eq_true c1, decide_eq_true c2]
            simp only [Bool.not_true, cond_false]
            by_cases c3 : u < l[j].1
            · by_cases c4 : v < l[j].2
              · rw [decide_eq_false (show ¬ (l[j].1 ≤ u) by omega), decide_eq_false (show ¬ (l[j].2 ≤ v) by omega), decide_eq_true (show u < l[j].1 ∧ l[j].1 ≤ 1000 ∧ v < l[j].2 ∧ l[j].2 ≤ 1000000 by omega)]
                simp only [cond_false, Bool.true_and]
                exact ih (by omega) (by omega) (by omega) (fun _ _ => rfl)
              · rw [decide_eq_false (show ¬ (l[j].1 ≤ u) by omega), decide_eq_true (show (l[j].2 ≤ v) by omega), decide_eq_false (show ¬ (u < l[j].1 ∧ l[j].1 ≤ 1000 ∧ v < l[j].2 ∧ l[j].2 ≤ 1000000) by omega)]; rfl
            · rw [decide_eq_true (show (l[j].1 ≤ u) by omega), decide_eq_false (show ¬ (u < l[j].1 ∧ l[j].1 ≤ 1000 ∧ v < l[j].2 ∧ l[j].2 ≤ 1000000) by omega)]; rfl
          · rw [decide_eq_true c1, decide_eq_false c2, decide_eq_false (show ¬ (u < l[j].1 ∧ l[j].1 ≤ 1000 ∧ v < l[j].2 ∧ l[j].2 ≤ 1000000) by omega)]; rfl
        · rw [decide_eq_false c1, decide_eq_false (show ¬ (u < l[j].1 ∧ l[j].1 ≤ 1000 ∧ v < l[j].2 ∧ l[j].2 ≤ 1000000) by omega)]; rfl
    · rw [dge (by omega), List.drop_eq_nil_iff.2 (by omega)]; rfl
theorem impl_GoodItems_eq {R : Type} {n : Nat} {l : List (Int × Int)} (hb : l.length ≤ 9223372036854775807) (hn : l.length < n) (k : Bool → Option R) : impl_GoodItems n l k = k (goodI l) := by
  unfold impl_GoodItems
  have := impl_GoodItems_loop l hb k (k true) n 0 0 (-1) (by omega) (by omega) (by omega) (by omega) (fun _ => ⟨rfl, rfl⟩) (fun _ h => by omega)
  rw [show ((0 : Nat) : Int) = 0 from rfl] at this
  rw [this, List.drop_zero, bifk, bifk]
  congr 1
  unfold goodI
  by_cases h : l.length ≤ 20
  · rw [decide_eq_false (by omega), decide_eq_true h]
    cases goodFrom 0 (-1) l <;> rfl
  · rw [decide_eq_true (by omega), decide_eq_false h]
    cases goodFrom 0 (-1) l <;> rfl
/-- The last of items, by what it tells. -/
def lastI (l : List (Int × Int)) : Int × Int := l.getLast?.getD (0, 0)
theorem getD_last {l : List (Int × Int)} (h : l ≠ []) (hb : l.length ≤ 9223372036854775807) : l.getD (Int.toNat (IntKind.wrap .i64 ((l.length : Int) - 1))) (0, 0) = lastI l := by
  have := List.length_pos_iff.2 h
  rw [wrap64 (by omega) (by omega), show (l.length : Int) - 1 = ((l.length - 1 : Nat) : Int) by omega, getD_at _ _ (by omega), ← List.getLast_eq_getElem h]
  rw [lastI, List.getLast?_eq_some_getLast h]; rfl
theorem dlast {l : List (Int × Int)} (h : l ≠ []) (hb : l.length ≤ 9223372036854775807) : decide (0 ≤ IntKind.wrap .i64 ((l.length : Int) - 1)) = true ∧ decide (IntKind.wrap .i64 ((l.length : Int) - 1) < (l.length : Int)) = true := by
  have := List.length_pos_iff.2 h
  rw [wrap64 (by omega) (by omega)]
  exact ⟨decide_eq_true (by omega), decide_eq_true (by omega)⟩
theorem len0 {l : List (Int × Int)} (h : l ≠ []) : ((l.length : Int) == 0) = false := by
  have := List.length_pos_iff.2 h
  simp; omega
theorem impl_last_eq {R : Type} {n : Nat} {l : List (Int × Int)} (hb : l.length ≤ 9223372036854775807) (k : Int → Option R) : impl_last n l k = k (lastI l).1 := by
  unfold impl_last
  by_cases h : l = []
  · subst h; rfl
  · rw [len0 h, (dlast h hb).1, (dlast h hb).2, getD_last h hb]; rfl
/-- The version of an id. -/
def atV (l : List (Int × Int)) (id : Int) : Option Int := (l.find? fun x => decide (id ≤ x.1)).map (·.2)
theorem spec_l11At_loop {R : Type} (l : List (Int × Int)) (hb : l.length ≤ 9223372036854775807) (id : Int) (kr : Int → Option R) (ke : Option R) : ∀ (n j : Nat), l.length - j < n → j ≤ l.length →
    spec_l11At_l2 n id l (l.length : Int) (j : Int) kr ke = match atV (l.drop j) id with | some v => kr v | none => ke
  | 0, _, h, _ => by omega
  | n + 1, j, hn, hj => by
    unfold spec_l11At_l2
    by_cases h : j < l.length
    · rw [dlt h, dnn, getD_at _ _ h, wrapS h hb, List.drop_eq_getElem_cons h]
      simp only [cond_true, atV, List.find?_cons]
      by_cases c : id ≤ l[j].1
      · rw [decide_eq_true c]; rfl
      · rw [decide_eq_false c]
        exact spec_l11At_loop l hb id kr ke n (j + 1) (by omega) (by omega)
    · rw [dge (by omega), List.drop_eq_nil_iff.2 (by omega)]; rfl
theorem spec_l11At_eq {R : Type} {n : Nat} {l : List (Int × Int)} (hb : l.length ≤ 9223372036854775807) (hn : l.length < n) (id : Int) (k : Int → Option R) : spec_l11At n l id k = k ((atV l id).getD (-1)) := by
  unfold spec_l11At
  have := spec_l11At_loop l hb id k (k (-1)) n 0 (by omega) (by omega)
  rw [show ((0 : Nat) : Int) = 0 from rfl, List.drop_zero] at this
  rw [this]
  cases atV l id <;> rfl
theorem impl_indexFunc_loop {R : Type} (l : List (Int × Int)) (hb : l.length ≤ 9223372036854775807) (id : Int) (kr : Int → Int → Option R) (ke : Int → Option R) (k : Int → Option R) (hk : ∀ i : Nat, ∀ h : i < l.length, kr i id = k l[i].2) : ∀ (n j : Nat), l.length - j < n → j ≤ l.length →
    slices_IndexFunc_impl_Item_impl_versionAt_c1_l2 n l (l.length : Int) (j : Int) id kr ke = match atV (l.drop j) id with | some v => k v | none => ke id
  | 0, _, h, _ => by omega
  | n + 1, j, hn, hj => by
    unfold slices_IndexFunc_impl_Item_impl_versionAt_c1_l2
    by_cases h : j < l.length
    · rw [dlt h, dnn, getD_at _ _ h, wrapS h hb, List.drop_eq_getElem_cons h]
      simp only [cond_true, atV, List.find?_cons, impl_versionAt_c1]
      by_cases c : id ≤ l[j].1
      · rw [decide_eq_true c, cond_true]
        exact hk j h
      · rw [decide_eq_false c]
        exact impl_indexFunc_loop l hb id kr ke k hk n (j + 1) (by omega) (by omega)
    · rw [dge (by omega), List.drop_eq_nil_iff.2 (by omega)]; rfl
theorem impl_versionAt_eq {R : Type} {n : Nat} {l : List (Int × Int)} (hb : l.length ≤ 9223372036854775807) (hn : l.length < n) {id v : Int} (hv : atV l id = some v) (k : Int → Option R) : impl_versionAt n l id k = k v := by
  unfold impl_versionAt slices_IndexFunc_impl_Item_impl_versionAt_c1
  have := impl_indexFunc_loop (R := R) l hb id (fun r1 _ => bif decide (0 ≤ r1) then (bif decide (r1 < (l.length : Int)) then k ((l.getD (Int.toNat r1) (0, 0)).2) else none) else none)
    (fun _ => none) k (fun i h => by rw [dnn, dlt h, getD_at _ _ h]; rfl) n 0 (by omega) (by omega)
  rw [show ((0 : Nat) : Int) = 0 from rfl, List.drop_zero, hv] at this
  exact this
theorem atV_last {l : List (Int × Int)} {id : Int} (h0 : l ≠ []) (h : id ≤ (lastI l).1) : ∃ v, atV l id = some v := by
  have : (l.find? fun x => decide (id ≤ x.1)).isSome := by
    rw [List.find?_isSome]
    refine ⟨l.getLast h0, List.getLast_mem h0, ?_⟩
    rw [lastI, List.getLast?_eq_some_getLast h0] at h
    exact decide_eq_true h
  obtain ⟨x, hx⟩ := Option.isSome_iff_exists.1 this
  exact ⟨x.2, by rw [atV, hx]; rfl⟩
theorem atV_in {l : List (Int × Int)} {id : Int} (h : 1 ≤ id ∧ id ≤ (lastI l).1) : ∃ v, atV l id = some v := by
  refine atV_last (fun h0 => ?_) h.2
  subst h0
  have := h.2
  simp [lastI] at this
  omega
theorem spec_l11Last_eq {R : Type} {n : Nat} {l : List (Int × Int)} (hb : l.length ≤ 9223372036854775807) (k : Int → Option R) : spec_l11Last n l k = k (lastI l).1 := by
  unfold spec_l11Last
  by_cases h : l = []
  · subst h; rfl
  · rw [len0 h, (dlast h hb).1, (dlast h hb).2, getD_last h hb]; rfl
theorem goodFrom_bounds : ∀ {l : List (Int × Int)} {u v : Int}, goodFrom u v l = true → ∀ x ∈ l, u < x.1 ∧ x.1 ≤ 1000 ∧ v < x.2 ∧ x.2 ≤ 1000000
  | [], _, _, _, x, hx => by simp at hx
  | y :: r, u, v, h, x, hx => by
    simp only [goodFrom, Bool.and_eq_true, decide_eq_true_eq] at h
    rcases List.mem_cons.1 hx with rfl | hx
    · exact h.1
    · have := goodFrom_bounds h.2 x hx
      omega
theorem goodI_len {l : List (Int × Int)} (h : goodI l = true) : l.length ≤ 20 := by
  simp only [goodI, Bool.and_eq_true, decide_eq_true_eq] at h
  exact h.1
theorem goodI_mem {l : List (Int × Int)} (h : goodI l = true) {x : Int × Int} (hx : x ∈ l) : 1 ≤ x.1 ∧ x.1 ≤ 1000 ∧ 0 ≤ x.2 ∧ x.2 ≤ 1000000 := by
  simp only [goodI, Bool.and_eq_true, decide_eq_true_eq] at h
  have := goodFrom_bounds h.2 x hx
  omega
theorem lastI_le {l : List (Int × Int)} (h : goodI l = true) : 0 ≤ (lastI l).1 ∧ (lastI l).1 ≤ 1000 := by
  unfold lastI
  cases h0 : l.getLast? with
  | none => simp
  | some x =>
    have := goodI_mem h (List.mem_of_getLast? h0)
    simp only [Option.getD_some]
    omega
/-- From an id on, the last one up to which two tell the same versions; j is how far it can be. -/
def lcaFrom (a b : List (Int × Int)) : Nat → Int → Int
  | 0, id => id
  | j + 1, id => if id < (lastI a).1 ∧ id < (lastI b).1 ∧ atV a (id + 1) = atV b (id + 1) then lcaFrom a b j (id + 1) else id
theorem spec_l11Lca_loop {R : Type} {a b : List (Int × Int)} (ha : goodI a = true) (hb : goodI b = true) (k : Int → Option R) : ∀ (n j : Nat) (id : Int), j + 50 ≤ n → 0 ≤ id → id + j = 1001 → id ≤ 1000 → spec_l11Lca_l2 n a b id k = k (lcaFrom a b j id)
  | 0, _, _, h, _, _, _ => by omega
  | n + 1, 0, id, hn, h0, h1, h2 => by omega
  | n + 1, j + 1, id, hn, h0, h1, h2 => by
    have la := goodI_len ha
    have lb := goodI_len hb
    have b1 := lastI_le ha
    have b2 := lastI_le hb
    unfold spec_l11Lca_l2 lcaFrom
    simp only [spec_l11Last_eq (show a.length ≤ 9223372036854775807 by omega), spec_l11Last_eq (show b.length ≤ 9223372036854775807 by omega)]
    by_cases c1 : id < (lastI a).1
    · by_cases c2 : id < (lastI b).1
      · rw [decide_eq_true c1, decide_eq_true c2]
        obtain ⟨v, hv⟩ := atV_in (l := a) (id := id + 1) (by omega)
        obtain ⟨u, hu⟩ := atV_in (l := b) (id := id + 1) (by omega)
        rw [wrap64 (by omega) (by omega)]
        simp only [cond_true, spec_l11At_eq (show a.length ≤ 9223372036854775807 by omega) (show a.length < n by omega), spec_l11At_eq (show b.length ≤ 9223372036854775807 by omega) (show b.length < n by omega), hv, hu, Option.getD_some, Option.some.injEq]
        by_cases c3 : v = u
        · rw [if_pos ⟨c1, c2, c3⟩, beq_iff_eq.2 c3, cond_true]
          by_cases c4 : id = 1000
          · omega
          · exact spec_l11Lca_loop ha hb k n j (id + 1) (by omega) (by omega) (by omega) (by omega)
        · rw [if_neg fun h => c3 h.2.2, beq_eq_false_iff_ne.2 c3, cond_false]
      · rw [decide_eq_true c1, decide_eq_false c2, if_neg fun h => c2 h.2.1]; rfl
    · rw [decide_eq_false c1, if_neg fun h => c1 h.1]; rfl
theorem spec_l11Lca_eq {R : Type} {a b : List (Int × Int)} (ha : goodI a = true) (hb : goodI b = true) {n : Nat} (hn : 1100 ≤ n) (k : Int → Option R) : spec_l11Lca n a b k = k (lcaFrom a b 1001 0) := by
  unfold spec_l11Lca
  exact spec_l11Lca_loop ha hb k n 1001 0 (by omega) (by omega) (by omega) (by omega)
theorem impl_common_loop {R : Type} {a b : List (Int × Int)} (ha : goodI a = true) (hb : goodI b = true) (k : Int → Option R) : ∀ (n j : Nat) (id : Int), j + 50 ≤ n → 0 ≤ id → id + j = 1001 → id ≤ 1000 → impl_common_l2 n a b id k = k (lcaFrom a b j id)
  | 0, _, _, h, _, _, _ => by omega
  | n + 1, 0, id, hn, h0, h1, h2 => by omega
  | n + 1, j + 1, id, hn, h0, h1, h2 => by
    have la := goodI_len ha
    have lb := goodI_len hb
    have b1 := lastI_le ha
    have b2 := lastI_le hb
    unfold impl_common_l2 lcaFrom
    simp only [impl_last_eq (show a.length ≤ 9223372036854775807 by omega), impl_last_eq (show b.length ≤ 9223372036854775807 by omega)]
    by_cases c1 : id < (lastI a).1 ∧ id < (lastI b).1
    · have c1' : id < (if (lastI b).1 < (lastI a).1 then (lastI b).1 else (lastI a).1) := by split <;> omega
      rw [decide_eq_true c1']
      obtain ⟨v, hv⟩ := atV_in (l := a) (id := id + 1) (by omega)
      obtain ⟨u, hu⟩ := atV_in (l := b) (id := id + 1) (by omega)
      rw [wrap64 (by omega) (by omega)]
      simp only [cond_true, impl_versionAt_eq (show a.length ≤ 9223372036854775807 by omega) (show a.length < n by omega) hv, impl_versionAt_eq (show b.length ≤ 9223372036854775807 by omega) (show b.length < n by omega) hu]
      rw [hv, hu]
      by_cases c3 : v = u
      · rw [if_pos ⟨c1.1, c1.2, by rw [c3]⟩, beq_iff_eq.2 c3, cond_true]
        by_cases c4 : id = 1000
        · omega
        · exact impl_common_loop ha hb k n j (id + 1) (by omega) (by omega) (by omega) (by omega)
      · rw [if_neg fun h => c3 (Option.some.inj h.2.2), beq_eq_false_iff_ne.2 c3, cond_false]
    · have c1' : ¬ id < (if (lastI b).1 < (lastI a).1 then (lastI b).1 else (lastI a).1) := by split <;> omega
      rw [decide_eq_false c1', if_neg fun h => c1 ⟨h.1, h.2.1⟩]; rfl
theorem impl_common_eq {R : Type} {a b : List (Int × Int)} (ha : goodI a = true) (hb : goodI b = true) {n : Nat} (hn : 1100 ≤ n) (k : Int → Option R) : impl_common n a b k = k (lcaFrom a b 1001 0) := by
  unfold impl_common
  exact impl_common_loop ha hb k n 1001 0 (by omega) (by omega) (by omega) (by omega)
theorem lcaFrom_in {a b : List (Int × Int)} : ∀ (j : Nat) (id : Int), 0 ≤ id → lcaFrom a b j id = id ∨ (id < lcaFrom a b j id ∧ lcaFrom a b j id ≤ (lastI a).1 ∧ lcaFrom a b j id ≤ (lastI b).1)
  | 0, id, _ => .inl rfl
  | j + 1, id, h => by
    unfold lcaFrom
    split
    · rename_i c
      have := lcaFrom_in (a := a) (b := b) j (id + 1) (by omega)
      omega
    · exact .inl rfl
theorem key {R : Type} {n : Nat} (hn : 1049700 ≤ n) (l m : List (Int × Int)) (hl : l.length ≤ 9223372036854775807) (hm : m.length ≤ 9223372036854775807) (k : Bool → Option R) : laws_FnExactLcaOf n l m k = k true := by
  unfold laws_FnExactLcaOf
  rw [laws_szItemS_eq n l _ (by omega) (by omega) hl]
  split
  · rfl
  rename_i h
  rw [decide_eq_false (by omega), cond_false, laws_szItemS_eq n m _ (by omega) (by omega) hm]
  split
  · rfl
  rename_i h'
  rw [decide_eq_false (by omega), cond_false]
  have a1 : l.length ≤ 1048576 := by omega
  have a2 : l.length < n := by omega
  have b1 : m.length ≤ 1048576 := by omega
  have b2 : m.length < n := by omega
  simp only [laws_toItemS_eq a1 a2, laws_toItemS_eq b1 b2, spec_LcaOf, impl_LcaOf, spec_GoodItems_eq hl a2, impl_GoodItems_eq hl a2, spec_GoodItems_eq hm b2, impl_GoodItems_eq hm b2, laws_eqItemS_eq hl a2, laws_eqItemS_eq hm b2, laws_eqItem_eq]
  cases gl : goodI l with
  | false => simp
  | true =>
    cases gm : goodI m with
    | false => simp
    | true =>
      simp only [spec_l11Lca_eq gl gm (show 1100 ≤ n by omega), impl_common_eq gl gm (show 1100 ≤ n by omega), Bool.not_true, cond_false]
      by_cases c : lcaFrom l m 1001 0 = 0
      · rw [c]; simp
      · rw [beq_eq_false_iff_ne.2 c]
        have := lcaFrom_in (a := l) (b := m) 1001 0 (by omega)
        obtain ⟨v, hv⟩ := atV_in (l := l) (id := lcaFrom l m 1001 0) (by omega)
        simp only [cond_false, spec_l11At_eq hl a2, impl_versionAt_eq hl a2 hv, hv]
        simp
theorem plain : Plain := fun l m hl hm _ k => ⟨_, key (Nat.le_refl _) l m hl.1 hm.1 k⟩
end Go.Am.G
