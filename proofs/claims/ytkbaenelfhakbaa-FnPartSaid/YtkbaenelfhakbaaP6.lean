/- The plain law: what the functions compute answers as the law says, for all arguments. -/
import Derived.Test.YtkbaenelfhakbaaF6
set_option linter.unusedVariables false
set_option linter.unusedSimpArgs false
namespace Go.Am.G
open Go Go.Am
theorem wrap64 {x : Int} (h1 : -9223372036854775808 ≤ x) (h2 : x ≤ 9223372036854775807) : IntKind.wrap .i64 x = x := by
  simp only [IntKind.wrap, IntKind.signed, IntKind.bits]
  simp
  omega
theorem spec_l1In_eq {R : Type} (n : Nat) (x a b : Int) (k : Bool → Option R) : spec_l1In n x a b k = k (decide (a ≤ x ∧ x ≤ b)) := by
  simp only [spec_l1In]
  by_cases h : x ≥ a
  · have : a ≤ x := h
    simp [this]
  · have : ¬ a ≤ x := h
    simp [this]
theorem impl_in_eq {R : Type} (n : Nat) (x a b : Int) (k : Bool → Option R) : impl_in n x a b k = k (decide (a ≤ x ∧ x ≤ b)) := by
  simp only [impl_in]
  by_cases h : x ≥ a
  · have : a ≤ x := h
    simp [this]
  · have : ¬ a ≤ x := h
    simp [this]
theorem bifk {R α : Type} (b : Bool) (x y : α) (k : α → Option R) : (bif b then k x else k y) = k (bif b then x else y) := by cases b <;> rfl
theorem getD_at {α : Type} (l : List α) (d : α) {j : Nat} (h : j < l.length) : l.getD (Int.toNat (j : Int)) d = l[j] := by
  rw [Int.toNat_natCast, List.getD_eq_getElem?_getD, List.getElem?_eq_getElem h]; rfl
theorem dlt {a b : Nat} (h : a < b) : decide ((a : Int) < (b : Int)) = true := decide_eq_true (by omega)
theorem dge {a b : Nat} (h : b ≤ a) : decide ((a : Int) < (b : Int)) = false := decide_eq_false (by omega)
theorem dnn (a : Nat) : decide (0 ≤ (a : Int)) = true := decide_eq_true (by omega)
theorem wrapS {j m : Nat} (h : j < m) (hm : m ≤ 9223372036854775807) : IntKind.wrap .i64 ((j : Int) + 1) = ((j + 1 : Nat) : Int) := by
  rw [wrap64 (by omega) (by omega)]; rfl
def goodFrom : Int → Int → List (Int × Int) → Bool
  | _, _, [] => true
  | u, v, x :: r => decide (u < x.1 ∧ x.1 ≤ 1000 ∧ v < x.2 ∧ x.2 ≤ 1000000) && goodFrom x.1 x.2 r
def goodI (l : List (Int × Int)) : Bool := decide (l.length ≤ 20) && goodFrom 0 (-1) l
theorem getD_prev {α : Type} (l : List α) (d : α) {j : Nat} (hj : 0 < j) (h : j ≤ l.length) (hb : l.length ≤ 9223372036854775807) : IntKind.wrap .i64 ((j : Int) - 1) = ((j - 1 : Nat) : Int) := by
  rw [wrap64 (by omega) (by omega)]; omega
theorem spec_GoodItems_loop {R : Type} (l : List (Int × Int)) (hb : l.length ≤ 9223372036854775807) (kr : Bool → Option R) (ke : List (Int × Int) → Option R) : ∀ (n j : Nat) (u v : Int), l.length - j < n → j ≤ l.length → 0 ≤ u → -1 ≤ v →
    (j = 0 → u = 0 ∧ v = -1) → (∀ (h : j - 1 < l.length), 0 < j → l[j - 1] = (u, v)) →
    spec_GoodItems_l2 n l l (l.length : Int) (j : Int) kr ke = bif goodFrom u v (l.drop j) then ke l else kr false
  | 0, _, _, _, h, _, _, _, _, _ => by omega
  | n + 1, j, u, v, hn, hj, hu, hv, h0, h1 => by
    unfold spec_GoodItems_l2
    by_cases h : j < l.length
    · rw [dlt h, dnn, getD_at _ _ h, wrapS h hb, List.drop_eq_getElem_cons h]
      simp only [cond_true, spec_l1In_eq, goodFrom]
      have ih := spec_GoodItems_loop l hb kr ke n (j + 1) l[j].1 l[j].2 (by omega) (by omega)
      by_cases hz : j = 0
      · obtain ⟨rfl, rfl⟩ := h0 hz
        rw [decide_eq_false (show ¬ ((j : Int) > 0) by omega)]
        by_cases c1 : 1 ≤ l[j].1 ∧ l[j].1 ≤ 1000
        · by_cases c2 : 0 ≤ l[j].2 ∧ l[j].2 ≤ 1000000
          · rw [decide_eq_true c1, decide_eq_true c2, decide_eq_true (show 0 < l[j].1 ∧ l[j].1 ≤ 1000 ∧ -1 < l[j].2 ∧ l[j].2 ≤ 1000000 by omega)]
            simp only [Bool.not_true, cond_false, Bool.true_and]
            exact ih (by omega) (by omega) (by omega) (fun _ _ => rfl)
          · rw [decide_eq_true c1, decide_eq_false c2, decide_eq_false (show ¬ (0 < l[j].1 ∧ l[j].1 ≤ 1000 ∧ -1 < l[j].2 ∧ l[j].2 ≤ 1000000) by omega)]; rfl
        · rw [decide_eq_false c1, decide_eq_false (show ¬ (0 < l[j].1 ∧ l[j].1 ≤ 1000 ∧ -1 < l[j].2 ∧ l[j].2 ≤ 1000000) by omega)]; rfl
      · have hp : j - 1 < l.length := by omega
        have hq := h1 hp (by omega)
        rw [decide_eq_true (show ((j : Int) > 0) by omega), getD_prev l (0, 0) (by omega) (by omega) hb, dnn, dlt hp, getD_at _ _ hp, hq]
        simp only [cond_true]
        by_cases c1 : 1 ≤ l[j].1 ∧ l[j].1 ≤ 1000
        · by_cases c2 : 0 ≤ l[j].2 ∧ l[j].2 ≤ 1000000
          · rw [decide_eq_true c1, decide_eq_true c2]
            simp only [Bool.not_true, cond_false]
            by_cases c3 : u < l[j].1
            · by_cases c4 : v < l[j].2
              · rw [decide_eq_false (show ¬ (u ≥ l[j].1) by omega), decide_eq_false (show ¬ (v ≥ l[j].2) by omega), decide_eq_true (show u < l[j].1 ∧ l[j].1 ≤ 1000 ∧ v < l[j].2 ∧ l[j].2 ≤ 1000000 by omega)]
                simp only [cond_false, Bool.true_and]
                exact ih (by omega) (by omega) (by omega) (fun _ _ => rfl)
              · rw [decide_eq_false (show ¬ (u ≥ l[j].1) by omega), decide_eq_true (show (v ≥ l[j].2) by omega), decide_eq_false (show ¬ (u < l[j].1 ∧ l[j].1 ≤ 1000 ∧ v < l[j].2 ∧ l[j].2 ≤ 1000000) by omega)]; rfl
            · rw [decide_eq_true (show (u ≥ l[j].1) by omega), decide_eq_false (show ¬ (u < l[j].1 ∧ l[j].1 ≤ 1000 ∧ v < l[j].2 ∧ l[j].2 ≤ 1000000) by omega)]; rfl
          · rw [decide_eq_true c1, decide_eq_false c2, decide_eq_false (show ¬ (u < l[j].1 ∧ l[j].1 ≤ 1000 ∧ v < l[j].2 ∧ l[j].2 ≤ 1000000) by omega)]; rfl
        · rw [decide_eq_false c1, decide_eq_false (show ¬ (u < l[j].1 ∧ l[j].1 ≤ 1000 ∧ v < l[j].2 ∧ l[j].2 ≤ 1000000) by omega)]; rfl
    · rw [dge (by omega), List.drop_eq_nil_iff.2 (by omega)]; rfl
theorem spec_GoodItems_eq {R : Type} {n : Nat} {l : List (Int × Int)} (hb : l.length ≤ 9223372036854775807) (hn : l.length < n) (k : Bool → Option R) : spec_GoodItems n l k = k (goodI l) := by
  unfold spec_GoodItems
  have := spec_GoodItems_loop l hb k (fun r4 => k (decide ((r4.length : Int) ≤ 20))) n 0 0 (-1) (by omega) (by omega) (by omega) (by omega) (fun _ => ⟨rfl, rfl⟩) (fun _ h => by omega)
  rw [show ((0 : Nat) : Int) = 0 from rfl] at this
  rw [this, List.drop_zero, bifk]
  congr 1
  unfold goodI
  cases goodFrom 0 (-1) l with
  | true => simp only [cond_true, Bool.and_true]; apply decide_eq_decide.2; omega
  | false => simp
theorem impl_isVersion_eq {R : Type} (n : Nat) (x : Int) (k : Bool → Option R) : impl_isVersion n x k = k (decide (0 ≤ x ∧ x ≤ 1000000)) := by
  unfold impl_isVersion
  rw [impl_in_eq]
theorem impl_GoodItems_loop {R : Type} (l : List (Int × Int)) (hb : l.length ≤ 9223372036854775807) (kr : Bool → Option R) (ke : Option R) : ∀ (n j : Nat) (u v : Int), l.length - j < n → j ≤ l.length → 0 ≤ u → -1 ≤ v →
    (j = 0 → u = 0 ∧ v = -1) → (∀ (h : j - 1 < l.length), 0 < j → l[j - 1] = (u, v)) →
    impl_GoodItems_l4 n l l (l.length : Int) (j : Int) kr ke = bif goodFrom u v (l.drop j) then ke else kr false
  | 0, _, _, _, h, _, _, _, _, _ => by omega
  | n + 1, j, u, v, hn, hj, hu, hv, h0, h1 => by
    unfold impl_GoodItems_l4
    by_cases h : j < l.length
    · rw [dlt h, dnn, getD_at _ _ h, wrapS h hb, List.drop_eq_getElem_cons h]
      simp only [cond_true, impl_in_eq, impl_isVersion_eq, goodFrom]
      have ih := impl_GoodItems_loop l hb kr ke n (j + 1) l[j].1 l[j].2 (by omega) (by omega)
      by_cases hz : j = 0
      · obtain ⟨rfl, rfl⟩ := h0 hz
        rw [decide_eq_false (show ¬ ((j : Int) > 0) by omega)]
        by_cases c1 : 1 ≤ l[j].1 ∧ l[j].1 ≤ 1000
        · by_cases c2 : 0 ≤ l[j].2 ∧ l[j].2 ≤ 1000000
          · rw [decide_eq_true c1, decide_eq_true c2, decide_eq_true (show 0 < l[j].1 ∧ l[j].1 ≤ 1000 ∧ -1 < l[j].2 ∧ l[j].2 ≤ 1000000 by omega)]
            simp only [Bool.not_true, cond_false, Bool.true_and]
            exact ih (by omega) (by omega) (by omega) (fun _ _ => rfl)
          · rw [decide_eq_true c1, decide_eq_false c2, decide_eq_false (show ¬ (0 < l[j].1 ∧ l[j].1 ≤ 1000 ∧ -1 < l[j].2 ∧ l[j].2 ≤ 1000000) by omega)]; rfl
        · rw [decide_eq_false c1, decide_eq_false (show ¬ (0 < l[j].1 ∧ l[j].1 ≤ 1000 ∧ -1 < l[j].2 ∧ l[j].2 ≤ 1000000) by omega)]; rfl
      · have hp : j - 1 < l.length := by omega
        have hq := h1 hp (by omega)
        rw [decide_eq_true (show ((j : Int) > 0) by omega), getD_prev l (0, 0) (by omega) (by omega) hb, dnn, dlt hp, getD_at _ _ hp, hq]
        simp only [cond_true]
        by_cases c1 : 1 ≤ l[j].1 ∧ l[j].1 ≤ 1000
        · by_cases c2 : 0 ≤ l[j].2 ∧ l[j].2 ≤ 1000000
          · rw [decide_eq_true c1, decide_eq_true c2]
            simp only [Bool.not_true, cond_false]
            by_cases c3 : u < l[j].1
            · by_cases c4 : v < l[j].2
              · rw [decide_eq_false (show ¬ (l[j].1 ≤ u) by omega), decide_eq_false (show ¬ (l[j].2 ≤ v) by omega), decide_eq_true (show u < l[j].1 ∧ l[j].1 ≤ 1000 ∧ v < l[j].2 ∧ l[j].2 ≤ 1000000 by omega)]
                simp only [cond_false, Bool.true_and]
                exact ih (by omega) (by omega) (by omega) (fun _ _ => rfl)
              · rw [decide_eq_false (show ¬ (l[j].1 ≤ u) by omega), decide_eq_true (show (l[j].2 ≤ v) by omega), decide_eq_false (show ¬ (u < l[j].1 ∧ l[j].1 ≤ 1000 ∧ v < l[j].2 ∧ l[j].2 ≤ 1000000) by omega)]; rfl
            · rw [decide_eq_true (show (l[j].1 ≤ u) by omega), decide_eq_false (show ¬ (u < l[j].1 ∧ l[j].1 ≤ 1000 ∧ v < l[j].2 ∧ l[j].2 ≤ 1000000) by omega)]; rfl
          · rw [decide_eq_true c1, decide_eq_false c2, decide_eq_false (show ¬ (u < l[j].1 ∧ l[j].1 ≤ 1000 ∧ v < l[j].2 ∧ l[j].2 ≤ 1000000) by omega)]; rfl
        · rw [decide_eq_false c1, decide_eq_false (show ¬ (u < l[j].1 ∧ l[j].1 ≤ 1000 ∧ v < l[j].2 ∧ l[j].2 ≤ 1000000) by omega)]; rfl
    · rw [dge (by omega), List.drop_eq_nil_iff.2 (by omega)]; rfl
theorem impl_GoodItems_eq {R : Type} {n : Nat} {l : List (Int × Int)} (hb : l.length ≤ 9223372036854775807) (hn : l.length < n) (k : Bool → Option R) : impl_GoodItems n l k = k (goodI l) := by
  unfold impl_GoodItems
  have := impl_GoodItems_loop l hb k (k true) n 0 0 (-1) (by omega) (by omega) (by omega) (by omega) (fun _ => ⟨rfl, rfl⟩) (fun _ h => by omega)
  rw [show ((0 : Nat) : Int) = 0 from rfl] at this
  rw [this, List.drop_zero, bifk, bifk]
  congr 1
  unfold goodI
  by_cases h : l.length ≤ 20
  · rw [decide_eq_false (by omega), decide_eq_true h]
    cases goodFrom 0 (-1) l <;> rfl
  · rw [decide_eq_true (by omega), decide_eq_false h]
    cases goodFrom 0 (-1) l <;> rfl
/-- The last of items, by what it tells. -/
def lastI (l : List (Int × Int)) : Int × Int := l.getLast?.getD (0, 0)
theorem getD_last {l : List (Int × Int)} (h : l ≠ []) (hb : l.length ≤ 9223372036854775807) : l.getD (Int.toNat (IntKind.wrap .i64 ((l.length : Int) - 1))) (0, 0) = lastI l := by
  have := List.length_pos_iff.2 h
  rw [wrap64 (by omega) (by omega), show (l.length : Int) - 1 = ((l.length - 1 : Nat) : Int) by omega, getD_at _ _ (by omega), ← List.getLast_eq_getElem h]
  rw [lastI, List.getLast?_eq_some_getLast h]; rfl
theorem dlast {l : List (Int × Int)} (h : l ≠ []) (hb : l.length ≤ 9223372036854775807) : decide (0 ≤ IntKind.wrap .i64 ((l.length : Int) - 1)) = true ∧ decide (IntKind.wrap .i64 ((l.length : Int) - 1) < (l.length : Int)) = true := by
  have := List.length_pos_iff.2 h
  rw [wrap64 (by omega) (by omega)]
  exact ⟨decide_eq_true (by omega), decide_eq_true (by omega)⟩
theorem len0 {l : List (Int × Int)} (h : l ≠ []) : ((l.length : Int) == 0) = false := by
  have := List.length_pos_iff.2 h
  simp; omega
theorem impl_last_eq {R : Type} {n : Nat} {l : List (Int × Int)} (hb : l.length ≤ 9223372036854775807) (k : Int → Option R) : impl_last n l k = k (lastI l).1 := by
  unfold impl_last
  by_cases h : l = []
  · subst h; rfl
  · rw [len0 h, (dlast h hb).1, (dlast h hb).2, getD_last h hb]; rfl
theorem impl_lastVersion_eq {R : Type} {n : Nat} {l : List (Int × Int)} (hb : l.length ≤ 9223372036854775807) (k : Int → Option R) : impl_lastVersion n l k = k (lastI l).2 := by
  unfold impl_lastVersion
  by_cases h : l = []
  · subst h; rfl
  · rw [len0 h, (dlast h hb).1, (dlast h hb).2, getD_last h hb]; rfl
/-- The version of an id. -/
def atV (l : List (Int × Int)) (id : Int) : Option Int := (l.find? fun x => decide (id ≤ x.1)).map (·.2)
theorem spec_l11At_loop {R : Type} (l : List (Int × Int)) (hb : l.length ≤ 9223372036854775807) (id : Int) (kr : Int → Option R) (ke : Option R) : ∀ (n j : Nat), l.length - j < n → j ≤ l.length →
    spec_l11At_l2 n id l (l.length : Int) (j : Int) kr ke = match atV (l.drop j) id with | some v => kr v | none => ke
  | 0, _, h, _ => by omega
  | n + 1, j, hn, hj => by
    unfold spec_l11At_l2
    by_cases h : j < l.length
    · rw [dlt h, dnn, getD_at _ _ h, wrapS h hb, List.drop_eq_getElem_cons h]
      simp only [cond_true, atV, List.find?_cons]
      by_cases c : id ≤ l[j].1
      · rw [decide_eq_true c]; rfl
      · rw [decide_eq_false c]
        exact spec_l11At_loop l hb id kr ke n (j + 1) (by omega) (by omega)
    · rw [dge (by omega), List.drop_eq_nil_iff.2 (by omega)]; rfl
theorem spec_l11At_eq {R : Type} {n : Nat} {l : List (Int × Int)} (hb : l.length ≤ 9223372036854775807) (hn : l.length < n) (id : Int) (k : Int → Option R) : spec_l11At n l id k = k ((atV l id).getD (-1)) := by
  unfold spec_l11At
  have := spec_l11At_loop l hb id k (k (-1)) n 0 (by omega) (by omega)
  rw [show ((0 : Nat) : Int) = 0 from rfl, List.drop_zero] at this
  rw [this]
  cases atV l id <;> rfl
theorem impl_indexFunc_loop {R : Type} (l : List (Int × Int)) (hb : l.length ≤ 9223372036854775807) (id : Int) (kr : Int → Int → Option R) (ke : Int → Option R) (k : Int → Option R) (hk : ∀ i : Nat, ∀ h : i < l.length, kr i id = k l[i].2) : ∀ (n j : Nat), l.length - j < n → j ≤ l.length →
    slices_IndexFunc_impl_Item_impl_versionAt_c1_l2 n l (l.length : Int) (j : Int) id kr ke = match atV (l.drop j) id with | some v => k v | none => ke id
  | 0, _, h, _ => by omega
  | n + 1, j, hn, hj => by
    unfold slices_IndexFunc_impl_Item_impl_versionAt_c1_l2
    by_cases h : j < l.length
    · rw [dlt h, dnn, getD_at _ _ h, wrapS h hb, List.drop_eq_getElem_cons h]
      simp only [cond_true, atV, List.find?_cons, impl_versionAt_c1]
      by_cases c : id ≤ l[j].1
      · rw [decide_eq_true c, cond_true]
        exact hk j h
      · rw [decide_eq_false c]
        exact impl_indexFunc_loop l hb id kr ke k hk n (j + 1) (by omega) (by omega)
    · rw [dge (by omega), List.drop_eq_nil_iff.2 (by omega)]; rfl
theorem impl_versionAt_eq {R : Type} {n : Nat} {l : List (Int × Int)} (hb : l.length ≤ 9223372036854775807) (hn : l.length < n) {id v : Int} (hv : atV l id = some v) (k : Int → Option R) : impl_versionAt n l id k = k v := by
  unfold impl_versionAt slices_IndexFunc_impl_Item_impl_versionAt_c1
  have := impl_indexFunc_loop (R := R) l hb id (fun r1 _ => bif decide (0 ≤ r1) then (bif decide (r1 < (l.length : Int)) then k ((l.getD (Int.toNat r1) (0, 0)).2) else none) else none)
    (fun _ => none) k (fun i h => by rw [dnn, dlt h, getD_at _ _ h]; rfl) n 0 (by omega) (by omega)
  rw [show ((0 : Nat) : Int) = 0 from rfl, List.drop_zero, hv] at this
  exact this
theorem atV_last {l : List (Int × Int)} {id : Int} (h0 : l ≠ []) (h : id ≤ (lastI l).1) : ∃ v, atV l id = some v := by
  have : (l.find? fun x => decide (id ≤ x.1)).isSome := by
    rw [List.find?_isSome]
    refine ⟨l.getLast h0, List.getLast_mem h0, ?_⟩
    rw [lastI, List.getLast?_eq_some_getLast h0] at h
    exact decide_eq_true h
  obtain ⟨x, hx⟩ := Option.isSome_iff_exists.1 this
  exact ⟨x.2, by rw [atV, hx]; rfl⟩
theorem atV_in {l : List (Int × Int)} {id : Int} (h : 1 ≤ id ∧ id ≤ (lastI l).1) : ∃ v, atV l id = some v := by
  refine atV_last (fun h0 => ?_) h.2
  subst h0
  have := h.2
  simp [lastI] at this
  omega
theorem spec_l11Last_eq {R : Type} {n : Nat} {l : List (Int × Int)} (hb : l.length ≤ 9223372036854775807) (k : Int → Option R) : spec_l11Last n l k = k (lastI l).1 := by
  unfold spec_l11Last
  by_cases h : l = []
  · subst h; rfl
  · rw [len0 h, (dlast h hb).1, (dlast h hb).2, getD_last h hb]; rfl
theorem goodFrom_bounds : ∀ {l : List (Int × Int)} {u v : Int}, goodFrom u v l = true → ∀ x ∈ l, u < x.1 ∧ x.1 ≤ 1000 ∧ v < x.2 ∧ x.2 ≤ 1000000
  | [], _, _, _, x, hx => by simp at hx
  | y :: r, u, v, h, x, hx => by
    simp only [goodFrom, Bool.and_eq_true, decide_eq_true_eq] at h
    rcases List.mem_cons.1 hx with rfl | hx
    · exact h.1
    · have := goodFrom_bounds h.2 x hx
      omega
theorem goodI_len {l : List (Int × Int)} (h : goodI l = true) : l.length ≤ 20 := by
  simp only [goodI, Bool.and_eq_true, decide_eq_true_eq] at h
  exact h.1
theorem goodI_mem {l : List (Int × Int)} (h : goodI l = true) {x : Int × Int} (hx : x ∈ l) : 1 ≤ x.1 ∧ x.1 ≤ 1000 ∧ 0 ≤ x.2 ∧ x.2 ≤ 1000000 := by
  simp only [goodI, Bool.and_eq_true, decide_eq_true_eq] at h
  have := goodFrom_bounds h.2 x hx
  omega
theorem lastI_le {l : List (Int × Int)} (h : goodI l = true) : 0 ≤ (lastI l).1 ∧ (lastI l).1 ≤ 1000 := by
  unfold lastI
  cases h0 : l.getLast? with
  | none => simp
  | some x =>
    have := goodI_mem h (List.mem_of_getLast? h0)
    simp only [Option.getD_some]
    omega
/-- From an id on, the last one up to which two tell the same versions; j is how far it can be. -/
def lcaFrom (a b : List (Int × Int)) : Nat → Int → Int
  | 0, id => id
  | j + 1, id => if id < (lastI a).1 ∧ id < (lastI b).1 ∧ atV a (id + 1) = atV b (id + 1) then lcaFrom a b j (id + 1) else id
theorem spec_l11Lca_loop {R : Type} {a b : List (Int × Int)} (ha : goodI a = true) (hb : goodI b = true) (k : Int → Option R) : ∀ (n j : Nat) (id : Int), j + 50 ≤ n → 0 ≤ id → id + j = 1001 → id ≤ 1000 → spec_l11Lca_l2 n a b id k = k (lcaFrom a b j id)
  | 0, _, _, h, _, _, _ => by omega
  | n + 1, 0, id, hn, h0, h1, h2 => by omega
  | n + 1, j + 1, id, hn, h0, h1, h2 => by
    have la := goodI_len ha
    have lb := goodI_len hb
    have b1 := lastI_le ha
    have b2 := lastI_le hb
    unfold spec_l11Lca_l2 lcaFrom
    simp only [spec_l11Last_eq (show a.length ≤ 9223372036854775807 by omega), spec_l11Last_eq (show b.length ≤ 9223372036854775807 by omega)]
    by_cases c1 : id < (lastI a).1
    · by_cases c2 : id < (lastI b).1
      · rw [decide_eq_true c1, decide_eq_true c2]
        obtain ⟨v, hv⟩ := atV_in (l := a) (id := id + 1) (by omega)
        obtain ⟨u, hu⟩ := atV_in (l := b) (id := id + 1) (by omega)
        rw [wrap64 (by omega) (by omega)]
        simp only [cond_true, spec_l11At_eq (show a.length ≤ 9223372036854775807 by omega) (show a.length < n by omega), spec_l11At_eq (show b.length ≤ 9223372036854775807 by omega) (show b.length < n by omega), hv, hu, Option.getD_some, Option.some.injEq]
        by_cases c3 : v = u
        · rw [if_pos ⟨c1, c2, c3⟩, beq_iff_eq.2 c3, cond_true]
          by_cases c4 : id = 1000
          · omega
          · exact spec_l11Lca_loop ha hb k n j (id + 1) (by omega) (by omega) (by omega) (by omega)
        · rw [if_neg fun h => c3 h.2.2, beq_eq_false_iff_ne.2 c3, cond_false]
      · rw [decide_eq_true c1, decide_eq_false c2, if_neg fun h => c2 h.2.1]; rfl
    · rw [decide_eq_false c1, if_neg fun h => c1 h.1]; rfl
theorem spec_l11Lca_eq {R : Type} {a b : List (Int × Int)} (ha : goodI a = true) (hb : goodI b = true) {n : Nat} (hn : 1100 ≤ n) (k : Int → Option R) : spec_l11Lca n a b k = k (lcaFrom a b 1001 0) := by
  unfold spec_l11Lca
  exact spec_l11Lca_loop ha hb k n 1001 0 (by omega) (by omega) (by omega) (by omega)
theorem impl_common_loop {R : Type} {a b : List (Int × Int)} (ha : goodI a = true) (hb : goodI b = true) (k : Int → Option R) : ∀ (n j : Nat) (id : Int), j + 50 ≤ n → 0 ≤ id → id + j = 1001 → id ≤ 1000 → impl_common_l2 n a b id k = k (lcaFrom a b j id)
  | 0, _, _, h, _, _, _ => by omega
  | n + 1, 0, id, hn, h0, h1, h2 => by omega
  | n + 1, j + 1, id, hn, h0, h1, h2 => by
    have la := goodI_len ha
    have lb := goodI_len hb
    have b1 := lastI_le ha
    have b2 := lastI_le hb
    unfold impl_common_l2 lcaFrom
    simp only [impl_last_eq (show a.length ≤ 9223372036854775807 by omega), impl_last_eq (show b.length ≤ 9223372036854775807 by omega)]
    by_cases c1 : id < (lastI a).1 ∧ id < (lastI b).1
    · have c1' : id < (if (lastI b).1 < (lastI a).1 then (lastI b).1 else (lastI a).1) := by split <;> omega
      rw [decide_eq_true c1']
      obtain ⟨v, hv⟩ := atV_in (l := a) (id := id + 1) (by omega)
      obtain ⟨u, hu⟩ := atV_in (l := b) (id := id + 1) (by omega)
      rw [wrap64 (by omega) (by omega)]
      simp only [cond_true, impl_versionAt_eq (show a.length ≤ 9223372036854775807 by omega) (show a.length < n by omega) hv, impl_versionAt_eq (show b.length ≤ 9223372036854775807 by omega) (show b.length < n by omega) hu]
      rw [hv, hu]
      by_cases c3 : v = u
      · rw [if_pos ⟨c1.1, c1.2, by rw [c3]⟩, beq_iff_eq.2 c3, cond_true]
        by_cases c4 : id = 1000
        · omega
        · exact impl_common_loop ha hb k n j (id + 1) (by omega) (by omega) (by omega) (by omega)
      · rw [if_neg fun h => c3 (Option.some.inj h.2.2), beq_eq_false_iff_ne.2 c3, cond_false]
    · have c1' : ¬ id < (if (lastI b).1 < (lastI a).1 then (lastI b).1 else (lastI a).1) := by split <;> omega
      rw [decide_eq_false c1', if_neg fun h => c1 ⟨h.1, h.2.1⟩]; rfl
theorem impl_common_eq {R : Type} {a b : List (Int × Int)} (ha : goodI a = true) (hb : goodI b = true) {n : Nat} (hn : 1100 ≤ n) (k : Int → Option R) : impl_common n a b k = k (lcaFrom a b 1001 0) := by
  unfold impl_common
  exact impl_common_loop ha hb k n 1001 0 (by omega) (by omega) (by omega) (by omega)
/-- Items that are cut: what is told behind the last id falls away. -/
def cutF (upto : Int) : Int → List (Int × Int) → List (Int × Int)
  | _, [] => []
  | u, x :: r => if u < upto then (if upto < x.1 then (upto, x.2) :: cutF upto upto r else x :: cutF upto x.1 r) else []
theorem cutF_stop {upto : Int} : ∀ r, cutF upto upto r = []
  | [] => rfl
  | x :: r => by unfold cutF; rw [if_neg (by omega)]
theorem lastI_snoc (l : List (Int × Int)) (x : Int × Int) : lastI (l ++ [x]) = x := by simp [lastI]
theorem cutF_length {upto : Int} : ∀ (r : List (Int × Int)) (u : Int), (cutF upto u r).length ≤ r.length
  | [], _ => by simp [cutF]
  | x :: r, u => by
    have h1 := cutF_length (upto := upto) r upto
    have h2 := cutF_length (upto := upto) r x.1
    unfold cutF
    split
    · split <;> simp <;> omega
    · simp
theorem spec_l11Cut_loop {R : Type} {l : List (Int × Int)} (hl : l.length ≤ 9223372036854775807) (upto : Int) (k : List (Int × Int) → Option R) : ∀ (n j : Nat) (v : Int) (out : List (Int × Int)), l.length - j < n → j ≤ l.length → out.length ≤ j → out.length + (l.length - j) ≤ 1000000 → (lastI out).1 ≤ upto → goodFrom (lastI out).1 v (l.drop j) = true →
    spec_l11Cut_l3 n upto l (l.length : Int) (j : Int) out k = k (out ++ cutF upto (lastI out).1 (l.drop j))
  | 0, _, _, _, h, _, _, _, _, _ => by omega
  | n + 1, j, v, out, hn, hj, ho, ho2, hu, hg => by
    unfold spec_l11Cut_l3
    by_cases h : j < l.length
    · rw [List.drop_eq_getElem_cons h] at hg ⊢
      simp only [goodFrom, Bool.and_eq_true, decide_eq_true_eq] at hg
      rw [dlt h, dnn, getD_at _ _ h, wrapS h hl]
      simp only [cond_true, spec_l11Last_eq (show out.length ≤ 9223372036854775807 by omega)]
      unfold cutF
      by_cases c : (lastI out).1 = upto
      · rw [beq_iff_eq.2 c, if_neg (by omega)]; simp
      · rw [beq_eq_false_iff_ne.2 c, if_pos (by omega), cond_false, decide_eq_true (show out.length + [(upto, l[j].2)].length ≤ LIM by simp [LIM]; omega), decide_eq_true (show out.length + [(l[j].1, l[j].2)].length ≤ LIM by simp [LIM]; omega)]
        by_cases c2 : upto < l[j].1
        · rw [decide_eq_true (show l[j].1 > upto by omega), if_pos c2, cond_true, cond_true]
          cases n with
          | zero => omega
          | succ n =>
            unfold spec_l11Cut_l3
            by_cases h' : j + 1 < l.length
            · rw [dlt h', dnn, cond_true, cond_true, cond_true, spec_l11Last_eq (by simp; omega), lastI_snoc, beq_self_eq_true, cond_true, cutF_stop]
            · rw [dge (by omega), cond_false, cutF_stop]
        · rw [decide_eq_false (show ¬ l[j].1 > upto by omega), if_neg c2, cond_false, cond_true]
          have := spec_l11Cut_loop hl upto k n (j + 1) l[j].2 (out ++ [(l[j].1, l[j].2)]) (by omega) (by omega) (by simp; omega) (by simp; omega) (by rw [lastI_snoc]; exact Int.not_lt.1 c2) (by rw [lastI_snoc]; exact hg.2)
          rw [this, lastI_snoc]
          simp
    · rw [dge (by omega), List.drop_eq_nil_iff.2 (by omega)]
      simp [cutF]
theorem impl_cut_loop {R : Type} {l : List (Int × Int)} (hl : l.length ≤ 9223372036854775807) (upto : Int) (k : List (Int × Int) → Option R) : ∀ (n j : Nat) (v : Int) (out : List (Int × Int)), l.length - j < n → j ≤ l.length → out.length ≤ j → out.length + (l.length - j) ≤ 1000000 → (lastI out).1 ≤ upto → ((lastI out).1 = upto ∨ goodFrom (lastI out).1 v (l.drop j) = true) →
    impl_CutItems_l5 n upto l (l.length : Int) (j : Int) out k = k (out ++ cutF upto (lastI out).1 (l.drop j))
  | 0, _, _, _, h, _, _, _, _, _ => by omega
  | n + 1, j, v, out, hn, hj, ho, ho2, hu, hg => by
    unfold impl_CutItems_l5
    by_cases h : j < l.length
    · rw [List.drop_eq_getElem_cons h] at hg ⊢
      rw [dlt h, dnn, getD_at _ _ h, wrapS h hl]
      simp only [cond_true, impl_last_eq (show out.length ≤ 9223372036854775807 by omega)]
      by_cases c : (lastI out).1 = upto
      · rw [decide_eq_false (by omega), cond_false, impl_cut_loop hl upto k n (j + 1) 0 out (by omega) (by omega) (by omega) (by omega) hu (.inl c), c, cutF_stop, cutF_stop]
      · have hg := hg.resolve_left c
        simp only [goodFrom, Bool.and_eq_true, decide_eq_true_eq] at hg
        unfold cutF
        rw [decide_eq_true (show (lastI out).1 < upto by omega), if_pos (show (lastI out).1 < upto by omega), cond_true]
        by_cases c2 : upto < l[j].1
        · rw [if_pos c2, if_pos c2, decide_eq_true (by simp [LIM]; omega), cond_true,
            impl_cut_loop hl upto k n (j + 1) 0 (out ++ [(upto, l[j].2)]) (by omega) (by omega) (by simp; omega) (by simp; omega) (by rw [lastI_snoc]; exact Int.le_refl _) (.inl (by rw [lastI_snoc])), lastI_snoc]
          simp
        · rw [if_neg c2, if_neg c2, decide_eq_true (by simp [LIM]; omega), cond_true,
            impl_cut_loop hl upto k n (j + 1) l[j].2 (out ++ [(l[j].1, l[j].2)]) (by omega) (by omega) (by simp; omega) (by simp; omega) (by rw [lastI_snoc]; exact Int.not_lt.1 c2) (.inr (by rw [lastI_snoc]; exact hg.2)), lastI_snoc]
          simp
    · rw [dge (by omega), List.drop_eq_nil_iff.2 (by omega)]
      simp [cutF]
theorem goodI_from {l : List (Int × Int)} (h : goodI l = true) : goodFrom 0 (-1) l = true := by
  simp only [goodI, Bool.and_eq_true] at h
  exact h.2
theorem spec_l11Cut_eq {R : Type} {l : List (Int × Int)} (hg : goodI l = true) {upto : Int} (hu : 0 ≤ upto) {n : Nat} (hn : 100 ≤ n) (k : List (Int × Int) → Option R) : spec_l11Cut n l upto k = k (cutF upto 0 l) := by
  have hl := goodI_len hg
  unfold spec_l11Cut
  exact spec_l11Cut_loop (by omega) upto k n 0 (-1) [] (by omega) (by omega) (by simp) (by simp; omega) (by simpa [lastI] using hu) (by simpa [lastI] using goodI_from hg)
theorem impl_CutItems_eq {R : Type} {l : List (Int × Int)} (upto : Int) {n : Nat} (hn : 1048700 ≤ n) (hl : l.length ≤ 1048576) (k : Bool → List (Int × Int) → Option R) : impl_CutItems n l upto k = if goodI l = true ∧ 0 ≤ upto ∧ upto ≤ (lastI l).1 then k true (cutF upto 0 l) else k false [] := by
  unfold impl_CutItems
  rw [impl_GoodItems_eq (by omega) (by omega)]
  cases hg : goodI l with
  | false => simp
  | true =>
    have hl := goodI_len hg
    rw [impl_last_eq (by omega), impl_in_eq]
    by_cases c : 0 ≤ upto ∧ upto ≤ (lastI l).1
    · rw [decide_eq_true c, if_pos ⟨rfl, c⟩]
      simp only [Bool.not_true, cond_false]
      exact impl_cut_loop (by omega) upto (k true) n 0 (-1) [] (by omega) (by omega) (by simp) (by simp; omega) (by simpa [lastI] using c.1) (.inr (by simpa [lastI] using goodI_from hg))
    · rw [decide_eq_false c, if_neg fun h => c h.2]
      simp
theorem and255 (x : Int) : 0 ≤ IntKind.wrap .i64 (IntKind.wrap .u64 (Int.ofNat (BitVec.toNat (BitVec.ofInt (IntKind.bits .u64) x &&& BitVec.ofInt (IntKind.bits .u64) 255)))) ∧ IntKind.wrap .i64 (IntKind.wrap .u64 (Int.ofNat (BitVec.toNat (BitVec.ofInt (IntKind.bits .u64) x &&& BitVec.ofInt (IntKind.bits .u64) 255)))) ≤ 255 := by
  have h : BitVec.toNat (BitVec.ofInt (IntKind.bits .u64) x &&& BitVec.ofInt (IntKind.bits .u64) 255) ≤ 255 := by
    rw [BitVec.toNat_and]
    exact Nat.le_trans Nat.and_le_right (by decide)
  generalize BitVec.toNat (BitVec.ofInt (IntKind.bits .u64) x &&& BitVec.ofInt (IntKind.bits .u64) 255) = y at h
  have h1 : IntKind.wrap .u64 (Int.ofNat y) = (y : Int) := by
    simp only [IntKind.wrap, IntKind.signed, IntKind.bits]
    simp
    omega
  rw [h1, wrap64 (by omega) (by omega)]
  omega
/-- Bytes. -/
def Bytes (l : List Int) : Prop := ∀ x ∈ l, 0 ≤ x ∧ x ≤ 255
theorem bytes_getD {l : List Int} (hl : Bytes l) {i : Nat} (h : i < l.length) : 0 ≤ l.getD i 0 ∧ l.getD i 0 ≤ 255 := by
  rw [List.getD_eq_getElem?_getD, List.getElem?_eq_getElem h]
  exact hl _ (List.getElem_mem h)
def seedN (s b : Int) : Int := IntKind.wrap .u64 ((IntKind.wrap .u64 ((IntKind.wrap .u64 (s * 6364136223846793005)) + b)) + 1442695040888963407)
theorem next_ex {l : List Int} (hl : Bytes l) (n : Nat) {p s : Int} (h0 : 0 ≤ p) (h1 : p ≤ 4611686018427387904) : ∃ r s', 0 ≤ r ∧ r ≤ 255 ∧ ∀ (R : Type) (k : Int → List Int → Int → Int → Option R), spec_l1Cur_next n l p s k = k r l (p + 1) s' := by
  have hw : IntKind.wrap .i64 (p + 1) = p + 1 := wrap64 (by omega) (by omega)
  by_cases c : p < (l.length : Int)
  · obtain ⟨b1, b2⟩ := bytes_getD hl (i := Int.toNat p) (by omega)
    have hg : IntKind.wrap .i64 (l.getD (Int.toNat p) 0) = l.getD (Int.toNat p) 0 := wrap64 (by omega) (by omega)
    refine ⟨l.getD (Int.toNat p) 0, seedN s (IntKind.wrap .u64 (l.getD (Int.toNat p) 0)), b1, b2, fun R k => ?_⟩
    unfold spec_l1Cur_next
    rw [decide_eq_true c, decide_eq_true h0, hw, decide_eq_true (show p + 1 ≤ (l.length : Int) by omega), hg]
    rfl
  · have hn := and255 (Int.fdiv (seedN s 0) (2 ^ (min (Int.toNat 40) (IntKind.bits .u64))))
    refine ⟨_, seedN s 0, hn.1, hn.2, fun R k => ?_⟩
    unfold spec_l1Cur_next
    rw [decide_eq_false c, hw, decide_eq_false (show ¬ p + 1 ≤ (l.length : Int) by omega)]
    rfl
theorem pick_ex {l : List Int} (hl : Bytes l) (n : Nat) {m p s : Int} (hm : m ≤ 60000) (h0 : 0 ≤ p) (h1 : p ≤ 4611686018427387000) : ∃ r p' s', 0 ≤ r ∧ (r < m ∨ (m ≤ 1 ∧ r = 0)) ∧ p ≤ p' ∧ p' ≤ p + 2 ∧ ∀ (R : Type) (k : Int → List Int → Int → Int → Option R), spec_l1Cur_pick n m l p s k = k r l p' s' := by
  by_cases c : m ≤ 1
  · exact ⟨0, p, s, by omega, .inr ⟨c, rfl⟩, by omega, by omega, fun R k => by unfold spec_l1Cur_pick; rw [decide_eq_true c]; rfl⟩
  · obtain ⟨r, s1, r0, r1, hr⟩ := next_ex hl n (s := s) h0 (by omega)
    by_cases c2 : m > 200
    · obtain ⟨q, s2, q0, q1, hq⟩ := next_ex hl n (p := p + 1) (s := s1) (by omega) (by omega)
      have e : IntKind.wrap .i64 (IntKind.wrap .i64 (r * 256) + q) = r * 256 + q := by rw [wrap64 (x := r * 256) (by omega) (by omega), wrap64 (by omega) (by omega)]
      have t0 := Int.tmod_nonneg m (show 0 ≤ r * 256 + q by omega)
      have t1 := Int.tmod_lt_of_pos (r * 256 + q) (show 0 < m by omega)
      refine ⟨Int.tmod (r * 256 + q) m, p + 1 + 1, s2, t0, .inl t1, by omega, by omega, fun R k => ?_⟩
      unfold spec_l1Cur_pick
      rw [decide_eq_false c, hr, decide_eq_true c2, hq, decide_eq_true (show m ≠ 0 by omega), e]
      rfl
    · have t0 := Int.tmod_nonneg m (show 0 ≤ r by omega)
      have t1 := Int.tmod_lt_of_pos r (show 0 < m by omega)
      refine ⟨Int.tmod r m, p + 1, s1, t0, .inl t1, by omega, by omega, fun R k => ?_⟩
      unfold spec_l1Cur_pick
      rw [decide_eq_false c, hr, decide_eq_false c2, decide_eq_true (show m ≠ 0 by omega)]
      rfl
theorem among_ex {l : List Int} (hl : Bytes l) (n : Nat) {xs : List Int} (hx : xs ≠ []) (hx2 : xs.length ≤ 200) {p s : Int} (h0 : 0 ≤ p) (h1 : p ≤ 4611686018427387000) : ∃ r p' s', r ∈ xs ∧ p ≤ p' ∧ p' ≤ p + 2 ∧ ∀ (R : Type) (k : Int → List Int → Int → Int → Option R), spec_l1Cur_among n xs l p s k = k r l p' s' := by
  have hp := List.length_pos_iff.2 hx
  obtain ⟨i, p', s', i0, i1, q0, q1, hi⟩ := pick_ex hl n (m := (xs.length : Int)) (s := s) (by omega) h0 h1
  have hlt : Int.toNat i < xs.length := by omega
  refine ⟨xs.getD (Int.toNat i) 0, p', s', ?_, q0, q1, fun R k => ?_⟩
  · rw [List.getD_eq_getElem?_getD, List.getElem?_eq_getElem hlt]
    exact List.getElem_mem hlt
  · unfold spec_l1Cur_among
    rw [hi, decide_eq_true i0, decide_eq_true (show i < (xs.length : Int) by omega)]
    rfl
theorem one_ex {l : List Int} (hl : Bytes l) (n : Nat) {m p s : Int} (hm : m ≤ 60000) (h0 : 0 ≤ p) (h1 : p ≤ 4611686018427387000) : ∃ b p' s', p ≤ p' ∧ p' ≤ p + 2 ∧ ∀ (R : Type) (k : Bool → List Int → Int → Int → Option R), spec_l1Cur_one n m l p s k = k b l p' s' := by
  obtain ⟨r, p', s', _, _, a, b, h⟩ := pick_ex hl n (s := s) hm h0 h1
  exact ⟨_, p', s', a, b, fun R k => by unfold spec_l1Cur_one; rw [h]⟩
theorem items_loop_ex {l : List Int} (hl : Bytes l) : ∀ (n j : Nat) (x y p s : Int) (out : List (Int × Int)), j < n → out.length + j ≤ 2000 → 0 ≤ p → p + 4 * j ≤ 4000000 → ∃ o p' s', o.length = out.length + j ∧ p ≤ p' ∧ p' ≤ p + 4 * j ∧ ∀ (R : Type) (k : List Int → Int → Int → List (Int × Int) → Option R), spec_l1Cur_items_l7 n x y (j : Int) l p s out k = k l p' s' o
  | 0, _, _, _, _, _, _, h, _, _, _ => by omega
  | n + 1, 0, x, y, p, s, out, hn, ho, h0, h1 => ⟨out, p, s, by simp, by omega, by omega, fun R k => by unfold spec_l1Cur_items_l7; rfl⟩
  | n + 1, j + 1, x, y, p, s, out, hn, ho, h0, h1 => by
    obtain ⟨r1, p1, s1, _, _, a1, b1, e1⟩ := pick_ex hl n (m := 4) (p := p) (s := s) (by omega) (by omega) (by omega)
    obtain ⟨r2, p2, s2, _, _, a2, b2, e2⟩ := pick_ex hl n (m := 3) (p := p1) (s := s1) (by omega) (by omega) (by omega)
    obtain ⟨o, p3, s3, c1, c2, c3, e3⟩ := items_loop_ex hl n j (IntKind.wrap .i64 (x + IntKind.wrap .i64 (1 + r1))) (IntKind.wrap .i64 (y + IntKind.wrap .i64 (1 + r2))) p2 s2 (out ++ [(IntKind.wrap .i64 (x + IntKind.wrap .i64 (1 + r1)), y)]) (by omega) (by simp; omega) (by omega) (by omega)
    refine ⟨o, p3, s3, by rw [c1]; simp; omega, by omega, by omega, fun R k => ?_⟩
    unfold spec_l1Cur_items_l7
    rw [decide_eq_true (show ((j + 1 : Nat) : Int) > 0 by omega), e1, decide_eq_true (show out.length + [(IntKind.wrap .i64 (x + IntKind.wrap .i64 (1 + r1)), y)].length ≤ LIM by simp [LIM]; omega), e2, wrap64 (x := ((j + 1 : Nat) : Int) - 1) (by omega) (by omega), show ((j + 1 : Nat) : Int) - 1 = (j : Int) by omega]
    exact e3 R k
theorem items_tail_ex {l : List Int} (hl : Bytes l) (n : Nat) (o : List (Int × Int)) {p s : Int} (h0 : 0 ≤ p) (h1 : p ≤ 4000000) : ∃ o' p' s', o'.length = o.length ∧ p ≤ p' ∧ p' ≤ p + 4 ∧ ∀ (R : Type) (k : List (Int × Int) → List Int → Int → Int → Option R),
    (bif (decide ((o.length : Int) > 0)) then (spec_l1Cur_one n 30 l p s fun r29 r30 r31 r32 => (bif r29 then (spec_l1Cur_among n ([0, 5, 1001]) r30 r31 r32 fun r33 r34 r35 r36 => (bif decide (0 < (o.length : Int)) then k (o.set 0 (r33, (o.getD 0 (0, 0)).2)) r34 r35 r36 else none)) else k o r30 r31 r32)) else k o l p s) = k o' l p' s' := by
  by_cases c : (o.length : Int) > 0
  · obtain ⟨b, p1, s1, a1, b1, e1⟩ := one_ex hl n (m := 30) (p := p) (s := s) (by omega) (by omega) (by omega)
    cases b with
    | true =>
      obtain ⟨q, p2, s2, _, a2, b2, e2⟩ := among_ex hl n (xs := [0, 5, 1001]) (p := p1) (s := s1) (by simp) (by simp) (by omega) (by omega)
      refine ⟨o.set 0 (q, (o.getD 0 (0, 0)).2), p2, s2, by simp, by omega, by omega, fun R k => ?_⟩
      rw [decide_eq_true c, e1]
      simp only [cond_true]
      rw [e2]
    | false => exact ⟨o, p1, s1, rfl, by omega, by omega, fun R k => by rw [decide_eq_true c, e1]; rfl⟩
  · exact ⟨o, p, s, rfl, by omega, by omega, fun R k => by rw [decide_eq_false c]; rfl⟩
theorem items_ex {l : List Int} (hl : Bytes l) {n : Nat} (hn : 100 ≤ n) {p s : Int} (h0 : 0 ≤ p) (h1 : p ≤ 1000000) : ∃ o p' s', o.length ≤ 21 ∧ p ≤ p' ∧ p' ≤ p + 200 ∧ ∀ (R : Type) (k : List (Int × Int) → List Int → Int → Int → Option R), spec_l1Cur_items n l p s k = k o l p' s' := by
  obtain ⟨r1, p1, s1, _, _, a1, b1, e1⟩ := pick_ex hl n (m := 3) (p := p) (s := s) (by omega) (by omega) (by omega)
  obtain ⟨r2, p2, s2, u2, v2, a2, b2, e2⟩ := pick_ex hl n (m := 5) (p := p1) (s := s1) (by omega) (by omega) (by omega)
  obtain ⟨b, p3, s3, a3, b3, e3⟩ := one_ex hl n (m := 20) (p := p2) (s := s2) (by omega) (by omega) (by omega)
  cases b with
  | true =>
    obtain ⟨r4, p4, s4, u4, v4, a4, b4, e4⟩ := pick_ex hl n (m := 2) (p := p3) (s := s3) (by omega) (by omega) (by omega)
    obtain ⟨o, p5, s5, c5, a5, b5, e5⟩ := items_loop_ex hl n (20 + r4).toNat 0 r1 p4 s4 [] (by omega) (by simp; omega) (by omega) (by omega)
    obtain ⟨o', p6, s6, c6, a6, b6, e6⟩ := items_tail_ex hl n o (p := p5) (s := s5) (by omega) (by omega)
    refine ⟨o', p6, s6, by simp at c5; omega, by omega, by omega, fun R k => ?_⟩
    unfold spec_l1Cur_items
    rw [e1, e2, e3, cond_true, e4, wrap64 (x := 20 + r4) (by omega) (by omega)]
    rw [show (((20 + r4).toNat : Nat) : Int) = 20 + r4 by omega] at e5
    rw [e5]
    exact e6 R k
  | false =>
    obtain ⟨o, p5, s5, c5, a5, b5, e5⟩ := items_loop_ex hl n r2.toNat 0 r1 p3 s3 [] (by omega) (by simp; omega) (by omega) (by omega)
    obtain ⟨o', p6, s6, c6, a6, b6, e6⟩ := items_tail_ex hl n o (p := p5) (s := s5) (by omega) (by omega)
    refine ⟨o', p6, s6, by simp at c5; omega, by omega, by omega, fun R k => ?_⟩
    unfold spec_l1Cur_items
    rw [e1, e2, e3, cond_false]
    rw [show ((r2.toNat : Nat) : Int) = r2 by omega] at e5
    rw [e5]
    exact e6 R k
theorem l11Append_ex (n : Nat) {b : List (Int × Int)} (hb : b.length ≤ 1000) (x y : Int) : ∃ o, o.length ≤ b.length + 1 ∧ ∀ (R : Type) (k : List (Int × Int) → Option R), spec_l11Append n b x y k = k o := by
  by_cases h : b = []
  · subst h
    exact ⟨[(x, y)], by simp, fun R k => rfl⟩
  · have hp := List.length_pos_iff.2 h
    have hw : IntKind.wrap .i64 ((b.length : Int) - 1) = (b.length : Int) - 1 := wrap64 (by omega) (by omega)
    cases c : ((b.getD (Int.toNat ((b.length : Int) - 1)) (0, 0)).2 == y) with
    | true =>
      refine ⟨b.set (Int.toNat ((b.length : Int) - 1)) (x, (b.getD (Int.toNat ((b.length : Int) - 1)) (0, 0)).2), by simp, fun R k => ?_⟩
      unfold spec_l11Append
      rw [List.nil_append, hw, c, decide_eq_true (show ([] : List (Int × Int)).length + b.length ≤ LIM by simp [LIM]; omega), decide_eq_true (show (b.length : Int) - 1 ≥ 0 by omega), decide_eq_true (show (b.length : Int) - 1 < (b.length : Int) by omega)]
      rfl
    | false =>
      refine ⟨b ++ [(x, y)], by simp, fun R k => ?_⟩
      unfold spec_l11Append
      rw [List.nil_append, hw, c, decide_eq_true (show ([] : List (Int × Int)).length + b.length ≤ LIM by simp [LIM]; omega), decide_eq_true (show (b.length : Int) - 1 ≥ 0 by omega), decide_eq_true (show (b.length : Int) - 1 < (b.length : Int) by omega), decide_eq_true (show b.length + [(x, y)].length ≤ LIM by simp [LIM]; omega)]
      rfl
theorem appendItem_ex {n : Nat} {b : List (Int × Int)} (hb : b.length ≤ 1000) (hn : 2000 ≤ n) (x y : Int) : ∃ ok o, o.length ≤ b.length + 1 ∧ ∀ (R : Type) (k : Bool → List (Int × Int) → Option R), spec_AppendItem n b x y k = k ok o := by
  have hbb : b.length ≤ 9223372036854775807 := by omega
  cases hg : goodI b with
  | false => exact ⟨false, [], by simp, fun R k => by unfold spec_AppendItem; rw [spec_GoodItems_eq hbb (by omega), hg]; rfl⟩
  | true =>
    cases hx : (x != IntKind.wrap .i64 ((lastI b).1 + 1)) with
    | true => exact ⟨false, [], by simp, fun R k => by unfold spec_AppendItem; rw [spec_GoodItems_eq hbb (by omega), hg, spec_l11Last_eq hbb, hx]; rfl⟩
    | false =>
      obtain ⟨o, ho, he⟩ := l11Append_ex n hb x y
      have tail : ∀ (R : Type) (k : Bool → List (Int × Int) → Option R), (spec_GoodItems n o fun r4 => (bif (!r4) then k false ([] : List (Int × Int)) else k true o)) = k (goodI o) (if goodI o = true then o else []) := fun R k => by
        rw [spec_GoodItems_eq (by omega) (by omega)]
        cases goodI o <;> rfl
      have hlen : (if goodI o = true then o else []).length ≤ b.length + 1 := by
        split
        · exact ho
        · simp
      by_cases h : b = []
      · refine ⟨goodI o, _, hlen, fun R k => ?_⟩
        unfold spec_AppendItem
        rw [spec_GoodItems_eq hbb (by omega), hg, spec_l11Last_eq hbb, hx, decide_eq_false (show ¬ (b.length : Int) > 0 by rw [h]; simp)]
        simp only [Bool.not_true, cond_false]
        rw [he]
        exact tail R k
      · have hp := List.length_pos_iff.2 h
        have hw : IntKind.wrap .i64 ((b.length : Int) - 1) = (b.length : Int) - 1 := wrap64 (by omega) (by omega)
        cases c : decide ((b.getD (Int.toNat ((b.length : Int) - 1)) (0, 0)).2 > y) with
        | true =>
          refine ⟨false, [], by simp, fun R k => ?_⟩
          unfold spec_AppendItem
          rw [spec_GoodItems_eq hbb (by omega), hg, spec_l11Last_eq hbb, hx, hw, c, decide_eq_true (show (b.length : Int) > 0 by omega), decide_eq_true (show 0 ≤ (b.length : Int) - 1 by omega), decide_eq_true (show (b.length : Int) - 1 < (b.length : Int) by omega)]
          rfl
        | false =>
          refine ⟨goodI o, _, hlen, fun R k => ?_⟩
          unfold spec_AppendItem
          rw [spec_GoodItems_eq hbb (by omega), hg, spec_l11Last_eq hbb, hx, hw, c, decide_eq_true (show (b.length : Int) > 0 by omega), decide_eq_true (show 0 ≤ (b.length : Int) - 1 by omega), decide_eq_true (show (b.length : Int) - 1 < (b.length : Int) by omega)]
          simp only [Bool.not_true, cond_false, cond_true]
          rw [he]
          exact tail R k
theorem two_loop_ex {l : List Int} (hl : Bytes l) (a : List (Int × Int)) : ∀ (n j : Nat) (b : List (Int × Int)) (v p s : Int), j + 3000 ≤ n → b.length + j ≤ 500 → 0 ≤ p → p + 2 * j ≤ 4000000 → ∃ o p' s', o.length ≤ b.length + j ∧ ∀ (R : Type) (k : List (Int × Int) → List (Int × Int) → List Int → Int → Int → Option R), spec_l1Cur_twoItems_l11 n a b v (j : Int) l p s k = k a o l p' s'
  | 0, _, _, _, _, _, h, _, _, _ => by omega
  | n + 1, 0, b, v, p, s, hn, hb, h0, h1 => ⟨b, p, s, by simp, fun R k => by unfold spec_l1Cur_twoItems_l11; rfl⟩
  | n + 1, j + 1, b, v, p, s, hn, hb, h0, h1 => by
    obtain ⟨r1, p1, s1, _, _, a1, b1, e1⟩ := pick_ex hl n (m := 3) (p := p) (s := s) (by omega) (by omega) (by omega)
    obtain ⟨ok, c, hc, e2⟩ := appendItem_ex (n := n) (b := b) (by omega) (by omega) (IntKind.wrap .i64 ((lastI b).1 + 1)) (IntKind.wrap .i64 (v + r1))
    have hbb : b.length ≤ 9223372036854775807 := by omega
    have hj : IntKind.wrap .i64 (((j + 1 : Nat) : Int) - 1) = (j : Int) := by rw [wrap64 (by omega) (by omega)]; omega
    cases ok with
    | true =>
      obtain ⟨o, p3, s3, c3, e3⟩ := two_loop_ex hl a n j c (IntKind.wrap .i64 (v + r1)) p1 s1 (by omega) (by omega) (by omega) (by omega)
      refine ⟨o, p3, s3, by omega, fun R k => ?_⟩
      unfold spec_l1Cur_twoItems_l11
      rw [decide_eq_true (show ((j + 1 : Nat) : Int) > 0 by omega), e1, spec_l11Last_eq hbb, e2, hj]
      exact e3 R k
    | false =>
      obtain ⟨o, p3, s3, c3, e3⟩ := two_loop_ex hl a n j b (IntKind.wrap .i64 (v + r1)) p1 s1 (by omega) (by omega) (by omega) (by omega)
      refine ⟨o, p3, s3, by omega, fun R k => ?_⟩
      unfold spec_l1Cur_twoItems_l11
      rw [decide_eq_true (show ((j + 1 : Nat) : Int) > 0 by omega), e1, spec_l11Last_eq hbb, e2, hj]
      exact e3 R k
theorem drawLca_ex {l : List Int} (hl : Bytes l) {n : Nat} (hn : 4000 ≤ n) : ∃ a b, a.length ≤ 100 ∧ b.length ≤ 100 ∧ ∀ (R : Type) (k : List (Int × Int) → List (Int × Int) → Option R), spec_DrawLcaOf n l k = k a b := by
  obtain ⟨a, p1, s1, c1, a1, b1, e1⟩ := items_ex hl (n := n) (by omega) (p := 0) (s := 0) (by omega) (by omega)
  obtain ⟨t, p2, s2, a2, b2, e2⟩ := one_ex hl n (m := 4) (p := p1) (s := s1) (by omega) (by omega) (by omega)
  unfold spec_DrawLcaOf spec_l1Cur_twoItems
  simp only [e1, e2]
  cases t with
  | true =>
    obtain ⟨b, p3, s3, c3, a3, b3, e3⟩ := items_ex hl (n := n) (by omega) (p := p2) (s := s2) (by omega) (by omega)
    exact ⟨a, b, by omega, by omega, fun R k => by rw [cond_true, e3]⟩
  | false =>
    simp only [cond_false, spec_GoodItems_eq (show a.length ≤ 9223372036854775807 by omega) (show a.length < n by omega)]
    cases hg : goodI a with
    | false => exact ⟨a, a, by omega, by omega, fun R k => rfl⟩
    | true =>
      have hla := lastI_le hg
      simp only [Bool.not_true, cond_false, spec_l11Last_eq (show a.length ≤ 9223372036854775807 by omega), wrap64 (show -9223372036854775808 ≤ (lastI a).1 + 1 by omega) (by omega)]
      obtain ⟨r, p3, s3, u3, v3, a3, b3, e3⟩ := pick_ex hl n (m := (lastI a).1 + 1) (p := p2) (s := s2) (by omega) (by omega) (by omega)
      simp only [e3, spec_l11Cut_eq hg u3 (show 100 ≤ n by omega)]
      have hcl := cutF_length (upto := r) a 0
      obtain ⟨q, p4, s4, u4, v4, a4, b4, e4⟩ := pick_ex hl n (m := 4) (p := p3) (s := s3) (by omega) (by omega) (by omega)
      simp only [e4]
      by_cases h : cutF r 0 a = []
      · obtain ⟨o, p5, s5, c5, e5⟩ := two_loop_ex hl a n q.toNat (cutF r 0 a) 0 p4 s4 (by omega) (by omega) (by omega) (by omega)
        rw [show ((q.toNat : Nat) : Int) = q by omega] at e5
        exact ⟨a, o, by omega, by omega, fun R k => by rw [decide_eq_false (show ¬ ((cutF r 0 a).length : Int) > 0 by rw [h]; simp), cond_false, e5]⟩
      · have hp := List.length_pos_iff.2 h
        obtain ⟨o, p5, s5, c5, e5⟩ := two_loop_ex hl a n q.toNat (cutF r 0 a) ((lastI (cutF r 0 a)).2) p4 s4 (by omega) (by omega) (by omega) (by omega)
        rw [show ((q.toNat : Nat) : Int) = q by omega] at e5
        refine ⟨a, o, by omega, by omega, fun R k => ?_⟩
        rw [decide_eq_true (show ((cutF r 0 a).length : Int) > 0 by omega), (dlast h (by omega)).1, (dlast h (by omega)).2, getD_last h (by omega)]
        simp only [cond_true]
        rw [e5]
theorem lcaFrom_in {a b : List (Int × Int)} : ∀ (j : Nat) (id : Int), 0 ≤ id → lcaFrom a b j id = id ∨ (id < lcaFrom a b j id ∧ lcaFrom a b j id ≤ (lastI a).1 ∧ lcaFrom a b j id ≤ (lastI b).1)
  | 0, id, _ => .inl rfl
  | j + 1, id, h => by
    unfold lcaFrom
    split
    · rename_i c
      have := lcaFrom_in (a := a) (b := b) j (id + 1) (by omega)
      omega
    · exact .inl rfl
theorem lcaFrom_comm (a b : List (Int × Int)) : ∀ (j : Nat) (id : Int), lcaFrom a b j id = lcaFrom b a j id
  | 0, id => rfl
  | j + 1, id => by
    unfold lcaFrom
    by_cases h : id < (lastI a).1 ∧ id < (lastI b).1 ∧ atV a (id + 1) = atV b (id + 1)
    · rw [if_pos h, if_pos ⟨h.2.1, h.1, h.2.2.symm⟩, lcaFrom_comm a b j]
    · rw [if_neg h, if_neg fun h' => h ⟨h'.2.1, h'.1, h'.2.2.symm⟩]
/-- Up to the last common id the versions are the same; behind it they are not. -/
theorem lcaFrom_same (a b : List (Int × Int)) : ∀ (j : Nat) (id i : Int), id < i → i ≤ lcaFrom a b j id → atV a i = atV b i
  | 0, id, i, h1, h2 => by simp only [lcaFrom] at h2; omega
  | j + 1, id, i, h1, h2 => by
    unfold lcaFrom at h2
    split at h2
    · rename_i h
      by_cases c : i = id + 1
      · rw [c]; exact h.2.2
      · exact lcaFrom_same a b j (id + 1) i (by omega) h2
    · omega
theorem lcaFrom_end (a b : List (Int × Int)) : ∀ (j : Nat) (id : Int), (lastI a).1 < id + j → lcaFrom a b j id < (lastI a).1 → lcaFrom a b j id < (lastI b).1 → atV a (lcaFrom a b j id + 1) ≠ atV b (lcaFrom a b j id + 1)
  | 0, id, h0, h1, h2 => by simp only [lcaFrom] at h1; omega
  | j + 1, id, h0, h1, h2 => by
    unfold lcaFrom at h1 h2 ⊢
    split
    · rename_i h
      rw [if_pos h] at h1 h2
      exact lcaFrom_end a b j (id + 1) (by omega) h1 h2
    · rename_i h
      rw [if_neg h] at h1 h2
      exact fun e => h ⟨h1, h2, e⟩
theorem atV_gt {l : List (Int × Int)} {u v i w : Int} (h : goodFrom u v l = true) (hw : atV l i = some w) : v < w := by
  unfold atV at hw
  obtain ⟨x, hx, hxw⟩ := Option.map_eq_some_iff.1 hw
  have := goodFrom_bounds h x (List.mem_of_find?_eq_some hx)
  omega
theorem atV_cons (x : Int × Int) (r : List (Int × Int)) (i : Int) : atV (x :: r) i = if i ≤ x.1 then some x.2 else atV r i := by
  unfold atV
  rw [List.find?_cons]
  by_cases h : i ≤ x.1
  · rw [decide_eq_true h, if_pos h]; rfl
  · rw [decide_eq_false h, if_neg h]
theorem cut_same {id : Int} : ∀ {a b : List (Int × Int)} {u v w : Int}, goodFrom u v a = true → goodFrom u w b = true → (∀ i, u < i → i ≤ id → atV a i = atV b i ∧ (atV a i).isSome) → cutF id u a = cutF id u b
  | [], [], _, _, _, _, _, _ => rfl
  | [], y :: rb, u, v, w, ha, hb, h => by
    by_cases c : u < id
    · have := (h (u + 1) (by omega) (by omega)).2
      simp [atV] at this
    · simp only [cutF, if_neg c]
  | x :: ra, [], u, v, w, ha, hb, h => by
    by_cases c : u < id
    · have := h (u + 1) (by omega) (by omega)
      rw [this.1] at this
      simp [atV] at this
    · simp only [cutF, if_neg c]
  | x :: ra, y :: rb, u, v, w, ha, hb, h => by
    simp only [goodFrom, Bool.and_eq_true, decide_eq_true_eq] at ha hb
    by_cases c : u < id
    · have h1 := (h (u + 1) (by omega) (by omega)).1
      rw [atV_cons, atV_cons, if_pos (by omega), if_pos (by omega)] at h1
      have e2 : x.2 = y.2 := Option.some.inj h1
      have key : ∀ (p q : Int × Int) (rp rq : List (Int × Int)), goodFrom p.1 p.2 rp = true → p.2 = q.2 → p.1 < id → u < p.1 → (∀ i, u < i → i ≤ id → atV (p :: rp) i = atV (q :: rq) i ∧ (atV (p :: rp) i).isSome) → ¬ p.1 < q.1 := by
        intro p q rp rq hp he hlt hu hh hc
        have h3 := hh (p.1 + 1) (by omega) (by omega)
        rw [atV_cons, atV_cons, if_neg (by omega), if_pos (by omega)] at h3
        have := atV_gt hp h3.1
        omega
      have hsym : ∀ i, u < i → i ≤ id → atV (y :: rb) i = atV (x :: ra) i ∧ (atV (y :: rb) i).isSome := fun i h1 h2 => by
        have := h i h1 h2
        exact ⟨this.1.symm, this.1 ▸ this.2⟩
      simp only [cutF, if_pos c]
      by_cases cx : x.1 < id
      · have k1 := key x y ra rb ha.2 e2 cx (by omega) h
        have cy : y.1 < id := by omega
        have k2 := key y x rb ra hb.2 e2.symm cy (by omega) hsym
        have e1 : x.1 = y.1 := by omega
        have exy : x = y := Prod.ext e1 e2
        subst exy
        rw [if_neg (by omega), if_neg (by omega)]
        congr 1
        refine cut_same ha.2 hb.2 fun i h1 h2 => ?_
        have := h i (by omega) h2
        rw [atV_cons, atV_cons, if_neg (by omega), if_neg (by omega)] at this
        exact this
      · have cy : ¬ y.1 < id := fun cy => by
          have k2 := key y x rb ra hb.2 e2.symm cy (by omega) hsym
          omega
        have ex : (if id < x.1 then (id, x.2) :: cutF id id ra else x :: cutF id x.1 ra) = [(id, x.2)] := by
          split
          · rw [cutF_stop]
          · have : x.1 = id := by omega
            rw [this, cutF_stop, ← this]
        have ey : (if id < y.1 then (id, y.2) :: cutF id id rb else y :: cutF id y.1 rb) = [(id, y.2)] := by
          split
          · rw [cutF_stop]
          · have : y.1 = id := by omega
            rw [this, cutF_stop, ← this]
        rw [ex, ey, e2]
    · simp only [cutF, if_neg c]
theorem impl_VersionAt_eq {R : Type} {n : Nat} {l : List (Int × Int)} (hg : goodI l = true) (hn : 100 ≤ n) (x : Int) (k : Int → Bool → Option R) : impl_VersionAt n l x k = if 1 ≤ x ∧ x ≤ (lastI l).1 then k ((atV l x).getD (-1)) true else k 0 false := by
  have hl := goodI_len hg
  unfold impl_VersionAt
  rw [impl_GoodItems_eq (by omega) (by omega), hg, impl_last_eq (by omega), impl_in_eq]
  by_cases c : 1 ≤ x ∧ x ≤ (lastI l).1
  · obtain ⟨v, hv⟩ := atV_in c
    rw [decide_eq_true c, if_pos c]
    simp only [Bool.not_true, cond_false]
    rw [impl_versionAt_eq (by omega) (by omega) hv, hv]
    rfl
  · rw [decide_eq_false c, if_neg c]
    rfl
theorem laws_sameItems_loop {R : Type} (xs ys : List (Int × Int)) (hl : xs.length = ys.length) (hb : xs.length ≤ 9223372036854775807) (kr : Bool → Option R) (ke : Option R) : ∀ (n j : Nat), xs.length - j < n → j ≤ xs.length →
    laws_sameItems_l4 n xs ys (xs.length : Int) (j : Int) kr ke = if xs.drop j = ys.drop j then ke else kr false
  | 0, _, h, _ => by omega
  | n + 1, j, hn, hj => by
    unfold laws_sameItems_l4
    by_cases h : j < xs.length
    · have h' : j < ys.length := by omega
      rw [dlt h, dlt h', dnn, getD_at _ _ h, getD_at _ _ h', wrapS h hb, List.drop_eq_getElem_cons h, List.drop_eq_getElem_cons h']
      simp only [cond_true]
      by_cases he : xs[j] = ys[j]
      · rw [he, beq_self_eq_true, beq_self_eq_true, laws_sameItems_loop xs ys hl hb kr ke n (j + 1) (by omega) (by omega)]
        simp only [List.cons.injEq, true_and, Bool.and_self, Bool.not_true, cond_false]
      · have : ((xs[j].1 == ys[j].1) && ((xs[j].2 == ys[j].2) && true)) = false := by
          apply Bool.eq_false_iff.2
          intro h2
          simp only [Bool.and_eq_true, beq_iff_eq] at h2
          exact he (Prod.ext h2.1 h2.2.1)
        rw [this, Bool.not_false, cond_true, if_neg fun h => he (List.cons.inj h).1]
    · rw [dge (by omega)]
      have h1 : xs.drop j = [] := List.drop_eq_nil_iff.2 (by omega)
      have h2 : ys.drop j = [] := List.drop_eq_nil_iff.2 (by omega)
      simp [h1, h2]
theorem laws_sameItems_refl {R : Type} {n : Nat} {xs : List (Int × Int)} (hb : xs.length ≤ 9223372036854775807) (hn : xs.length < n) (k : Bool → Option R) : laws_sameItems n xs xs k = k true := by
  unfold laws_sameItems
  rw [bne_self_eq_false, cond_false]
  have := laws_sameItems_loop xs xs rfl hb k (k true) n 0 (by omega) (by omega)
  rw [show ((0 : Nat) : Int) = 0 from rfl, if_pos rfl] at this
  exact this
theorem newer_eq {R : Type} {n : Nat} {a b : List (Int × Int)} (ha : a.length ≤ 100) (hb : b.length ≤ 100) (hn : 1000 ≤ n) : ∃ t ok, (∀ k : Int → Bool → Option R, impl_NewerOf n a b k = k t ok) ∧ ∀ k : Int → Bool → Option R, spec_NewerOf n a b k = k t ok := by
  have ha' : a.length ≤ 9223372036854775807 := by omega
  have hb' : b.length ≤ 9223372036854775807 := by omega
  unfold impl_NewerOf spec_NewerOf
  simp only [spec_GoodItems_eq ha' (show a.length < n by omega), impl_GoodItems_eq ha' (show a.length < n by omega), spec_GoodItems_eq hb' (show b.length < n by omega), impl_GoodItems_eq hb' (show b.length < n by omega), impl_lastVersion_eq ha', impl_lastVersion_eq hb']
  cases goodI a with
  | false => exact ⟨0, false, fun _ => rfl, fun _ => rfl⟩
  | true =>
    cases goodI b with
    | false => exact ⟨0, false, fun _ => rfl, fun _ => rfl⟩
    | true =>
      by_cases h0 : a = []
      · subst h0; exact ⟨0, false, fun _ => rfl, fun _ => rfl⟩
      · by_cases h1 : b = []
        · subst h1
          rw [len0 h0]
          exact ⟨0, false, fun _ => rfl, fun _ => rfl⟩
        · rw [len0 h0, (dlast h0 ha').1, (dlast h0 ha').2, getD_last h0 ha', len0 h1, (dlast h1 hb').1, (dlast h1 hb').2, getD_last h1 hb']
          have e : decide ((lastI a).2 < (lastI b).2) = decide ((lastI b).2 > (lastI a).2) := rfl
          rw [e]
          cases decide ((lastI a).2 > (lastI b).2) with
          | true => exact ⟨1, true, fun _ => rfl, fun _ => rfl⟩
          | false =>
            cases decide ((lastI b).2 > (lastI a).2) with
            | true => exact ⟨2, true, fun _ => rfl, fun _ => rfl⟩
            | false => exact ⟨0, true, fun _ => rfl, fun _ => rfl⟩
/-- The last item that two have in common, by what it tells. -/
def lcaOf (a b : List (Int × Int)) : Option (Int × Int) :=
  if goodI a = true ∧ goodI b = true ∧ lcaFrom a b 1001 0 ≠ 0 then some (lcaFrom a b 1001 0, (atV a (lcaFrom a b 1001 0)).getD (-1)) else none
theorem impl_LcaOf_eq {R : Type} {n : Nat} {a b : List (Int × Int)} (ha : a.length ≤ 100) (hb : b.length ≤ 100) (hn : 2000 ≤ n) (k : Int → Int → Bool → Option R) : impl_LcaOf n a b k = match lcaOf a b with | some x => k x.1 x.2 true | none => k 0 0 false := by
  unfold impl_LcaOf lcaOf
  rw [impl_GoodItems_eq (by omega) (by omega)]
  cases ga : goodI a with
  | false => rfl
  | true =>
    rw [impl_GoodItems_eq (by omega) (by omega)]
    cases gb : goodI b with
    | false => rfl
    | true =>
      rw [impl_common_eq ga gb (by omega)]
      by_cases c : lcaFrom a b 1001 0 = 0
      · rw [c]; simp
      · have := lcaFrom_in (a := a) (b := b) 1001 0 (by omega)
        obtain ⟨v, hv⟩ := atV_in (l := a) (id := lcaFrom a b 1001 0) (by omega)
        rw [if_pos ⟨rfl, rfl, c⟩, beq_eq_false_iff_ne.2 c, impl_versionAt_eq (by omega) (by omega) hv, hv]
        rfl
theorem spec_LcaOf_eq {R : Type} {n : Nat} {a b : List (Int × Int)} (ha : a.length ≤ 100) (hb : b.length ≤ 100) (hn : 2000 ≤ n) (k : Int → Int → Bool → Option R) : spec_LcaOf n a b k = match lcaOf a b with | some x => k x.1 x.2 true | none => k 0 0 false := by
  unfold spec_LcaOf lcaOf
  rw [spec_GoodItems_eq (by omega) (by omega)]
  cases ga : goodI a with
  | false => rfl
  | true =>
    rw [spec_GoodItems_eq (by omega) (by omega)]
    cases gb : goodI b with
    | false => rfl
    | true =>
      rw [spec_l11Lca_eq ga gb (by omega)]
      by_cases c : lcaFrom a b 1001 0 = 0
      · rw [c]; simp
      · rw [if_pos ⟨rfl, rfl, c⟩, beq_eq_false_iff_ne.2 c, spec_l11At_eq (by omega) (by omega)]
        rfl
theorem lcaOf_comm (a b : List (Int × Int)) : lcaOf a b = lcaOf b a := by
  unfold lcaOf
  rw [lcaFrom_comm b a]
  by_cases h : goodI a = true ∧ goodI b = true ∧ lcaFrom a b 1001 0 ≠ 0
  · rw [if_pos h, if_pos ⟨h.2.1, h.1, h.2.2⟩]
    have := lcaFrom_in (a := a) (b := b) 1001 0 (by omega)
    rw [lcaFrom_same a b 1001 0 _ (by omega) (Int.le_refl _)]
  · rw [if_neg h, if_neg fun h' => h ⟨h'.2.1, h'.1, h'.2.2⟩]
theorem part_law {R : Type} {n : Nat} (hn : 1049700 ≤ n) {l : List Int} (hl : Bytes l) (k : Bool → Option R) : laws_FnPart n l k = k true := by
  unfold laws_FnPart
  cases decide ((l.length : Int) > 1048576) with
  | true => rfl
  | false =>
    obtain ⟨a, b, ha, hb, hd⟩ := drawLca_ex hl (n := n) (by omega)
    obtain ⟨t, ok, hn1, hn2⟩ := newer_eq (R := R) (n := n) ha hb (by omega)
    rw [cond_false, hd]
    simp only [impl_LcaOf_eq ha hb (show 2000 ≤ n by omega), spec_LcaOf_eq ha hb (show 2000 ≤ n by omega), impl_LcaOf_eq hb ha (show 2000 ≤ n by omega), hn1, hn2, lcaOf_comm b a, impl_GoodItems_eq (show a.length ≤ 9223372036854775807 by omega) (show a.length < n by omega), spec_GoodItems_eq (show a.length ≤ 9223372036854775807 by omega) (show a.length < n by omega)]
    cases hx : lcaOf a b with
    | none => simp
    | some x =>
      unfold lcaOf at hx
      split at hx
      case isFalse => cases hx
      rename_i hc
      obtain ⟨ga, gb, hne⟩ := hc
      cases hx
      have la := goodI_len ga
      have lb := goodI_len gb
      have ba := lastI_le ga
      have hin := lcaFrom_in (a := a) (b := b) 1001 0 (by omega)
      have hin := hin.resolve_left hne
      obtain ⟨v, hv⟩ := atV_in (l := a) (id := lcaFrom a b 1001 0) (by omega)
      simp only [beq_self_eq_true, Bool.and_self, Bool.not_true, cond_false, bne_self_eq_false]
      rw [impl_CutItems_eq _ (by omega) (by omega), if_pos ⟨ga, by omega, by omega⟩, impl_CutItems_eq _ (by omega) (by omega), if_pos ⟨gb, by omega, by omega⟩, impl_VersionAt_eq ga (by omega), if_pos (by omega)]
      have hcut : cutF (lcaFrom a b 1001 0) 0 a = cutF (lcaFrom a b 1001 0) 0 b := cut_same (goodI_from ga) (goodI_from gb) fun i h1 h2 => by
        refine ⟨lcaFrom_same a b 1001 0 i h1 h2, ?_⟩
        obtain ⟨w, hw⟩ := atV_in (l := a) (id := i) (by omega)
        rw [hw]; rfl
      have hcl := cutF_length (upto := lcaFrom a b 1001 0) b 0
      simp only [Bool.not_true, cond_false]
      rw [hcut, laws_sameItems_refl (by omega) (by omega)]
      simp only [Bool.not_true, cond_false, bne_self_eq_false]
      rw [wrap64 (x := lcaFrom a b 1001 0 + 1) (by omega) (by omega), impl_VersionAt_eq ga (by omega), impl_VersionAt_eq gb (by omega)]
      have hah : ∀ kk : Bool → Bool → Option R, impl_IsAhead n a b kk = kk (lcaFrom a b 1001 0 == (lastI a).1) true := fun kk => by
        unfold impl_IsAhead
        rw [impl_GoodItems_eq (by omega) (by omega), ga, impl_GoodItems_eq (by omega) (by omega), gb, impl_common_eq ga gb (by omega), impl_last_eq (by omega)]
        rfl
      by_cases c1 : lcaFrom a b 1001 0 + 1 ≤ (lastI a).1
      · rw [if_pos (by omega)]
        by_cases c2 : lcaFrom a b 1001 0 + 1 ≤ (lastI b).1
        · rw [if_pos (by omega), hah]
          have hne2 := lcaFrom_end a b 1001 0 (by omega) (by omega) (by omega)
          obtain ⟨w, hw⟩ := atV_in (l := a) (id := lcaFrom a b 1001 0 + 1) (by omega)
          obtain ⟨u, hu⟩ := atV_in (l := b) (id := lcaFrom a b 1001 0 + 1) (by omega)
          rw [hw, hu] at hne2 ⊢
          have hwu : (w != u) = true := bne_iff_ne.2 fun h => hne2 (by rw [h])
          have hlast : (lcaFrom a b 1001 0 == (lastI a).1) = false := beq_eq_false_iff_ne.2 (by omega)
          simp [hwu, hlast]
        · rw [if_neg (by omega), hah]
          have hlast : (lcaFrom a b 1001 0 == (lastI a).1) = false := beq_eq_false_iff_ne.2 (by omega)
          simp [hlast]
      · rw [if_neg (by omega), impl_VersionAt_eq gb (by omega)]
        have hlast : (lcaFrom a b 1001 0 == (lastI a).1) = true := beq_iff_eq.2 (by omega)
        split <;> simp [hah, hlast]
theorem plain : Plain := fun l hl _ k => ⟨_, part_law (Nat.le_refl _) (fun x hx => hl.2 x hx) k⟩
end Go.Am.G
