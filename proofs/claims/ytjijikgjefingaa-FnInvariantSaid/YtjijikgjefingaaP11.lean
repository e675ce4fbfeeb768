/- The plain law: what the functions compute answers as the law says, for all arguments. -/
import Derived.Test.YtjijikgjefingaaF11
set_option linter.unusedVariables false
set_option linter.unusedSimpArgs false
namespace Go.Am.G
open Go Go.Am
theorem wrap64 {x : Int} (h1 : -9223372036854775808 ≤ x) (h2 : x ≤ 9223372036854775807) : IntKind.wrap .i64 x = x := by
  simp only [IntKind.wrap, IntKind.signed, IntKind.bits]
  simp
  omega
theorem bif_true {α : Type} (a b : α) : (bif true then a else b) = a := rfl
theorem bif_false {α : Type} (a b : α) : (bif false then a else b) = b := rfl
theorem getD_at {α : Type} (l : List α) (d : α) {j : Nat} (h : j < l.length) : l.getD (Int.toNat (j : Int)) d = l[j] := by
  rw [Int.toNat_natCast, List.getD_eq_getElem?_getD, List.getElem?_eq_getElem h]; rfl
theorem dlt {a b : Nat} (h : a < b) : decide ((a : Int) < (b : Int)) = true := decide_eq_true (by omega)
theorem dge {a b : Nat} (h : b ≤ a) : decide ((a : Int) < (b : Int)) = false := decide_eq_false (by omega)
theorem dnn (a : Nat) : decide (0 ≤ (a : Int)) = true := decide_eq_true (by omega)
theorem wrapS {j m : Nat} (h : j < m) (hm : m ≤ 9223372036854775807) : IntKind.wrap .i64 ((j : Int) + 1) = ((j + 1 : Nat) : Int) := by
  rw [wrap64 (by omega) (by omega)]; rfl
theorem spec_l1In_eq {R : Type} (n : Nat) (x a b : Int) (k : Bool → Option R) : spec_l1In n x a b k = k (decide (a ≤ x ∧ x ≤ b)) := by
  simp only [spec_l1In]
  by_cases h : x ≥ a
  · have : a ≤ x := h
    simp [this]
  · have : ¬ a ≤ x := h
    simp [this]
theorem impl_in_eq {R : Type} (n : Nat) (x a b : Int) (k : Bool → Option R) : impl_in n x a b k = k (decide (a ≤ x ∧ x ≤ b)) := by
  simp only [impl_in]
  by_cases h : x ≥ a
  · have : a ≤ x := h
    simp [this]
  · have : ¬ a ≤ x := h
    simp [this]
theorem bifk {R α : Type} (b : Bool) (x y : α) (k : α → Option R) : (bif b then k x else k y) = k (bif b then x else y) := by cases b <;> rfl
theorem loop_all {α R : Type} (l : List α) (q : α → Bool) (B : Nat) (F : Nat → Int → Option R) (ke kr : Option R)
    (step : ∀ (n j : Nat) (h : j < l.length), B ≤ n → F (n + 1) (j : Int) = bif q l[j] then F n ((j + 1 : Nat) : Int) else kr)
    (stop : ∀ n, F (n + 1) (l.length : Int) = ke) : ∀ (n j : Nat), B + (l.length - j) < n → j ≤ l.length → F n (j : Int) = bif (l.drop j).all q then ke else kr
  | 0, _, h, _ => by omega
  | n + 1, j, hn, hj => by
    by_cases h : j < l.length
    · rw [step n j h (by omega), List.drop_eq_getElem_cons h, List.all_cons, loop_all l q B F ke kr step stop n (j + 1) (by omega) (by omega)]
      cases q l[j] <;> rfl
    · have : j = l.length := by omega
      subst this
      rw [stop, List.drop_length]; rfl
theorem loop_all0 {α R : Type} (l : List α) (q : α → Bool) (B : Nat) (F : Nat → Int → Option R) (ke kr : Option R)
    (step : ∀ (n j : Nat) (h : j < l.length), B ≤ n → F (n + 1) (j : Int) = bif q l[j] then F n ((j + 1 : Nat) : Int) else kr)
    (stop : ∀ n, F (n + 1) (l.length : Int) = ke) {n : Nat} (hn : B + l.length < n) : F n 0 = bif l.all q then ke else kr := by
  have := loop_all l q B F ke kr step stop n 0 (by omega) (by omega)
  rw [List.drop_zero] at this
  exact this
/-- Numbers that rise, from above one to below another. -/
def riseTo (B : Int) : Int → List Int → Bool
  | _, [] => true
  | v, x :: r => decide (v < x ∧ x < B) && riseTo B x r
theorem riseTo_iff {B : Int} : ∀ {l : List Int} {v : Int}, riseTo B v l = true ↔ l.Pairwise (· < ·) ∧ ∀ x ∈ l, v < x ∧ x < B
  | [], v => by simp [riseTo]
  | y :: r, v => by
    have ih := riseTo_iff (B := B) (l := r) (v := y)
    simp only [riseTo, Bool.and_eq_true, decide_eq_true_eq, ih, List.pairwise_cons, List.mem_cons]
    constructor
    · rintro ⟨h1, h2, h3⟩
      refine ⟨⟨fun x hx => (h3 x hx).1, h2⟩, fun x hx => ?_⟩
      rcases hx with rfl | hx
      · exact h1
      · have := h3 x hx
        omega
    · rintro ⟨⟨h1, h2⟩, h3⟩
      exact ⟨h3 y (.inl rfl), h2, fun x hx => ⟨h1 x hx, (h3 x (.inr hx)).2⟩⟩
theorem spec_l3List_loop {R : Type} (l : List Int) (hb : l.length ≤ 9223372036854775807) {B : Int} (hB : 0 ≤ B) (hB2 : B ≤ 1000) (kr : Bool → Option R) (ke : Option R) : ∀ (n j : Nat) (v : Int), l.length - j < n → j ≤ l.length → -1 ≤ v →
    (j = 0 → v = -1) → (∀ (h : j - 1 < l.length), 0 < j → l[j - 1] = v) →
    spec_l3List_l2 n l B l (l.length : Int) (j : Int) kr ke = bif riseTo B v (l.drop j) then ke else kr false
  | 0, _, _, h, _, _, _, _ => by omega
  | n + 1, j, v, hn, hj, hv, h0, h1 => by
    unfold spec_l3List_l2
    by_cases h : j < l.length
    · rw [dlt h, dnn, getD_at _ _ h, wrapS h hb, List.drop_eq_getElem_cons h, wrap64 (x := B - 1) (by omega) (by omega)]
      simp only [cond_true, spec_l1In_eq, riseTo]
      have ih := fun (h2 : -1 ≤ l[j]) => spec_l3List_loop l hb hB hB2 kr ke n (j + 1) l[j] (by omega) (by omega) h2 (by omega) (fun _ _ => rfl)
      by_cases hz : j = 0
      · have hv := h0 hz
        subst hv
        rw [decide_eq_false (show ¬ ((j : Int) > 0) by omega)]
        by_cases c1 : 0 ≤ l[j] ∧ l[j] ≤ B - 1
        · rw [decide_eq_true c1, decide_eq_true (show -1 < l[j] ∧ l[j] < B by omega)]
          simp only [Bool.not_true, cond_false, Bool.true_and]
          exact ih (by omega)
        · rw [decide_eq_false c1, decide_eq_false (show ¬ (-1 < l[j] ∧ l[j] < B) by omega)]; rfl
      · have hp : j - 1 < l.length := by omega
        have hq := h1 hp (by omega)
        rw [decide_eq_true (show ((j : Int) > 0) by omega), wrap64 (x := (j : Int) - 1) (by omega) (by omega), show (j : Int) - 1 = ((j - 1 : Nat) : Int) by omega, dnn, dlt hp, getD_at _ _ hp, hq]
        simp only [cond_true]
        by_cases c1 : 0 ≤ l[j] ∧ l[j] ≤ B - 1
        · rw [decide_eq_true c1]
          simp only [Bool.not_true, cond_false]
          by_cases c3 : v < l[j]
          · rw [decide_eq_false (show ¬ (v ≥ l[j]) by omega), decide_eq_true (show v < l[j] ∧ l[j] < B by omega)]
            simp only [cond_false, Bool.true_and]
            exact ih (by omega)
          · rw [decide_eq_true (show (v ≥ l[j]) by omega), decide_eq_false (show ¬ (v < l[j] ∧ l[j] < B) by omega)]; rfl
        · rw [decide_eq_false c1, decide_eq_false (show ¬ (v < l[j] ∧ l[j] < B) by omega)]; rfl
    · rw [dge (by omega), List.drop_eq_nil_iff.2 (by omega)]; rfl
theorem spec_l3List_eq {R : Type} {n : Nat} {l : List Int} (hb : l.length ≤ 9223372036854775807) {B : Int} (hB : 0 ≤ B) (hB2 : B ≤ 1000) (hn : l.length < n) (k : Bool → Option R) : spec_l3List n l B k = k (riseTo B (-1) l) := by
  unfold spec_l3List
  have := spec_l3List_loop l hb hB hB2 k (k true) n 0 (-1) (by omega) (by omega) (by omega) (fun _ => rfl) (fun _ h => by omega)
  rw [show ((0 : Nat) : Int) = 0 from rfl, List.drop_zero] at this
  rw [this]
  cases riseTo B (-1) l <;> rfl
theorem impl_rising_loop {R : Type} (l : List Int) (hb : l.length ≤ 9223372036854775807) {B : Int} (hB : 0 ≤ B) (hB2 : B ≤ 1000) (kr : Bool → Option R) (ke : Option R) : ∀ (n j : Nat) (v : Int), l.length - j < n → j ≤ l.length → -1 ≤ v →
    (j = 0 → v = -1) → (∀ (h : j - 1 < l.length), 0 < j → l[j - 1] = v) →
    impl_rising_l2 n l B l (l.length : Int) (j : Int) kr ke = bif riseTo B v (l.drop j) then ke else kr false
  | 0, _, _, h, _, _, _, _ => by omega
  | n + 1, j, v, hn, hj, hv, h0, h1 => by
    unfold impl_rising_l2
    by_cases h : j < l.length
    · rw [dlt h, dnn, getD_at _ _ h, wrapS h hb, List.drop_eq_getElem_cons h, wrap64 (x := B - 1) (by omega) (by omega)]
      simp only [cond_true, impl_in_eq, riseTo]
      have ih := fun (h2 : -1 ≤ l[j]) => impl_rising_loop l hb hB hB2 kr ke n (j + 1) l[j] (by omega) (by omega) h2 (by omega) (fun _ _ => rfl)
      by_cases hz : j = 0
      · have hv := h0 hz
        subst hv
        rw [decide_eq_false (show ¬ ((j : Int) > 0) by omega)]
        by_cases c1 : 0 ≤ l[j] ∧ l[j] ≤ B - 1
        · rw [decide_eq_true c1, decide_eq_true (show -1 < l[j] ∧ l[j] < B by omega)]
          simp only [Bool.not_true, cond_false, Bool.true_and]
          exact ih (by omega)
        · rw [decide_eq_false c1, decide_eq_false (show ¬ (-1 < l[j] ∧ l[j] < B) by omega)]; rfl
      · have hp : j - 1 < l.length := by omega
        have hq := h1 hp (by omega)
        rw [decide_eq_true (show ((j : Int) > 0) by omega), wrap64 (x := (j : Int) - 1) (by omega) (by omega), show (j : Int) - 1 = ((j - 1 : Nat) : Int) by omega, dnn, dlt hp, getD_at _ _ hp, hq]
        simp only [cond_true]
        by_cases c1 : 0 ≤ l[j] ∧ l[j] ≤ B - 1
        · rw [decide_eq_true c1]
          simp only [Bool.not_true, cond_false]
          by_cases c3 : v < l[j]
          · rw [decide_eq_false (show ¬ (v ≥ l[j]) by omega), decide_eq_true (show v < l[j] ∧ l[j] < B by omega)]
            simp only [cond_false, Bool.true_and]
            exact ih (by omega)
          · rw [decide_eq_true (show (v ≥ l[j]) by omega), decide_eq_false (show ¬ (v < l[j] ∧ l[j] < B) by omega)]; rfl
        · rw [decide_eq_false c1, decide_eq_false (show ¬ (v < l[j] ∧ l[j] < B) by omega)]; rfl
    · rw [dge (by omega), List.drop_eq_nil_iff.2 (by omega)]; rfl
theorem impl_rising_eq {R : Type} {n : Nat} {l : List Int} (hb : l.length ≤ 9223372036854775807) {B : Int} (hB : 0 ≤ B) (hB2 : B ≤ 1000) (hn : l.length < n) (k : Bool → Option R) : impl_rising n l B k = k (riseTo B (-1) l) := by
  unfold impl_rising
  have := impl_rising_loop l hb hB hB2 k (k true) n 0 (-1) (by omega) (by omega) (by omega) (fun _ => rfl) (fun _ h => by omega)
  rw [show ((0 : Nat) : Int) = 0 from rfl, List.drop_zero] at this
  rw [this]
  cases riseTo B (-1) l <;> rfl
/-- A net is good. -/
def okStep (B : Int) (s : List Int × List Int) : Bool := riseTo B (-1) s.1 && riseTo B (-1) s.2
def okNet (B : Int) (l : List (List Int × List Int)) : Bool := decide (1 ≤ B ∧ B ≤ 8) && (decide (l.length ≤ 12) && l.all (okStep B))
theorem impl_GoodNet_eq {R : Type} {n : Nat} {B : Int} {l : List (List Int × List Int)} (hB : 0 ≤ B) (hB2 : B ≤ 1000) (hl : l.length ≤ 1000) (hx : ∀ s ∈ l, s.1.length ≤ 1000 ∧ s.2.length ≤ 1000) (hn : 5000 ≤ n) (k : Bool → Option R) : impl_GoodNet n B l k = k (okNet B l) := by
  unfold impl_GoodNet slices_ContainsFunc_impl_Step_impl_GoodNet_c1 slices_IndexFunc_impl_Step_impl_GoodNet_c1
  have := loop_all0 l (okStep B) 1001 (fun n i => slices_IndexFunc_impl_Step_impl_GoodNet_c1_l2 n l (l.length : Int) i B l (fun r2 _ _ => k (!decide (r2 ≥ 0))) (fun _ _ => k (!decide ((-1 : Int) ≥ 0)))) (k true) (k false) (fun n j h hn => by
    have hx' := hx l[j] (List.getElem_mem h)
    show slices_IndexFunc_impl_Step_impl_GoodNet_c1_l2 (n + 1) l (l.length : Int) (j : Int) B l _ _ = _
    rw [slices_IndexFunc_impl_Step_impl_GoodNet_c1_l2]
    rw [dlt h, dnn, getD_at _ _ h, wrapS h (by omega)]
    simp only [cond_true, impl_GoodNet_c1, impl_rising_eq (show l[j].1.length ≤ 9223372036854775807 by omega) hB hB2 (show l[j].1.length < n by omega), impl_rising_eq (show l[j].2.length ≤ 9223372036854775807 by omega) hB hB2 (show l[j].2.length < n by omega), okStep]
    have hj : k (!decide ((j : Int) ≥ 0)) = k false := by rw [decide_eq_true (show (j : Int) ≥ 0 by omega)]; rfl
    cases riseTo B (-1) l[j].1 with
    | false => exact hj
    | true => cases riseTo B (-1) l[j].2 with
      | false => exact hj
      | true => rfl) (fun n => by
    show slices_IndexFunc_impl_Step_impl_GoodNet_c1_l2 (n + 1) l (l.length : Int) (l.length : Int) B l _ _ = _
    rw [slices_IndexFunc_impl_Step_impl_GoodNet_c1_l2]
    rw [dge (by omega)]; rfl) (n := n) (by omega)
  rw [impl_in_eq]
  unfold okNet
  by_cases c : 1 ≤ B ∧ B ≤ 8
  · rw [decide_eq_true c]
    simp only [Bool.not_true, cond_false, Bool.true_and]
    by_cases d : l.length ≤ 12
    · rw [decide_eq_false (show ¬ (l.length : Int) > 12 by omega), decide_eq_true d, cond_false]
      refine Eq.trans this ?_
      cases l.all (okStep B) <;> rfl
    · rw [decide_eq_true (show (l.length : Int) > 12 by omega), decide_eq_false d]; rfl
  · rw [decide_eq_false c]; rfl
theorem spec_GoodNet_eq {R : Type} {n : Nat} {B : Int} {l : List (List Int × List Int)} (hB : 0 ≤ B) (hB2 : B ≤ 1000) (hl : l.length ≤ 1000) (hx : ∀ s ∈ l, s.1.length ≤ 1000 ∧ s.2.length ≤ 1000) (hn : 5000 ≤ n) (k : Bool → Option R) : spec_GoodNet n B l k = k (okNet B l) := by
  unfold spec_GoodNet
  have := loop_all0 l (okStep B) 1001 (fun n i => spec_GoodNet_l2 n l (l.length : Int) i B l (fun r3 => k r3) (fun r4 r5 => k (bif decide (1 ≤ r4 ∧ r4 ≤ 8) then decide ((r5.length : Int) ≤ 12) else false))) (k (bif decide (1 ≤ B ∧ B ≤ 8) then decide ((l.length : Int) ≤ 12) else false)) (k false) (fun n j h hn => by
    have hx' := hx l[j] (List.getElem_mem h)
    show spec_GoodNet_l2 (n + 1) l (l.length : Int) (j : Int) B l _ _ = _
    rw [spec_GoodNet_l2]
    rw [dlt h, dnn, getD_at _ _ h, wrapS h (by omega)]
    simp only [cond_true, spec_l3List_eq (show l[j].1.length ≤ 9223372036854775807 by omega) hB hB2 (show l[j].1.length < n by omega), spec_l3List_eq (show l[j].2.length ≤ 9223372036854775807 by omega) hB hB2 (show l[j].2.length < n by omega), okStep]
    cases riseTo B (-1) l[j].1 <;> cases riseTo B (-1) l[j].2 <;> rfl) (fun n => by
    show spec_GoodNet_l2 (n + 1) l (l.length : Int) (l.length : Int) B l _ _ = _
    rw [spec_GoodNet_l2]
    rw [dge (by omega)]; rfl) (n := n) (by omega)
  simp only [spec_l1In_eq, bifk]
  refine Eq.trans this ?_
  unfold okNet
  by_cases c : 1 ≤ B ∧ B ≤ 8
  · rw [decide_eq_true c]
    by_cases d : l.length ≤ 12
    · rw [decide_eq_true (show (l.length : Int) ≤ 12 by omega), decide_eq_true d]
      cases l.all (okStep B) <;> rfl
    · rw [decide_eq_false (show ¬ (l.length : Int) ≤ 12 by omega), decide_eq_false d]
      cases l.all (okStep B) <;> rfl
  · rw [decide_eq_false c]
    cases l.all (okStep B) <;> rfl
def okW (B : Int) (w : List Int) : Bool := decide ((w.length : Int) = B) && w.all fun x => decide (-100 ≤ x ∧ x ≤ 100)
def sumAt (w ps : List Int) : Int := (ps.map fun p => w.getD p.toNat 0).sum
def invB (w : List Int) (l : List (List Int × List Int)) : Bool := l.all fun s => decide (sumAt w s.2 - sumAt w s.1 = 0)
theorem sumAt_cons (w : List Int) (p : Int) (ps : List Int) : sumAt w (p :: ps) = w.getD p.toNat 0 + sumAt w ps := by simp [sumAt]
theorem impl_IsInvariant_in {R : Type} (w : List Int) (hw : ∀ x ∈ w, -100 ≤ x ∧ x ≤ 100) (ps : List Int) (hps : ∀ p ∈ ps, 0 ≤ p ∧ p < (w.length : Int)) (hl : ps.length ≤ 1000) (l : List (List Int × List Int)) (a b : Int) (s1 s2 : List Int) (k : List Int → Int → List (List Int × List Int) → Int → Int → List Int → List Int → Option R) :
    ∀ (n j : Nat) (acc : Int), ps.length - j < n → j ≤ ps.length → -100 * (j : Int) ≤ acc → acc ≤ 100 * (j : Int) → impl_IsInvariant_l8 n w acc l a b ps (ps.length : Int) (j : Int) s1 s2 k = k w (acc - sumAt w (ps.drop j)) l a b s1 s2
  | 0, _, _, h, _, _, _ => by omega
  | n + 1, j, acc, hn, hj, h0, h1 => by
    rw [impl_IsInvariant_l8]
    by_cases h : j < ps.length
    · have hp := hps ps[j] (List.getElem_mem h)
      have hlt : ps[j].toNat < w.length := by omega
      have hg : w.getD ps[j].toNat 0 = w[ps[j].toNat] := by rw [List.getD_eq_getElem?_getD, List.getElem?_eq_getElem hlt]; rfl
      have hx := hw _ (List.getElem_mem hlt)
      rw [dlt h, dnn, getD_at _ _ h, wrapS h (by omega), decide_eq_true hp.1, decide_eq_true hp.2, List.drop_eq_getElem_cons h, sumAt_cons, hg, wrap64 (x := acc - w[ps[j].toNat]) (by omega) (by omega)]
      simp only [cond_true]
      rw [impl_IsInvariant_in w hw ps hps hl l a b s1 s2 k n (j + 1) _ (by omega) (by omega) (by omega) (by omega)]
      congr 1
      omega
    · rw [dge (by omega), List.drop_eq_nil_iff.2 (by omega)]
      simp [sumAt]
theorem impl_IsInvariant_out {R : Type} (w : List Int) (hw : ∀ x ∈ w, -100 ≤ x ∧ x ≤ 100) (ps : List Int) (hps : ∀ p ∈ ps, 0 ≤ p ∧ p < (w.length : Int)) (hl : ps.length ≤ 1000) (l : List (List Int × List Int)) (a b : Int) (k : List Int → Int → List (List Int × List Int) → Int → Int → Option R) :
    ∀ (n j : Nat) (acc : Int), ps.length - j < n → j ≤ ps.length → -100 * (j : Int) - 100000 ≤ acc → acc ≤ 100 * (j : Int) + 100000 → impl_IsInvariant_l13 n w acc l a b ps (ps.length : Int) (j : Int) k = k w (acc + sumAt w (ps.drop j)) l a b
  | 0, _, _, h, _, _, _ => by omega
  | n + 1, j, acc, hn, hj, h0, h1 => by
    rw [impl_IsInvariant_l13]
    by_cases h : j < ps.length
    · have hp := hps ps[j] (List.getElem_mem h)
      have hlt : ps[j].toNat < w.length := by omega
      have hg : w.getD ps[j].toNat 0 = w[ps[j].toNat] := by rw [List.getD_eq_getElem?_getD, List.getElem?_eq_getElem hlt]; rfl
      have hx := hw _ (List.getElem_mem hlt)
      rw [dlt h, dnn, getD_at _ _ h, wrapS h (by omega), decide_eq_true hp.1, decide_eq_true hp.2, List.drop_eq_getElem_cons h, sumAt_cons, hg, wrap64 (x := acc + w[ps[j].toNat]) (by omega) (by omega)]
      simp only [cond_true]
      rw [impl_IsInvariant_out w hw ps hps hl l a b k n (j + 1) _ (by omega) (by omega) (by omega) (by omega)]
      congr 1
      omega
    · rw [dge (by omega), List.drop_eq_nil_iff.2 (by omega)]
      simp [sumAt]
theorem sumAt_bnd (w : List Int) (hw : ∀ x ∈ w, -100 ≤ x ∧ x ≤ 100) : ∀ (ps : List Int), -100 * (ps.length : Int) ≤ sumAt w ps ∧ sumAt w ps ≤ 100 * (ps.length : Int)
  | [] => by simp [sumAt]
  | p :: ps => by
    have ih := sumAt_bnd w hw ps
    rw [sumAt_cons, List.length_cons]
    have : -100 ≤ w.getD p.toNat 0 ∧ w.getD p.toNat 0 ≤ 100 := by
      by_cases h : p.toNat < w.length
      · rw [List.getD_eq_getElem?_getD, List.getElem?_eq_getElem h]
        exact hw _ (List.getElem_mem h)
      · rw [List.getD_eq_getElem?_getD, List.getElem?_eq_none (by omega)]
        simp
    omega
theorem impl_IsInvariant_loop {R : Type} (w : List Int) (hw : ∀ x ∈ w, -100 ≤ x ∧ x ≤ 100) (l : List (List Int × List Int)) (hl : l.length ≤ 1000) (hs : ∀ s ∈ l, s.1.length ≤ 1000 ∧ s.2.length ≤ 1000 ∧ (∀ p ∈ s.1, 0 ≤ p ∧ p < (w.length : Int)) ∧ ∀ p ∈ s.2, 0 ≤ p ∧ p < (w.length : Int)) {n : Nat} (hn : 5000 ≤ n) (kr : Bool → Bool → Option R) (ke : Option R) :
    impl_IsInvariant_l4 n w l (l.length : Int) 0 kr ke = bif invB w l then ke else kr false true := by
  refine loop_all0 l (fun s => decide (sumAt w s.2 - sumAt w s.1 = 0)) 1001 (fun n i => impl_IsInvariant_l4 n w l (l.length : Int) i kr ke) ke (kr false true) (fun n j h hn => ?_) (fun n => ?_) (n := n) (by omega)
  · obtain ⟨h1, h2, h3, h4⟩ := hs l[j] (List.getElem_mem h)
    have b1 := sumAt_bnd w hw l[j].1
    show impl_IsInvariant_l4 (n + 1) w l (l.length : Int) (j : Int) _ _ = _
    rw [impl_IsInvariant_l4]
    rw [dlt h, dnn, getD_at _ _ h]
    have e1 := fun k => impl_IsInvariant_in (R := R) w hw l[j].1 h3 h1 l (l.length : Int) (j : Int) l[j].1 l[j].2 k n 0 0 (by omega) (by omega) (by omega) (by omega)
    rw [show ((0 : Nat) : Int) = 0 from rfl, List.drop_zero] at e1
    have e2 := fun k => impl_IsInvariant_out (R := R) w hw l[j].2 h4 h2 l (l.length : Int) (j : Int) k n 0 (0 - sumAt w l[j].1) (by omega) (by omega) (by omega) (by omega)
    rw [show ((0 : Nat) : Int) = 0 from rfl, List.drop_zero] at e2
    simp only [cond_true, e1, e2, wrapS h (show l.length ≤ 9223372036854775807 by omega)]
    by_cases c : sumAt w l[j].2 - sumAt w l[j].1 = 0
    · rw [decide_eq_true c, show (0 - sumAt w l[j].1 + sumAt w l[j].2) = 0 by omega]; rfl
    · rw [decide_eq_false c, show ((0 - sumAt w l[j].1 + sumAt w l[j].2) != 0) = true from bne_iff_ne.2 (by omega)]; rfl
  · show impl_IsInvariant_l4 (n + 1) w l (l.length : Int) (l.length : Int) _ _ = _
    rw [impl_IsInvariant_l4]
    rw [dge (by omega)]; rfl
theorem spec_IsInvariant_in {R : Type} (w : List Int) (hw : ∀ x ∈ w, -100 ≤ x ∧ x ≤ 100) (ps : List Int) (hps : ∀ p ∈ ps, 0 ≤ p ∧ p < (w.length : Int)) (hl : ps.length ≤ 1000) (l : List (List Int × List Int)) (a b : Int) (s1 s2 : List Int) (k : List Int → Int → List (List Int × List Int) → Int → Int → List Int → List Int → Option R) :
    ∀ (n j : Nat) (acc : Int), ps.length - j < n → j ≤ ps.length → -100 * (j : Int) ≤ acc → acc ≤ 100 * (j : Int) → spec_IsInvariant_l8 n w acc l a b ps (ps.length : Int) (j : Int) s1 s2 k = k w (acc - sumAt w (ps.drop j)) l a b s1 s2
  | 0, _, _, h, _, _, _ => by omega
  | n + 1, j, acc, hn, hj, h0, h1 => by
    rw [spec_IsInvariant_l8]
    by_cases h : j < ps.length
    · have hp := hps ps[j] (List.getElem_mem h)
      have hlt : ps[j].toNat < w.length := by omega
      have hg : w.getD ps[j].toNat 0 = w[ps[j].toNat] := by rw [List.getD_eq_getElem?_getD, List.getElem?_eq_getElem hlt]; rfl
      have hx := hw _ (List.getElem_mem hlt)
      rw [dlt h, dnn, getD_at _ _ h, wrapS h (by omega), decide_eq_true hp.1, decide_eq_true hp.2, List.drop_eq_getElem_cons h, sumAt_cons, hg, wrap64 (x := acc - w[ps[j].toNat]) (by omega) (by omega)]
      simp only [cond_true]
      rw [spec_IsInvariant_in w hw ps hps hl l a b s1 s2 k n (j + 1) _ (by omega) (by omega) (by omega) (by omega)]
      congr 1
      omega
    · rw [dge (by omega), List.drop_eq_nil_iff.2 (by omega)]
      simp [sumAt]
theorem spec_IsInvariant_out {R : Type} (w : List Int) (hw : ∀ x ∈ w, -100 ≤ x ∧ x ≤ 100) (ps : List Int) (hps : ∀ p ∈ ps, 0 ≤ p ∧ p < (w.length : Int)) (hl : ps.length ≤ 1000) (l : List (List Int × List Int)) (a b : Int) (k : List Int → Int → List (List Int × List Int) → Int → Int → Option R) :
    ∀ (n j : Nat) (acc : Int), ps.length - j < n → j ≤ ps.length → -100 * (j : Int) - 100000 ≤ acc → acc ≤ 100 * (j : Int) + 100000 → spec_IsInvariant_l13 n w acc l a b ps (ps.length : Int) (j : Int) k = k w (acc + sumAt w (ps.drop j)) l a b
  | 0, _, _, h, _, _, _ => by omega
  | n + 1, j, acc, hn, hj, h0, h1 => by
    rw [spec_IsInvariant_l13]
    by_cases h : j < ps.length
    · have hp := hps ps[j] (List.getElem_mem h)
      have hlt : ps[j].toNat < w.length := by omega
      have hg : w.getD ps[j].toNat 0 = w[ps[j].toNat] := by rw [List.getD_eq_getElem?_getD, List.getElem?_eq_getElem hlt]; rfl
      have hx := hw _ (List.getElem_mem hlt)
      rw [dlt h, dnn, getD_at _ _ h, wrapS h (by omega), decide_eq_true hp.1, decide_eq_true hp.2, List.drop_eq_getElem_cons h, sumAt_cons, hg, wrap64 (x := acc + w[ps[j].toNat]) (by omega) (by omega)]
      simp only [cond_true]
      rw [spec_IsInvariant_out w hw ps hps hl l a b k n (j + 1) _ (by omega) (by omega) (by omega) (by omega)]
      congr 1
      omega
    · rw [dge (by omega), List.drop_eq_nil_iff.2 (by omega)]
      simp [sumAt]
theorem spec_IsInvariant_loop {R : Type} (w : List Int) (hw : ∀ x ∈ w, -100 ≤ x ∧ x ≤ 100) (l : List (List Int × List Int)) (hl : l.length ≤ 1000) (hs : ∀ s ∈ l, s.1.length ≤ 1000 ∧ s.2.length ≤ 1000 ∧ (∀ p ∈ s.1, 0 ≤ p ∧ p < (w.length : Int)) ∧ ∀ p ∈ s.2, 0 ≤ p ∧ p < (w.length : Int)) {n : Nat} (hn : 5000 ≤ n) (kr : Bool → Bool → Option R) (ke : Option R) :
    spec_IsInvariant_l4 n w l (l.length : Int) 0 kr ke = bif invB w l then ke else kr false true := by
  refine loop_all0 l (fun s => decide (sumAt w s.2 - sumAt w s.1 = 0)) 1001 (fun n i => spec_IsInvariant_l4 n w l (l.length : Int) i kr ke) ke (kr false true) (fun n j h hn => ?_) (fun n => ?_) (n := n) (by omega)
  · obtain ⟨h1, h2, h3, h4⟩ := hs l[j] (List.getElem_mem h)
    have b1 := sumAt_bnd w hw l[j].1
    show spec_IsInvariant_l4 (n + 1) w l (l.length : Int) (j : Int) _ _ = _
    rw [spec_IsInvariant_l4]
    rw [dlt h, dnn, getD_at _ _ h]
    have e1 := fun k => spec_IsInvariant_in (R := R) w hw l[j].1 h3 h1 l (l.length : Int) (j : Int) l[j].1 l[j].2 k n 0 0 (by omega) (by omega) (by omega) (by omega)
    rw [show ((0 : Nat) : Int) = 0 from rfl, List.drop_zero] at e1
    have e2 := fun k => spec_IsInvariant_out (R := R) w hw l[j].2 h4 h2 l (l.length : Int) (j : Int) k n 0 (0 - sumAt w l[j].1) (by omega) (by omega) (by omega) (by omega)
    rw [show ((0 : Nat) : Int) = 0 from rfl, List.drop_zero] at e2
    simp only [cond_true, e1, e2, wrapS h (show l.length ≤ 9223372036854775807 by omega)]
    by_cases c : sumAt w l[j].2 - sumAt w l[j].1 = 0
    · rw [decide_eq_true c, show (0 - sumAt w l[j].1 + sumAt w l[j].2) = 0 by omega]; rfl
    · rw [decide_eq_false c, show ((0 - sumAt w l[j].1 + sumAt w l[j].2) != 0) = true from bne_iff_ne.2 (by omega)]; rfl
  · show spec_IsInvariant_l4 (n + 1) w l (l.length : Int) (l.length : Int) _ _ = _
    rw [spec_IsInvariant_l4]
    rw [dge (by omega)]; rfl
theorem impl_weightsOk_eq {R : Type} {n : Nat} {B : Int} {w : List Int} (hl : w.length ≤ 1000) (hn : 5000 ≤ n) (k : Bool → Option R) : impl_weightsOk n w B k = k (okW B w) := by
  unfold impl_weightsOk slices_ContainsFunc_int_impl_weightsOk_c1 slices_IndexFunc_int_impl_weightsOk_c1
  have := loop_all0 w (fun x => decide (-100 ≤ x ∧ x ≤ 100)) 0 (fun n i => slices_IndexFunc_int_impl_weightsOk_c1_l2 n w (w.length : Int) i (fun r2 => k (!decide (r2 ≥ 0))) (k (!decide ((-1 : Int) ≥ 0)))) (k true) (k false) (fun n j h hn => by
    show slices_IndexFunc_int_impl_weightsOk_c1_l2 (n + 1) w (w.length : Int) (j : Int) _ _ = _
    rw [slices_IndexFunc_int_impl_weightsOk_c1_l2]
    rw [dlt h, dnn, getD_at _ _ h, wrapS h (by omega)]
    simp only [cond_true, impl_weightsOk_c1, impl_in_eq]
    have hj : k (!decide ((j : Int) ≥ 0)) = k false := by rw [decide_eq_true (show (j : Int) ≥ 0 by omega)]; rfl
    cases decide (-100 ≤ w[j] ∧ w[j] ≤ 100) with
    | false => exact hj
    | true => rfl) (fun n => by
    show slices_IndexFunc_int_impl_weightsOk_c1_l2 (n + 1) w (w.length : Int) (w.length : Int) _ _ = _
    rw [slices_IndexFunc_int_impl_weightsOk_c1_l2]
    rw [dge (by omega)]; rfl) (n := n) (by omega)
  unfold okW
  by_cases c : (w.length : Int) = B
  · rw [beq_iff_eq.2 c, decide_eq_true c, cond_true]
    refine Eq.trans this ?_
    cases w.all fun x => decide (-100 ≤ x ∧ x ≤ 100) <;> rfl
  · rw [beq_eq_false_iff_ne.2 c, decide_eq_false c]; rfl
theorem spec_l3Weights_eq {R : Type} {n : Nat} {B : Int} {w : List Int} (hl : w.length ≤ 1000) (hn : 5000 ≤ n) (k : Bool → Option R) : spec_l3Weights n w B k = k (okW B w) := by
  unfold spec_l3Weights
  have := loop_all0 w (fun x => decide (-100 ≤ x ∧ x ≤ 100)) 0 (fun n i => spec_l3Weights_l2 n w B w (w.length : Int) i (fun r2 => k r2) (fun r3 r4 => k ((r3.length : Int) == r4))) (k ((w.length : Int) == B)) (k false) (fun n j h hn => by
    show spec_l3Weights_l2 (n + 1) w B w (w.length : Int) (j : Int) _ _ = _
    rw [spec_l3Weights_l2]
    rw [dlt h, dnn, getD_at _ _ h, wrapS h (by omega)]
    simp only [cond_true, spec_l1In_eq]
    cases decide (-100 ≤ w[j] ∧ w[j] ≤ 100) <;> rfl) (fun n => by
    show spec_l3Weights_l2 (n + 1) w B w (w.length : Int) (w.length : Int) _ _ = _
    rw [spec_l3Weights_l2]
    rw [dge (by omega)]; rfl) (n := n) (by omega)
  refine Eq.trans this ?_
  unfold okW
  by_cases c : (w.length : Int) = B
  · rw [beq_iff_eq.2 c, decide_eq_true c]
    cases w.all fun x => decide (-100 ≤ x ∧ x ≤ 100) <;> rfl
  · rw [beq_eq_false_iff_ne.2 c, decide_eq_false c]
    cases w.all fun x => decide (-100 ≤ x ∧ x ≤ 100) <;> rfl
def sub1 (m ps : List Int) : List Int := ps.foldl (fun m p => m.set p.toNat (m.getD p.toNat 0 - 1)) m
def add1 (m ps : List Int) : List Int := ps.foldl (fun m p => m.set p.toNat (m.getD p.toNat 0 + 1)) m
def decO : List Int → List Int → Option (List Int)
  | m, [] => some m
  | m, p :: ps => if m.getD p.toNat 0 = 0 then none else decO (m.set p.toNat (m.getD p.toNat 0 - 1)) ps
def incO : List Int → List Int → Option (List Int)
  | m, [] => some m
  | m, p :: ps => if m.getD p.toNat 0 + 1 > 9 then none else incO (m.set p.toNat (m.getD p.toNat 0 + 1)) ps
def fireO (m : List Int) (s : List Int × List Int) : Option (List Int) := (decO m s.1).bind fun m => incO m s.2
theorem sub1_length : ∀ (ps m : List Int), (sub1 m ps).length = m.length
  | [], _ => rfl
  | p :: ps, m => by
    show (sub1 (m.set p.toNat _) ps).length = _
    rw [sub1_length ps]; simp
theorem add1_length : ∀ (ps m : List Int), (add1 m ps).length = m.length
  | [], _ => rfl
  | p :: ps, m => by
    show (add1 (m.set p.toNat _) ps).length = _
    rw [add1_length ps]; simp
theorem getD_setN {l : List Int} {i j : Nat} (v : Int) : (l.set j v).getD i 0 = if i = j ∧ j < l.length then v else l.getD i 0 := by
  rw [List.getD_eq_getElem?_getD, List.getD_eq_getElem?_getD]
  by_cases h : i = j
  · subst h
    by_cases h2 : i < l.length
    · rw [List.getElem?_set_self h2, if_pos ⟨rfl, h2⟩]; rfl
    · rw [if_neg (fun h => h2 h.2), List.getElem?_eq_none (by simp; omega), List.getElem?_eq_none (by omega)]
  · rw [List.getElem?_set_ne (fun e => h e.symm), if_neg (fun h2 => h h2.1)]
theorem sub1_other : ∀ (ps m : List Int) {i : Nat}, (∀ p ∈ ps, p.toNat ≠ i) → (sub1 m ps).getD i 0 = m.getD i 0
  | [], _, _, _ => rfl
  | p :: ps, m, i, h => by
    show (sub1 (m.set p.toNat _) ps).getD i 0 = _
    rw [sub1_other ps _ (fun q hq => h q (List.mem_cons_of_mem _ hq)), getD_setN, if_neg (fun h2 => h p (List.mem_cons_self ..) h2.1.symm)]
theorem add1_other : ∀ (ps m : List Int) {i : Nat}, (∀ p ∈ ps, p.toNat ≠ i) → (add1 m ps).getD i 0 = m.getD i 0
  | [], _, _, _ => rfl
  | p :: ps, m, i, h => by
    show (add1 (m.set p.toNat _) ps).getD i 0 = _
    rw [add1_other ps _ (fun q hq => h q (List.mem_cons_of_mem _ hq)), getD_setN, if_neg (fun h2 => h p (List.mem_cons_self ..) h2.1.symm)]
theorem getD_in {l : List Int} {i : Nat} (h : i < l.length) : l.getD i 0 ∈ l := by
  rw [List.getD_eq_getElem?_getD, List.getElem?_eq_getElem h]
  exact List.getElem_mem h
theorem pw_toNat {p : Int} {ps : List Int} (h : ∀ q ∈ ps, p < q) (h0 : 0 ≤ p) : ∀ q ∈ ps, q.toNat ≠ p.toNat := fun q hq => by have := h q hq; omega
theorem dec_some : ∀ (ps m : List Int) {m' : List Int}, (∀ x ∈ m, 0 ≤ x ∧ x ≤ 9) → (∀ p ∈ ps, 0 ≤ p ∧ p < (m.length : Int)) → decO m ps = some m' → m' = sub1 m ps ∧ ∀ x ∈ m', 0 ≤ x ∧ x ≤ 9
  | [], m, m', h, _, e => by cases e; exact ⟨rfl, h⟩
  | p :: ps, m, m', h, hp, e => by
    rw [decO] at e
    split at e
    · cases e
    · next c =>
      have h1 := hp p (List.mem_cons_self ..)
      have h2 := h _ (getD_in (l := m) (i := p.toNat) (by omega))
      exact dec_some ps _ (fun x hx => by
        rcases List.mem_or_eq_of_mem_set hx with hx | rfl
        · exact h x hx
        · omega) (fun q hq => by rw [List.length_set]; exact hp q (List.mem_cons_of_mem _ hq)) e
theorem dec_none : ∀ (ps m : List Int), ps.Pairwise (· < ·) → (∀ p ∈ ps, 0 ≤ p ∧ p < (m.length : Int)) → decO m ps = none → ∃ x ∈ sub1 m ps, x < 0
  | [], m, _, _, e => by cases e
  | p :: ps, m, hw, hp, e => by
    have h1 := hp p (List.mem_cons_self ..)
    rw [List.pairwise_cons] at hw
    rw [decO] at e
    split at e
    · next c =>
      refine ⟨(sub1 (m.set p.toNat (m.getD p.toNat 0 - 1)) ps).getD p.toNat 0, getD_in (by rw [sub1_length]; first | omega | (simp; omega)), ?_⟩
      rw [sub1_other ps _ (pw_toNat hw.1 h1.1), getD_setN, if_pos ⟨rfl, by omega⟩]
      omega
    · exact dec_none ps _ hw.2 (fun q hq => by rw [List.length_set]; exact hp q (List.mem_cons_of_mem _ hq)) e
theorem inc_some : ∀ (ps m : List Int) {m' : List Int}, (∀ x ∈ m, 0 ≤ x ∧ x ≤ 9) → (∀ p ∈ ps, 0 ≤ p ∧ p < (m.length : Int)) → incO m ps = some m' → m' = add1 m ps ∧ ∀ x ∈ m', 0 ≤ x ∧ x ≤ 9
  | [], m, m', h, _, e => by cases e; exact ⟨rfl, h⟩
  | p :: ps, m, m', h, hp, e => by
    rw [incO] at e
    split at e
    · cases e
    · next c =>
      have h1 := hp p (List.mem_cons_self ..)
      have h2 := h _ (getD_in (l := m) (i := p.toNat) (by omega))
      exact inc_some ps _ (fun x hx => by
        rcases List.mem_or_eq_of_mem_set hx with hx | rfl
        · exact h x hx
        · omega) (fun q hq => by rw [List.length_set]; exact hp q (List.mem_cons_of_mem _ hq)) e
theorem inc_none : ∀ (ps m : List Int), ps.Pairwise (· < ·) → (∀ p ∈ ps, 0 ≤ p ∧ p < (m.length : Int)) → incO m ps = none → ∃ x ∈ add1 m ps, x > 9
  | [], m, _, _, e => by cases e
  | p :: ps, m, hw, hp, e => by
    have h1 := hp p (List.mem_cons_self ..)
    rw [List.pairwise_cons] at hw
    rw [incO] at e
    split at e
    · next c =>
      refine ⟨(add1 (m.set p.toNat (m.getD p.toNat 0 + 1)) ps).getD p.toNat 0, getD_in (by rw [add1_length]; first | omega | (simp; omega)), ?_⟩
      rw [add1_other ps _ (pw_toNat hw.1 h1.1), getD_setN, if_pos ⟨rfl, by omega⟩]
      omega
    · exact inc_none ps _ hw.2 (fun q hq => by rw [List.length_set]; exact hp q (List.mem_cons_of_mem _ hq)) e
/-- The weighted sum. -/
def dot : List Int → List Int → Int
  | x :: w, y :: m => x * y + dot w m
  | _, _ => 0
theorem dot_set : ∀ (w m : List Int) (i : Nat) (d : Int), i < m.length → i < w.length → dot w (m.set i (m.getD i 0 + d)) = dot w m + w.getD i 0 * d
  | [], _, _, _, _, h => by simp at h
  | _ :: _, [], _, _, h, _ => by simp at h
  | x :: w, y :: m, 0, d, _, _ => by
    simp only [List.set_cons_zero, dot, List.getD_cons_zero, Int.mul_add]; omega
  | x :: w, y :: m, i + 1, d, h1, h2 => by
    have := dot_set w m i d (by simpa using h1) (by simpa using h2)
    simp only [List.set_cons_succ, dot, List.getD_cons_succ, this]; omega
theorem dot_sub (w : List Int) : ∀ (ps m : List Int), w.length = m.length → (∀ p ∈ ps, 0 ≤ p ∧ p < (m.length : Int)) → dot w (sub1 m ps) = dot w m - sumAt w ps
  | [], m, _, _ => by simp [sub1, sumAt]
  | p :: ps, m, hl, hp => by
    have h1 := hp p (List.mem_cons_self ..)
    show dot w (sub1 (m.set p.toNat (m.getD p.toNat 0 + -1)) ps) = _
    rw [dot_sub w ps _ (by simpa using hl) (fun q hq => by rw [List.length_set]; exact hp q (List.mem_cons_of_mem _ hq)), dot_set w m p.toNat (-1) (by omega) (by omega), sumAt_cons]
    omega
theorem dot_add (w : List Int) : ∀ (ps m : List Int), w.length = m.length → (∀ p ∈ ps, 0 ≤ p ∧ p < (m.length : Int)) → dot w (add1 m ps) = dot w m + sumAt w ps
  | [], m, _, _ => by simp [add1, sumAt]
  | p :: ps, m, hl, hp => by
    have h1 := hp p (List.mem_cons_self ..)
    show dot w (add1 (m.set p.toNat (m.getD p.toNat 0 + 1)) ps) = _
    rw [dot_add w ps _ (by simpa using hl) (fun q hq => by rw [List.length_set]; exact hp q (List.mem_cons_of_mem _ hq)), dot_set w m p.toNat 1 (by omega) (by omega), sumAt_cons]
    omega
def okM (m : List Int) : Bool := m.all fun x => decide (0 ≤ x ∧ x ≤ 9)
theorem slices_Min_loop (l : List Int) (hl : l.length ≤ 1000) : ∀ (n j : Nat) (v : Int), l.length - j < n → j ≤ l.length → ∃ r, (r < 0 ↔ v < 0 ∨ ∃ x ∈ l.drop j, x < 0) ∧ ∀ (R : Type) (k : Int → Option R), slices_Min_int_l5 n l v (j : Int) k = k r
  | 0, _, _, h, _ => by omega
  | n + 1, j, v, hn, hj => by
    by_cases h : j < l.length
    · obtain ⟨r, h1, h2⟩ := slices_Min_loop l hl n (j + 1) (if l[j] < v then l[j] else v) (by omega) (by omega)
      refine ⟨r, ?_, fun R k => ?_⟩
      · rw [h1, List.drop_eq_getElem_cons h]
        constructor
        · rintro (h3 | ⟨x, hx, h3⟩)
          · split at h3
            · exact .inr ⟨_, List.mem_cons_self .., h3⟩
            · exact .inl h3
          · exact .inr ⟨x, List.mem_cons_of_mem _ hx, h3⟩
        · rintro (h3 | ⟨x, hx, h3⟩)
          · left; split <;> omega
          · rcases List.mem_cons.1 hx with rfl | hx
            · left; split <;> omega
            · exact .inr ⟨x, hx, h3⟩
      · rw [slices_Min_int_l5]
        rw [dlt h, dnn, getD_at _ _ h, wrapS h (by omega)]
        exact h2 R k
    · refine ⟨v, ?_, fun R k => ?_⟩
      · rw [List.drop_eq_nil_iff.2 (by omega)]; simp
      · rw [slices_Min_int_l5]
        rw [dge (by omega), cond_false]
theorem slices_Min_ex {n : Nat} {l : List Int} (h0 : 0 < l.length) (hl : l.length ≤ 1000) (hn : 2000 ≤ n) : ∃ r, (r < 0 ↔ ∃ x ∈ l, x < 0) ∧ ∀ (R : Type) (k : Int → Option R), slices_Min_int n l k = k r := by
  obtain ⟨r, h1, h2⟩ := slices_Min_loop l hl n 1 (l.getD 0 0) (by omega) (by omega)
  refine ⟨r, ?_, fun R k => ?_⟩
  · rw [h1]
    cases l with
    | nil => simp at h0
    | cons x l => simp
  · unfold slices_Min_int
    rw [decide_eq_false (show ¬ (l.length : Int) < 1 by omega), decide_eq_true (show 0 < (l.length : Int) by omega)]
    exact h2 R k
theorem impl_isMarking_eq {R : Type} {n : Nat} {B : Int} {m : List Int} (hl : m.length ≤ 1000) (hn : 2000 ≤ n) (k : Bool → Option R) : impl_isMarking n m B k = k (decide ((m.length : Int) = B) && okM m) := by
  unfold impl_isMarking slices_ContainsFunc_int_impl_isMarking_c1 slices_IndexFunc_int_impl_isMarking_c1
  have := loop_all0 m (fun x => decide (0 ≤ x ∧ x ≤ 9)) 0 (fun n i => slices_IndexFunc_int_impl_isMarking_c1_l2 n m (m.length : Int) i (fun r2 => k (!decide (r2 ≥ 0))) (k (!decide ((-1 : Int) ≥ 0)))) (k true) (k false) (fun n j h hn => by
    show slices_IndexFunc_int_impl_isMarking_c1_l2 (n + 1) m (m.length : Int) (j : Int) _ _ = _
    rw [slices_IndexFunc_int_impl_isMarking_c1_l2]
    rw [dlt h, dnn, getD_at _ _ h, wrapS h (by omega)]
    simp only [cond_true, impl_isMarking_c1, impl_in_eq]
    have hj : k (!decide ((j : Int) ≥ 0)) = k false := by rw [decide_eq_true (show (j : Int) ≥ 0 by omega)]; rfl
    cases decide (0 ≤ m[j] ∧ m[j] ≤ 9) with
    | false => exact hj
    | true => rfl) (fun n => by
    show slices_IndexFunc_int_impl_isMarking_c1_l2 (n + 1) m (m.length : Int) (m.length : Int) _ _ = _
    rw [slices_IndexFunc_int_impl_isMarking_c1_l2]
    rw [dge (by omega)]; rfl) (n := n) (by omega)
  by_cases c : (m.length : Int) = B
  · rw [beq_iff_eq.2 c, decide_eq_true c, cond_true]
    refine Eq.trans this ?_
    unfold okM
    cases m.all fun x => decide (0 ≤ x ∧ x ≤ 9) <;> rfl
  · rw [beq_eq_false_iff_ne.2 c, decide_eq_false c]; rfl
theorem spec_l3Mark_eq {R : Type} {n : Nat} {B : Int} {l : List (List Int × List Int)} {m : List Int} (hl : m.length ≤ 1000) (hn : 2000 ≤ n) (k : Bool → Option R) : spec_l3Mark n B l m k = k (decide ((m.length : Int) = B) && okM m) := by
  unfold spec_l3Mark
  have := loop_all0 m (fun x => decide (0 ≤ x ∧ x ≤ 9)) 0 (fun n i => spec_l3Mark_l2 n m m (m.length : Int) i B l (fun r2 => k r2) (fun r3 r4 r5 => k ((r3.length : Int) == r4))) (k ((m.length : Int) == B)) (k false) (fun n j h hn => by
    show spec_l3Mark_l2 (n + 1) m m (m.length : Int) (j : Int) B l _ _ = _
    rw [spec_l3Mark_l2]
    rw [dlt h, dnn, getD_at _ _ h, wrapS h (by omega)]
    simp only [cond_true, spec_l1In_eq]
    cases decide (0 ≤ m[j] ∧ m[j] ≤ 9) <;> rfl) (fun n => by
    show spec_l3Mark_l2 (n + 1) m m (m.length : Int) (m.length : Int) B l _ _ = _
    rw [spec_l3Mark_l2]
    rw [dge (by omega)]; rfl) (n := n) (by omega)
  refine Eq.trans this ?_
  unfold okM
  by_cases c : (m.length : Int) = B
  · rw [beq_iff_eq.2 c, decide_eq_true c]
    cases m.all fun x => decide (0 ≤ x ∧ x ≤ 9) <;> rfl
  · rw [beq_eq_false_iff_ne.2 c, decide_eq_false c]
    cases m.all fun x => decide (0 ≤ x ∧ x ≤ 9) <;> rfl
theorem impl_fired_sub {R : Type} (ps : List Int) (hl : ps.length ≤ 500) (B : Int) (l : List (List Int × List Int)) (s1 s2 : List Int) (k : Int → List (List Int × List Int) → List Int → List Int → List Int → Option R) : ∀ (n j : Nat) (m : List Int), ps.length - j < n → j ≤ ps.length → (∀ p ∈ ps, 0 ≤ p ∧ p < (m.length : Int)) → (∀ x ∈ m, -(j : Int) ≤ x ∧ x ≤ 9) →
    impl_Net_fired_l3 n ps (ps.length : Int) (j : Int) B l m s1 s2 k = k B l (sub1 m (ps.drop j)) s1 s2
  | 0, _, _, h, _, _, _ => by omega
  | n + 1, j, m, hn, hj, hp, hm => by
    rw [impl_Net_fired_l3]
    by_cases h : j < ps.length
    · have h1 := hp ps[j] (List.getElem_mem h)
      have h2 := hm _ (getD_in (l := m) (i := ps[j].toNat) (by omega))
      rw [dlt h, dnn, getD_at _ _ h, wrapS h (by omega), decide_eq_true h1.1, decide_eq_true h1.2, wrap64 (x := m.getD ps[j].toNat 0 - 1) (by omega) (by omega), List.drop_eq_getElem_cons h]
      simp only [cond_true]
      rw [impl_fired_sub ps hl B l s1 s2 k n (j + 1) _ (by omega) (by omega) (fun q hq => by rw [List.length_set]; exact hp q hq) (fun x hx => by
        rcases List.mem_or_eq_of_mem_set hx with hx | rfl
        · have := hm x hx; omega
        · omega)]
      rfl
    · rw [dge (by omega), List.drop_eq_nil_iff.2 (by omega)]; rfl
theorem impl_fired_add {R : Type} (ps : List Int) (hl : ps.length ≤ 500) (B : Int) (l : List (List Int × List Int)) (k : Int → List (List Int × List Int) → List Int → Option R) : ∀ (n j : Nat) (m : List Int), ps.length - j < n → j ≤ ps.length → (∀ p ∈ ps, 0 ≤ p ∧ p < (m.length : Int)) → (∀ x ∈ m, -1000 ≤ x ∧ x ≤ 9 + (j : Int)) →
    impl_Net_fired_l10 n ps (ps.length : Int) (j : Int) B l m k = k B l (add1 m (ps.drop j))
  | 0, _, _, h, _, _, _ => by omega
  | n + 1, j, m, hn, hj, hp, hm => by
    rw [impl_Net_fired_l10]
    by_cases h : j < ps.length
    · have h1 := hp ps[j] (List.getElem_mem h)
      have h2 := hm _ (getD_in (l := m) (i := ps[j].toNat) (by omega))
      rw [dlt h, dnn, getD_at _ _ h, wrapS h (by omega), decide_eq_true h1.1, decide_eq_true h1.2, wrap64 (x := m.getD ps[j].toNat 0 + 1) (by omega) (by omega), List.drop_eq_getElem_cons h]
      simp only [cond_true]
      rw [impl_fired_add ps hl B l k n (j + 1) _ (by omega) (by omega) (fun q hq => by rw [List.length_set]; exact hp q hq) (fun x hx => by
        rcases List.mem_or_eq_of_mem_set hx with hx | rfl
        · have := hm x hx; omega
        · omega)]
      rfl
    · rw [dge (by omega), List.drop_eq_nil_iff.2 (by omega)]; rfl
theorem spec_fire_dec {R : Type} (ps : List Int) (hl : ps.length ≤ 500) (s1 s2 : List Int) (kr : List Int → Bool → Option R) (ke : List Int → List Int → List Int → Option R) : ∀ (n j : Nat) (m : List Int), ps.length - j < n → j ≤ ps.length → (∀ p ∈ ps, 0 ≤ p ∧ p < (m.length : Int)) → (∀ x ∈ m, 0 ≤ x ∧ x ≤ 9) →
    spec_l3Fire_l3 n ps (ps.length : Int) (j : Int) s1 s2 m kr ke = match decO m (ps.drop j) with | some m' => ke s1 s2 m' | none => kr [] false
  | 0, _, _, h, _, _, _ => by omega
  | n + 1, j, m, hn, hj, hp, hm => by
    rw [spec_l3Fire_l3]
    by_cases h : j < ps.length
    · have h1 := hp ps[j] (List.getElem_mem h)
      have h2 := hm _ (getD_in (l := m) (i := ps[j].toNat) (by omega))
      rw [dlt h, dnn, getD_at _ _ h, wrapS h (by omega), decide_eq_true h1.1, decide_eq_true h1.2, wrap64 (x := m.getD ps[j].toNat 0 - 1) (by omega) (by omega), List.drop_eq_getElem_cons h]
      simp only [cond_true, decO]
      by_cases c : m.getD ps[j].toNat 0 = 0
      · rw [beq_iff_eq.2 c, if_pos c]; rfl
      · rw [beq_eq_false_iff_ne.2 c, if_neg c, cond_false]
        exact spec_fire_dec ps hl s1 s2 kr ke n (j + 1) _ (by omega) (by omega) (fun q hq => by rw [List.length_set]; exact hp q hq) (fun x hx => by
          rcases List.mem_or_eq_of_mem_set hx with hx | rfl
          · exact hm x hx
          · omega)
    · rw [dge (by omega), List.drop_eq_nil_iff.2 (by omega)]; rfl
theorem spec_fire_inc {R : Type} (ps : List Int) (hl : ps.length ≤ 500) (kr : List Int → Bool → Option R) (ke : List Int → Option R) : ∀ (n j : Nat) (m : List Int), ps.length - j < n → j ≤ ps.length → (∀ p ∈ ps, 0 ≤ p ∧ p < (m.length : Int)) → (∀ x ∈ m, 0 ≤ x ∧ x ≤ 9) →
    spec_l3Fire_l10 n ps (ps.length : Int) (j : Int) m kr ke = match incO m (ps.drop j) with | some m' => ke m' | none => kr [] false
  | 0, _, _, h, _, _, _ => by omega
  | n + 1, j, m, hn, hj, hp, hm => by
    rw [spec_l3Fire_l10]
    by_cases h : j < ps.length
    · have h1 := hp ps[j] (List.getElem_mem h)
      have h2 := hm _ (getD_in (l := m) (i := ps[j].toNat) (by omega))
      have hset : (m.set ps[j].toNat (m.getD ps[j].toNat 0 + 1)).getD ps[j].toNat 0 = m.getD ps[j].toNat 0 + 1 := by rw [getD_setN, if_pos ⟨rfl, by omega⟩]
      rw [dlt h, dnn, getD_at _ _ h, wrapS h (by omega), decide_eq_true h1.1, decide_eq_true h1.2, wrap64 (x := m.getD ps[j].toNat 0 + 1) (by omega) (by omega), List.drop_eq_getElem_cons h]
      simp only [cond_true, incO, List.length_set, decide_eq_true h1.2, hset]
      by_cases c : m.getD ps[j].toNat 0 + 1 > 9
      · rw [decide_eq_true c, if_pos c]; rfl
      · rw [decide_eq_false c, if_neg c, cond_false]
        exact spec_fire_inc ps hl kr ke n (j + 1) _ (by omega) (by omega) (fun q hq => by rw [List.length_set]; exact hp q hq) (fun x hx => by
          rcases List.mem_or_eq_of_mem_set hx with hx | rfl
          · exact hm x hx
          · omega)
    · rw [dge (by omega), List.drop_eq_nil_iff.2 (by omega)]; rfl
theorem okM_iff {m : List Int} : okM m = true ↔ ∀ x ∈ m, 0 ≤ x ∧ x ≤ 9 := by
  unfold okM
  rw [List.all_eq_true]
  exact ⟨fun h x hx => of_decide_eq_true (h x hx), fun h x hx => decide_eq_true (h x hx)⟩
/-- A step of a net over so many places. -/
def StepIn (N : Nat) (s : List Int × List Int) : Prop :=
  (s.1.Pairwise (· < ·) ∧ ∀ p ∈ s.1, 0 ≤ p ∧ p < (N : Int)) ∧ (s.2.Pairwise (· < ·) ∧ ∀ p ∈ s.2, 0 ≤ p ∧ p < (N : Int)) ∧ s.1.length ≤ 500 ∧ s.2.length ≤ 500
theorem fire_some {m : List Int} {s : List Int × List Int} {m' : List Int} (hm : ∀ x ∈ m, 0 ≤ x ∧ x ≤ 9) (hs : StepIn m.length s) (h : fireO m s = some m') : m' = add1 (sub1 m s.1) s.2 ∧ (∀ x ∈ m', 0 ≤ x ∧ x ≤ 9) ∧ m'.length = m.length := by
  unfold fireO at h
  obtain ⟨m1, h1, h2⟩ := Option.bind_eq_some_iff.1 h
  obtain ⟨e1, b1⟩ := dec_some s.1 m hm hs.1.2 h1
  have hl : m1.length = m.length := by rw [e1, sub1_length]
  obtain ⟨e2, b2⟩ := inc_some s.2 m1 b1 (by rw [hl]; exact hs.2.1.2) h2
  exact ⟨by rw [e2, e1], b2, by rw [e2, add1_length, hl]⟩
theorem spec_fire_eq {R : Type} {n : Nat} {m : List Int} {s : List Int × List Int} (hm : ∀ x ∈ m, 0 ≤ x ∧ x ≤ 9) (hl : m.length ≤ 1000) (hs : StepIn m.length s) (hn : 2000 ≤ n) (k : List Int → Bool → Option R) :
    spec_l3Fire n s.1 s.2 m k = match fireO m s with | some m' => k m' true | none => k [] false := by
  unfold spec_l3Fire fireO
  have e1 := spec_fire_dec s.1 hs.2.2.1 s.1 s.2 (fun r1 r2 => k r1 r2) (fun r3 r4 r5 => (spec_l3Fire_l10 n r4 (r4.length : Int) 0 r5 (fun r6 r7 => k r6 r7) (fun r8 => k r8 true))) n 0 m (by have := hs.2.2.1; omega) (by omega) hs.1.2 hm
  rw [show ((0 : Nat) : Int) = 0 from rfl, List.drop_zero] at e1
  rw [decide_eq_true (show ([] : List Int).length + m.length ≤ LIM by simp [LIM]; omega), cond_true, List.nil_append, e1]
  cases hd : decO m s.1 with
  | none => rfl
  | some m1 =>
    obtain ⟨q1, b1⟩ := dec_some s.1 m hm hs.1.2 hd
    have hl1 : m1.length = m.length := by rw [q1, sub1_length]
    have e2 := spec_fire_inc s.2 hs.2.2.2 (fun r6 r7 => k r6 r7) (fun r8 => k r8 true) n 0 m1 (by have := hs.2.2.2; omega) (by omega) (by rw [hl1]; exact hs.2.1.2) b1
    rw [show ((0 : Nat) : Int) = 0 from rfl, List.drop_zero] at e2
    exact e2
theorem sub1_bnd : ∀ (ps m : List Int) (c : Int), (∀ x ∈ m, -c ≤ x ∧ x ≤ 9) → ∀ x ∈ sub1 m ps, -(c + ps.length) ≤ x ∧ x ≤ 9
  | [], m, c, h, x, hx => by have := h x hx; simp; omega
  | p :: ps, m, c, h, x, hx => by
    have := sub1_bnd ps (m.set p.toNat (m.getD p.toNat 0 - 1)) (c + 1) (fun y hy => by
      rcases List.mem_or_eq_of_mem_set hy with hy | rfl
      · have := h y hy; omega
      · by_cases hlt : p.toNat < m.length
        · have := h _ (getD_in hlt); omega
        · rw [List.set_eq_of_length_le (by omega)] at hy
          have := h _ hy; omega) x hx
    rw [List.length_cons]
    omega
theorem impl_fired_ex {n : Nat} {m : List Int} {l : List (List Int × List Int)} {j : Nat} (h : j < l.length) (hm : ∀ x ∈ m, 0 ≤ x ∧ x ≤ 9) (hl : m.length ≤ 1000) (h0 : 0 < m.length) (hs : StepIn m.length l[j]) (hn : 2000 ≤ n) :
    ∃ x, ∀ (R : Type) (k : Bool → List Int → Int → List (List Int × List Int) → Option R), impl_Net_fired n m (j : Int) (m.length : Int) l k = match fireO m l[j] with | some m' => k true m' (m.length : Int) l | none => k false x (m.length : Int) l := by
  have hlen := sub1_length l[j].1 m
  obtain ⟨r, r1, r2⟩ := slices_Min_ex (n := n) (l := sub1 m l[j].1) (by omega) (by omega) hn
  have e1 := fun (R : Type) k => impl_fired_sub (R := R) l[j].1 hs.2.2.1 (m.length : Int) l l[j].1 l[j].2 k n 0 m (by have := hs.2.2.1; omega) (by omega) hs.1.2 (fun x hx => by have := hm x hx; omega)
  have hb := sub1_bnd l[j].1 m 0 (fun x hx => by have := hm x hx; omega)
  have e2 := fun (R : Type) k => impl_fired_add (R := R) l[j].2 hs.2.2.2 (m.length : Int) l k n 0 (sub1 m l[j].1) (by have := hs.2.2.2; omega) (by omega) (by rw [hlen]; exact hs.2.1.2) (fun x hx => by have := hb x hx; have := hs.2.2.1; omega)
  rw [show ((0 : Nat) : Int) = 0 from rfl, List.drop_zero] at e1 e2
  have open' : ∀ (R : Type) (k : Bool → List Int → Int → List (List Int × List Int) → Option R), impl_Net_fired n m (j : Int) (m.length : Int) l k = bif decide (r < 0) then k false [] (m.length : Int) l else k (decide (((add1 (sub1 m l[j].1) l[j].2).length : Int) = (m.length : Int)) && okM (add1 (sub1 m l[j].1) l[j].2)) (add1 (sub1 m l[j].1) l[j].2) (m.length : Int) l := fun R k => by
    unfold impl_Net_fired slices_Clone_int
    rw [decide_eq_true (show 0 + m.length ≤ LIM by simp [LIM]; omega), cond_true, dnn, dlt h, getD_at _ _ h]
    simp only [cond_true, e1, r2, e2, impl_isMarking_eq (show (add1 (sub1 m l[j].1) l[j].2).length ≤ 1000 by rw [add1_length]; omega) hn]
  cases hd : decO m l[j].1 with
  | none =>
    have := dec_none l[j].1 m hs.1.1 hs.1.2 hd
    refine ⟨[], fun R k => ?_⟩
    rw [open', decide_eq_true (r1.2 this), fireO, hd]; rfl
  | some m1 =>
    obtain ⟨q1, b1⟩ := dec_some l[j].1 m hm hs.1.2 hd
    have hneg : ¬ r < 0 := fun h => by
      obtain ⟨x, hx, h2⟩ := r1.1 h
      rw [← q1] at hx
      have := b1 x hx; omega
    have hlen2 : (add1 (sub1 m l[j].1) l[j].2).length = m.length := by rw [add1_length, hlen]
    refine ⟨add1 (sub1 m l[j].1) l[j].2, fun R k => ?_⟩
    rw [open', decide_eq_false hneg, cond_false, hlen2, decide_eq_true rfl, Bool.true_and, fireO, hd]
    show _ = match incO m1 l[j].2 with | some m' => _ | none => _
    rw [← q1]
    cases hi : incO m1 l[j].2 with
    | some m2 =>
      obtain ⟨q2, b2⟩ := inc_some l[j].2 m1 b1 (by rw [q1, hlen]; exact hs.2.1.2) hi
      rw [← q2, okM_iff.2 b2]
    | none =>
      obtain ⟨x, hx, h2⟩ := inc_none l[j].2 m1 hs.2.1.1 (by rw [q1, hlen]; exact hs.2.1.2) hi
      have : okM (add1 m1 l[j].2) = false := by
        cases c : okM (add1 m1 l[j].2) with
        | false => rfl
        | true => have := okM_iff.1 c x hx; omega
      rw [this]
def playO (l : List (List Int × List Int)) : List Int → List Int → Nat → List Int × Nat
  | [], m, c => (m, c)
  | x :: xs, m, c => match fireO m (l.getD x.toNat ([], [])) with
    | some m' => playO l xs m' (c + 1)
    | none => playO l xs m c
theorem playO_ok {l : List (List Int × List Int)} {w : List Int} : ∀ (xs m : List Int) (c : Nat), (∀ s ∈ l, StepIn m.length s) → (∀ x ∈ xs, 0 ≤ x ∧ x < (l.length : Int)) → (∀ x ∈ m, 0 ≤ x ∧ x ≤ 9) → w.length = m.length → (∀ s ∈ l, sumAt w s.2 - sumAt w s.1 = 0) →
    (playO l xs m c).1.length = m.length ∧ (∀ x ∈ (playO l xs m c).1, 0 ≤ x ∧ x ≤ 9) ∧ dot w (playO l xs m c).1 = dot w m
  | [], m, c, _, _, hm, _, _ => ⟨rfl, hm, rfl⟩
  | x :: xs, m, c, hs, hx, hm, hw, hi => by
    have h1 := hx x (List.mem_cons_self ..)
    have hlt : x.toNat < l.length := by omega
    have hg : l.getD x.toNat ([], []) = l[x.toNat] := by rw [List.getD_eq_getElem?_getD, List.getElem?_eq_getElem hlt]; rfl
    have hst := hs _ (List.getElem_mem hlt)
    rw [playO, hg]
    cases hf : fireO m l[x.toNat] with
    | none => exact playO_ok xs m c hs (fun y hy => hx y (List.mem_cons_of_mem _ hy)) hm hw hi
    | some m' =>
      obtain ⟨e1, e2, e3⟩ := fire_some hm hst hf
      obtain ⟨g1, g2, g3⟩ := playO_ok (l := l) (w := w) xs m' (c + 1) (fun s hs' => by rw [e3]; exact hs s hs') (fun y hy => hx y (List.mem_cons_of_mem _ hy)) e2 (by rw [e3]; exact hw) hi
      refine ⟨by rw [g1, e3], g2, ?_⟩
      have hb := hi _ (List.getElem_mem hlt)
      have hl1 := sub1_length l[x.toNat].1 m
      show dot w (playO l xs m' (c + 1)).1 = _
      rw [g3, e1, dot_add w _ _ (by rw [hl1]; exact hw) (by rw [hl1]; exact hst.2.1.2), dot_sub w _ _ hw hst.1.2]
      omega
theorem impl_Play_loop {l : List (List Int × List Int)} (hll : l.length ≤ 1000) (xs : List Int) (hxl : xs.length ≤ 1000) (hx : ∀ x ∈ xs, 0 ≤ x ∧ x < (l.length : Int)) : ∀ (n j : Nat) (m : List Int) (c : Nat), 2000 + (xs.length - j) < n → j ≤ xs.length → (∀ s ∈ l, StepIn m.length s) → (∀ x ∈ m, 0 ≤ x ∧ x ≤ 9) → m.length ≤ 1000 → 0 < m.length → c ≤ j →
    ∀ (R : Type) (k : List Int → Int → Option R), impl_PlayNet_l6 n m (c : Int) xs (xs.length : Int) (j : Int) (m.length : Int) l k = k (playO l (xs.drop j) m c).1 ((playO l (xs.drop j) m c).2 : Int)
  | 0, _, _, _, h, _, _, _, _, _, _, _, _ => by omega
  | n + 1, j, m, c, hn, hj, hs, hm, hl, h0, hc, R, k => by
    rw [impl_PlayNet_l6]
    by_cases h : j < xs.length
    · have h1 := hx xs[j] (List.getElem_mem h)
      have hlt : xs[j].toNat < l.length := by omega
      have hg : l.getD xs[j].toNat ([], []) = l[xs[j].toNat] := by rw [List.getD_eq_getElem?_getD, List.getElem?_eq_getElem hlt]; rfl
      have hst := hs _ (List.getElem_mem hlt)
      obtain ⟨x, hfx⟩ := impl_fired_ex (n := n) hlt hm hl h0 hst (by omega)
      rw [Int.toNat_of_nonneg h1.1] at hfx
      rw [dlt h, dnn, getD_at _ _ h, wrapS h (by omega), List.drop_eq_getElem_cons h, wrapS (show c < c + 1 by omega) (by omega)]
      simp only [cond_true, hfx, playO, hg]
      cases hf : fireO m l[xs[j].toNat] with
      | none => exact impl_Play_loop hll xs hxl hx n (j + 1) m c (by omega) (by omega) hs hm hl h0 (by omega) R k
      | some m' =>
        obtain ⟨e1, e2, e3⟩ := fire_some hm hst hf
        have ih := impl_Play_loop hll xs hxl hx n (j + 1) m' (c + 1) (by omega) (by omega) (fun s hs' => by rw [e3]; exact hs s hs') e2 (by omega) (by omega) (by omega) R k
        rw [e3] at ih
        exact ih
    · rw [dge (by omega), List.drop_eq_nil_iff.2 (by omega)]; rfl
theorem spec_Play_loop {l : List (List Int × List Int)} (hll : l.length ≤ 1000) (xs : List Int) (hxl : xs.length ≤ 1000) (hx : ∀ x ∈ xs, 0 ≤ x ∧ x < (l.length : Int)) (B : Int) : ∀ (n j : Nat) (m : List Int) (c : Nat), 2000 + (xs.length - j) < n → j ≤ xs.length → (∀ s ∈ l, StepIn m.length s) → (∀ x ∈ m, 0 ≤ x ∧ x ≤ 9) → m.length ≤ 1000 → c ≤ j →
    ∀ (R : Type) (kr : List Int → Int → Bool → Option R) (k : List Int → Int → Option R), spec_PlayNet_l6 n m (c : Int) xs (xs.length : Int) (j : Int) B l kr k = k (playO l (xs.drop j) m c).1 ((playO l (xs.drop j) m c).2 : Int)
  | 0, _, _, _, h, _, _, _, _, _, _, _, _ => by omega
  | n + 1, j, m, c, hn, hj, hs, hm, hl, hc, R, kr, k => by
    rw [spec_PlayNet_l6]
    by_cases h : j < xs.length
    · have h1 := hx xs[j] (List.getElem_mem h)
      have hlt : xs[j].toNat < l.length := by omega
      have hg : l.getD xs[j].toNat ([], []) = l[xs[j].toNat] := by rw [List.getD_eq_getElem?_getD, List.getElem?_eq_getElem hlt]; rfl
      have hst := hs _ (List.getElem_mem hlt)
      rw [dlt h, dnn, getD_at _ _ h, wrapS h (by omega), List.drop_eq_getElem_cons h, wrapS (show c < c + 1 by omega) (by omega), wrap64 (x := (l.length : Int) - 1) (by omega) (by omega)]
      simp only [cond_true, spec_l1In_eq, decide_eq_true (show 0 ≤ xs[j] ∧ xs[j] ≤ (l.length : Int) - 1 by omega), Bool.not_true, cond_false, decide_eq_true h1.1, decide_eq_true h1.2, hg, spec_fire_eq (n := n) hm hl hst (by omega), playO]
      cases hf : fireO m l[xs[j].toNat] with
      | none => exact spec_Play_loop hll xs hxl hx B n (j + 1) m c (by omega) (by omega) hs hm hl (by omega) R kr k
      | some m' =>
        obtain ⟨e1, e2, e3⟩ := fire_some hm hst hf
        exact spec_Play_loop hll xs hxl hx B n (j + 1) m' (c + 1) (by omega) (by omega) (fun s hs' => by rw [e3]; exact hs s hs') e2 (by omega) (by omega) R kr k
    · rw [dge (by omega), List.drop_eq_nil_iff.2 (by omega)]; rfl
theorem dot_drop (w m : List Int) {j : Nat} (h1 : j < w.length) (h2 : j < m.length) : dot (w.drop j) (m.drop j) = w[j] * m[j] + dot (w.drop (j + 1)) (m.drop (j + 1)) := by
  rw [List.drop_eq_getElem_cons h1, List.drop_eq_getElem_cons h2]; rfl
theorem impl_Weight_loop {R : Type} (w m : List Int) (hw : ∀ x ∈ w, -100 ≤ x ∧ x ≤ 100) (hm : ∀ x ∈ m, 0 ≤ x ∧ x ≤ 9) (hl : w.length = m.length) (hl2 : m.length ≤ 1000) (k : Int → Option R) : ∀ (n j : Nat) (acc : Int), w.length - j < n → j ≤ w.length → -900 * (j : Int) ≤ acc → acc ≤ 900 * (j : Int) →
    impl_WeightOf_l5 n m acc w (w.length : Int) (j : Int) k = k (acc + dot (w.drop j) (m.drop j))
  | 0, _, _, h, _, _, _ => by omega
  | n + 1, j, acc, hn, hj, h0, h1 => by
    rw [impl_WeightOf_l5]
    by_cases h : j < w.length
    · have h' : j < m.length := by omega
      have a1 := hw w[j] (List.getElem_mem h)
      have a2 := hm m[j] (List.getElem_mem h')
      have a : w[j] * m[j] ≤ 900 := by
        have := Int.mul_le_mul_of_nonneg_right a1.2 a2.1
        omega
      have b : -900 ≤ w[j] * m[j] := by
        have := Int.mul_le_mul_of_nonneg_right a1.1 a2.1
        omega
      rw [dlt h, dnn, getD_at _ _ h, dlt h', getD_at _ _ h', wrapS h (by omega), wrap64 (x := w[j] * m[j]) (by omega) (by omega), wrap64 (x := acc + w[j] * m[j]) (by omega) (by omega), dot_drop w m h h']
      simp only [cond_true]
      rw [impl_Weight_loop w m hw hm hl hl2 k n (j + 1) _ (by omega) (by omega) (by omega) (by omega), Int.add_assoc]
    · rw [dge (by omega), List.drop_eq_nil_iff.2 (show w.length ≤ j by omega)]
      simp [dot]
theorem impl_WeightOf_eq {R : Type} {n : Nat} {w m : List Int} (hw : okW (m.length : Int) w = true) (hm : ∀ x ∈ m, 0 ≤ x ∧ x ≤ 9) (h0 : 1 ≤ m.length) (h8 : m.length ≤ 8) (hn : 5000 ≤ n) (k : Int → Bool → Option R) : impl_WeightOf n m w k = k (dot w m) true := by
  have hw' := hw
  simp only [okW, Bool.and_eq_true, decide_eq_true_eq, List.all_eq_true] at hw'
  have hl : w.length = m.length := by omega
  unfold impl_WeightOf
  have := impl_Weight_loop w m hw'.2 hm hl (by omega) (fun r4 => k r4 true) n 0 0 (by omega) (by omega) (by omega) (by omega)
  rw [show ((0 : Nat) : Int) = 0 from rfl, List.drop_zero, List.drop_zero, Int.zero_add] at this
  simp only [impl_in_eq, decide_eq_true (show 1 ≤ (m.length : Int) ∧ (m.length : Int) ≤ 8 by omega), Bool.not_true, cond_false, impl_isMarking_eq (show m.length ≤ 1000 by omega) (show 2000 ≤ n by omega), decide_true, okM_iff.2 hm, Bool.and_self, impl_weightsOk_eq (show w.length ≤ 1000 by omega) hn, hw, this]
theorem okNet_in {N : Nat} {l : List (List Int × List Int)} (h : okNet (N : Int) l = true) (hx : ∀ s ∈ l, s.1.length ≤ 500 ∧ s.2.length ≤ 500) : 1 ≤ N ∧ N ≤ 8 ∧ l.length ≤ 12 ∧ ∀ s ∈ l, StepIn N s := by
  simp only [okNet, Bool.and_eq_true, decide_eq_true_eq, List.all_eq_true, okStep] at h
  refine ⟨by omega, by omega, h.2.1, fun s hs => ?_⟩
  have h1 := h.2.2 s hs
  have a := riseTo_iff.1 h1.1
  have b := riseTo_iff.1 h1.2
  exact ⟨⟨a.1, fun p hp => by have := a.2 p hp; omega⟩, ⟨b.1, fun p hp => by have := b.2 p hp; omega⟩, hx s hs⟩
theorem impl_PlayNet_eq {n : Nat} {N : Nat} {l : List (List Int × List Int)} (ho : okNet (N : Int) l = true) (hx : ∀ s ∈ l, s.1.length ≤ 500 ∧ s.2.length ≤ 500) {m : List Int} (hN : m.length = N) (hm : ∀ x ∈ m, 0 ≤ x ∧ x ≤ 9) {xs : List Int} (hxl : xs.length ≤ 200) (hxs : ∀ x ∈ xs, 0 ≤ x ∧ x < (l.length : Int)) (hn : 5000 ≤ n) (R : Type) (k : List Int → Int → Bool → Option R) :
    impl_PlayNet n (N : Int) l m xs k = k (playO l xs m 0).1 ((playO l xs m 0).2 : Int) true := by
  obtain ⟨n1, n8, hl, hs⟩ := okNet_in ho hx
  unfold impl_PlayNet slices_ContainsFunc_int_impl_PlayNet_c1 slices_IndexFunc_int_impl_PlayNet_c1
  have hc := fun (kk : Int → Int → List (List Int × List Int) → Option R) => loop_all0 xs (fun _ => true) 0 (fun n i => slices_IndexFunc_int_impl_PlayNet_c1_l2 n xs (xs.length : Int) i (N : Int) l (fun r4 r5 r6 => kk r4 r5 r6) (fun r7 r8 => kk (-1) r7 r8)) (kk (-1) (N : Int) l) none (fun n j h hn => by
    have h1 := hxs xs[j] (List.getElem_mem h)
    show slices_IndexFunc_int_impl_PlayNet_c1_l2 (n + 1) xs (xs.length : Int) (j : Int) (N : Int) l _ _ = _
    rw [slices_IndexFunc_int_impl_PlayNet_c1_l2]
    rw [dlt h, dnn, getD_at _ _ h, wrapS h (by omega)]
    simp only [cond_true, impl_PlayNet_c1, impl_in_eq, wrap64 (x := (l.length : Int) - 1) (by omega) (by omega), decide_eq_true (show 0 ≤ xs[j] ∧ xs[j] ≤ (l.length : Int) - 1 by omega), Bool.not_true, cond_false]) (fun n => by
    show slices_IndexFunc_int_impl_PlayNet_c1_l2 (n + 1) xs (xs.length : Int) (xs.length : Int) (N : Int) l _ _ = _
    rw [slices_IndexFunc_int_impl_PlayNet_c1_l2]
    rw [dge (by omega)]; rfl) (n := n) (by omega)
  have hall : (xs.all fun _ => true) = true := List.all_eq_true.2 fun _ _ => rfl
  simp only [hall, cond_true] at hc
  have hp := impl_Play_loop (l := l) (by omega) xs (by omega) hxs n 0 m 0 (by omega) (by omega) (by rw [hN]; exact hs) hm (by omega) (by omega) (by omega) R (fun r10 r11 => k r10 r11 true)
  rw [hN, show ((0 : Nat) : Int) = 0 from rfl, List.drop_zero] at hp
  refine Eq.trans (hc (fun r1 r2 r3 => impl_markOk n r2 r3 m fun r4 => (bif (!r4) then k ([] : List Int) 0 false else (bif (decide ((xs.length : Int) > 200)) then k ([] : List Int) 0 false else (bif (decide (r1 ≥ 0)) then k ([] : List Int) 0 false else (slices_Clone_int n m fun r5 => (impl_PlayNet_l6 n r5 0 xs (xs.length : Int) 0 r2 r3 (fun r10 r11 => k r10 r11 true)))))))) ?_
  unfold impl_markOk slices_Clone_int
  simp only [impl_GoodNet_eq (B := (N : Int)) (l := l) (by omega) (by omega) (by omega) (fun s hs' => by have := hx s hs'; omega) hn, ho, cond_true, impl_isMarking_eq (show m.length ≤ 1000 by omega) (show 2000 ≤ n by omega), hN, decide_true, okM_iff.2 hm, Bool.and_self, Bool.not_true, cond_false, decide_eq_false (show ¬ (xs.length : Int) > 200 by omega), decide_eq_false (show ¬ (-1 : Int) ≥ 0 by omega), decide_eq_true (show 0 + N ≤ LIM by simp [LIM]; omega)]
  exact hp
theorem spec_PlayNet_eq {n : Nat} {N : Nat} {l : List (List Int × List Int)} (ho : okNet (N : Int) l = true) (hx : ∀ s ∈ l, s.1.length ≤ 500 ∧ s.2.length ≤ 500) {m : List Int} (hN : m.length = N) (hm : ∀ x ∈ m, 0 ≤ x ∧ x ≤ 9) {xs : List Int} (hxl : xs.length ≤ 200) (hxs : ∀ x ∈ xs, 0 ≤ x ∧ x < (l.length : Int)) (hn : 5000 ≤ n) (R : Type) (k : List Int → Int → Bool → Option R) :
    spec_PlayNet n (N : Int) l m xs k = k (playO l xs m 0).1 ((playO l xs m 0).2 : Int) true := by
  obtain ⟨n1, n8, hl, hs⟩ := okNet_in ho hx
  have hp := spec_Play_loop (l := l) (by omega) xs (by omega) hxs (N : Int) n 0 m 0 (by omega) (by omega) (by rw [hN]; exact hs) hm (by omega) (by omega) R (fun r6 r7 r8 => k r6 r7 r8) (fun r9 r10 => k r9 r10 true)
  rw [show ((0 : Nat) : Int) = 0 from rfl, List.drop_zero] at hp
  unfold spec_PlayNet
  simp only [spec_GoodNet_eq (B := (N : Int)) (l := l) (by omega) (by omega) (by omega) (fun s hs' => by have := hx s hs'; omega) hn, ho, spec_l3Mark_eq (show m.length ≤ 1000 by omega) (show 2000 ≤ n by omega), hN, decide_true, okM_iff.2 hm, Bool.and_self, Bool.not_true, cond_false, decide_eq_false (show ¬ (xs.length : Int) > 200 by omega), List.length_nil, decide_eq_true (show 0 + N ≤ LIM by simp [LIM]; omega), cond_true, List.nil_append]
  exact hp
theorem and255 (x : Int) : 0 ≤ IntKind.wrap .i64 (IntKind.wrap .u64 (Int.ofNat (BitVec.toNat (BitVec.ofInt (IntKind.bits .u64) x &&& BitVec.ofInt (IntKind.bits .u64) 255)))) ∧ IntKind.wrap .i64 (IntKind.wrap .u64 (Int.ofNat (BitVec.toNat (BitVec.ofInt (IntKind.bits .u64) x &&& BitVec.ofInt (IntKind.bits .u64) 255)))) ≤ 255 := by
  have h : BitVec.toNat (BitVec.ofInt (IntKind.bits .u64) x &&& BitVec.ofInt (IntKind.bits .u64) 255) ≤ 255 := by
    rw [BitVec.toNat_and]
    exact Nat.le_trans Nat.and_le_right (by decide)
  generalize BitVec.toNat (BitVec.ofInt (IntKind.bits .u64) x &&& BitVec.ofInt (IntKind.bits .u64) 255) = y at h
  have h1 : IntKind.wrap .u64 (Int.ofNat y) = (y : Int) := by
    simp only [IntKind.wrap, IntKind.signed, IntKind.bits]
    simp
    omega
  rw [h1, wrap64 (by omega) (by omega)]
  omega
/-- Bytes. -/
def Bytes (l : List Int) : Prop := ∀ x ∈ l, 0 ≤ x ∧ x ≤ 255
theorem bytes_getD {l : List Int} (hl : Bytes l) {i : Nat} (h : i < l.length) : 0 ≤ l.getD i 0 ∧ l.getD i 0 ≤ 255 := by
  rw [List.getD_eq_getElem?_getD, List.getElem?_eq_getElem h]
  exact hl _ (List.getElem_mem h)
def seedN (s b : Int) : Int := IntKind.wrap .u64 ((IntKind.wrap .u64 ((IntKind.wrap .u64 (s * 6364136223846793005)) + b)) + 1442695040888963407)
theorem next_ex {l : List Int} (hl : Bytes l) (n : Nat) {p s : Int} (h0 : 0 ≤ p) (h1 : p ≤ 4611686018427387904) : ∃ r s', 0 ≤ r ∧ r ≤ 255 ∧ ∀ (R : Type) (k : Int → List Int → Int → Int → Option R), spec_l1Cur_next n l p s k = k r l (p + 1) s' := by
  have hw : IntKind.wrap .i64 (p + 1) = p + 1 := wrap64 (by omega) (by omega)
  by_cases c : p < (l.length : Int)
  · obtain ⟨b1, b2⟩ := bytes_getD hl (i := Int.toNat p) (by omega)
    have hg : IntKind.wrap .i64 (l.getD (Int.toNat p) 0) = l.getD (Int.toNat p) 0 := wrap64 (by omega) (by omega)
    refine ⟨l.getD (Int.toNat p) 0, seedN s (IntKind.wrap .u64 (l.getD (Int.toNat p) 0)), b1, b2, fun R k => ?_⟩
    unfold spec_l1Cur_next
    rw [decide_eq_true c, decide_eq_true h0, hw, decide_eq_true (show p + 1 ≤ (l.length : Int) by omega), hg]
    rfl
  · have hn := and255 (Int.fdiv (seedN s 0) (2 ^ (min (Int.toNat 40) (IntKind.bits .u64))))
    refine ⟨_, seedN s 0, hn.1, hn.2, fun R k => ?_⟩
    unfold spec_l1Cur_next
    rw [decide_eq_false c, hw, decide_eq_false (show ¬ p + 1 ≤ (l.length : Int) by omega)]
    rfl
theorem pick_ex {l : List Int} (hl : Bytes l) (n : Nat) {m p s : Int} (hm : m ≤ 60000) (h0 : 0 ≤ p) (h1 : p ≤ 4611686018427387000) : ∃ r p' s', 0 ≤ r ∧ (r < m ∨ (m ≤ 1 ∧ r = 0)) ∧ p ≤ p' ∧ p' ≤ p + 2 ∧ ∀ (R : Type) (k : Int → List Int → Int → Int → Option R), spec_l1Cur_pick n m l p s k = k r l p' s' := by
  by_cases c : m ≤ 1
  · exact ⟨0, p, s, by omega, .inr ⟨c, rfl⟩, by omega, by omega, fun R k => by unfold spec_l1Cur_pick; rw [decide_eq_true c]; rfl⟩
  · obtain ⟨r, s1, r0, r1, hr⟩ := next_ex hl n (s := s) h0 (by omega)
    by_cases c2 : m > 200
    · obtain ⟨q, s2, q0, q1, hq⟩ := next_ex hl n (p := p + 1) (s := s1) (by omega) (by omega)
      have e : IntKind.wrap .i64 (IntKind.wrap .i64 (r * 256) + q) = r * 256 + q := by rw [wrap64 (x := r * 256) (by omega) (by omega), wrap64 (by omega) (by omega)]
      have t0 := Int.tmod_nonneg m (show 0 ≤ r * 256 + q by omega)
      have t1 := Int.tmod_lt_of_pos (r * 256 + q) (show 0 < m by omega)
      refine ⟨Int.tmod (r * 256 + q) m, p + 1 + 1, s2, t0, .inl t1, by omega, by omega, fun R k => ?_⟩
      unfold spec_l1Cur_pick
      rw [decide_eq_false c, hr, decide_eq_true c2, hq, decide_eq_true (show m ≠ 0 by omega), e]
      rfl
    · have t0 := Int.tmod_nonneg m (show 0 ≤ r by omega)
      have t1 := Int.tmod_lt_of_pos r (show 0 < m by omega)
      refine ⟨Int.tmod r m, p + 1, s1, t0, .inl t1, by omega, by omega, fun R k => ?_⟩
      unfold spec_l1Cur_pick
      rw [decide_eq_false c, hr, decide_eq_false c2, decide_eq_true (show m ≠ 0 by omega)]
      rfl
theorem places_loop_ex {l : List Int} (hl : Bytes l) {B : Int} (hB : B ≤ 100) : ∀ (c n : Nat) (v p s : Int) (out : List Int), c + out.length = 3 → c < n → 0 ≤ v → v ≤ 200 → 0 ≤ p → p + 2 * c ≤ 4611686018427380000 →
    ∃ out' p' s', out'.length ≤ 3 ∧ p ≤ p' ∧ p' ≤ p + 2 * c ∧ ∀ (R : Type) (k : List Int → List Int → Int → Int → Option R), spec_l1Cur_places_l3 n B v l p s out k = k out' l p' s'
  | c, 0, _, _, _, _, _, h, _, _, _, _ => by omega
  | c, n + 1, v, p, s, out, ho, hn, hv, hv2, hp, hp2 => by
    by_cases h : v < B
    · by_cases h2 : out.length < 2
      · obtain ⟨r, p1, s1, r0, r1, q0, q1, hr⟩ := pick_ex hl n (m := 3) (s := s) (by omega) hp (by omega)
        have hw : IntKind.wrap .i64 (v + IntKind.wrap .i64 (1 + r)) = v + (1 + r) := by rw [wrap64 (x := 1 + r) (by omega) (by omega), wrap64 (x := v + (1 + r)) (by omega) (by omega)]
        obtain ⟨o, p2, s2, a1, a2, a3, a4⟩ := places_loop_ex hl hB (c - 1) n (v + (1 + r)) p1 s1 (out ++ [v]) (by simp; omega) (by omega) (by omega) (by omega) (by omega) (by omega)
        refine ⟨o, p2, s2, a1, by omega, by omega, fun R k => ?_⟩
        rw [spec_l1Cur_places_l3]
        rw [decide_eq_true h, decide_eq_true (show (out.length : Int) < 2 by omega), decide_eq_true (show out.length + [v].length ≤ LIM by simp [LIM]; omega)]
        simp only [cond_true]
        rw [hr, hw]
        exact a4 R k
      · refine ⟨out, p, s, by omega, by omega, by omega, fun R k => ?_⟩
        rw [spec_l1Cur_places_l3]
        rw [decide_eq_true h, decide_eq_false (show ¬ (out.length : Int) < 2 by omega)]
        rfl
    · refine ⟨out, p, s, by omega, by omega, by omega, fun R k => ?_⟩
      rw [spec_l1Cur_places_l3]
      rw [decide_eq_false h]
      rfl
theorem places_ex {l : List Int} (hl : Bytes l) {n : Nat} {B p s : Int} (hB : B ≤ 100) (hn : 20 ≤ n) (hp : 0 ≤ p) (hp2 : p + 20 ≤ 4611686018427380000) :
    ∃ out' p' s', out'.length ≤ 3 ∧ p ≤ p' ∧ p' ≤ p + 20 ∧ ∀ (R : Type) (k : List Int → List Int → Int → Int → Option R), spec_l1Cur_places n B l p s k = k out' l p' s' := by
  obtain ⟨r, p1, s1, r0, r1, q0, q1, hr⟩ := pick_ex hl n (m := 3) (s := s) (by omega) hp (by omega)
  obtain ⟨o, p2, s2, a1, a2, a3, a4⟩ := places_loop_ex hl hB 3 n r p1 s1 [] (by simp) (by omega) (by omega) (by omega) (by omega) (by omega)
  refine ⟨o, p2, s2, a1, by omega, by omega, fun R k => ?_⟩
  unfold spec_l1Cur_places
  rw [hr]
  exact a4 R k
theorem steps_loop_ex {l : List Int} (hl : Bytes l) {B : Int} (hB : B ≤ 100) (z1 : List (List Int × List Int)) (z2 : Int) : ∀ (c n : Nat) (p s : Int) (out : List (List Int × List Int)), c + 30 < n → 0 ≤ p → p + 40 * c ≤ 4611686018427380000 → out.length + c ≤ 100 → (∀ x ∈ out, x.1.length ≤ 3 ∧ x.2.length ≤ 3) →
    ∃ out' p' s', out'.length ≤ out.length + c ∧ (∀ x ∈ out', x.1.length ≤ 3 ∧ x.2.length ≤ 3) ∧ p ≤ p' ∧ p' ≤ p + 40 * c ∧ ∀ (R : Type) (k : List Int → Int → Int → List (List Int × List Int) → Int → List (List Int × List Int) → Int → Option R), spec_l1Cur_net_l18 n (c : Int) l p s z1 z2 out B k = k l p' s' z1 z2 out' B
  | c, 0, _, _, _, h, _, _, _, _ => by omega
  | 0, n + 1, p, s, out, _, _, _, _, hb => ⟨out, p, s, by omega, hb, by omega, by omega, fun R k => by rw [spec_l1Cur_net_l18]; rfl⟩
  | c + 1, n + 1, p, s, out, hn, hp, hp2, ho, hb => by
    obtain ⟨a, p1, s1, a0, q0, q1, ha⟩ := places_ex hl (n := n) (B := B) (s := s) hB (by omega) hp (by omega)
    obtain ⟨b, p2, s2, b0, b1, b2, b3⟩ := places_ex hl (n := n) (B := B) (p := p1) (s := s1) hB (by omega) (by omega) (by omega)
    obtain ⟨o, p3, s3, a1, a2, a3, a4, a5⟩ := steps_loop_ex hl hB z1 z2 c n p2 s2 (out ++ [(a, b)]) (by omega) (by omega) (by omega) (by simp; omega) (fun x hx => by
      rcases List.mem_append.1 hx with hx | hx
      · exact hb x hx
      · rw [List.mem_singleton.1 hx]; exact ⟨a0, b0⟩)
    simp only [List.length_append, List.length_singleton] at a1
    refine ⟨o, p3, s3, by omega, a2, by omega, by omega, fun R k => ?_⟩
    rw [spec_l1Cur_net_l18]
    rw [decide_eq_true (show ((c + 1 : Nat) : Int) > 0 by omega), cond_true, ha, b3, decide_eq_true (show out.length + [(a, b)].length ≤ LIM by simp [LIM]; omega), wrap64 (x := ((c + 1 : Nat) : Int) - 1) (by omega) (by omega), show ((c + 1 : Nat) : Int) - 1 = (c : Int) by omega]
    exact a5 R k
theorem weights_loop_ex {l : List Int} (hl : Bytes l) (one : Bool) : ∀ (c n : Nat) (p s : Int) (out : List Int), c < n → 0 ≤ p → p + 2 * c ≤ 4611686018427380000 → out.length + c ≤ 100 → (∀ x ∈ out, -100 ≤ x ∧ x ≤ 100) →
    ∃ out' p' s', out'.length = out.length + c ∧ (∀ x ∈ out', -100 ≤ x ∧ x ≤ 100) ∧ p ≤ p' ∧ p' ≤ p + 2 * c ∧ ∀ (R : Type) (k : List Int → List Int → Int → Int → Option R), spec_l1Cur_weights_l3 n (c : Int) one l p s out k = k out' l p' s'
  | c, 0, _, _, _, h, _, _, _, _ => by omega
  | 0, n + 1, p, s, out, _, _, _, _, hb => ⟨out, p, s, by omega, hb, by omega, by omega, fun R k => by rw [spec_l1Cur_weights_l3]; rfl⟩
  | c + 1, n + 1, p, s, out, hn, hp, hp2, ho, hb => by
    cases one with
    | true =>
      obtain ⟨o, p3, s3, a1, a2, a3, a4, a5⟩ := weights_loop_ex hl true c n p s (out ++ [1]) (by omega) (by omega) (by omega) (by simp; omega) (fun x hx => by
        rcases List.mem_append.1 hx with hx | hx
        · exact hb x hx
        · rw [List.mem_singleton.1 hx]; omega)
      simp only [List.length_append, List.length_singleton] at a1
      refine ⟨o, p3, s3, by omega, a2, by omega, by omega, fun R k => ?_⟩
      rw [spec_l1Cur_weights_l3]
      rw [decide_eq_true (show ((c + 1 : Nat) : Int) > 0 by omega), cond_true, cond_true, decide_eq_true (show out.length + [1].length ≤ LIM by simp [LIM]; omega), wrap64 (x := ((c + 1 : Nat) : Int) - 1) (by omega) (by omega), show ((c + 1 : Nat) : Int) - 1 = (c : Int) by omega]
      exact a5 R k
    | false =>
      obtain ⟨r, p1, s1, r0, r1, q0, q1, hr⟩ := pick_ex hl n (m := 5) (s := s) (by omega) hp (by omega)
      obtain ⟨o, p3, s3, a1, a2, a3, a4, a5⟩ := weights_loop_ex hl false c n p1 s1 (out ++ [r - 2]) (by omega) (by omega) (by omega) (by simp; omega) (fun x hx => by
        rcases List.mem_append.1 hx with hx | hx
        · exact hb x hx
        · rw [List.mem_singleton.1 hx]; omega)
      simp only [List.length_append, List.length_singleton] at a1
      refine ⟨o, p3, s3, by omega, a2, by omega, by omega, fun R k => ?_⟩
      rw [spec_l1Cur_weights_l3]
      rw [decide_eq_true (show ((c + 1 : Nat) : Int) > 0 by omega), cond_true, cond_false, hr, wrap64 (x := r - 2) (by omega) (by omega), decide_eq_true (show out.length + [r - 2].length ≤ LIM by simp [LIM]; omega), wrap64 (x := ((c + 1 : Nat) : Int) - 1) (by omega) (by omega), show ((c + 1 : Nat) : Int) - 1 = (c : Int) by omega]
      exact a5 R k
theorem chain_loop_ex (l : List Int) (p s : Int) (z1 : List (List Int × List Int)) (z2 B : Int) (hB : B ≤ 100) : ∀ (c n : Nat) (j : Int) (out : List (List Int × List Int)), c < n → B - j ≤ c → 0 ≤ j → out.length + c ≤ 1000 → (∀ x ∈ out, x.1.length ≤ 3 ∧ x.2.length ≤ 3) →
    ∃ out', out'.length ≤ out.length + c ∧ (∀ x ∈ out', x.1.length ≤ 3 ∧ x.2.length ≤ 3) ∧ ∀ (R : Type) (k : List Int → Int → Int → List (List Int × List Int) → Int → List (List Int × List Int) → Int → Option R), spec_l1Cur_net_l5 n j l p s z1 z2 out B k = k l p s z1 z2 out' B
  | _, 0, _, _, h, _, _, _, _ => by omega
  | 0, n + 1, j, out, _, hj, _, _, hb => ⟨out, by omega, hb, fun R k => by rw [spec_l1Cur_net_l5, decide_eq_false (show ¬ j < B by omega)]; rfl⟩
  | c + 1, n + 1, j, out, hn, hj, h0, ho, hb => by
    by_cases h : j < B
    · obtain ⟨o, a1, a2, a3⟩ := chain_loop_ex l p s z1 z2 B hB c n (j + 1) (out ++ [([j - 1], [j])]) (by omega) (by omega) (by omega) (by simp; omega) (fun x hx => by
        rcases List.mem_append.1 hx with hx | hx
        · exact hb x hx
        · rw [List.mem_singleton.1 hx]; simp)
      simp only [List.length_append, List.length_singleton] at a1
      refine ⟨o, by omega, a2, fun R k => ?_⟩
      rw [spec_l1Cur_net_l5, decide_eq_true h, cond_true, wrap64 (x := j - 1) (by omega) (by omega), wrap64 (x := j + 1) (by omega) (by omega), decide_eq_true (show out.length + [([j - 1], [j])].length ≤ LIM by simp [LIM]; omega), cond_true]
      exact a3 R k
    · exact ⟨out, by omega, hb, fun R k => by rw [spec_l1Cur_net_l5, decide_eq_false h]; rfl⟩
theorem oneN_ex {l : List Int} (hl : Bytes l) (n : Nat) {m p s : Int} (hm : m ≤ 60000) (h0 : 0 ≤ p) (h1 : p ≤ 4611686018427387000) : ∃ b p' s', p ≤ p' ∧ p' ≤ p + 2 ∧ ∀ (R : Type) (k : Bool → List Int → Int → Int → Option R), spec_l1Cur_one n m l p s k = k b l p' s' := by
  obtain ⟨r, p1, s1, _, _, q0, q1, hr⟩ := pick_ex hl n (m := m) (s := s) hm h0 h1
  exact ⟨r == 0, p1, s1, q0, q1, fun R k => by unfold spec_l1Cur_one; rw [hr]⟩
def NetIn (B : Int) (ss : List (List Int × List Int)) : Prop := 1 ≤ B ∧ B ≤ 8 ∧ ss.length ≤ 50 ∧ ∀ x ∈ ss, x.1.length ≤ 3 ∧ x.2.length ≤ 3
theorem net_ex {l : List Int} (hl : Bytes l) {n : Nat} (hn : 100 ≤ n) : ∃ B ss p' s', NetIn B ss ∧ 0 ≤ p' ∧ p' ≤ 1000 ∧ ∀ (R : Type) (k : Int → List (List Int × List Int) → List Int → Int → Int → Option R), spec_l1Cur_net n l 0 0 k = k B ss l p' s' := by
  obtain ⟨r, p1, s1, r0, r1, q0, q1, hr⟩ := pick_ex hl n (m := 4) (p := 0) (s := 0) (by omega) (by omega) (by omega)
  by_cases c0 : r = 0
  · subst c0
    obtain ⟨v, p2, s2, v0, v1, w0, w1, hv⟩ := pick_ex hl n (m := 4) (p := p1) (s := s1) (by omega) (by omega) (by omega)
    obtain ⟨o, a1, a2, a3⟩ := chain_loop_ex l p2 s2 [] 0 (2 + v) (by omega) 5 n 1 [] (by omega) (by omega) (by omega) (by simp) (fun x hx => by simp at hx)
    simp only [List.length_nil] at a1
    obtain ⟨b, p3, s3, u0, u1, ht⟩ := oneN_ex hl n (m := 3) (p := p2) (s := s2) (by omega) (by omega) (by omega)
    have hw : IntKind.wrap .i64 (2 + v) = 2 + v := wrap64 (by omega) (by omega)
    cases b with
    | true =>
      obtain ⟨x, p4, s4, x0, x1, y0, y1, hx⟩ := pick_ex hl n (m := IntKind.wrap .i64 (2 + v - 1)) (p := p3) (s := s3) (by rw [wrap64 (by omega) (by omega)]; omega) (by omega) (by omega)
      obtain ⟨x', p5, s5, x0', x1', y0', y1', hx'⟩ := pick_ex hl n (m := IntKind.wrap .i64 (2 + v - 1)) (p := p4) (s := s4) (by rw [wrap64 (by omega) (by omega)]; omega) (by omega) (by omega)
      refine ⟨2 + v, o ++ [([x], [x'])], p5, s5, ⟨by omega, by omega, by simp; omega, fun z hz => ?_⟩, by omega, by omega, fun R k => ?_⟩
      · rcases List.mem_append.1 hz with hz | hz
        · exact a2 z hz
        · rw [List.mem_singleton.1 hz]; simp
      · unfold spec_l1Cur_net
        rw [hr, show ((0 : Int) == 0) = true from rfl, cond_true, hv, hw, a3, ht, cond_true, hx, hx', decide_eq_true (show o.length + [([x], [x'])].length ≤ LIM by simp [LIM]; omega), cond_true]
    | false =>
      refine ⟨2 + v, o, p3, s3, ⟨by omega, by omega, by omega, a2⟩, by omega, by omega, fun R k => ?_⟩
      unfold spec_l1Cur_net
      rw [hr, show ((0 : Int) == 0) = true from rfl, cond_true, hv, hw, a3, ht, cond_false]
  · have e0 : (r == 0) = false := by simpa using c0
    by_cases c1 : r = 1
    · subst c1
      obtain ⟨b, p3, s3, u0, u1, ht⟩ := oneN_ex hl n (m := 3) (p := p1) (s := s1) (by omega) (by omega) (by omega)
      cases b with
      | true =>
        obtain ⟨x, p4, s4, x0, x1, y0, y1, hx⟩ := pick_ex hl n (m := 2) (p := p3) (s := s3) (by omega) (by omega) (by omega)
        refine ⟨6, ([([0], [1, 2]), ([1], [3]), ([2], [4]), ([3, 4], [5])] : List (List Int × List Int)).set 3 ([(IntKind.wrap .i64 (3 + x))], (([([0], [1, 2]), ([1], [3]), ([2], [4]), ([3, 4], [5])] : List (List Int × List Int)).getD 3 ([], [])).2), p4, s4, ⟨by omega, by omega, ?_, ?_⟩, by omega, by omega, fun R k => ?_⟩
        rotate_left 2
        · unfold spec_l1Cur_net
          rw [hr, show ((1 : Int) == 0) = false from rfl, cond_false, show ((1 : Int) == 1) = true from rfl, cond_true, ht, cond_true, hx]
          rfl
        · simp
        · intro z hz
          simp at hz
          rcases hz with rfl | rfl | rfl | rfl <;> simp
      | false =>
        refine ⟨6, [([0], [1, 2]), ([1], [3]), ([2], [4]), ([3, 4], [5])], p3, s3, ⟨by omega, by omega, ?_, ?_⟩, by omega, by omega, fun R k => ?_⟩
        rotate_left 2
        · unfold spec_l1Cur_net
          rw [hr, show ((1 : Int) == 0) = false from rfl, cond_false, show ((1 : Int) == 1) = true from rfl, cond_true, ht, cond_false]
        · simp
        · intro z hz
          simp at hz
          rcases hz with rfl | rfl | rfl | rfl <;> simp
    · have e1 : (r == 1) = false := by simpa using c1
      obtain ⟨v, p2, s2, v0, v1, w0, w1, hv⟩ := pick_ex hl n (m := 5) (p := p1) (s := s1) (by omega) (by omega) (by omega)
      obtain ⟨c, p3, s3, c0', c1', y0, y1, hc⟩ := pick_ex hl n (m := 5) (p := p2) (s := s2) (by omega) (by omega) (by omega)
      obtain ⟨o, p4, s4, a1, a2, a3, a4, a5⟩ := steps_loop_ex hl (B := 1 + v) (by omega) [] 0 c.toNat n p3 s3 [] (by omega) (by omega) (by omega) (by simp; omega) (fun x hx => by simp at hx)
      rw [Int.toNat_of_nonneg (by omega)] at a5
      simp only [List.length_nil] at a1
      obtain ⟨b, p5, s5, u0, u1, ht⟩ := oneN_ex hl n (m := 30) (p := p4) (s := s4) (by omega) (by omega) (by omega)
      have hw : IntKind.wrap .i64 (1 + v) = 1 + v := wrap64 (by omega) (by omega)
      have keep : NetIn (1 + v) o := ⟨by omega, by omega, by omega, a2⟩
      cases b with
      | true =>
        by_cases h : (o.length : Int) > 0
        · have h' : 0 < o.length := by omega
          refine ⟨1 + v, o.set 0 ([1 + v], (o.getD 0 ([], [])).2), p5, s5, ⟨by omega, by omega, by simp; omega, fun z hz => ?_⟩, by omega, by omega, fun R k => ?_⟩
          · rcases List.mem_or_eq_of_mem_set hz with hz | rfl
            · exact a2 z hz
            · refine ⟨by simp, ?_⟩
              rw [List.getD_eq_getElem?_getD, List.getElem?_eq_getElem h']
              exact (a2 _ (List.getElem_mem h')).2
          · unfold spec_l1Cur_net
            rw [hr, e0, cond_false, e1, cond_false, hv, hc, hw, a5, ht, cond_true, decide_eq_true h, cond_true, cond_true]
        · refine ⟨1 + v, o, p5, s5, keep, by omega, by omega, fun R k => ?_⟩
          unfold spec_l1Cur_net
          rw [hr, e0, cond_false, e1, cond_false, hv, hc, hw, a5, ht, cond_true, decide_eq_false h, cond_false]
      | false =>
        refine ⟨1 + v, o, p5, s5, keep, by omega, by omega, fun R k => ?_⟩
        unfold spec_l1Cur_net
        rw [hr, e0, cond_false, e1, cond_false, hv, hc, hw, a5, ht, cond_false]
theorem weights_ex {l : List Int} (hl : Bytes l) {n : Nat} (hn : 100 ≤ n) {B p s : Int} (h1 : 1 ≤ B) (h8 : B ≤ 8) (hp : 0 ≤ p) (hp2 : p ≤ 100000) : ∃ w p' s', w.length ≤ 100 ∧ ∀ (R : Type) (k : List Int → List Int → Int → Int → Option R), spec_l1Cur_weights n B l p s k = k w l p' s' := by
  obtain ⟨b, p1, s1, u0, u1, ht⟩ := oneN_ex hl n (m := 3) (p := p) (s := s) (by omega) (by omega) (by omega)
  obtain ⟨o, p2, s2, a1, _, _, _, a5⟩ := weights_loop_ex hl b B.toNat n p1 s1 [] (by omega) (by omega) (by omega) (by simp; omega) (fun x hx => by simp at hx)
  rw [Int.toNat_of_nonneg (by omega)] at a5
  simp only [List.length_nil] at a1
  refine ⟨o, p2, s2, by omega, fun R k => ?_⟩
  unfold spec_l1Cur_weights
  rw [ht, a5]
theorem drawInv_ex {l : List Int} (hl : Bytes l) {n : Nat} (hn : 100 ≤ n) : ∃ B ss w, NetIn B ss ∧ w.length ≤ 100 ∧ ∀ (R : Type) (k : Int → List (List Int × List Int) → List Int → Option R), spec_DrawIsInvariant n l k = k B ss w := by
  obtain ⟨B, ss, p, s, h1, h2, h3, h4⟩ := net_ex hl hn
  by_cases c : B = 6
  · subst c
    obtain ⟨b, p1, s1, u0, u1, ht⟩ := oneN_ex hl n (m := 2) (p := p) (s := s) (by omega) (by omega) (by omega)
    cases b with
    | true => exact ⟨6, ss, [2, 1, 1, 1, 1, 2], h1, by simp, fun R k => by unfold spec_DrawIsInvariant; rw [h4, show ((6 : Int) == 6) = true from rfl, cond_true, ht, cond_true]⟩
    | false =>
      obtain ⟨w, p2, s2, w1, w2⟩ := weights_ex hl hn (B := 6) (p := p1) (s := s1) (by omega) (by omega) (by omega) (by omega)
      exact ⟨6, ss, w, h1, w1, fun R k => by unfold spec_DrawIsInvariant; rw [h4, show ((6 : Int) == 6) = true from rfl, cond_true, ht, cond_false, w2]⟩
  · obtain ⟨w, p2, s2, w1, w2⟩ := weights_ex hl hn (B := B) (p := p) (s := s) h1.1 h1.2.1 (by omega) (by omega)
    exact ⟨B, ss, w, h1, w1, fun R k => by unfold spec_DrawIsInvariant; rw [h4, show (B == 6) = false by simpa using c, cond_false, w2]⟩
theorem laws_sameInts_loop {R : Type} (xs ys : List Int) (hl : xs.length = ys.length) (hb : xs.length ≤ 9223372036854775807) (kr : Bool → Option R) (ke : Option R) : ∀ (n j : Nat), xs.length - j < n → j ≤ xs.length →
    laws_sameInts_l4 n xs ys (xs.length : Int) (j : Int) kr ke = if xs.drop j = ys.drop j then ke else kr false
  | 0, _, h, _ => by omega
  | n + 1, j, hn, hj => by
    unfold laws_sameInts_l4
    by_cases h : j < xs.length
    · have h' : j < ys.length := by omega
      rw [dlt h, dlt h', dnn, getD_at _ _ h, getD_at _ _ h', wrapS h hb, List.drop_eq_getElem_cons h, List.drop_eq_getElem_cons h']
      simp only [cond_true]
      by_cases he : xs[j] = ys[j]
      · have : (xs[j] != ys[j]) = false := by simp [he]
        rw [this, cond_false, laws_sameInts_loop xs ys hl hb kr ke n (j + 1) (by omega) (by omega)]
        simp only [List.cons.injEq, he, true_and]
      · have : (xs[j] != ys[j]) = true := by simpa using he
        rw [this, cond_true, if_neg fun h => he (List.cons.inj h).1]
    · rw [dge (by omega)]
      have h1 : xs.drop j = [] := List.drop_eq_nil_iff.2 (by omega)
      have h2 : ys.drop j = [] := List.drop_eq_nil_iff.2 (by omega)
      simp [h1, h2]
theorem laws_sameInts_eq {R : Type} {n : Nat} {xs ys : List Int} (hb : xs.length ≤ 9223372036854775807) (hn : xs.length < n) (k : Bool → Option R) : laws_sameInts n xs ys k = k (decide (xs = ys)) := by
  unfold laws_sameInts
  by_cases hl : xs.length = ys.length
  · have : ((xs.length : Int) != (ys.length : Int)) = false := by simp [hl]
    rw [this, cond_false]
    have := laws_sameInts_loop xs ys hl hb k (k true) n 0 (by omega) (by omega)
    simp only [List.drop_zero] at this
    rw [show ((0 : Nat) : Int) = 0 from rfl] at this
    rw [this]
    split <;> simp_all
  · have : ((xs.length : Int) != (ys.length : Int)) = true := by simp; omega
    rw [this, cond_true, decide_eq_false fun h => hl (by rw [h])]
theorem l12_ex {x : List Int} (hb : Bytes x) (B : Int) (y1 : Bool) (y4 : List (List Int × List Int)) (y6 : List Int) (N : Nat) (hN : N ≤ 1000) : ∀ (n j : Nat) (m : List Int), N - j < n → j ≤ N → m.length = N → (∀ v ∈ m, 0 ≤ v ∧ v ≤ 9) →
    ∃ m', m'.length = N ∧ (∀ v ∈ m', 0 ≤ v ∧ v ≤ 9) ∧ ∀ (R : Type) (k : List Int → Bool → List (List Int × List Int) → Int → List Int → List Int → Option R), laws_FnInvariant_l12 n x y1 (N : Int) (j : Int) y4 B y6 m k = k x y1 y4 B y6 m'
  | 0, _, _, h, _, _, _ => by omega
  | n + 1, j, m, hn, hj, hm, hv => by
    by_cases h : j < N
    · have hs : ∀ v, 0 ≤ v → v ≤ 9 → ∀ u ∈ m.set j v, 0 ≤ u ∧ u ≤ 9 := fun v h0 h1 u hu => by
        rcases List.mem_or_eq_of_mem_set hu with hu | rfl
        · exact hv u hu
        · exact ⟨h0, h1⟩
      by_cases c : j < x.length
      · obtain ⟨b1, b2⟩ := hb x[j] (List.getElem_mem c)
        have t0 := Int.tmod_nonneg 4 (show 0 ≤ x[j] by omega)
        have t1 := Int.tmod_lt_of_pos x[j] (show (0 : Int) < 4 by omega)
        obtain ⟨m', e1, e2, e3⟩ := l12_ex hb B y1 y4 y6 N hN n (j + 1) ((m.set j 1).set j (Int.tmod x[j] 4)) (by omega) (by omega) (by simpa using hm) (fun u hu => by
          rw [List.set_set] at hu
          exact hs _ t0 (by omega) u hu)
        refine ⟨m', e1, e2, fun R k => ?_⟩
        rw [laws_FnInvariant_l12]
        rw [dlt h, dnn, show decide ((j : Int) < (m.length : Int)) = true from decide_eq_true (by omega), dlt c, getD_at _ _ c, wrapS h (by omega), wrap64 (x := x[j]) (by omega) (by omega), show decide ((j : Int) < ((m.set (Int.toNat (j : Int)) 1).length : Int)) = true from decide_eq_true (by rw [List.length_set]; omega)]
        simp only [cond_true, Int.toNat_natCast]
        exact e3 R k
      · obtain ⟨m', e1, e2, e3⟩ := l12_ex hb B y1 y4 y6 N hN n (j + 1) (m.set j 1) (by omega) (by omega) (by simpa using hm) (hs 1 (by omega) (by omega))
        refine ⟨m', e1, e2, fun R k => ?_⟩
        rw [laws_FnInvariant_l12]
        rw [dlt h, dnn, show decide ((j : Int) < (m.length : Int)) = true from decide_eq_true (by omega), dge (show x.length ≤ j by omega), wrapS h (by omega)]
        simp only [cond_true, cond_false, Int.toNat_natCast]
        exact e3 R k
    · refine ⟨m, hm, hv, fun R k => ?_⟩
      rw [laws_FnInvariant_l12]
      rw [dge (by omega)]
      rfl
theorem l20_ex {x : List Int} (hb : Bytes x) (B : Int) (y1 : Bool) {l : List (List Int × List Int)} (hl : 0 < l.length) (hl2 : l.length ≤ 1000) (y5 y6 : List Int) : ∀ (c n j : Nat) (out : List Int), c + j = 40 → c < n → out.length = j → (∀ v ∈ out, 0 ≤ v ∧ v < (l.length : Int)) →
    ∃ out', out'.length ≤ 40 ∧ (∀ v ∈ out', 0 ≤ v ∧ v < (l.length : Int)) ∧ ∀ (R : Type) (k : Bool → List (List Int × List Int) → Int → List Int → List Int → List Int → Option R), laws_FnInvariant_l20 n x y1 (j : Int) l B y5 y6 out k = k y1 l B y5 y6 out'
  | _, 0, _, _, _, h, _, _ => by omega
  | c, n + 1, j, out, hc, hn, ho, hv => by
    by_cases h : j < x.length
    · by_cases h4 : (j : Int) < 40
      · obtain ⟨b1, b2⟩ := hb x[j] (List.getElem_mem h)
        have t0 := Int.tmod_nonneg (l.length : Int) (show 0 ≤ x[j] by omega)
        have t1 := Int.tmod_lt_of_pos x[j] (show (0 : Int) < (l.length : Int) by omega)
        obtain ⟨o, e1, e2, e3⟩ := l20_ex hb B y1 hl hl2 y5 y6 (c - 1) n (j + 1) (out ++ [Int.tmod x[j] (l.length : Int)]) (by omega) (by omega) (by simp [ho]) (fun u hu => by
          rcases List.mem_append.1 hu with hu | hu
          · exact hv u hu
          · rw [List.mem_singleton.1 hu]; exact ⟨t0, t1⟩)
        refine ⟨o, e1, e2, fun R k => ?_⟩
        rw [laws_FnInvariant_l20]
        rw [dlt h, dnn, decide_eq_true h4, getD_at _ _ h, wrapS (show j < j + 1 by omega) (by omega), wrap64 (x := x[j]) (by omega) (by omega), decide_eq_true (show (l.length : Int) ≠ 0 by omega), decide_eq_true (show out.length + [Int.tmod x[j] (l.length : Int)].length ≤ LIM by simp [LIM]; omega)]
        exact e3 R k
      · refine ⟨out, by omega, hv, fun R k => ?_⟩
        rw [laws_FnInvariant_l20]
        rw [dlt h, decide_eq_false h4]
        rfl
    · refine ⟨out, by omega, hv, fun R k => ?_⟩
      rw [laws_FnInvariant_l20]
      rw [dge (by omega)]
      rfl
theorem playO_len {l : List (List Int × List Int)} : ∀ (xs m : List Int) (c : Nat), (∀ s ∈ l, StepIn m.length s) → (∀ x ∈ xs, 0 ≤ x ∧ x < (l.length : Int)) → (∀ x ∈ m, 0 ≤ x ∧ x ≤ 9) → (playO l xs m c).1.length = m.length ∧ (∀ x ∈ (playO l xs m c).1, 0 ≤ x ∧ x ≤ 9)
  | [], m, c, _, _, hm => ⟨rfl, hm⟩
  | x :: xs, m, c, hs, hx, hm => by
    have h1 := hx x (List.mem_cons_self ..)
    have hlt : x.toNat < l.length := by omega
    have hg : l.getD x.toNat ([], []) = l[x.toNat] := by rw [List.getD_eq_getElem?_getD, List.getElem?_eq_getElem hlt]; rfl
    have hst := hs _ (List.getElem_mem hlt)
    rw [playO, hg]
    cases hf : fireO m l[x.toNat] with
    | none => exact playO_len xs m c hs (fun y hy => hx y (List.mem_cons_of_mem _ hy)) hm
    | some m' =>
      obtain ⟨e1, e2, e3⟩ := fire_some hm hst hf
      obtain ⟨g1, g2⟩ := playO_len (l := l) xs m' (c + 1) (fun s hs' => by rw [e3]; exact hs s hs') (fun y hy => hx y (List.mem_cons_of_mem _ hy)) e2
      exact ⟨by rw [← e3]; exact g1, g2⟩
theorem key {R : Type} {n : Nat} (x0 x1 : List Int) (h0 : Bytes x0) (h1 : Bytes x1) (hn : 10000 ≤ n) (k : Bool → Option R) : laws_FnInvariant n x0 x1 k = k true := by
  unfold laws_FnInvariant
  by_cases hg : IntKind.wrap .i64 ((x0.length : Int) + (x1.length : Int)) > 1048576
  · rw [decide_eq_true hg]; rfl
  rw [decide_eq_false hg, cond_false]
  obtain ⟨B, l, w, ⟨n1, n8, hl, hx⟩, hw, hd⟩ := drawInv_ex h0 (n := n) (by omega)
  rw [hd]
  obtain ⟨N, rfl⟩ : ∃ N : Nat, B = (N : Int) := ⟨B.toNat, by omega⟩
  have hx1000 : ∀ s ∈ l, s.1.length ≤ 1000 ∧ s.2.length ≤ 1000 := fun s hs => by have := hx s hs; omega
  have hx500 : ∀ s ∈ l, s.1.length ≤ 500 ∧ s.2.length ≤ 500 := fun s hs => by have := hx s hs; omega
  have gI := fun k => impl_GoodNet_eq (R := R) (n := n) (B := (N : Int)) (l := l) (by omega) (by omega) (by omega) hx1000 (by omega) k
  have gS := fun k => spec_GoodNet_eq (R := R) (n := n) (B := (N : Int)) (l := l) (by omega) (by omega) (by omega) hx1000 (by omega) k
  unfold impl_IsInvariant spec_IsInvariant
  simp only [gI, gS]
  cases ho : okNet (N : Int) l with
  | false => rfl
  | true =>
    have wI := fun k => impl_weightsOk_eq (R := R) (n := n) (B := (N : Int)) (w := w) (by omega) (by omega) k
    have wS := fun k => spec_l3Weights_eq (R := R) (n := n) (B := (N : Int)) (w := w) (by omega) (by omega) k
    simp only [Bool.not_true, cond_false, beq_self_eq_true, wI, wS]
    cases hok : okW (N : Int) w with
    | false => rfl
    | true =>
      simp only [Bool.not_true, cond_false]
      have hok' := hok
      simp only [okW, Bool.and_eq_true, decide_eq_true_eq, List.all_eq_true] at hok'
      obtain ⟨_, _, hl12, hst⟩ := okNet_in ho hx500
      have hss : ∀ s ∈ l, s.1.length ≤ 1000 ∧ s.2.length ≤ 1000 ∧ (∀ p ∈ s.1, 0 ≤ p ∧ p < (w.length : Int)) ∧ ∀ p ∈ s.2, 0 ≤ p ∧ p < (w.length : Int) := fun s hs => by
        have h2 := hst s hs
        have h3 := hx1000 s hs
        have hwN := hok'.1
        exact ⟨h3.1, h3.2, fun p hp => by have := h2.1.2 p hp; omega, fun p hp => by have := h2.2.1.2 p hp; omega⟩
      have lI := fun kr ke => impl_IsInvariant_loop (R := R) w hok'.2 l (by omega) hss (n := n) (by omega) kr ke
      have lS := fun kr ke => spec_IsInvariant_loop (R := R) w hok'.2 l (by omega) hss (n := n) (by omega) kr ke
      simp only [lI, lS]
      have hrep : (List.replicate (Int.toNat (N : Int)) (0 : Int)).length = N := by simp
      have hinv : invB w l = true → ∀ s ∈ l, sumAt w s.2 - sumAt w s.1 = 0 := fun h s hs => by
        have := List.all_eq_true.1 h s hs
        simpa using this
      generalize invB w l = b at hinv
      have main : ∀ {r4 : Bool}, (r4 = true → ∀ s ∈ l, sumAt w s.2 - sumAt w s.1 = 0) → 0 < l.length → ∃ m xs y ff, (∀ (R : Type) (k : List Int → Bool → List (List Int × List Int) → Int → List Int → List Int → Option R), laws_FnInvariant_l12 n x1 r4 (N : Int) 0 l (N : Int) w (List.replicate (Int.toNat (N : Int)) (0 : Int)) k = k x1 r4 l (N : Int) w m) ∧
          (∀ (R : Type) (k : Bool → List (List Int × List Int) → Int → List Int → List Int → List Int → Option R), laws_FnInvariant_l20 n x1 r4 0 l (N : Int) w m ([] : List Int) k = k r4 l (N : Int) w m xs) ∧
          (∀ (R : Type) (k : List Int → Int → Bool → Option R), impl_PlayNet n (N : Int) l m xs k = k y ff true) ∧ (∀ (R : Type) (k : List Int → Int → Bool → Option R), spec_PlayNet n (N : Int) l m xs k = k y ff true) ∧
          (∀ (R : Type) (k : Int → Bool → Option R), impl_WeightOf n m w k = k (dot w m) true) ∧ (∀ (R : Type) (k : Int → Bool → Option R), impl_WeightOf n y w k = k (dot w y) true) ∧ y.length ≤ 1000 ∧ (r4 = true → dot w m = dot w y) := by
        intro r4 h4 hlp
        obtain ⟨m, m1, m2, m3⟩ := l12_ex h1 (N : Int) r4 l w N (by omega) n 0 (List.replicate (Int.toNat (N : Int)) (0 : Int)) (by omega) (by omega) hrep (fun v hv => by rw [List.eq_of_mem_replicate hv]; omega)
        obtain ⟨xs, x1', x2, x3⟩ := l20_ex h1 (N : Int) r4 hlp (by omega) w m 40 n 0 [] (by omega) (by omega) rfl (fun v hv => by simp at hv)
        have gm := fun (r : Prop) (h : r) => h
        have hmN : ∀ s ∈ l, StepIn m.length s := fun s hs => by rw [m1]; exact hst s hs
        have hwm : w.length = m.length := by omega
        have p0 : (playO l xs m 0).1.length = m.length ∧ (∀ x ∈ (playO l xs m 0).1, 0 ≤ x ∧ x ≤ 9) := playO_len xs m 0 hmN x2 m2
        refine ⟨m, xs, (playO l xs m 0).1, ((playO l xs m 0).2 : Int), m3, x3, fun R k => impl_PlayNet_eq ho hx500 m1 m2 (by omega) x2 (by omega) R k, fun R k => spec_PlayNet_eq ho hx500 m1 m2 (by omega) x2 (by omega) R k,
          fun R k => impl_WeightOf_eq (by rw [m1]; exact hok) m2 (by omega) (by omega) (by omega) k, fun R k => impl_WeightOf_eq (by rw [p0.1, m1]; exact hok) p0.2 (by omega) (by omega) (by omega) k, by omega, fun hr => ?_⟩
        exact (playO_ok (l := l) (w := w) xs m 0 hmN x2 m2 hwm (h4 hr)).2.2.symm
      cases b
      all_goals
        simp only [cond_true, cond_false, beq_self_eq_true, Bool.not_true, gI, gS, ho, bif_true, bif_false]
        by_cases hl0 : l.length = 0
        · rw [show ((l.length : Int) == 0) = true by simp [hl0]]; rfl
        · have e0 : ((l.length : Int) == 0) = false := by
            rw [beq_eq_false_iff_ne]
            omega
          rw [e0]
          obtain ⟨m, xs, y, ff, g1, g2, g3, g4, g5, g6, g7, g8⟩ := main hinv (by omega)
          rw [decide_eq_true (show (0 : Int) ≤ (N : Int) by omega), decide_eq_true (show (N : Int) ≤ (N : Int) by omega), decide_eq_true (show (N : Int) ≤ 1099511627776 by omega), hrep]
          simp only [cond_true, cond_false]
          rw [g1, g2, g3, g4, g5, g6, laws_sameInts_eq (show y.length ≤ 9223372036854775807 by omega) (by omega)]
          simp [g8]
theorem plain : Plain := fun x0 x1 h0 h1 R k => ⟨_, key x0 x1 (fun x hx => h0.2 x hx) (fun x hx => h1.2 x hx) (Nat.le_refl _) k⟩
end Go.Am.G
