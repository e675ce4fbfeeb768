/- The plain law: what the functions compute answers as the law says, for all arguments. -/
import Derived.Test.YtjijikgjefingaaF12
set_option linter.unusedVariables false
set_option linter.unusedSimpArgs false
namespace Go.Am.G
open Go Go.Am
theorem wrap64 {x : Int} (h1 : -9223372036854775808 ≤ x) (h2 : x ≤ 9223372036854775807) : IntKind.wrap .i64 x = x := by
  simp only [IntKind.wrap, IntKind.signed, IntKind.bits]
  simp
  omega
theorem getD_at {α : Type} (l : List α) (d : α) {j : Nat} (h : j < l.length) : l.getD (Int.toNat (j : Int)) d = l[j] := by
  rw [Int.toNat_natCast, List.getD_eq_getElem?_getD, List.getElem?_eq_getElem h]; rfl
theorem dlt {a b : Nat} (h : a < b) : decide ((a : Int) < (b : Int)) = true := decide_eq_true (by omega)
theorem dge {a b : Nat} (h : b ≤ a) : decide ((a : Int) < (b : Int)) = false := decide_eq_false (by omega)
theorem dnn (a : Nat) : decide (0 ≤ (a : Int)) = true := decide_eq_true (by omega)
theorem wrapS {j m : Nat} (h : j < m) (hm : m ≤ 9223372036854775807) : IntKind.wrap .i64 ((j : Int) + 1) = ((j + 1 : Nat) : Int) := by
  rw [wrap64 (by omega) (by omega)]; rfl
theorem spec_l1In_eq {R : Type} (n : Nat) (x a b : Int) (k : Bool → Option R) : spec_l1In n x a b k = k (decide (a ≤ x ∧ x ≤ b)) := by
  simp only [spec_l1In]
  by_cases h : x ≥ a
  · have : a ≤ x := h
    simp [this]
  · have : ¬ a ≤ x := h
    simp [this]
theorem impl_in_eq {R : Type} (n : Nat) (x a b : Int) (k : Bool → Option R) : impl_in n x a b k = k (decide (a ≤ x ∧ x ≤ b)) := by
  simp only [impl_in]
  by_cases h : x ≥ a
  · have : a ≤ x := h
    simp [this]
  · have : ¬ a ≤ x := h
    simp [this]
theorem bifk {R α : Type} (b : Bool) (x y : α) (k : α → Option R) : (bif b then k x else k y) = k (bif b then x else y) := by cases b <;> rfl
theorem loop_all {α R : Type} (l : List α) (q : α → Bool) (B : Nat) (F : Nat → Int → Option R) (ke kr : Option R)
    (step : ∀ (n j : Nat) (h : j < l.length), B ≤ n → F (n + 1) (j : Int) = bif q l[j] then F n ((j + 1 : Nat) : Int) else kr)
    (stop : ∀ n, F (n + 1) (l.length : Int) = ke) : ∀ (n j : Nat), B + (l.length - j) < n → j ≤ l.length → F n (j : Int) = bif (l.drop j).all q then ke else kr
  | 0, _, h, _ => by omega
  | n + 1, j, hn, hj => by
    by_cases h : j < l.length
    · rw [step n j h (by omega), List.drop_eq_getElem_cons h, List.all_cons, loop_all l q B F ke kr step stop n (j + 1) (by omega) (by omega)]
      cases q l[j] <;> rfl
    · have : j = l.length := by omega
      subst this
      rw [stop, List.drop_length]; rfl
theorem loop_all0 {α R : Type} (l : List α) (q : α → Bool) (B : Nat) (F : Nat → Int → Option R) (ke kr : Option R)
    (step : ∀ (n j : Nat) (h : j < l.length), B ≤ n → F (n + 1) (j : Int) = bif q l[j] then F n ((j + 1 : Nat) : Int) else kr)
    (stop : ∀ n, F (n + 1) (l.length : Int) = ke) {n : Nat} (hn : B + l.length < n) : F n 0 = bif l.all q then ke else kr := by
  have := loop_all l q B F ke kr step stop n 0 (by omega) (by omega)
  rw [List.drop_zero] at this
  exact this
/-- Numbers that rise, from above one to below another. -/
def riseTo (B : Int) : Int → List Int → Bool
  | _, [] => true
  | v, x :: r => decide (v < x ∧ x < B) && riseTo B x r
theorem riseTo_iff {B : Int} : ∀ {l : List Int} {v : Int}, riseTo B v l = true ↔ l.Pairwise (· < ·) ∧ ∀ x ∈ l, v < x ∧ x < B
  | [], v => by simp [riseTo]
  | y :: r, v => by
    have ih := riseTo_iff (B := B) (l := r) (v := y)
    simp only [riseTo, Bool.and_eq_true, decide_eq_true_eq, ih, List.pairwise_cons, List.mem_cons]
    constructor
    · rintro ⟨h1, h2, h3⟩
      refine ⟨⟨fun x hx => (h3 x hx).1, h2⟩, fun x hx => ?_⟩
      rcases hx with rfl | hx
      · exact h1
      · have := h3 x hx
        omega
    · rintro ⟨⟨h1, h2⟩, h3⟩
      exact ⟨h3 y (.inl rfl), h2, fun x hx => ⟨h1 x hx, (h3 x (.inr hx)).2⟩⟩
theorem spec_l3List_loop {R : Type} (l : List Int) (hb : l.length ≤ 9223372036854775807) {B : Int} (hB : 0 ≤ B) (hB2 : B ≤ 1000) (kr : Bool → Option R) (ke : Option R) : ∀ (n j : Nat) (v : Int), l.length - j < n → j ≤ l.length → -1 ≤ v →
    (j = 0 → v = -1) → (∀ (h : j - 1 < l.length), 0 < j → l[j - 1] = v) →
    spec_l3List_l2 n l B l (l.length : Int) (j : Int) kr ke = bif riseTo B v (l.drop j) then ke else kr false
  | 0, _, _, h, _, _, _, _ => by omega
  | n + 1, j, v, hn, hj, hv, h0, h1 => by
    unfold spec_l3List_l2
    by_cases h : j < l.length
    · rw [dlt h, dnn, getD_at _ _ h, wrapS h hb, List.drop_eq_getElem_cons h, wrap64 (x := B - 1) (by omega) (by omega)]
      simp only [cond_true, spec_l1In_eq, riseTo]
      have ih := fun (h2 : -1 ≤ l[j]) => spec_l3List_loop l hb hB hB2 kr ke n (j + 1) l[j] (by omega) (by omega) h2 (by omega) (fun _ _ => rfl)
      by_cases hz : j = 0
      · have hv := h0 hz
        subst hv
        rw [decide_eq_false (show ¬ ((j : Int) > 0) by omega)]
        by_cases c1 : 0 ≤ l[j] ∧ l[j] ≤ B - 1
        · rw [decide_eq_true c1, decide_eq_true (show -1 < l[j] ∧ l[j] < B by omega)]
          simp only [Bool.not_true, cond_false, Bool.true_and]
          exact ih (by omega)
        · rw [decide_eq_false c1, decide_eq_false (show ¬ (-1 < l[j] ∧ l[j] < B) by omega)]; rfl
      · have hp : j - 1 < l.length := by omega
        have hq := h1 hp (by omega)
        rw [decide_eq_true (show ((j : Int) > 0) by omega), wrap64 (x := (j : Int) - 1) (by omega) (by omega), show (j : Int) - 1 = ((j - 1 : Nat) : Int) by omega, dnn, dlt hp, getD_at _ _ hp, hq]
        simp only [cond_true]
        by_cases c1 : 0 ≤ l[j] ∧ l[j] ≤ B - 1
        · rw [decide_eq_true c1]
          simp only [Bool.not_true, cond_false]
          by_cases c3 : v < l[j]
          · rw [decide_eq_false (show ¬ (v ≥ l[j]) by omega), decide_eq_true (show v < l[j] ∧ l[j] < B by omega)]
            simp only [cond_false, Bool.true_and]
            exact ih (by omega)
          · rw [decide_eq_true (show (v ≥ l[j]) by omega), decide_eq_false (show ¬ (v < l[j] ∧ l[j] < B) by omega)]; rfl
        · rw [decide_eq_false c1, decide_eq_false (show ¬ (v < l[j] ∧ l[j] < B) by omega)]; rfl
    · rw [dge (by omega), List.drop_eq_nil_iff.2 (by omega)]; rfl
theorem spec_l3List_eq {R : Type} {n : Nat} {l : List Int} (hb : l.length ≤ 9223372036854775807) {B : Int} (hB : 0 ≤ B) (hB2 : B ≤ 1000) (hn : l.length < n) (k : Bool → Option R) : spec_l3List n l B k = k (riseTo B (-1) l) := by
  unfold spec_l3List
  have := spec_l3List_loop l hb hB hB2 k (k true) n 0 (-1) (by omega) (by omega) (by omega) (fun _ => rfl) (fun _ h => by omega)
  rw [show ((0 : Nat) : Int) = 0 from rfl, List.drop_zero] at this
  rw [this]
  cases riseTo B (-1) l <;> rfl
theorem impl_rising_loop {R : Type} (l : List Int) (hb : l.length ≤ 9223372036854775807) {B : Int} (hB : 0 ≤ B) (hB2 : B ≤ 1000) (kr : Bool → Option R) (ke : Option R) : ∀ (n j : Nat) (v : Int), l.length - j < n → j ≤ l.length → -1 ≤ v →
    (j = 0 → v = -1) → (∀ (h : j - 1 < l.length), 0 < j → l[j - 1] = v) →
    impl_rising_l2 n l B l (l.length : Int) (j : Int) kr ke = bif riseTo B v (l.drop j) then ke else kr false
  | 0, _, _, h, _, _, _, _ => by omega
  | n + 1, j, v, hn, hj, hv, h0, h1 => by
    unfold impl_rising_l2
    by_cases h : j < l.length
    · rw [dlt h, dnn, getD_at _ _ h, wrapS h hb, List.drop_eq_getElem_cons h, wrap64 (x := B - 1) (by omega) (by omega)]
      simp only [cond_true, impl_in_eq, riseTo]
      have ih := fun (h2 : -1 ≤ l[j]) => impl_rising_loop l hb hB hB2 kr ke n (j + 1) l[j] (by omega) (by omega) h2 (by omega) (fun _ _ => rfl)
      by_cases hz : j = 0
      · have hv := h0 hz
        subst hv
        rw [decide_eq_false (show ¬ ((j : Int) > 0) by omega)]
        by_cases c1 : 0 ≤ l[j] ∧ l[j] ≤ B - 1
        · rw [decide_eq_true c1, decide_eq_true (show -1 < l[j] ∧ l[j] < B by omega)]
          simp only [Bool.not_true, cond_false, Bool.true_and]
          exact ih (by omega)
        · rw [decide_eq_false c1, decide_eq_false (show ¬ (-1 < l[j] ∧ l[j] < B) by omega)]; rfl
      · have hp : j - 1 < l.length := by omega
        have hq := h1 hp (by omega)
        rw [decide_eq_true (show ((j : Int) > 0) by omega), wrap64 (x := (j : Int) - 1) (by omega) (by omega), show (j : Int) - 1 = ((j - 1 : Nat) : Int) by omega, dnn, dlt hp, getD_at _ _ hp, hq]
        simp only [cond_true]
        by_cases c1 : 0 ≤ l[j] ∧ l[j] ≤ B - 1
        · rw [decide_eq_true c1]
          simp only [Bool.not_true, cond_false]
          by_cases c3 : v < l[j]
          · rw [decide_eq_false (show ¬ (v ≥ l[j]) by omega), decide_eq_true (show v < l[j] ∧ l[j] < B by omega)]
            simp only [cond_false, Bool.true_and]
            exact ih (by omega)
          · rw [decide_eq_true (show (v ≥ l[j]) by omega), decide_eq_false (show ¬ (v < l[j] ∧ l[j] < B) by omega)]; rfl
        · rw [decide_eq_false c1, decide_eq_false (show ¬ (v < l[j] ∧ l[j] < B) by omega)]; rfl
    · rw [dge (by omega), List.drop_eq_nil_iff.2 (by omega)]; rfl
theorem impl_rising_eq {R : Type} {n : Nat} {l : List Int} (hb : l.length ≤ 9223372036854775807) {B : Int} (hB : 0 ≤ B) (hB2 : B ≤ 1000) (hn : l.length < n) (k : Bool → Option R) : impl_rising n l B k = k (riseTo B (-1) l) := by
  unfold impl_rising
  have := impl_rising_loop l hb hB hB2 k (k true) n 0 (-1) (by omega) (by omega) (by omega) (fun _ => rfl) (fun _ h => by omega)
  rw [show ((0 : Nat) : Int) = 0 from rfl, List.drop_zero] at this
  rw [this]
  cases riseTo B (-1) l <;> rfl
/-- A net is good. -/
def okStep (B : Int) (s : List Int × List Int) : Bool := riseTo B (-1) s.1 && riseTo B (-1) s.2
def okNet (B : Int) (l : List (List Int × List Int)) : Bool := decide (1 ≤ B ∧ B ≤ 8) && (decide (l.length ≤ 12) && l.all (okStep B))
theorem impl_GoodNet_eq {R : Type} {n : Nat} {B : Int} {l : List (List Int × List Int)} (hB : 0 ≤ B) (hB2 : B ≤ 1000) (hl : l.length ≤ 1000) (hx : ∀ s ∈ l, s.1.length ≤ 1000 ∧ s.2.length ≤ 1000) (hn : 5000 ≤ n) (k : Bool → Option R) : impl_GoodNet n B l k = k (okNet B l) := by
  unfold impl_GoodNet slices_ContainsFunc_impl_Step_impl_GoodNet_c1 slices_IndexFunc_impl_Step_impl_GoodNet_c1
  have := loop_all0 l (okStep B) 1001 (fun n i => slices_IndexFunc_impl_Step_impl_GoodNet_c1_l2 n l (l.length : Int) i B l (fun r2 _ _ => k (!decide (r2 ≥ 0))) (fun _ _ => k (!decide ((-1 : Int) ≥ 0)))) (k true) (k false) (fun n j h hn => by
    have hx' := hx l[j] (List.getElem_mem h)
    show slices_IndexFunc_impl_Step_impl_GoodNet_c1_l2 (n + 1) l (l.length : Int) (j : Int) B l _ _ = _
    rw [slices_IndexFunc_impl_Step_impl_GoodNet_c1_l2]
    rw [dlt h, dnn, getD_at _ _ h, wrapS h (by omega)]
    simp only [cond_true, impl_GoodNet_c1, impl_rising_eq (show l[j].1.length ≤ 9223372036854775807 by omega) hB hB2 (show l[j].1.length < n by omega), impl_rising_eq (show l[j].2.length ≤ 9223372036854775807 by omega) hB hB2 (show l[j].2.length < n by omega), okStep]
    have hj : k (!decide ((j : Int) ≥ 0)) = k false := by rw [decide_eq_true (show (j : Int) ≥ 0 by omega)]; rfl
    cases riseTo B (-1) l[j].1 with
    | false => exact hj
    | true => cases riseTo B (-1) l[j].2 with
      | false => exact hj
      | true => rfl) (fun n => by
    show slices_IndexFunc_impl_Step_impl_GoodNet_c1_l2 (n + 1) l (l.length : Int) (l.length : Int) B l _ _ = _
    rw [slices_IndexFunc_impl_Step_impl_GoodNet_c1_l2]
    rw [dge (by omega)]; rfl) (n := n) (by omega)
  rw [impl_in_eq]
  unfold okNet
  by_cases c : 1 ≤ B ∧ B ≤ 8
  · rw [decide_eq_true c]
    simp only [Bool.not_true, cond_false, Bool.true_and]
    by_cases d : l.length ≤ 12
    · rw [decide_eq_false (show ¬ (l.length : Int) > 12 by omega), decide_eq_true d, cond_false]
      refine Eq.trans this ?_
      cases l.all (okStep B) <;> rfl
    · rw [decide_eq_true (show (l.length : Int) > 12 by omega), decide_eq_false d]; rfl
  · rw [decide_eq_false c]; rfl
theorem spec_GoodNet_eq {R : Type} {n : Nat} {B : Int} {l : List (List Int × List Int)} (hB : 0 ≤ B) (hB2 : B ≤ 1000) (hl : l.length ≤ 1000) (hx : ∀ s ∈ l, s.1.length ≤ 1000 ∧ s.2.length ≤ 1000) (hn : 5000 ≤ n) (k : Bool → Option R) : spec_GoodNet n B l k = k (okNet B l) := by
  unfold spec_GoodNet
  have := loop_all0 l (okStep B) 1001 (fun n i => spec_GoodNet_l2 n l (l.length : Int) i B l (fun r3 => k r3) (fun r4 r5 => k (bif decide (1 ≤ r4 ∧ r4 ≤ 8) then decide ((r5.length : Int) ≤ 12) else false))) (k (bif decide (1 ≤ B ∧ B ≤ 8) then decide ((l.length : Int) ≤ 12) else false)) (k false) (fun n j h hn => by
    have hx' := hx l[j] (List.getElem_mem h)
    show spec_GoodNet_l2 (n + 1) l (l.length : Int) (j : Int) B l _ _ = _
    rw [spec_GoodNet_l2]
    rw [dlt h, dnn, getD_at _ _ h, wrapS h (by omega)]
    simp only [cond_true, spec_l3List_eq (show l[j].1.length ≤ 9223372036854775807 by omega) hB hB2 (show l[j].1.length < n by omega), spec_l3List_eq (show l[j].2.length ≤ 9223372036854775807 by omega) hB hB2 (show l[j].2.length < n by omega), okStep]
    cases riseTo B (-1) l[j].1 <;> cases riseTo B (-1) l[j].2 <;> rfl) (fun n => by
    show spec_GoodNet_l2 (n + 1) l (l.length : Int) (l.length : Int) B l _ _ = _
    rw [spec_GoodNet_l2]
    rw [dge (by omega)]; rfl) (n := n) (by omega)
  simp only [spec_l1In_eq, bifk]
  refine Eq.trans this ?_
  unfold okNet
  by_cases c : 1 ≤ B ∧ B ≤ 8
  · rw [decide_eq_true c]
    by_cases d : l.length ≤ 12
    · rw [decide_eq_true (show (l.length : Int) ≤ 12 by omega), decide_eq_true d]
      cases l.all (okStep B) <;> rfl
    · rw [decide_eq_false (show ¬ (l.length : Int) ≤ 12 by omega), decide_eq_false d]
      cases l.all (okStep B) <;> rfl
  · rw [decide_eq_false c]
    cases l.all (okStep B) <;> rfl
def sumAt (w ps : List Int) : Int := (ps.map fun p => w.getD p.toNat 0).sum
theorem sumAt_cons (w : List Int) (p : Int) (ps : List Int) : sumAt w (p :: ps) = w.getD p.toNat 0 + sumAt w ps := by simp [sumAt]
def sub1 (m ps : List Int) : List Int := ps.foldl (fun m p => m.set p.toNat (m.getD p.toNat 0 - 1)) m
def add1 (m ps : List Int) : List Int := ps.foldl (fun m p => m.set p.toNat (m.getD p.toNat 0 + 1)) m
def decO : List Int → List Int → Option (List Int)
  | m, [] => some m
  | m, p :: ps => if m.getD p.toNat 0 = 0 then none else decO (m.set p.toNat (m.getD p.toNat 0 - 1)) ps
def incO : List Int → List Int → Option (List Int)
  | m, [] => some m
  | m, p :: ps => if m.getD p.toNat 0 + 1 > 9 then none else incO (m.set p.toNat (m.getD p.toNat 0 + 1)) ps
def fireO (m : List Int) (s : List Int × List Int) : Option (List Int) := (decO m s.1).bind fun m => incO m s.2
theorem sub1_length : ∀ (ps m : List Int), (sub1 m ps).length = m.length
  | [], _ => rfl
  | p :: ps, m => by
    show (sub1 (m.set p.toNat _) ps).length = _
    rw [sub1_length ps]; simp
theorem add1_length : ∀ (ps m : List Int), (add1 m ps).length = m.length
  | [], _ => rfl
  | p :: ps, m => by
    show (add1 (m.set p.toNat _) ps).length = _
    rw [add1_length ps]; simp
theorem getD_setN {l : List Int} {i j : Nat} (v : Int) : (l.set j v).getD i 0 = if i = j ∧ j < l.length then v else l.getD i 0 := by
  rw [List.getD_eq_getElem?_getD, List.getD_eq_getElem?_getD]
  by_cases h : i = j
  · subst h
    by_cases h2 : i < l.length
    · rw [List.getElem?_set_self h2, if_pos ⟨rfl, h2⟩]; rfl
    · rw [if_neg (fun h => h2 h.2), List.getElem?_eq_none (by simp; omega), List.getElem?_eq_none (by omega)]
  · rw [List.getElem?_set_ne (fun e => h e.symm), if_neg (fun h2 => h h2.1)]
theorem sub1_other : ∀ (ps m : List Int) {i : Nat}, (∀ p ∈ ps, p.toNat ≠ i) → (sub1 m ps).getD i 0 = m.getD i 0
  | [], _, _, _ => rfl
  | p :: ps, m, i, h => by
    show (sub1 (m.set p.toNat _) ps).getD i 0 = _
    rw [sub1_other ps _ (fun q hq => h q (List.mem_cons_of_mem _ hq)), getD_setN, if_neg (fun h2 => h p (List.mem_cons_self ..) h2.1.symm)]
theorem add1_other : ∀ (ps m : List Int) {i : Nat}, (∀ p ∈ ps, p.toNat ≠ i) → (add1 m ps).getD i 0 = m.getD i 0
  | [], _, _, _ => rfl
  | p :: ps, m, i, h => by
    show (add1 (m.set p.toNat _) ps).getD i 0 = _
    rw [add1_other ps _ (fun q hq => h q (List.mem_cons_of_mem _ hq)), getD_setN, if_neg (fun h2 => h p (List.mem_cons_self ..) h2.1.symm)]
theorem getD_in {l : List Int} {i : Nat} (h : i < l.length) : l.getD i 0 ∈ l := by
  rw [List.getD_eq_getElem?_getD, List.getElem?_eq_getElem h]
  exact List.getElem_mem h
theorem pw_toNat {p : Int} {ps : List Int} (h : ∀ q ∈ ps, p < q) (h0 : 0 ≤ p) : ∀ q ∈ ps, q.toNat ≠ p.toNat := fun q hq => by have := h q hq; omega
theorem dec_some : ∀ (ps m : List Int) {m' : List Int}, (∀ x ∈ m, 0 ≤ x ∧ x ≤ 9) → (∀ p ∈ ps, 0 ≤ p ∧ p < (m.length : Int)) → decO m ps = some m' → m' = sub1 m ps ∧ ∀ x ∈ m', 0 ≤ x ∧ x ≤ 9
  | [], m, m', h, _, e => by cases e; exact ⟨rfl, h⟩
  | p :: ps, m, m', h, hp, e => by
    rw [decO] at e
    split at e
    · cases e
    · next c =>
      have h1 := hp p (List.mem_cons_self ..)
      have h2 := h _ (getD_in (l := m) (i := p.toNat) (by omega))
      exact dec_some ps _ (fun x hx => by
        rcases List.mem_or_eq_of_mem_set hx with hx | rfl
        · exact h x hx
        · omega) (fun q hq => by rw [List.length_set]; exact hp q (List.mem_cons_of_mem _ hq)) e
theorem dec_none : ∀ (ps m : List Int), ps.Pairwise (· < ·) → (∀ p ∈ ps, 0 ≤ p ∧ p < (m.length : Int)) → decO m ps = none → ∃ x ∈ sub1 m ps, x < 0
  | [], m, _, _, e => by cases e
  | p :: ps, m, hw, hp, e => by
    have h1 := hp p (List.mem_cons_self ..)
    rw [List.pairwise_cons] at hw
    rw [decO] at e
    split at e
    · next c =>
      refine ⟨(sub1 (m.set p.toNat (m.getD p.toNat 0 - 1)) ps).getD p.toNat 0, getD_in (by rw [sub1_length]; first | omega | (simp; omega)), ?_⟩
      rw [sub1_other ps _ (pw_toNat hw.1 h1.1), getD_setN, if_pos ⟨rfl, by omega⟩]
      omega
    · exact dec_none ps _ hw.2 (fun q hq => by rw [List.length_set]; exact hp q (List.mem_cons_of_mem _ hq)) e
theorem inc_some : ∀ (ps m : List Int) {m' : List Int}, (∀ x ∈ m, 0 ≤ x ∧ x ≤ 9) → (∀ p ∈ ps, 0 ≤ p ∧ p < (m.length : Int)) → incO m ps = some m' → m' = add1 m ps ∧ ∀ x ∈ m', 0 ≤ x ∧ x ≤ 9
  | [], m, m', h, _, e => by cases e; exact ⟨rfl, h⟩
  | p :: ps, m, m', h, hp, e => by
    rw [incO] at e
    split at e
    · cases e
    · next c =>
      have h1 := hp p (List.mem_cons_self ..)
      have h2 := h _ (getD_in (l := m) (i := p.toNat) (by omega))
      exact inc_some ps _ (fun x hx => by
        rcases List.mem_or_eq_of_mem_set hx with hx | rfl
        · exact h x hx
        · omega) (fun q hq => by rw [List.length_set]; exact hp q (List.mem_cons_of_mem _ hq)) e
theorem inc_none : ∀ (ps m : List Int), ps.Pairwise (· < ·) → (∀ p ∈ ps, 0 ≤ p ∧ p < (m.length : Int)) → incO m ps = none → ∃ x ∈ add1 m ps, x > 9
  | [], m, _, _, e => by cases e
  | p :: ps, m, hw, hp, e => by
    have h1 := hp p (List.mem_cons_self ..)
    rw [List.pairwise_cons] at hw
    rw [incO] at e
    split at e
    · next c =>
      refine ⟨(add1 (m.set p.toNat (m.getD p.toNat 0 + 1)) ps).getD p.toNat 0, getD_in (by rw [add1_length]; first | omega | (simp; omega)), ?_⟩
      rw [add1_other ps _ (pw_toNat hw.1 h1.1), getD_setN, if_pos ⟨rfl, by omega⟩]
      omega
    · exact inc_none ps _ hw.2 (fun q hq => by rw [List.length_set]; exact hp q (List.mem_cons_of_mem _ hq)) e
/-- The weighted sum. -/
def dot : List Int → List Int → Int
  | x :: w, y :: m => x * y + dot w m
  | _, _ => 0
theorem dot_set : ∀ (w m : List Int) (i : Nat) (d : Int), i < m.length → i < w.length → dot w (m.set i (m.getD i 0 + d)) = dot w m + w.getD i 0 * d
  | [], _, _, _, _, h => by simp at h
  | _ :: _, [], _, _, h, _ => by simp at h
  | x :: w, y :: m, 0, d, _, _ => by
    simp only [List.set_cons_zero, dot, List.getD_cons_zero, Int.mul_add]; omega
  | x :: w, y :: m, i + 1, d, h1, h2 => by
    have := dot_set w m i d (by simpa using h1) (by simpa using h2)
    simp only [List.set_cons_succ, dot, List.getD_cons_succ, this]; omega
theorem dot_sub (w : List Int) : ∀ (ps m : List Int), w.length = m.length → (∀ p ∈ ps, 0 ≤ p ∧ p < (m.length : Int)) → dot w (sub1 m ps) = dot w m - sumAt w ps
  | [], m, _, _ => by simp [sub1, sumAt]
  | p :: ps, m, hl, hp => by
    have h1 := hp p (List.mem_cons_self ..)
    show dot w (sub1 (m.set p.toNat (m.getD p.toNat 0 + -1)) ps) = _
    rw [dot_sub w ps _ (by simpa using hl) (fun q hq => by rw [List.length_set]; exact hp q (List.mem_cons_of_mem _ hq)), dot_set w m p.toNat (-1) (by omega) (by omega), sumAt_cons]
    omega
theorem dot_add (w : List Int) : ∀ (ps m : List Int), w.length = m.length → (∀ p ∈ ps, 0 ≤ p ∧ p < (m.length : Int)) → dot w (add1 m ps) = dot w m + sumAt w ps
  | [], m, _, _ => by simp [add1, sumAt]
  | p :: ps, m, hl, hp => by
    have h1 := hp p (List.mem_cons_self ..)
    show dot w (add1 (m.set p.toNat (m.getD p.toNat 0 + 1)) ps) = _
    rw [dot_add w ps _ (by simpa using hl) (fun q hq => by rw [List.length_set]; exact hp q (List.mem_cons_of_mem _ hq)), dot_set w m p.toNat 1 (by omega) (by omega), sumAt_cons]
    omega
def okM (m : List Int) : Bool := m.all fun x => decide (0 ≤ x ∧ x ≤ 9)
theorem slices_Min_loop (l : List Int) (hl : l.length ≤ 1000) : ∀ (n j : Nat) (v : Int), l.length - j < n → j ≤ l.length → ∃ r, (r < 0 ↔ v < 0 ∨ ∃ x ∈ l.drop j, x < 0) ∧ ∀ (R : Type) (k : Int → Option R), slices_Min_int_l5 n l v (j : Int) k = k r
  | 0, _, _, h, _ => by omega
  | n + 1, j, v, hn, hj => by
    by_cases h : j < l.length
    · obtain ⟨r, h1, h2⟩ := slices_Min_loop l hl n (j + 1) (if l[j] < v then l[j] else v) (by omega) (by omega)
      refine ⟨r, ?_, fun R k => ?_⟩
      · rw [h1, List.drop_eq_getElem_cons h]
        constructor
        · rintro (h3 | ⟨x, hx, h3⟩)
          · split at h3
            · exact .inr ⟨_, List.mem_cons_self .., h3⟩
            · exact .inl h3
          · exact .inr ⟨x, List.mem_cons_of_mem _ hx, h3⟩
        · rintro (h3 | ⟨x, hx, h3⟩)
          · left; split <;> omega
          · rcases List.mem_cons.1 hx with rfl | hx
            · left; split <;> omega
            · exact .inr ⟨x, hx, h3⟩
      · rw [slices_Min_int_l5]
        rw [dlt h, dnn, getD_at _ _ h, wrapS h (by omega)]
        exact h2 R k
    · refine ⟨v, ?_, fun R k => ?_⟩
      · rw [List.drop_eq_nil_iff.2 (by omega)]; simp
      · rw [slices_Min_int_l5]
        rw [dge (by omega), cond_false]
theorem slices_Min_ex {n : Nat} {l : List Int} (h0 : 0 < l.length) (hl : l.length ≤ 1000) (hn : 2000 ≤ n) : ∃ r, (r < 0 ↔ ∃ x ∈ l, x < 0) ∧ ∀ (R : Type) (k : Int → Option R), slices_Min_int n l k = k r := by
  obtain ⟨r, h1, h2⟩ := slices_Min_loop l hl n 1 (l.getD 0 0) (by omega) (by omega)
  refine ⟨r, ?_, fun R k => ?_⟩
  · rw [h1]
    cases l with
    | nil => simp at h0
    | cons x l => simp
  · unfold slices_Min_int
    rw [decide_eq_false (show ¬ (l.length : Int) < 1 by omega), decide_eq_true (show 0 < (l.length : Int) by omega)]
    exact h2 R k
theorem impl_isMarking_eq {R : Type} {n : Nat} {B : Int} {m : List Int} (hl : m.length ≤ 1000) (hn : 2000 ≤ n) (k : Bool → Option R) : impl_isMarking n m B k = k (decide ((m.length : Int) = B) && okM m) := by
  unfold impl_isMarking slices_ContainsFunc_int_impl_isMarking_c1 slices_IndexFunc_int_impl_isMarking_c1
  have := loop_all0 m (fun x => decide (0 ≤ x ∧ x ≤ 9)) 0 (fun n i => slices_IndexFunc_int_impl_isMarking_c1_l2 n m (m.length : Int) i (fun r2 => k (!decide (r2 ≥ 0))) (k (!decide ((-1 : Int) ≥ 0)))) (k true) (k false) (fun n j h hn => by
    show slices_IndexFunc_int_impl_isMarking_c1_l2 (n + 1) m (m.length : Int) (j : Int) _ _ = _
    rw [slices_IndexFunc_int_impl_isMarking_c1_l2]
    rw [dlt h, dnn, getD_at _ _ h, wrapS h (by omega)]
    simp only [cond_true, impl_isMarking_c1, impl_in_eq]
    have hj : k (!decide ((j : Int) ≥ 0)) = k false := by rw [decide_eq_true (show (j : Int) ≥ 0 by omega)]; rfl
    cases decide (0 ≤ m[j] ∧ m[j] ≤ 9) with
    | false => exact hj
    | true => rfl) (fun n => by
    show slices_IndexFunc_int_impl_isMarking_c1_l2 (n + 1) m (m.length : Int) (m.length : Int) _ _ = _
    rw [slices_IndexFunc_int_impl_isMarking_c1_l2]
    rw [dge (by omega)]; rfl) (n := n) (by omega)
  by_cases c : (m.length : Int) = B
  · rw [beq_iff_eq.2 c, decide_eq_true c, cond_true]
    refine Eq.trans this ?_
    unfold okM
    cases m.all fun x => decide (0 ≤ x ∧ x ≤ 9) <;> rfl
  · rw [beq_eq_false_iff_ne.2 c, decide_eq_false c]; rfl
theorem spec_l3Mark_eq {R : Type} {n : Nat} {B : Int} {l : List (List Int × List Int)} {m : List Int} (hl : m.length ≤ 1000) (hn : 2000 ≤ n) (k : Bool → Option R) : spec_l3Mark n B l m k = k (decide ((m.length : Int) = B) && okM m) := by
  unfold spec_l3Mark
  have := loop_all0 m (fun x => decide (0 ≤ x ∧ x ≤ 9)) 0 (fun n i => spec_l3Mark_l2 n m m (m.length : Int) i B l (fun r2 => k r2) (fun r3 r4 r5 => k ((r3.length : Int) == r4))) (k ((m.length : Int) == B)) (k false) (fun n j h hn => by
    show spec_l3Mark_l2 (n + 1) m m (m.length : Int) (j : Int) B l _ _ = _
    rw [spec_l3Mark_l2]
    rw [dlt h, dnn, getD_at _ _ h, wrapS h (by omega)]
    simp only [cond_true, spec_l1In_eq]
    cases decide (0 ≤ m[j] ∧ m[j] ≤ 9) <;> rfl) (fun n => by
    show spec_l3Mark_l2 (n + 1) m m (m.length : Int) (m.length : Int) B l _ _ = _
    rw [spec_l3Mark_l2]
    rw [dge (by omega)]; rfl) (n := n) (by omega)
  refine Eq.trans this ?_
  unfold okM
  by_cases c : (m.length : Int) = B
  · rw [beq_iff_eq.2 c, decide_eq_true c]
    cases m.all fun x => decide (0 ≤ x ∧ x ≤ 9) <;> rfl
  · rw [beq_eq_false_iff_ne.2 c, decide_eq_false c]
    cases m.all fun x => decide (0 ≤ x ∧ x ≤ 9) <;> rfl
theorem impl_fired_sub {R : Type} (ps : List Int) (hl : ps.length ≤ 500) (B : Int) (l : List (List Int × List Int)) (s1 s2 : List Int) (k : Int → List (List Int × List Int) → List Int → List Int → List Int → Option R) : ∀ (n j : Nat) (m : List Int), ps.length - j < n → j ≤ ps.length → (∀ p ∈ ps, 0 ≤ p ∧ p < (m.length : Int)) → (∀ x ∈ m, -(j : Int) ≤ x ∧ x ≤ 9) →
    impl_Net_fired_l3 n ps (ps.length : Int) (j : Int) B l m s1 s2 k = k B l (sub1 m (ps.drop j)) s1 s2
  | 0, _, _, h, _, _, _ => by omega
  | n + 1, j, m, hn, hj, hp, hm => by
    rw [impl_Net_fired_l3]
    by_cases h : j < ps.length
    · have h1 := hp ps[j] (List.getElem_mem h)
      have h2 := hm _ (getD_in (l := m) (i := ps[j].toNat) (by omega))
      rw [dlt h, dnn, getD_at _ _ h, wrapS h (by omega), decide_eq_true h1.1, decide_eq_true h1.2, wrap64 (x := m.getD ps[j].toNat 0 - 1) (by omega) (by omega), List.drop_eq_getElem_cons h]
      simp only [cond_true]
      rw [impl_fired_sub ps hl B l s1 s2 k n (j + 1) _ (by omega) (by omega) (fun q hq => by rw [List.length_set]; exact hp q hq) (fun x hx => by
        rcases List.mem_or_eq_of_mem_set hx with hx | rfl
        · have := hm x hx; omega
        · omega)]
      rfl
    · rw [dge (by omega), List.drop_eq_nil_iff.2 (by omega)]; rfl
theorem impl_fired_add {R : Type} (ps : List Int) (hl : ps.length ≤ 500) (B : Int) (l : List (List Int × List Int)) (k : Int → List (List Int × List Int) → List Int → Option R) : ∀ (n j : Nat) (m : List Int), ps.length - j < n → j ≤ ps.length → (∀ p ∈ ps, 0 ≤ p ∧ p < (m.length : Int)) → (∀ x ∈ m, -1000 ≤ x ∧ x ≤ 9 + (j : Int)) →
    impl_Net_fired_l10 n ps (ps.length : Int) (j : Int) B l m k = k B l (add1 m (ps.drop j))
  | 0, _, _, h, _, _, _ => by omega
  | n + 1, j, m, hn, hj, hp, hm => by
    rw [impl_Net_fired_l10]
    by_cases h : j < ps.length
    · have h1 := hp ps[j] (List.getElem_mem h)
      have h2 := hm _ (getD_in (l := m) (i := ps[j].toNat) (by omega))
      rw [dlt h, dnn, getD_at _ _ h, wrapS h (by omega), decide_eq_true h1.1, decide_eq_true h1.2, wrap64 (x := m.getD ps[j].toNat 0 + 1) (by omega) (by omega), List.drop_eq_getElem_cons h]
      simp only [cond_true]
      rw [impl_fired_add ps hl B l k n (j + 1) _ (by omega) (by omega) (fun q hq => by rw [List.length_set]; exact hp q hq) (fun x hx => by
        rcases List.mem_or_eq_of_mem_set hx with hx | rfl
        · have := hm x hx; omega
        · omega)]
      rfl
    · rw [dge (by omega), List.drop_eq_nil_iff.2 (by omega)]; rfl
theorem spec_fire_dec {R : Type} (ps : List Int) (hl : ps.length ≤ 500) (s1 s2 : List Int) (kr : List Int → Bool → Option R) (ke : List Int → List Int → List Int → Option R) : ∀ (n j : Nat) (m : List Int), ps.length - j < n → j ≤ ps.length → (∀ p ∈ ps, 0 ≤ p ∧ p < (m.length : Int)) → (∀ x ∈ m, 0 ≤ x ∧ x ≤ 9) →
    spec_l3Fire_l3 n ps (ps.length : Int) (j : Int) s1 s2 m kr ke = match decO m (ps.drop j) with | some m' => ke s1 s2 m' | none => kr [] false
  | 0, _, _, h, _, _, _ => by omega
  | n + 1, j, m, hn, hj, hp, hm => by
    rw [spec_l3Fire_l3]
    by_cases h : j < ps.length
    · have h1 := hp ps[j] (List.getElem_mem h)
      have h2 := hm _ (getD_in (l := m) (i := ps[j].toNat) (by omega))
      rw [dlt h, dnn, getD_at _ _ h, wrapS h (by omega), decide_eq_true h1.1, decide_eq_true h1.2, wrap64 (x := m.getD ps[j].toNat 0 - 1) (by omega) (by omega), List.drop_eq_getElem_cons h]
      simp only [cond_true, decO]
      by_cases c : m.getD ps[j].toNat 0 = 0
      · rw [beq_iff_eq.2 c, if_pos c]; rfl
      · rw [beq_eq_false_iff_ne.2 c, if_neg c, cond_false]
        exact spec_fire_dec ps hl s1 s2 kr ke n (j + 1) _ (by omega) (by omega) (fun q hq => by rw [List.length_set]; exact hp q hq) (fun x hx => by
          rcases List.mem_or_eq_of_mem_set hx with hx | rfl
          · exact hm x hx
          · omega)
    · rw [dge (by omega), List.drop_eq_nil_iff.2 (by omega)]; rfl
theorem spec_fire_inc {R : Type} (ps : List Int) (hl : ps.length ≤ 500) (kr : List Int → Bool → Option R) (ke : List Int → Option R) : ∀ (n j : Nat) (m : List Int), ps.length - j < n → j ≤ ps.length → (∀ p ∈ ps, 0 ≤ p ∧ p < (m.length : Int)) → (∀ x ∈ m, 0 ≤ x ∧ x ≤ 9) →
    spec_l3Fire_l10 n ps (ps.length : Int) (j : Int) m kr ke = match incO m (ps.drop j) with | some m' => ke m' | none => kr [] false
  | 0, _, _, h, _, _, _ => by omega
  | n + 1, j, m, hn, hj, hp, hm => by
    rw [spec_l3Fire_l10]
    by_cases h : j < ps.length
    · have h1 := hp ps[j] (List.getElem_mem h)
      have h2 := hm _ (getD_in (l := m) (i := ps[j].toNat) (by omega))
      have hset : (m.set ps[j].toNat (m.getD ps[j].toNat 0 + 1)).getD ps[j].toNat 0 = m.getD ps[j].toNat 0 + 1 := by rw [getD_setN, if_pos ⟨rfl, by omega⟩]
      rw [dlt h, dnn, getD_at _ _ h, wrapS h (by omega), decide_eq_true h1.1, decide_eq_true h1.2, wrap64 (x := m.getD ps[j].toNat 0 + 1) (by omega) (by omega), List.drop_eq_getElem_cons h]
      simp only [cond_true, incO, List.length_set, decide_eq_true h1.2, hset]
      by_cases c : m.getD ps[j].toNat 0 + 1 > 9
      · rw [decide_eq_true c, if_pos c]; rfl
      · rw [decide_eq_false c, if_neg c, cond_false]
        exact spec_fire_inc ps hl kr ke n (j + 1) _ (by omega) (by omega) (fun q hq => by rw [List.length_set]; exact hp q hq) (fun x hx => by
          rcases List.mem_or_eq_of_mem_set hx with hx | rfl
          · exact hm x hx
          · omega)
    · rw [dge (by omega), List.drop_eq_nil_iff.2 (by omega)]; rfl
theorem okM_iff {m : List Int} : okM m = true ↔ ∀ x ∈ m, 0 ≤ x ∧ x ≤ 9 := by
  unfold okM
  rw [List.all_eq_true]
  exact ⟨fun h x hx => of_decide_eq_true (h x hx), fun h x hx => decide_eq_true (h x hx)⟩
/-- A step of a net over so many places. -/
def StepIn (N : Nat) (s : List Int × List Int) : Prop :=
  (s.1.Pairwise (· < ·) ∧ ∀ p ∈ s.1, 0 ≤ p ∧ p < (N : Int)) ∧ (s.2.Pairwise (· < ·) ∧ ∀ p ∈ s.2, 0 ≤ p ∧ p < (N : Int)) ∧ s.1.length ≤ 500 ∧ s.2.length ≤ 500
theorem fire_some {m : List Int} {s : List Int × List Int} {m' : List Int} (hm : ∀ x ∈ m, 0 ≤ x ∧ x ≤ 9) (hs : StepIn m.length s) (h : fireO m s = some m') : m' = add1 (sub1 m s.1) s.2 ∧ (∀ x ∈ m', 0 ≤ x ∧ x ≤ 9) ∧ m'.length = m.length := by
  unfold fireO at h
  obtain ⟨m1, h1, h2⟩ := Option.bind_eq_some_iff.1 h
  obtain ⟨e1, b1⟩ := dec_some s.1 m hm hs.1.2 h1
  have hl : m1.length = m.length := by rw [e1, sub1_length]
  obtain ⟨e2, b2⟩ := inc_some s.2 m1 b1 (by rw [hl]; exact hs.2.1.2) h2
  exact ⟨by rw [e2, e1], b2, by rw [e2, add1_length, hl]⟩
theorem spec_fire_eq {R : Type} {n : Nat} {m : List Int} {s : List Int × List Int} (hm : ∀ x ∈ m, 0 ≤ x ∧ x ≤ 9) (hl : m.length ≤ 1000) (hs : StepIn m.length s) (hn : 2000 ≤ n) (k : List Int → Bool → Option R) :
    spec_l3Fire n s.1 s.2 m k = match fireO m s with | some m' => k m' true | none => k [] false := by
  unfold spec_l3Fire fireO
  have e1 := spec_fire_dec s.1 hs.2.2.1 s.1 s.2 (fun r1 r2 => k r1 r2) (fun r3 r4 r5 => (spec_l3Fire_l10 n r4 (r4.length : Int) 0 r5 (fun r6 r7 => k r6 r7) (fun r8 => k r8 true))) n 0 m (by have := hs.2.2.1; omega) (by omega) hs.1.2 hm
  rw [show ((0 : Nat) : Int) = 0 from rfl, List.drop_zero] at e1
  rw [decide_eq_true (show ([] : List Int).length + m.length ≤ LIM by simp [LIM]; omega), cond_true, List.nil_append, e1]
  cases hd : decO m s.1 with
  | none => rfl
  | some m1 =>
    obtain ⟨q1, b1⟩ := dec_some s.1 m hm hs.1.2 hd
    have hl1 : m1.length = m.length := by rw [q1, sub1_length]
    have e2 := spec_fire_inc s.2 hs.2.2.2 (fun r6 r7 => k r6 r7) (fun r8 => k r8 true) n 0 m1 (by have := hs.2.2.2; omega) (by omega) (by rw [hl1]; exact hs.2.1.2) b1
    rw [show ((0 : Nat) : Int) = 0 from rfl, List.drop_zero] at e2
    exact e2
theorem sub1_bnd : ∀ (ps m : List Int) (c : Int), (∀ x ∈ m, -c ≤ x ∧ x ≤ 9) → ∀ x ∈ sub1 m ps, -(c + ps.length) ≤ x ∧ x ≤ 9
  | [], m, c, h, x, hx => by have := h x hx; simp; omega
  | p :: ps, m, c, h, x, hx => by
    have := sub1_bnd ps (m.set p.toNat (m.getD p.toNat 0 - 1)) (c + 1) (fun y hy => by
      rcases List.mem_or_eq_of_mem_set hy with hy | rfl
      · have := h y hy; omega
      · by_cases hlt : p.toNat < m.length
        · have := h _ (getD_in hlt); omega
        · rw [List.set_eq_of_length_le (by omega)] at hy
          have := h _ hy; omega) x hx
    rw [List.length_cons]
    omega
theorem impl_fired_ex {n : Nat} {m : List Int} {l : List (List Int × List Int)} {j : Nat} (h : j < l.length) (hm : ∀ x ∈ m, 0 ≤ x ∧ x ≤ 9) (hl : m.length ≤ 1000) (h0 : 0 < m.length) (hs : StepIn m.length l[j]) (hn : 2000 ≤ n) :
    ∃ x, ∀ (R : Type) (k : Bool → List Int → Int → List (List Int × List Int) → Option R), impl_Net_fired n m (j : Int) (m.length : Int) l k = match fireO m l[j] with | some m' => k true m' (m.length : Int) l | none => k false x (m.length : Int) l := by
  have hlen := sub1_length l[j].1 m
  obtain ⟨r, r1, r2⟩ := slices_Min_ex (n := n) (l := sub1 m l[j].1) (by omega) (by omega) hn
  have e1 := fun (R : Type) k => impl_fired_sub (R := R) l[j].1 hs.2.2.1 (m.length : Int) l l[j].1 l[j].2 k n 0 m (by have := hs.2.2.1; omega) (by omega) hs.1.2 (fun x hx => by have := hm x hx; omega)
  have hb := sub1_bnd l[j].1 m 0 (fun x hx => by have := hm x hx; omega)
  have e2 := fun (R : Type) k => impl_fired_add (R := R) l[j].2 hs.2.2.2 (m.length : Int) l k n 0 (sub1 m l[j].1) (by have := hs.2.2.2; omega) (by omega) (by rw [hlen]; exact hs.2.1.2) (fun x hx => by have := hb x hx; have := hs.2.2.1; omega)
  rw [show ((0 : Nat) : Int) = 0 from rfl, List.drop_zero] at e1 e2
  have open' : ∀ (R : Type) (k : Bool → List Int → Int → List (List Int × List Int) → Option R), impl_Net_fired n m (j : Int) (m.length : Int) l k = bif decide (r < 0) then k false [] (m.length : Int) l else k (decide (((add1 (sub1 m l[j].1) l[j].2).length : Int) = (m.length : Int)) && okM (add1 (sub1 m l[j].1) l[j].2)) (add1 (sub1 m l[j].1) l[j].2) (m.length : Int) l := fun R k => by
    unfold impl_Net_fired slices_Clone_int
    rw [decide_eq_true (show 0 + m.length ≤ LIM by simp [LIM]; omega), cond_true, dnn, dlt h, getD_at _ _ h]
    simp only [cond_true, e1, r2, e2, impl_isMarking_eq (show (add1 (sub1 m l[j].1) l[j].2).length ≤ 1000 by rw [add1_length]; omega) hn]
  cases hd : decO m l[j].1 with
  | none =>
    have := dec_none l[j].1 m hs.1.1 hs.1.2 hd
    refine ⟨[], fun R k => ?_⟩
    rw [open', decide_eq_true (r1.2 this), fireO, hd]; rfl
  | some m1 =>
    obtain ⟨q1, b1⟩ := dec_some l[j].1 m hm hs.1.2 hd
    have hneg : ¬ r < 0 := fun h => by
      obtain ⟨x, hx, h2⟩ := r1.1 h
      rw [← q1] at hx
      have := b1 x hx; omega
    have hlen2 : (add1 (sub1 m l[j].1) l[j].2).length = m.length := by rw [add1_length, hlen]
    refine ⟨add1 (sub1 m l[j].1) l[j].2, fun R k => ?_⟩
    rw [open', decide_eq_false hneg, cond_false, hlen2, decide_eq_true rfl, Bool.true_and, fireO, hd]
    show _ = match incO m1 l[j].2 with | some m' => _ | none => _
    rw [← q1]
    cases hi : incO m1 l[j].2 with
    | some m2 =>
      obtain ⟨q2, b2⟩ := inc_some l[j].2 m1 b1 (by rw [q1, hlen]; exact hs.2.1.2) hi
      rw [← q2, okM_iff.2 b2]
    | none =>
      obtain ⟨x, hx, h2⟩ := inc_none l[j].2 m1 hs.2.1.1 (by rw [q1, hlen]; exact hs.2.1.2) hi
      have : okM (add1 m1 l[j].2) = false := by
        cases c : okM (add1 m1 l[j].2) with
        | false => rfl
        | true => have := okM_iff.1 c x hx; omega
      rw [this]
def playO (l : List (List Int × List Int)) : List Int → List Int → Nat → List Int × Nat
  | [], m, c => (m, c)
  | x :: xs, m, c => match fireO m (l.getD x.toNat ([], [])) with
    | some m' => playO l xs m' (c + 1)
    | none => playO l xs m c
theorem impl_Play_loop {l : List (List Int × List Int)} (hll : l.length ≤ 1000) (xs : List Int) (hxl : xs.length ≤ 1000) (hx : ∀ x ∈ xs, 0 ≤ x ∧ x < (l.length : Int)) : ∀ (n j : Nat) (m : List Int) (c : Nat), 2000 + (xs.length - j) < n → j ≤ xs.length → (∀ s ∈ l, StepIn m.length s) → (∀ x ∈ m, 0 ≤ x ∧ x ≤ 9) → m.length ≤ 1000 → 0 < m.length → c ≤ j →
    ∀ (R : Type) (k : List Int → Int → Option R), impl_PlayNet_l6 n m (c : Int) xs (xs.length : Int) (j : Int) (m.length : Int) l k = k (playO l (xs.drop j) m c).1 ((playO l (xs.drop j) m c).2 : Int)
  | 0, _, _, _, h, _, _, _, _, _, _, _, _ => by omega
  | n + 1, j, m, c, hn, hj, hs, hm, hl, h0, hc, R, k => by
    rw [impl_PlayNet_l6]
    by_cases h : j < xs.length
    · have h1 := hx xs[j] (List.getElem_mem h)
      have hlt : xs[j].toNat < l.length := by omega
      have hg : l.getD xs[j].toNat ([], []) = l[xs[j].toNat] := by rw [List.getD_eq_getElem?_getD, List.getElem?_eq_getElem hlt]; rfl
      have hst := hs _ (List.getElem_mem hlt)
      obtain ⟨x, hfx⟩ := impl_fired_ex (n := n) hlt hm hl h0 hst (by omega)
      rw [Int.toNat_of_nonneg h1.1] at hfx
      rw [dlt h, dnn, getD_at _ _ h, wrapS h (by omega), List.drop_eq_getElem_cons h, wrapS (show c < c + 1 by omega) (by omega)]
      simp only [cond_true, hfx, playO, hg]
      cases hf : fireO m l[xs[j].toNat] with
      | none => exact impl_Play_loop hll xs hxl hx n (j + 1) m c (by omega) (by omega) hs hm hl h0 (by omega) R k
      | some m' =>
        obtain ⟨e1, e2, e3⟩ := fire_some hm hst hf
        have ih := impl_Play_loop hll xs hxl hx n (j + 1) m' (c + 1) (by omega) (by omega) (fun s hs' => by rw [e3]; exact hs s hs') e2 (by omega) (by omega) (by omega) R k
        rw [e3] at ih
        exact ih
    · rw [dge (by omega), List.drop_eq_nil_iff.2 (by omega)]; rfl
theorem okNet_in {N : Nat} {l : List (List Int × List Int)} (h : okNet (N : Int) l = true) (hx : ∀ s ∈ l, s.1.length ≤ 500 ∧ s.2.length ≤ 500) : 1 ≤ N ∧ N ≤ 8 ∧ l.length ≤ 12 ∧ ∀ s ∈ l, StepIn N s := by
  simp only [okNet, Bool.and_eq_true, decide_eq_true_eq, List.all_eq_true, okStep] at h
  refine ⟨by omega, by omega, h.2.1, fun s hs => ?_⟩
  have h1 := h.2.2 s hs
  have a := riseTo_iff.1 h1.1
  have b := riseTo_iff.1 h1.2
  exact ⟨⟨a.1, fun p hp => by have := a.2 p hp; omega⟩, ⟨b.1, fun p hp => by have := b.2 p hp; omega⟩, hx s hs⟩
theorem impl_PlayNet_eq {n : Nat} {N : Nat} {l : List (List Int × List Int)} (ho : okNet (N : Int) l = true) (hx : ∀ s ∈ l, s.1.length ≤ 500 ∧ s.2.length ≤ 500) {m : List Int} (hN : m.length = N) (hm : ∀ x ∈ m, 0 ≤ x ∧ x ≤ 9) {xs : List Int} (hxl : xs.length ≤ 200) (hxs : ∀ x ∈ xs, 0 ≤ x ∧ x < (l.length : Int)) (hn : 5000 ≤ n) (R : Type) (k : List Int → Int → Bool → Option R) :
    impl_PlayNet n (N : Int) l m xs k = k (playO l xs m 0).1 ((playO l xs m 0).2 : Int) true := by
  obtain ⟨n1, n8, hl, hs⟩ := okNet_in ho hx
  unfold impl_PlayNet slices_ContainsFunc_int_impl_PlayNet_c1 slices_IndexFunc_int_impl_PlayNet_c1
  have hc := fun (kk : Int → Int → List (List Int × List Int) → Option R) => loop_all0 xs (fun _ => true) 0 (fun n i => slices_IndexFunc_int_impl_PlayNet_c1_l2 n xs (xs.length : Int) i (N : Int) l (fun r4 r5 r6 => kk r4 r5 r6) (fun r7 r8 => kk (-1) r7 r8)) (kk (-1) (N : Int) l) none (fun n j h hn => by
    have h1 := hxs xs[j] (List.getElem_mem h)
    show slices_IndexFunc_int_impl_PlayNet_c1_l2 (n + 1) xs (xs.length : Int) (j : Int) (N : Int) l _ _ = _
    rw [slices_IndexFunc_int_impl_PlayNet_c1_l2]
    rw [dlt h, dnn, getD_at _ _ h, wrapS h (by omega)]
    simp only [cond_true, impl_PlayNet_c1, impl_in_eq, wrap64 (x := (l.length : Int) - 1) (by omega) (by omega), decide_eq_true (show 0 ≤ xs[j] ∧ xs[j] ≤ (l.length : Int) - 1 by omega), Bool.not_true, cond_false]) (fun n => by
    show slices_IndexFunc_int_impl_PlayNet_c1_l2 (n + 1) xs (xs.length : Int) (xs.length : Int) (N : Int) l _ _ = _
    rw [slices_IndexFunc_int_impl_PlayNet_c1_l2]
    rw [dge (by omega)]; rfl) (n := n) (by omega)
  have hall : (xs.all fun _ => true) = true := List.all_eq_true.2 fun _ _ => rfl
  simp only [hall, cond_true] at hc
  have hp := impl_Play_loop (l := l) (by omega) xs (by omega) hxs n 0 m 0 (by omega) (by omega) (by rw [hN]; exact hs) hm (by omega) (by omega) (by omega) R (fun r10 r11 => k r10 r11 true)
  rw [hN, show ((0 : Nat) : Int) = 0 from rfl, List.drop_zero] at hp
  refine Eq.trans (hc (fun r1 r2 r3 => impl_markOk n r2 r3 m fun r4 => (bif (!r4) then k ([] : List Int) 0 false else (bif (decide ((xs.length : Int) > 200)) then k ([] : List Int) 0 false else (bif (decide (r1 ≥ 0)) then k ([] : List Int) 0 false else (slices_Clone_int n m fun r5 => (impl_PlayNet_l6 n r5 0 xs (xs.length : Int) 0 r2 r3 (fun r10 r11 => k r10 r11 true)))))))) ?_
  unfold impl_markOk slices_Clone_int
  simp only [impl_GoodNet_eq (B := (N : Int)) (l := l) (by omega) (by omega) (by omega) (fun s hs' => by have := hx s hs'; omega) hn, ho, cond_true, impl_isMarking_eq (show m.length ≤ 1000 by omega) (show 2000 ≤ n by omega), hN, decide_true, okM_iff.2 hm, Bool.and_self, Bool.not_true, cond_false, decide_eq_false (show ¬ (xs.length : Int) > 200 by omega), decide_eq_false (show ¬ (-1 : Int) ≥ 0 by omega), decide_eq_true (show 0 + N ≤ LIM by simp [LIM]; omega)]
  exact hp
abbrev Stp := List Int × List Int
/-- A marking, whence it came first, by which step, and the steps that led to it. -/
abbrev Ent := List Int × Nat × Nat × List Int
def msE (es : List Ent) : List (List Int) := es.map fun e => e.1
def bfsIn (i : Nat) (m p : List Int) : Nat → List Stp → List Ent → Option (List Ent)
  | _, [], es => some es
  | j, s :: r, es => match fireO m s with
    | none => bfsIn i m p (j + 1) r es
    | some m' => if m' ∈ msE es then bfsIn i m p (j + 1) r es
      else if es.length = 400 then none
      else bfsIn i m p (j + 1) r (es ++ [(m', i, j, p ++ [(j : Int)])])
def bfs (ss : List Stp) : Nat → Nat → List Ent → Option (List Ent)
  | 0, _, es => some es
  | f + 1, i, es => match es[i]? with
    | none => some es
    | some e => match bfsIn i e.1 e.2.2.2 0 ss es with
      | none => none
      | some es' => bfs ss f (i + 1) es'
def ent0 (m : List Int) : List Ent := [(m, 0, 0, [])]
def bfsR (ss : List Stp) (m : List Int) : Option (List Ent) := bfs ss 402 0 (ent0 m)
def runO (ss : List Stp) : List Int → List Int → Option (List Int)
  | [], m => some m
  | x :: xs, m => match fireO m (ss.getD x.toNat ([], [])) with
    | some m' => runO ss xs m'
    | none => none
theorem runO_snoc (ss : List Stp) (j : Int) : ∀ (xs m : List Int), runO ss (xs ++ [j]) m = match runO ss xs m with | some m1 => fireO m1 (ss.getD j.toNat ([], [])) | none => none
  | [], m => by
    simp only [List.nil_append, runO]
    cases fireO m (ss.getD j.toNat ([], [])) <;> rfl
  | x :: xs, m => by
    rw [List.cons_append, runO, runO]
    cases fireO m (ss.getD x.toNat ([], [])) with
    | none => rfl
    | some m' => exact runO_snoc ss j xs m'
theorem msE_app (es : List Ent) (e : Ent) : msE (es ++ [e]) = msE es ++ [e.1] := by simp [msE]
def MkOk (B : Nat) (m : List Int) : Prop := m.length = B ∧ ∀ x ∈ m, 0 ≤ x ∧ x ≤ 9
structure Inv (B : Nat) (ss : List Stp) (m0 : List Int) (es : List Ent) : Prop where
  nd : (msE es).Nodup
  val : ∀ m ∈ msE es, MkOk B m
  len : es.length ≤ 400
  run : ∀ e ∈ es, runO ss e.2.2.2 m0 = some e.1 ∧ ∀ x ∈ e.2.2.2, 0 ≤ x ∧ x < (ss.length : Int)
  hd : ∃ t, es = (m0, 0, 0, []) :: t
  way : ∀ q e, es[q]? = some e → q = 0 ∨ ∃ e' : Ent, e.2.1 < q ∧ es[e.2.1]? = some e' ∧ e.2.2.2 = e'.2.2.2 ++ [(e.2.2.1 : Int)]
def StepsIn (B : Nat) (ss : List Stp) : Prop := ∀ s ∈ ss, StepIn B s
theorem mem_msE {es : List Ent} {e : Ent} (h : e ∈ es) : e.1 ∈ msE es := List.mem_map.2 ⟨e, h, rfl⟩
theorem mem_of_get {α : Type} {l : List α} {i : Nat} {x : α} (h : l[i]? = some x) : x ∈ l := List.mem_of_getElem? h
theorem get_app {α : Type} {l : List α} {q : Nat} {x y : α} (h : (l ++ [y])[q]? = some x) : l[q]? = some x ∨ (q = l.length ∧ x = y) := by
  rcases Nat.lt_or_ge q l.length with c | c
  · rw [List.getElem?_append_left c] at h; exact .inl h
  · rw [List.getElem?_append_right c] at h
    have : q - l.length = 0 := by
      cases hq : q - l.length with
      | zero => rfl
      | succ k => rw [hq] at h; simp at h
    rw [this] at h
    simp at h
    exact .inr ⟨by omega, h.symm⟩
theorem get_left {α : Type} {l t : List α} {q : Nat} {x : α} (h : l[q]? = some x) : (l ++ t)[q]? = some x := by
  have : q < l.length := by
    rcases Nat.lt_or_ge q l.length with c | c
    · exact c
    · rw [List.getElem?_eq_none c] at h; cases h
  rw [List.getElem?_append_left this]; exact h
theorem Inv.add {B : Nat} {ss : List Stp} {m0 : List Int} {es : List Ent} (h : Inv B ss m0 es) (hss : StepsIn B ss) {i j : Nat} {e : Ent} (he : es[i]? = some e) {s : Stp} (hj : ss[j]? = some s) {m' : List Int} (hf : fireO e.1 s = some m') (hn : m' ∉ msE es) (hl : es.length ≠ 400) :
    Inv B ss m0 (es ++ [(m', i, j, e.2.2.2 ++ [(j : Int)])]) := by
  have hem := h.val e.1 (mem_msE (mem_of_get he))
  have hs := hss s (mem_of_get hj)
  have hjl : j < ss.length := (List.getElem?_eq_some_iff.1 hj).1
  obtain ⟨_, f2, f3⟩ := fire_some hem.2 (by rw [hem.1]; exact hs) hf
  have hr := h.run e (mem_of_get he)
  have hil : i < es.length := (List.getElem?_eq_some_iff.1 he).1
  refine ⟨?_, fun m hm => ?_, by rw [List.length_append]; have := h.len; simp; omega, fun x hx => ?_, ?_, fun q x hq => ?_⟩
  · rw [msE_app]
    refine List.nodup_append.2 ⟨h.nd, by simp, fun a ha b hb => ?_⟩
    rw [List.mem_singleton] at hb
    intro e1
    exact hn (by rw [← show b = m' from hb, ← e1]; exact ha)
  · rw [msE_app] at hm
    rcases List.mem_append.1 hm with hm | hm
    · exact h.val m hm
    · rw [List.mem_singleton.1 hm]
      exact ⟨by show m'.length = B; rw [f3, hem.1], f2⟩
  · rcases List.mem_append.1 hx with hx | hx
    · exact h.run x hx
    · rw [List.mem_singleton.1 hx]
      refine ⟨?_, fun y hy => ?_⟩
      · show runO ss (e.2.2.2 ++ [(j : Int)]) m0 = some m'
        rw [runO_snoc, hr.1]
        simp only
        rw [Int.toNat_natCast, List.getD_eq_getElem?_getD, hj]
        exact hf
      · rcases List.mem_append.1 hy with hy | hy
        · exact hr.2 y hy
        · rw [List.mem_singleton.1 hy]; omega
  · obtain ⟨t, rfl⟩ := h.hd
    exact ⟨t ++ [_], rfl⟩
  · rcases get_app hq with hq | ⟨rfl, rfl⟩
    · rcases h.way q x hq with h0 | ⟨e', a, b, c⟩
      · exact .inl h0
      · exact .inr ⟨e', a, get_left b, c⟩
    · exact .inr ⟨e, hil, get_left he, rfl⟩
theorem bfsIn_ok {B : Nat} {ss : List Stp} {m0 : List Int} (hss : StepsIn B ss) {i : Nat} {e : Ent} : ∀ (r : List Stp) (j : Nat) (es es' : List Ent), Inv B ss m0 es → es[i]? = some e → ss.drop j = r → bfsIn i e.1 e.2.2.2 j r es = some es' →
    Inv B ss m0 es' ∧ (∃ t, es' = es ++ t) ∧ ∀ s ∈ r, ∀ m', fireO e.1 s = some m' → m' ∈ msE es'
  | [], j, es, es', h, he, hd, hb => by
    cases hb
    exact ⟨h, ⟨[], by simp⟩, fun s hs => by cases hs⟩
  | s :: r, j, es, es', h, he, hd, hb => by
    have hj : ss[j]? = some s := by
      have := congrArg (fun l => l[0]?) hd
      simpa using this
    have hd' : ss.drop (j + 1) = r := by
      have := congrArg List.tail hd
      rw [List.tail_drop] at this
      exact this
    unfold bfsIn at hb
    cases hf : fireO e.1 s with
    | none =>
      rw [hf] at hb
      obtain ⟨a, b, c⟩ := bfsIn_ok hss r (j + 1) es es' h he hd' hb
      refine ⟨a, b, fun x hx m' hm' => ?_⟩
      rcases List.mem_cons.1 hx with rfl | hx
      · rw [hf] at hm'; cases hm'
      · exact c x hx m' hm'
    | some m1 =>
      rw [hf] at hb
      simp only at hb
      by_cases hm : m1 ∈ msE es
      · rw [if_pos hm] at hb
        obtain ⟨a, ⟨t, ht⟩, c⟩ := bfsIn_ok hss r (j + 1) es es' h he hd' hb
        refine ⟨a, ⟨t, ht⟩, fun x hx m' hm' => ?_⟩
        rcases List.mem_cons.1 hx with rfl | hx
        · rw [hf] at hm'; cases hm'
          rw [ht, msE, List.map_append]
          exact List.mem_append_left _ hm
        · exact c x hx m' hm'
      · rw [if_neg hm] at hb
        by_cases hl : es.length = 400
        · rw [if_pos hl] at hb; cases hb
        · rw [if_neg hl] at hb
          have h2 := h.add hss he hj hf hm hl
          obtain ⟨a, ⟨t, ht⟩, c⟩ := bfsIn_ok hss r (j + 1) _ es' h2 (get_left he) hd' hb
          refine ⟨a, ⟨_ :: t, by rw [ht, List.append_assoc]; rfl⟩, fun x hx m' hm' => ?_⟩
          rcases List.mem_cons.1 hx with rfl | hx
          · rw [hf] at hm'; cases hm'
            rw [ht, msE, List.map_append]
            exact List.mem_append_left _ (by rw [List.map_append]; exact List.mem_append_right _ (by simp))
          · exact c x hx m' hm'
/-- A set of markings that no step leaves. -/
def Clo (ss : List Stp) (T : List Int → Prop) : Prop := ∀ m, T m → ∀ s ∈ ss, ∀ m', fireO m s = some m' → T m'
theorem bfsIn_none {B : Nat} {ss : List Stp} {m0 : List Int} (hss : StepsIn B ss) {T : List Int → Prop} (hT : Clo ss T) {i : Nat} {e : Ent} : ∀ (r : List Stp) (j : Nat) (es : List Ent), Inv B ss m0 es → es[i]? = some e → ss.drop j = r → (∀ m ∈ msE es, T m) → bfsIn i e.1 e.2.2.2 j r es = none →
    ∃ L : List (List Int), L.Nodup ∧ L.length = 401 ∧ ∀ m ∈ L, T m
  | [], j, es, h, he, hd, ht, hb => by cases hb
  | s :: r, j, es, h, he, hd, ht, hb => by
    have hj : ss[j]? = some s := by
      have := congrArg (fun l => l[0]?) hd
      simpa using this
    have hd' : ss.drop (j + 1) = r := by
      have := congrArg List.tail hd
      rw [List.tail_drop] at this
      exact this
    unfold bfsIn at hb
    cases hf : fireO e.1 s with
    | none =>
      rw [hf] at hb
      exact bfsIn_none hss hT r (j + 1) es h he hd' ht hb
    | some m1 =>
      rw [hf] at hb
      simp only at hb
      have h1 : T m1 := hT e.1 (ht _ (mem_msE (mem_of_get he))) s (mem_of_get hj) m1 hf
      by_cases hm : m1 ∈ msE es
      · rw [if_pos hm] at hb
        exact bfsIn_none hss hT r (j + 1) es h he hd' ht hb
      · rw [if_neg hm] at hb
        by_cases hl : es.length = 400
        · refine ⟨msE es ++ [m1], List.nodup_append.2 ⟨h.nd, by simp, fun a ha b hb' e1 => ?_⟩, by simp [msE, hl], fun m hm' => ?_⟩
          · rw [List.mem_singleton] at hb'
            exact hm (by rw [← hb', ← e1]; exact ha)
          · rcases List.mem_append.1 hm' with hm' | hm'
            · exact ht m hm'
            · rw [List.mem_singleton.1 hm']; exact h1
        · rw [if_neg hl] at hb
          refine bfsIn_none hss hT r (j + 1) _ (h.add hss he hj hf hm hl) (get_left he) hd' (fun m hm' => ?_) hb
          rw [msE_app] at hm'
          rcases List.mem_append.1 hm' with hm' | hm'
          · exact ht m hm'
          · rw [List.mem_singleton.1 hm']; exact h1
theorem bfs_ok {B : Nat} {ss : List Stp} {m0 : List Int} (hss : StepsIn B ss) : ∀ (f i : Nat) (es es' : List Ent), f + i = 402 → Inv B ss m0 es → (∀ q e, q < i → es[q]? = some e → ∀ s ∈ ss, ∀ m', fireO e.1 s = some m' → m' ∈ msE es) → bfs ss f i es = some es' →
    Inv B ss m0 es' ∧ (∃ t, es' = es ++ t) ∧ ∀ m ∈ msE es', ∀ s ∈ ss, ∀ m', fireO m s = some m' → m' ∈ msE es'
  | 0, i, es, es', hf, h, hc, hb => by
    cases hb
    refine ⟨h, ⟨[], by simp⟩, fun m hm s hs m' hm' => ?_⟩
    obtain ⟨e, he, rfl⟩ := List.mem_map.1 hm
    obtain ⟨q, hq⟩ := List.mem_iff_getElem?.1 he
    have := (List.getElem?_eq_some_iff.1 hq).1
    exact hc q e (by have := h.len; omega) hq s hs m' hm'
  | f + 1, i, es, es', hf, h, hc, hb => by
    unfold bfs at hb
    cases he : es[i]? with
    | none =>
      rw [he] at hb
      cases hb
      refine ⟨h, ⟨[], by simp⟩, fun m hm s hs m' hm' => ?_⟩
      obtain ⟨e, he', rfl⟩ := List.mem_map.1 hm
      obtain ⟨q, hq⟩ := List.mem_iff_getElem?.1 he'
      have h1 := (List.getElem?_eq_some_iff.1 hq).1
      have h2 := List.getElem?_eq_none_iff.1 he
      exact hc q e (by omega) hq s hs m' hm'
    | some e =>
      rw [he] at hb
      simp only at hb
      cases hi : bfsIn i e.1 e.2.2.2 0 ss es with
      | none => rw [hi] at hb; cases hb
      | some es1 =>
        rw [hi] at hb
        obtain ⟨a, ⟨t, ht⟩, c⟩ := bfsIn_ok hss ss 0 es es1 h he rfl hi
        have hsub : ∀ m, m ∈ msE es → m ∈ msE es1 := fun m hm => by
          rw [ht, msE, List.map_append]; exact List.mem_append_left _ hm
        obtain ⟨a2, ⟨t2, ht2⟩, c2⟩ := bfs_ok hss f (i + 1) es1 es' (by omega) a (fun q x hq hx s hs m' hm' => by
          have hqi : q < es.length := by have := (List.getElem?_eq_some_iff.1 he).1; omega
          have hx' : es[q]? = some x := by rw [ht, List.getElem?_append_left hqi] at hx; exact hx
          rcases Nat.lt_or_ge q i with c1 | c1
          · exact hsub _ (hc q x c1 hx' s hs m' hm')
          · have : q = i := by omega
            subst this
            rw [he] at hx'; cases hx'
            exact c s hs m' hm') hb
        exact ⟨a2, ⟨t ++ t2, by rw [ht2, ht, List.append_assoc]⟩, c2⟩
theorem run_T {ss : List Stp} {T : List Int → Prop} (hT : Clo ss T) : ∀ (xs m m' : List Int), (∀ x ∈ xs, 0 ≤ x ∧ x < (ss.length : Int)) → T m → runO ss xs m = some m' → T m'
  | [], m, m', _, h, hr => by cases hr; exact h
  | x :: xs, m, m', hx, h, hr => by
    unfold runO at hr
    have h0 := hx x List.mem_cons_self
    cases hf : fireO m (ss.getD x.toNat ([], [])) with
    | none => rw [hf] at hr; cases hr
    | some m1 =>
      rw [hf] at hr
      refine run_T hT xs m1 m' (fun y hy => hx y (List.mem_cons_of_mem _ hy)) (hT m h (ss.getD x.toNat ([], [])) ?_ m1 hf) hr
      rw [List.getD_eq_getElem?_getD, List.getElem?_eq_getElem (show x.toNat < ss.length by omega)]
      exact List.getElem_mem _
theorem Inv.T {B : Nat} {ss : List Stp} {m0 : List Int} {es : List Ent} (h : Inv B ss m0 es) {T : List Int → Prop} (hT : Clo ss T) (h0 : T m0) : ∀ m ∈ msE es, T m := fun m hm => by
  obtain ⟨e, he, rfl⟩ := List.mem_map.1 hm
  have := h.run e he
  exact run_T hT _ _ _ this.2 h0 this.1
theorem bfs_none {B : Nat} {ss : List Stp} {m0 : List Int} (hss : StepsIn B ss) {T : List Int → Prop} (hT : Clo ss T) (h0 : T m0) : ∀ (f i : Nat) (es : List Ent), Inv B ss m0 es → bfs ss f i es = none → ∃ L : List (List Int), L.Nodup ∧ L.length = 401 ∧ ∀ m ∈ L, T m
  | 0, i, es, h, hb => by cases hb
  | f + 1, i, es, h, hb => by
    unfold bfs at hb
    cases he : es[i]? with
    | none => rw [he] at hb; cases hb
    | some e =>
      rw [he] at hb
      simp only at hb
      cases hi : bfsIn i e.1 e.2.2.2 0 ss es with
      | none => exact bfsIn_none hss hT ss 0 es h he rfl (h.T hT h0) hi
      | some es1 =>
        rw [hi] at hb
        exact bfs_none hss hT h0 f (i + 1) es1 (bfsIn_ok hss ss 0 es es1 h he rfl hi).1 hb
theorem inv0 {B : Nat} {ss : List Stp} {m0 : List Int} (h : MkOk B m0) : Inv B ss m0 (ent0 m0) where
  nd := by simp [msE, ent0]
  val m hm := by
    have : m = m0 := by simpa [msE, ent0] using hm
    rw [this]; exact h
  len := by simp [ent0]
  run e he := by
    have : e = (m0, 0, 0, []) := by simpa [ent0] using he
    rw [this]; exact ⟨rfl, fun x hx => by cases hx⟩
  hd := ⟨[], rfl⟩
  way q e hq := by
    left
    cases q with
    | zero => rfl
    | succ q => simp [ent0] at hq
theorem bfsR_ok {B : Nat} {ss : List Stp} {m0 : List Int} (hss : StepsIn B ss) (h : MkOk B m0) {es : List Ent} (hb : bfsR ss m0 = some es) : Inv B ss m0 es ∧ m0 ∈ msE es ∧ Clo ss fun m => m ∈ msE es := by
  obtain ⟨a, b, c⟩ := bfs_ok hss 402 0 _ es rfl (inv0 h) (fun q e hq => by omega) hb
  obtain ⟨t, ht⟩ := a.hd
  exact ⟨a, by rw [ht]; simp [msE], fun m hm s hs m' hm' => c m hm s hs m' hm'⟩
theorem nodup_len {α : Type} [DecidableEq α] : ∀ (l l' : List α), l.Nodup → (∀ x ∈ l, x ∈ l') → l.length ≤ l'.length
  | [], _, _, _ => Nat.zero_le _
  | x :: l, l', h, hs => by
    have hx := hs x List.mem_cons_self
    have := nodup_len l (l'.erase x) (List.nodup_cons.1 h).2 fun y hy => by
      have hne : y ≠ x := fun e => (List.nodup_cons.1 h).1 (by rw [← e]; exact hy)
      exact (List.mem_erase_of_ne hne).2 (hs y (List.mem_cons_of_mem _ hy))
    rw [List.length_erase_of_mem hx] at this
    have := List.length_pos_of_mem hx
    rw [List.length_cons]; omega
/-- From what was reached one reaches no more. -/
theorem bfsR_sub {B : Nat} {ss : List Stp} {m0 : List Int} (hss : StepsIn B ss) (h : MkOk B m0) {es : List Ent} (hb : bfsR ss m0 = some es) {m : List Int} (hm : m ∈ msE es) : ∃ es', bfsR ss m = some es' ∧ (∀ x ∈ msE es', x ∈ msE es) ∧ es'.length ≤ es.length := by
  obtain ⟨a, _, c⟩ := bfsR_ok hss h hb
  have hv := a.val m hm
  cases hr : bfsR ss m with
  | none =>
    exfalso
    obtain ⟨L, l1, l2, l3⟩ := bfs_none hss c hm 402 0 _ (inv0 hv) hr
    have := nodup_len L (msE es) l1 l3
    have := a.len
    simp only [msE, List.length_map] at *
    omega
  | some es' =>
    obtain ⟨a', _, _⟩ := bfsR_ok hss hv hr
    have hs := a'.T c hm
    refine ⟨es', rfl, hs, ?_⟩
    have := nodup_len (msE es') (msE es) a'.nd hs
    simp only [msE, List.length_map] at this
    exact this
theorem path_len {B : Nat} {ss : List Stp} {m0 : List Int} {es : List Ent} (h : Inv B ss m0 es) : ∀ (n q : Nat) (e : Ent), q ≤ n → es[q]? = some e → e.2.2.2.length ≤ q
  | n, q, e, hq, he => by
    rcases h.way q e he with rfl | ⟨e', a, b, c⟩
    · obtain ⟨t, ht⟩ := h.hd
      rw [ht] at he
      have : e = (m0, 0, 0, []) := by simpa using he.symm
      rw [this]; exact Nat.le_refl _
    · cases n with
      | zero => omega
      | succ n =>
        have := path_len h n e.2.1 e' (by omega) b
        rw [c, List.length_append]
        simp; omega
def key8L (m : List Int) : List Int := [m.getD 0 0, m.getD 1 0, m.getD 2 0, m.getD 3 0, m.getD 4 0, m.getD 5 0, m.getD 6 0, m.getD 7 0]
def keysR (es : List Ent) : List (List Int) := (es.map fun e => key8L e.1).reverse
def fromL : List Ent → List Int
  | [] => []
  | _ :: t => (-1) :: t.map fun e => (e.2.1 : Int)
def stepL : List Ent → List Int
  | [] => []
  | _ :: t => (-1) :: t.map fun e => (e.2.2.1 : Int)
def byL (es : List Ent) : List (List Int) := es.map fun e => e.2.2.2
theorem keysR_app (es : List Ent) (e : Ent) : keysR (es ++ [e]) = key8L e.1 :: keysR es := by simp [keysR]
theorem fromL_app {es : List Ent} (h : es ≠ []) (e : Ent) : fromL (es ++ [e]) = fromL es ++ [(e.2.1 : Int)] := by
  cases es with
  | nil => exact absurd rfl h
  | cons x t => simp [fromL]
theorem stepL_app {es : List Ent} (h : es ≠ []) (e : Ent) : stepL (es ++ [e]) = stepL es ++ [(e.2.2.1 : Int)] := by
  cases es with
  | nil => exact absurd rfl h
  | cons x t => simp [stepL]
theorem byL_app (es : List Ent) (e : Ent) : byL (es ++ [e]) = byL es ++ [e.2.2.2] := by simp [byL]
theorem len_ms (es : List Ent) : (msE es).length = es.length := by simp [msE]
theorem len_from (es : List Ent) : (fromL es).length = es.length := by cases es <;> simp [fromL]
theorem len_step (es : List Ent) : (stepL es).length = es.length := by cases es <;> simp [stepL]
theorem len_by (es : List Ent) : (byL es).length = es.length := by simp [byL]
theorem key_inj {a b : List Int} (hl : a.length = b.length) (h8 : a.length ≤ 8) (h : key8L a = key8L b) : a = b := by
  unfold key8L at h
  simp only [List.cons.injEq, and_true] at h
  obtain ⟨e0, e1, e2, e3, e4, e5, e6, e7⟩ := h
  refine List.ext_getElem hl fun i hi hi' => ?_
  have hg : ∀ (l : List Int) (h : i < l.length), l.getD i 0 = l[i] := fun l h => by
    rw [List.getD_eq_getElem?_getD, List.getElem?_eq_getElem h]; rfl
  rw [← hg a hi, ← hg b hi']
  have : i = 0 ∨ i = 1 ∨ i = 2 ∨ i = 3 ∨ i = 4 ∨ i = 5 ∨ i = 6 ∨ i = 7 := by omega
  rcases this with rfl | rfl | rfl | rfl | rfl | rfl | rfl | rfl <;> assumption
theorem getD_mk {m : List Int} (h : ∀ x ∈ m, 0 ≤ x ∧ x ≤ 9) (i : Nat) : 0 ≤ m.getD i 0 ∧ m.getD i 0 ≤ 9 := by
  rcases Nat.lt_or_ge i m.length with c | c
  · rw [List.getD_eq_getElem?_getD, List.getElem?_eq_getElem c]; exact h _ (List.getElem_mem c)
  · rw [List.getD_eq_getElem?_getD, List.getElem?_eq_none c]; exact ⟨Int.le_refl _, by decide⟩
theorem keyIn_mk {m : List Int} (h : ∀ x ∈ m, 0 ≤ x ∧ x ≤ 9) : keyIn (key8L m) = true := by
  unfold keyIn key8L
  have g := getD_mk h
  have a := g 0; have b := g 1; have c := g 2; have d := g 3; have e := g 4; have f := g 5; have i := g 6; have j := g 7
  simp only [List.all_cons, List.all_nil, Bool.and_true, Bool.and_eq_true, decide_eq_true_eq]
  omega
theorem seen_mem {B : Nat} {ss : List Stp} {m0 : List Int} {es : List Ent} (h : Inv B ss m0 es) (hB : B ≤ 8) {m : List Int} (hm : m.length = B) : List.contains (keysR es) (key8L m) = decide (m ∈ msE es) := by
  rw [List.contains_eq_mem]
  refine decide_eq_decide.2 ?_
  unfold keysR
  rw [List.mem_reverse, List.mem_map]
  constructor
  · rintro ⟨e, he, hk⟩
    have hv := h.val e.1 (mem_msE he)
    have := key_inj (by rw [hv.1, hm]) (by rw [hv.1]; exact hB) hk
    rw [← this]; exact mem_msE he
  · intro hmem
    obtain ⟨e, he, rfl⟩ := List.mem_map.1 hmem
    exact ⟨e, he, rfl⟩
theorem ne_nil_get {es : List Ent} {i : Nat} {e : Ent} (h : es[i]? = some e) : es ≠ [] := fun c => by rw [c] at h; simp at h
theorem impl_marks_in {B : Nat} {ss : List Stp} (hss : StepsIn B ss) (hB : 1 ≤ B) (hB8 : B ≤ 8) (hl : ss.length ≤ 1000) {m0 : List Int} (i : Nat) (e : Ent) : ∀ (c n j : Nat) (es : List Ent), c + 3000 < n → j + c = ss.length → es[i]? = some e → Inv B ss m0 es →
    ∀ (R : Type) (kret : Bool → Int → List Stp → Option R) (kexit : Int → Int → List Stp → List (List Int) → List Int → List Int → List (List Int) → Option R),
    impl_marksFrom_l7 n (i : Int) (ss.length : Int) (j : Int) (B : Int) ss (msE es) (fromL es) (stepL es) (keysR es) kret kexit = match bfsIn i e.1 e.2.2.2 j (ss.drop j) es with | none => kret false (B : Int) ss | some es' => kexit (i : Int) (B : Int) ss (msE es') (fromL es') (stepL es') (keysR es')
  | c, 0, _, _, h, _, _, _, _, _, _ => by omega
  | 0, n + 1, j, es, hn, hj, he, h, R, kret, kexit => by
    rw [impl_marksFrom_l7, dge (by omega), List.drop_eq_nil_iff.2 (by omega)]; rfl
  | c + 1, n + 1, j, es, hn, hj, he, h, R, kret, kexit => by
    have hjl : j < ss.length := by omega
    have hil : i < es.length := (List.getElem?_eq_some_iff.1 he).1
    have hilm : i < (msE es).length := by rw [len_ms]; exact hil
    have hem := h.val e.1 (mem_msE (mem_of_get he))
    have hgi : (msE es).getD (Int.toNat (i : Int)) [] = e.1 := by
      rw [Int.toNat_natCast, List.getD_eq_getElem?_getD]
      show ((es.map fun e => e.1)[i]?).getD [] = e.1
      rw [List.getElem?_map, he]; rfl
    have hs : StepIn e.1.length ss[j] := by rw [hem.1]; exact hss _ (List.getElem_mem hjl)
    obtain ⟨x, hx⟩ := impl_fired_ex (n := n) hjl hem.2 (by rw [hem.1]; omega) (by rw [hem.1]; omega) hs (by omega)
    rw [impl_marksFrom_l7, dlt hjl, dnn, dlt hilm, hgi, List.drop_eq_getElem_cons hjl, bfsIn, wrapS hjl (by omega)]
    simp only [cond_true]
    rw [show (B : Int) = (e.1.length : Int) by rw [hem.1], hx]
    cases hf : fireO e.1 ss[j] with
    | none =>
      simp only [Bool.not_false, cond_true]
      rw [show (e.1.length : Int) = (B : Int) by rw [hem.1]]
      exact impl_marks_in hss hB hB8 hl i e c n (j + 1) es (by omega) (by omega) he h R kret kexit
    | some m' =>
      obtain ⟨_, f2, f3⟩ := fire_some hem.2 hs hf
      have hmk : MkOk B m' := ⟨by rw [f3, hem.1], f2⟩
      simp only [Bool.not_true, cond_false]
      rw [show (e.1.length : Int) = (B : Int) by rw [hem.1]]
      simp only [impl_keyOf]
      rw [show [m'.getD 0 0, m'.getD 1 0, m'.getD 2 0, m'.getD 3 0, m'.getD 4 0, m'.getD 5 0, m'.getD 6 0, m'.getD 7 0] = key8L m' from rfl, keyIn_mk f2, seen_mem h hB8 hmk.1]
      simp only [cond_true]
      by_cases hm : m' ∈ msE es
      · rw [if_pos hm, decide_eq_true hm]
        simp only [cond_true]
        exact impl_marks_in hss hB hB8 hl i e c n (j + 1) es (by omega) (by omega) he h R kret kexit
      · rw [if_neg hm, decide_eq_false hm, len_ms]
        simp only [cond_false]
        by_cases hl4 : es.length = 400
        · rw [if_pos hl4, show ((es.length : Int) == 400) = true from beq_iff_eq.2 (by omega)]; rfl
        · rw [if_neg hl4, show ((es.length : Int) == 400) = false from beq_eq_false_iff_ne.2 (by omega)]
          have hlen := h.len
          rw [len_from, len_step, decide_eq_true (show es.length + [m'].length ≤ LIM by simp [LIM]; omega), decide_eq_true (show es.length + [(i : Int)].length ≤ LIM by simp [LIM]; omega), decide_eq_true (show es.length + [(j : Int)].length ≤ LIM by simp [LIM]; omega)]
          simp only [cond_true, cond_false]
          have hj' : ss[j]? = some ss[j] := List.getElem?_eq_getElem hjl
          have h2 := h.add hss he hj' hf hm hl4
          have hne := ne_nil_get he
          have ih := impl_marks_in hss hB hB8 hl i e c n (j + 1) _ (by omega) (by omega) (get_left he) h2 R kret kexit
          rw [msE_app, fromL_app hne, stepL_app hne, keysR_app] at ih
          exact ih
theorem impl_marks_out {B : Nat} {ss : List Stp} (hss : StepsIn B ss) (hB : 1 ≤ B) (hB8 : B ≤ 8) (hl : ss.length ≤ 1000) {m0 : List Int} : ∀ (f n i : Nat) (es : List Ent), f + 5000 < n → f + i = 402 → Inv B ss m0 es →
    ∀ (R : Type) (kret : Bool → Int → List Stp → Option R) (kexit : List (List Int) → List Int → List Int → Int → List Stp → Option R),
    impl_marksFrom_l4 n (i : Int) (B : Int) ss (msE es) (fromL es) (stepL es) (keysR es) kret kexit = match bfs ss f i es with | none => kret false (B : Int) ss | some es' => kexit (msE es') (fromL es') (stepL es') (B : Int) ss
  | f, 0, _, _, h, _, _, _, _, _ => by omega
  | 0, n + 1, i, es, hn, hf, h, R, kret, kexit => by
    have := h.len
    rw [impl_marksFrom_l4, len_ms, dge (by omega)]; rfl
  | f + 1, n + 1, i, es, hn, hf, h, R, kret, kexit => by
    have hlen := h.len
    rw [impl_marksFrom_l4, len_ms, bfs]
    by_cases hi : i < es.length
    · have he : es[i]? = some es[i] := List.getElem?_eq_getElem hi
      rw [dlt hi, he]
      simp only [cond_true]
      have hin := impl_marks_in hss hB hB8 hl i es[i] ss.length n 0 es (by omega) (by omega) he h R (fun r29 r30 r31 => kret r29 r30 r31) (fun r32 r33 r34 r35 r36 r37 r38 => impl_marksFrom_l4 n (IntKind.wrap .i64 (r32 + 1)) r33 r34 r35 r36 r37 r38 kret kexit)
      rw [show ((0 : Nat) : Int) = 0 from rfl, List.drop_zero] at hin
      rw [hin]
      cases hb : bfsIn i es[i].1 es[i].2.2.2 0 ss es with
      | none => rfl
      | some es1 =>
        simp only
        rw [wrapS hi (by omega)]
        exact impl_marks_out hss hB hB8 hl f n (i + 1) es1 (by omega) (by omega) (bfsIn_ok hss ss 0 es es1 h he rfl hb).1 R kret kexit
    · rw [dge (by omega), List.getElem?_eq_none (by omega)]; rfl
theorem impl_marks {R : Type} {n B : Nat} {ss : List Stp} (hss : StepsIn B ss) (hB : 1 ≤ B) (hB8 : B ≤ 8) (hl : ss.length ≤ 1000) {m0 : List Int} (h0 : MkOk B m0) (hn : 10000 ≤ n) (k0 : Bool → Int → List Stp → Option R) (k1 : (List (List Int) × List Int × List Int) → Bool → Int → List Stp → Option R) :
    impl_marksFrom n m0 (B : Int) ss k0 k1 = match bfsR ss m0 with | none => k0 false (B : Int) ss | some es => k1 (msE es, fromL es, stepL es) true (B : Int) ss := by
  unfold impl_marksFrom bfsR
  simp only [impl_keyOf]
  rw [show [m0.getD 0 0, m0.getD 1 0, m0.getD 2 0, m0.getD 3 0, m0.getD 4 0, m0.getD 5 0, m0.getD 6 0, m0.getD 7 0] = key8L m0 from rfl, keyIn_mk h0.2]
  simp only [cond_true]
  have := impl_marks_out hss hB hB8 hl 402 n 0 (ent0 m0) (by omega) (by omega) (inv0 h0) R (fun r39 r40 r41 => k0 r39 r40 r41) (fun r42 r43 r44 r45 r46 => k1 (r42, (r43, r44)) true r45 r46)
  exact this
theorem fired_l3_same {R : Type} (B : Int) (ss : List Stp) (K : (Int × List Stp) → List Int → List Int → List Int → Option R) (K' : Int → List Stp → List Int → List Int → List Int → Option R) (hK : ∀ a b c, K' B ss a b c = K (B, ss) a b c) : ∀ (n : Nat) (a : List Int) (b c : Int) (m s1 s2 : List Int), impl_Net_fired_v1_l3 n (B, ss) a b c m s1 s2 K = impl_Net_fired_l3 n a b c B ss m s1 s2 K'
  | 0, _, _, _, _, _, _ => rfl
  | n + 1, a, b, c, m, s1, s2 => by
    rw [impl_Net_fired_v1_l3, impl_Net_fired_l3, hK, fired_l3_same B ss K K' hK n]
theorem fired_l10_same {R : Type} (B : Int) (ss : List Stp) (K : (Int × List Stp) → List Int → Option R) (K' : Int → List Stp → List Int → Option R) (hK : ∀ a, K' B ss a = K (B, ss) a) : ∀ (n : Nat) (a : List Int) (b c : Int) (m : List Int), impl_Net_fired_v1_l10 n (B, ss) a b c m K = impl_Net_fired_l10 n a b c B ss m K'
  | 0, _, _, _, _ => rfl
  | n + 1, a, b, c, m => by
    rw [impl_Net_fired_v1_l10, impl_Net_fired_l10, hK, fired_l10_same B ss K K' hK n]
theorem fired_same {R : Type} (n : Nat) (B : Int) (ss : List Stp) (m : List Int) (j : Int) (k : Bool → List Int → Option R) (k' : Bool → List Int → Int → List Stp → Option R) (hk : ∀ a b, k' a b B ss = k a b) : impl_Net_fired_v1 n (B, ss) m j k = impl_Net_fired n m j B ss k' := by
  unfold impl_Net_fired_v1 impl_Net_fired
  congr 1
  funext r1
  have h3 := fired_l3_same (R := R) B ss (fun r2 r3 r4 r5 => (slices_Min_int n r3 fun r6 => (bif (decide (r6 < 0)) then k false ([] : List Int) else (impl_Net_fired_v1_l10 n r2 r5 (r5.length : Int) 0 r3 (fun r7 r8 => (impl_isMarking n r8 r7.1 fun r9 => k r9 r8)))))) (fun r2 r3 r4 r5 r6 => (slices_Min_int n r4 fun r7 => (bif (decide (r7 < 0)) then k' false ([] : List Int) r2 r3 else (impl_Net_fired_l10 n r6 (r6.length : Int) 0 r2 r3 r4 (fun r8 r9 r10 => (impl_isMarking n r10 r8 fun r11 => k' r11 r10 r8 r9)))))) (fun a b c => by
    try simp only
    congr 1
    funext r7
    rw [hk, fired_l10_same B ss (fun r7 r8 => (impl_isMarking n r8 r7.1 fun r9 => k r9 r8)) (fun r8 r9 r10 => (impl_isMarking n r10 r8 fun r11 => k' r11 r10 r8 r9)) (fun a => by
      try simp only
      congr 1
      funext r
      exact hk r a)])
  simp only [h3]
theorem marks_in_same {R : Type} {B : Nat} {ss : List Stp} (hss : StepsIn B ss) (hB : 1 ≤ B) (hB8 : B ≤ 8) (hl : ss.length ≤ 1000) {m0 : List Int} (i : Nat) (e : Ent) : ∀ (c n j : Nat) (es : List Ent), c + 3000 < n → j + c = ss.length → es[i]? = some e → Inv B ss m0 es →
    ∀ (kret : Bool → Option R) (kexit : (Int × List Stp) → Int → List (List Int) → List Int → List Int → List (List Int) → Option R),
    impl_marksFrom_v1_l7 n ((B : Int), ss) (i : Int) (ss.length : Int) (j : Int) (msE es) (fromL es) (stepL es) (keysR es) kret kexit = match bfsIn i e.1 e.2.2.2 j (ss.drop j) es with | none => kret false | some es' => kexit ((B : Int), ss) (i : Int) (msE es') (fromL es') (stepL es') (keysR es')
  | c, 0, _, _, h, _, _, _, _, _ => by omega
  | 0, n + 1, j, es, hn, hj, he, h, kret, kexit => by
    rw [impl_marksFrom_v1_l7, dge (by omega), List.drop_eq_nil_iff.2 (by omega)]; rfl
  | c + 1, n + 1, j, es, hn, hj, he, h, kret, kexit => by
    have hjl : j < ss.length := by omega
    have hil : i < es.length := (List.getElem?_eq_some_iff.1 he).1
    have hilm : i < (msE es).length := by rw [len_ms]; exact hil
    have hem := h.val e.1 (mem_msE (mem_of_get he))
    have hgi : (msE es).getD (Int.toNat (i : Int)) [] = e.1 := by
      rw [Int.toNat_natCast, List.getD_eq_getElem?_getD]
      show ((es.map fun e => e.1)[i]?).getD [] = e.1
      rw [List.getElem?_map, he]; rfl
    have hs : StepIn e.1.length ss[j] := by rw [hem.1]; exact hss _ (List.getElem_mem hjl)
    obtain ⟨x, hx⟩ := impl_fired_ex (n := n) hjl hem.2 (by rw [hem.1]; omega) (by rw [hem.1]; omega) hs (by omega)
    rw [impl_marksFrom_v1_l7, dlt hjl, dnn, dlt hilm, hgi, List.drop_eq_getElem_cons hjl, bfsIn, wrapS hjl (by omega)]
    simp only [cond_true]
    generalize hK : (fun (r9 : Bool) (r10 : List Int) => _) = K
    rw [fired_same n (B : Int) ss e.1 (j : Int) K (fun a b _ _ => K a b) (fun a b => rfl), show (B : Int) = (e.1.length : Int) by rw [hem.1], hx, ← hK]
    cases hf : fireO e.1 ss[j] with
    | none =>
      simp only [Bool.not_false, cond_true]
      rw [show (e.1.length : Int) = (B : Int) by rw [hem.1]]
      exact marks_in_same hss hB hB8 hl i e c n (j + 1) es (by omega) (by omega) he h kret kexit
    | some m' =>
      obtain ⟨_, f2, f3⟩ := fire_some hem.2 hs hf
      have hmk : MkOk B m' := ⟨by rw [f3, hem.1], f2⟩
      simp only [Bool.not_true, cond_false]
      rw [show (e.1.length : Int) = (B : Int) by rw [hem.1]]
      simp only [impl_keyOf]
      rw [show [m'.getD 0 0, m'.getD 1 0, m'.getD 2 0, m'.getD 3 0, m'.getD 4 0, m'.getD 5 0, m'.getD 6 0, m'.getD 7 0] = key8L m' from rfl, keyIn_mk f2, seen_mem h hB8 hmk.1]
      simp only [cond_true]
      by_cases hm : m' ∈ msE es
      · rw [if_pos hm, decide_eq_true hm]
        simp only [cond_true]
        exact marks_in_same hss hB hB8 hl i e c n (j + 1) es (by omega) (by omega) he h kret kexit
      · rw [if_neg hm, decide_eq_false hm, len_ms]
        simp only [cond_false]
        by_cases hl4 : es.length = 400
        · rw [if_pos hl4, show ((es.length : Int) == 400) = true from beq_iff_eq.2 (by omega)]; rfl
        · rw [if_neg hl4, show ((es.length : Int) == 400) = false from beq_eq_false_iff_ne.2 (by omega)]
          have hlen := h.len
          rw [len_from, len_step, decide_eq_true (show es.length + [m'].length ≤ LIM by simp [LIM]; omega), decide_eq_true (show es.length + [(i : Int)].length ≤ LIM by simp [LIM]; omega), decide_eq_true (show es.length + [(j : Int)].length ≤ LIM by simp [LIM]; omega)]
          simp only [cond_true, cond_false]
          have hj' : ss[j]? = some ss[j] := List.getElem?_eq_getElem hjl
          have h2 := h.add hss he hj' hf hm hl4
          have hne := ne_nil_get he
          have ih := marks_in_same hss hB hB8 hl i e c n (j + 1) _ (by omega) (by omega) (get_left he) h2 kret kexit
          rw [msE_app, fromL_app hne, stepL_app hne, keysR_app] at ih
          exact ih
theorem marks_out_same {R : Type} {B : Nat} {ss : List Stp} (hss : StepsIn B ss) (hB : 1 ≤ B) (hB8 : B ≤ 8) (hl : ss.length ≤ 1000) {m0 : List Int} : ∀ (f n i : Nat) (es : List Ent), f + 5000 < n → f + i = 402 → Inv B ss m0 es →
    ∀ (kret : Bool → Option R) (kexit : List (List Int) → List Int → List Int → Option R),
    impl_marksFrom_v1_l4 n ((B : Int), ss) (i : Int) (msE es) (fromL es) (stepL es) (keysR es) kret kexit = match bfs ss f i es with | none => kret false | some es' => kexit (msE es') (fromL es') (stepL es')
  | f, 0, _, _, h, _, _, _, _ => by omega
  | 0, n + 1, i, es, hn, hf, h, kret, kexit => by
    have := h.len
    rw [impl_marksFrom_v1_l4, len_ms, dge (by omega)]; rfl
  | f + 1, n + 1, i, es, hn, hf, h, kret, kexit => by
    have hlen := h.len
    rw [impl_marksFrom_v1_l4, len_ms, bfs]
    by_cases hi : i < es.length
    · have he : es[i]? = some es[i] := List.getElem?_eq_getElem hi
      rw [dlt hi, he]
      simp only [cond_true]
      have hin := marks_in_same (R := R) hss hB hB8 hl i es[i] ss.length n 0 es (by omega) (by omega) he h (fun r27 => kret r27) (fun r28 r29 r30 r31 r32 r33 => impl_marksFrom_v1_l4 n r28 (IntKind.wrap .i64 (r29 + 1)) r30 r31 r32 r33 kret kexit)
      rw [show ((0 : Nat) : Int) = 0 from rfl, List.drop_zero] at hin
      rw [hin]
      cases hb : bfsIn i es[i].1 es[i].2.2.2 0 ss es with
      | none => rfl
      | some es1 =>
        simp only
        rw [wrapS hi (by omega)]
        exact marks_out_same hss hB hB8 hl f n (i + 1) es1 (by omega) (by omega) (bfsIn_ok hss ss 0 es es1 h he rfl hb).1 kret kexit
    · rw [dge (by omega), List.getElem?_eq_none (by omega)]; rfl
theorem impl_marks_v1 {R : Type} {n B : Nat} {ss : List Stp} (hss : StepsIn B ss) (hB : 1 ≤ B) (hB8 : B ≤ 8) (hl : ss.length ≤ 1000) {m0 : List Int} (h0 : MkOk B m0) (hn : 10000 ≤ n) (k0 : Bool → Option R) (k1 : (List (List Int) × List Int × List Int) → Bool → Option R) :
    impl_marksFrom_v1 n ((B : Int), ss) m0 k0 k1 = match bfsR ss m0 with | none => k0 false | some es => k1 (msE es, fromL es, stepL es) true := by
  unfold impl_marksFrom_v1 bfsR
  simp only [impl_keyOf]
  rw [show [m0.getD 0 0, m0.getD 1 0, m0.getD 2 0, m0.getD 3 0, m0.getD 4 0, m0.getD 5 0, m0.getD 6 0, m0.getD 7 0] = key8L m0 from rfl, keyIn_mk h0.2]
  simp only [cond_true]
  exact marks_out_same hss hB hB8 hl 402 n 0 (ent0 m0) (by omega) (by omega) (inv0 h0) (fun r34 => k0 r34) (fun r35 r36 r37 => k1 (r35, (r36, r37)) true)
theorem spec_Same_loop {R : Type} (xs ys : List Int) (hl : xs.length = ys.length) (hb : xs.length ≤ 9223372036854775807) (kr : Bool → Option R) (ke : Option R) : ∀ (n j : Nat), xs.length - j < n → j ≤ xs.length →
    spec_l3Same_l4 n xs ys (xs.length : Int) (j : Int) kr ke = if xs.drop j = ys.drop j then ke else kr false
  | 0, _, h, _ => by omega
  | n + 1, j, hn, hj => by
    unfold spec_l3Same_l4
    by_cases h : j < xs.length
    · have h' : j < ys.length := by omega
      rw [dlt h, dlt h', dnn, getD_at _ _ h, getD_at _ _ h', wrapS h hb, List.drop_eq_getElem_cons h, List.drop_eq_getElem_cons h']
      simp only [cond_true]
      by_cases he : xs[j] = ys[j]
      · have : (xs[j] != ys[j]) = false := by simp [he]
        rw [this, cond_false, spec_Same_loop xs ys hl hb kr ke n (j + 1) (by omega) (by omega)]
        simp only [List.cons.injEq, he, true_and]
      · have : (xs[j] != ys[j]) = true := by simpa using he
        rw [this, cond_true, if_neg fun h => he (List.cons.inj h).1]
    · rw [dge (by omega)]
      have h1 : xs.drop j = [] := List.drop_eq_nil_iff.2 (by omega)
      have h2 : ys.drop j = [] := List.drop_eq_nil_iff.2 (by omega)
      simp [h1, h2]
theorem spec_Same {R : Type} {n : Nat} {xs ys : List Int} (hb : xs.length ≤ 9223372036854775807) (hn : xs.length < n) (k : Bool → Option R) : spec_l3Same n xs ys k = k (decide (xs = ys)) := by
  unfold spec_l3Same
  by_cases hl : xs.length = ys.length
  · have : ((xs.length : Int) != (ys.length : Int)) = false := by simp [hl]
    rw [this, cond_false]
    have := spec_Same_loop xs ys hl hb k (k true) n 0 (by omega) (by omega)
    simp only [List.drop_zero] at this
    rw [show ((0 : Nat) : Int) = 0 from rfl] at this
    rw [this]
    split <;> simp_all
  · have : ((xs.length : Int) != (ys.length : Int)) = true := by simp; omega
    rw [this, cond_true, decide_eq_false fun h => hl (by rw [h])]
theorem slices_Eq_loop {R : Type} (xs ys : List Int) (hl : xs.length = ys.length) (hb : xs.length ≤ 9223372036854775807) (kr : Bool → Option R) (ke : Option R) : ∀ (n j : Nat), xs.length - j < n → j ≤ xs.length →
    slices_Equal_int_l4 n xs ys (xs.length : Int) (j : Int) kr ke = if xs.drop j = ys.drop j then ke else kr false
  | 0, _, h, _ => by omega
  | n + 1, j, hn, hj => by
    unfold slices_Equal_int_l4
    by_cases h : j < xs.length
    · have h' : j < ys.length := by omega
      rw [dlt h, dlt h', dnn, getD_at _ _ h, getD_at _ _ h', wrapS h hb, List.drop_eq_getElem_cons h, List.drop_eq_getElem_cons h']
      simp only [cond_true]
      by_cases he : xs[j] = ys[j]
      · have : (xs[j] != ys[j]) = false := by simp [he]
        rw [this, cond_false, slices_Eq_loop xs ys hl hb kr ke n (j + 1) (by omega) (by omega)]
        simp only [List.cons.injEq, he, true_and]
      · have : (xs[j] != ys[j]) = true := by simpa using he
        rw [this, cond_true, if_neg fun h => he (List.cons.inj h).1]
    · rw [dge (by omega)]
      have h1 : xs.drop j = [] := List.drop_eq_nil_iff.2 (by omega)
      have h2 : ys.drop j = [] := List.drop_eq_nil_iff.2 (by omega)
      simp [h1, h2]
theorem slices_Eq {R : Type} {n : Nat} {xs ys : List Int} (hb : xs.length ≤ 9223372036854775807) (hn : xs.length < n) (k : Bool → Option R) : slices_Equal_int n xs ys k = k (decide (xs = ys)) := by
  unfold slices_Equal_int
  by_cases hl : xs.length = ys.length
  · have : ((xs.length : Int) != (ys.length : Int)) = false := by simp [hl]
    rw [this, cond_false]
    have := slices_Eq_loop xs ys hl hb k (k true) n 0 (by omega) (by omega)
    simp only [List.drop_zero] at this
    rw [show ((0 : Nat) : Int) = 0 from rfl] at this
    rw [this]
    split <;> simp_all
  · have : ((xs.length : Int) != (ys.length : Int)) = true := by simp; omega
    rw [this, cond_true, decide_eq_false fun h => hl (by rw [h])]
/-- Where a marking lies in a list; -1: nowhere. -/
def atF : Nat → List (List Int) → List Int → Int
  | _, [], _ => -1
  | j, x :: l, m => if x = m then (j : Int) else atF (j + 1) l m
theorem atF_some : ∀ (l : List (List Int)) (j : Nat) (m : List Int), m ∈ l → ∃ q : Nat, atF j l m = ((j + q : Nat) : Int) ∧ l[q]? = some m
  | [], _, _, h => by cases h
  | x :: l, j, m, h => by
    rw [atF]
    by_cases c : x = m
    · rw [if_pos c]; exact ⟨0, rfl, by rw [c]; rfl⟩
    · rw [if_neg c]
      have hm : m ∈ l := by
        rcases List.mem_cons.1 h with e | e
        · exact absurd e.symm c
        · exact e
      obtain ⟨q, h1, h2⟩ := atF_some l (j + 1) m hm
      exact ⟨q + 1, by rw [h1]; omega, h2⟩
theorem atF_none : ∀ (l : List (List Int)) (j : Nat) (m : List Int), m ∉ l → atF j l m = -1
  | [], _, _, _ => rfl
  | x :: l, j, m, h => by
    rw [atF, if_neg (fun e => h (by rw [e]; exact List.mem_cons_self)), atF_none l (j + 1) m fun e => h (List.mem_cons_of_mem _ e)]
theorem spec_At_loop {R : Type} {ms : List (List Int)} {m : List Int} (hl : ms.length ≤ 1000) (hv : ∀ x ∈ ms, x.length ≤ 1000) (kr : Int → Option R) (ke : Option R) (hk : ke = kr (-1)) : ∀ (n j : Nat), ms.length - j + 1500 < n → j ≤ ms.length →
    spec_l3At_l2 n m ms (ms.length : Int) (j : Int) kr ke = kr (atF j (ms.drop j) m)
  | 0, _, h, _ => by omega
  | n + 1, j, hn, hj => by
    unfold spec_l3At_l2
    by_cases h : j < ms.length
    · have hx := hv _ (List.getElem_mem h)
      rw [dlt h, dnn, getD_at _ _ h, wrapS h (by omega), List.drop_eq_getElem_cons h, atF]
      simp only [cond_true]
      rw [spec_Same (by omega) (by omega)]
      by_cases c : ms[j] = m
      · rw [if_pos c, decide_eq_true c]; rfl
      · rw [if_neg c, decide_eq_false c]
        exact spec_At_loop hl hv kr ke hk n (j + 1) (by omega) (by omega)
    · rw [dge (by omega), List.drop_eq_nil_iff.2 (by omega), hk]; rfl
theorem spec_At {R : Type} {n : Nat} {ms : List (List Int)} {m : List Int} (hl : ms.length ≤ 1000) (hv : ∀ x ∈ ms, x.length ≤ 1000) (hn : 3000 ≤ n) (k : Int → Option R) : spec_l3At n ms m k = k (atF 0 ms m) := by
  unfold spec_l3At
  exact spec_At_loop hl hv (fun r2 => k r2) (k (-1)) rfl n 0 (by omega) (by omega)
theorem rev_loop {R : Type} (l : List Int) (hl : l.length ≤ 1000000) (k : List Int → Option R) : ∀ (c n i : Nat) (a : List Int), c < n → l.length ≤ 2 * i + c → 2 * i ≤ l.length + 1 → a.length = l.length → (∀ x, x < l.length → a.getD x 0 = if x < i ∨ l.length ≤ x + i then l.getD (l.length - 1 - x) 0 else l.getD x 0) →
    slices_Reverse_int_l1 n (i : Int) ((l.length : Int) - 1 - i) a k = k l.reverse
  | _, 0, _, _, h, _, _, _, _ => by omega
  | c, n + 1, i, a, hn, hc, hi, ha, h => by
    by_cases g : i + i + 1 < l.length
    · have c0 : c ≠ 0 := by omega
      have hj : (l.length : Int) - 1 - i = ((l.length - 1 - i : Nat) : Int) := by omega
      have h1 : l.length - 1 - i < l.length := by omega
      have h2 : i < l.length := by omega
      have e1 := h i h2
      have e2 := h (l.length - 1 - i) h1
      rw [if_neg (by omega)] at e1 e2
      have ih := rev_loop l hl k (c - 1) n (i + 1) ((a.set i (a.getD (l.length - 1 - i) 0)).set (l.length - 1 - i) (a.getD i 0)) (by omega) (by omega) (by omega) (by simpa using ha) (fun x hx => by
        rw [List.getD_eq_getElem?_getD, List.getElem?_set, List.getElem?_set]
        by_cases c1 : l.length - 1 - i = x
        · rw [if_pos c1, if_pos (by rw [List.length_set]; omega), if_pos (by omega)]
          show a.getD i 0 = _
          rw [e1, show l.length - 1 - x = i by omega]
        · rw [if_neg c1]
          by_cases c2 : i = x
          · rw [if_pos c2, if_pos (by omega), if_pos (by omega)]
            show a.getD (l.length - 1 - i) 0 = _
            rw [e2, c2]
          · rw [if_neg c2, ← List.getD_eq_getElem?_getD, h x hx]
            by_cases c3 : x < i ∨ l.length ≤ x + i
            · rw [if_pos c3, if_pos (by omega)]
            · rw [if_neg c3, if_neg (by omega)])
      rw [slices_Reverse_int_l1, hj, decide_eq_true (show (i : Int) < ((l.length - 1 - i : Nat) : Int) by omega), ha, dnn, dnn, dlt h1, dlt h2, Int.toNat_natCast, Int.toNat_natCast, List.length_set, ha, dlt h1, wrapS h2 (by omega), wrap64 (x := ((l.length - 1 - i : Nat) : Int) - 1) (by omega) (by omega), show ((l.length - 1 - i : Nat) : Int) - 1 = (l.length : Int) - 1 - (i + 1 : Nat) by omega]
      exact ih
    · rw [slices_Reverse_int_l1, decide_eq_false (show ¬ (i : Int) < (l.length : Int) - 1 - i by omega), cond_false]
      congr 1
      apply List.ext_getElem
      · simp [ha]
      · intro x h1 h2
        have := h x (by omega)
        rw [List.getD_eq_getElem?_getD, List.getElem?_eq_getElem h1] at this
        rw [List.getElem_reverse]
        have e : a[x] = l.getD (l.length - 1 - x) 0 := by
          rw [show a[x] = (some a[x]).getD 0 from rfl, this]
          split
          · rfl
          · rw [show l.length - 1 - x = x by omega]
        rw [e, List.getD_eq_getElem?_getD, List.getElem?_eq_getElem (by omega)]
        rfl
theorem reverse_eq {R : Type} {n : Nat} {l : List Int} (hl : l.length ≤ 1000000) (hn : l.length < n) (k : List Int → Option R) : slices_Reverse_int n l k = k l.reverse := by
  have := rev_loop l hl k l.length n 0 l hn (by omega) (by omega) rfl (fun x hx => by rw [if_neg (by omega)])
  unfold slices_Reverse_int
  rw [wrap64 (by omega) (by omega)]
  rw [show ((0 : Nat) : Int) = 0 from rfl, Int.sub_zero] at this
  exact this
theorem set_take_drop {α : Type} {l : List α} {j : Nat} (h : j < l.length) (x : α) : (l.set j x).take (j + 1) = l.take j ++ [x] := by
  rw [List.take_set, List.take_succ_eq_append_getElem h, List.set_append_right _ _ (by simp; omega)]
  simp [Nat.min_eq_left (Nat.le_of_lt h)]
theorem laws_sameInts_loop {R : Type} (xs ys : List Int) (hl : xs.length = ys.length) (hb : xs.length ≤ 9223372036854775807) (kr : Bool → Option R) (ke : Option R) : ∀ (n j : Nat), xs.length - j < n → j ≤ xs.length →
    laws_sameInts_l4 n xs ys (xs.length : Int) (j : Int) kr ke = if xs.drop j = ys.drop j then ke else kr false
  | 0, _, h, _ => by omega
  | n + 1, j, hn, hj => by
    unfold laws_sameInts_l4
    by_cases h : j < xs.length
    · have h' : j < ys.length := by omega
      rw [dlt h, dlt h', dnn, getD_at _ _ h, getD_at _ _ h', wrapS h hb, List.drop_eq_getElem_cons h, List.drop_eq_getElem_cons h']
      simp only [cond_true]
      by_cases he : xs[j] = ys[j]
      · have : (xs[j] != ys[j]) = false := by simp [he]
        rw [this, cond_false, laws_sameInts_loop xs ys hl hb kr ke n (j + 1) (by omega) (by omega)]
        simp only [List.cons.injEq, he, true_and]
      · have : (xs[j] != ys[j]) = true := by simpa using he
        rw [this, cond_true, if_neg fun h => he (List.cons.inj h).1]
    · rw [dge (by omega)]
      have h1 : xs.drop j = [] := List.drop_eq_nil_iff.2 (by omega)
      have h2 : ys.drop j = [] := List.drop_eq_nil_iff.2 (by omega)
      simp [h1, h2]
theorem laws_sameInts_eq {R : Type} {n : Nat} {xs ys : List Int} (hb : xs.length ≤ 9223372036854775807) (hn : xs.length < n) (k : Bool → Option R) : laws_sameInts n xs ys k = k (decide (xs = ys)) := by
  unfold laws_sameInts
  by_cases hl : xs.length = ys.length
  · have : ((xs.length : Int) != (ys.length : Int)) = false := by simp [hl]
    rw [this, cond_false]
    have := laws_sameInts_loop xs ys hl hb k (k true) n 0 (by omega) (by omega)
    simp only [List.drop_zero] at this
    rw [show ((0 : Nat) : Int) = 0 from rfl] at this
    rw [this]
    split <;> simp_all
  · have : ((xs.length : Int) != (ys.length : Int)) = true := by simp; omega
    rw [this, cond_true, decide_eq_false fun h => hl (by rw [h])]
theorem spec_From_in {B : Nat} {ss : List Stp} (hss : StepsIn B ss) (hB : 1 ≤ B) (hB8 : B ≤ 8) (hl : ss.length ≤ 1000) {m0 : List Int} (i : Nat) (e : Ent) : ∀ (c n j : Nat) (es : List Ent), c + 6000 < n → j + c = ss.length → es[i]? = some e → Inv B ss m0 es →
    ∀ (R : Type) (kret : List (List Int) → List (List Int) → Bool → Option R) (kexit : Int → Int → List Stp → List (List Int) → List (List Int) → Option R),
    spec_l3From_l7 n (i : Int) ss (ss.length : Int) (j : Int) (B : Int) ss (msE es) (byL es) kret kexit = match bfsIn i e.1 e.2.2.2 j (ss.drop j) es with | none => kret [] [] false | some es' => kexit (i : Int) (B : Int) ss (msE es') (byL es')
  | c, 0, _, _, h, _, _, _, _, _, _ => by omega
  | 0, n + 1, j, es, hn, hj, he, h, R, kret, kexit => by
    rw [spec_l3From_l7, dge (by omega), List.drop_eq_nil_iff.2 (by omega)]; rfl
  | c + 1, n + 1, j, es, hn, hj, he, h, R, kret, kexit => by
    have hjl : j < ss.length := by omega
    have hil : i < es.length := (List.getElem?_eq_some_iff.1 he).1
    have hilm : i < (msE es).length := by rw [len_ms]; exact hil
    have hilb : i < (byL es).length := by rw [len_by]; exact hil
    have hlen := h.len
    have hem := h.val e.1 (mem_msE (mem_of_get he))
    have hpl := path_len h i i e (Nat.le_refl _) he
    have hgi : (msE es).getD (Int.toNat (i : Int)) [] = e.1 := by
      rw [Int.toNat_natCast, List.getD_eq_getElem?_getD]
      show ((es.map fun e => e.1)[i]?).getD [] = e.1
      rw [List.getElem?_map, he]; rfl
    have hgb : (byL es).getD (Int.toNat (i : Int)) [] = e.2.2.2 := by
      rw [Int.toNat_natCast, List.getD_eq_getElem?_getD]
      show ((es.map fun e => e.2.2.2)[i]?).getD [] = e.2.2.2
      rw [List.getElem?_map, he]; rfl
    have hs : StepIn e.1.length ss[j] := by rw [hem.1]; exact hss _ (List.getElem_mem hjl)
    rw [spec_l3From_l7, dlt hjl, dnn, dnn, dlt hilm, hgi, getD_at _ _ hjl, List.drop_eq_getElem_cons hjl, bfsIn, wrapS hjl (by omega)]
    simp only [cond_true]
    rw [spec_fire_eq hem.2 (by rw [hem.1]; omega) hs (by omega)]
    cases hf : fireO e.1 ss[j] with
    | none =>
      simp only [Bool.not_false, cond_true]
      exact spec_From_in hss hB hB8 hl i e c n (j + 1) es (by omega) (by omega) he h R kret kexit
    | some m' =>
      obtain ⟨_, f2, f3⟩ := fire_some hem.2 hs hf
      simp only [Bool.not_true, cond_false]
      rw [spec_At (by rw [len_ms]; omega) (fun x hx => by have := (h.val x hx).1; omega) (by omega)]
      by_cases hm : m' ∈ msE es
      · obtain ⟨q, hq, _⟩ := atF_some (msE es) 0 m' hm
        rw [if_pos hm, hq, decide_eq_true (show ((0 + q : Nat) : Int) ≥ 0 by omega)]
        simp only [cond_true]
        exact spec_From_in hss hB hB8 hl i e c n (j + 1) es (by omega) (by omega) he h R kret kexit
      · rw [if_neg hm, atF_none _ _ _ hm, decide_eq_false (show ¬ (-1 : Int) ≥ 0 by omega), len_ms, len_by, hgb]
        simp only [cond_false]
        by_cases hl4 : es.length = 400
        · rw [if_pos hl4, show ((es.length : Int) == 400) = true from beq_iff_eq.2 (by omega)]; rfl
        · rw [if_neg hl4, show ((es.length : Int) == 400) = false from beq_eq_false_iff_ne.2 (by omega), dlt hil]
          simp only [List.nil_append, List.length_nil, List.length_cons]
          rw [decide_eq_true (show es.length + (0 + 1) ≤ LIM by simp only [LIM]; omega), decide_eq_true (show 0 + e.2.2.2.length ≤ LIM by simp only [LIM]; omega), decide_eq_true (show e.2.2.2.length + (0 + 1) ≤ LIM by simp only [LIM]; omega)]
          simp only [cond_true, cond_false]
          have hj' : ss[j]? = some ss[j] := List.getElem?_eq_getElem hjl
          have h2 := h.add hss he hj' hf hm hl4
          have ih := spec_From_in hss hB hB8 hl i e c n (j + 1) _ (by omega) (by omega) (get_left he) h2 R kret kexit
          rw [msE_app, byL_app] at ih
          exact ih
theorem spec_From_out {B : Nat} {ss : List Stp} (hss : StepsIn B ss) (hB : 1 ≤ B) (hB8 : B ≤ 8) (hl : ss.length ≤ 1000) {m0 : List Int} : ∀ (f n i : Nat) (es : List Ent), f + 8000 < n → f + i = 402 → Inv B ss m0 es →
    ∀ (R : Type) (kret : List (List Int) → List (List Int) → Bool → Option R) (kexit : List (List Int) → List (List Int) → Option R),
    spec_l3From_l4 n (i : Int) (B : Int) ss (msE es) (byL es) kret kexit = match bfs ss f i es with | none => kret [] [] false | some es' => kexit (msE es') (byL es')
  | f, 0, _, _, h, _, _, _, _, _ => by omega
  | 0, n + 1, i, es, hn, hf, h, R, kret, kexit => by
    have := h.len
    rw [spec_l3From_l4, len_ms, dge (by omega)]; rfl
  | f + 1, n + 1, i, es, hn, hf, h, R, kret, kexit => by
    have hlen := h.len
    rw [spec_l3From_l4, len_ms, bfs]
    by_cases hi : i < es.length
    · have he : es[i]? = some es[i] := List.getElem?_eq_getElem hi
      rw [dlt hi, he]
      simp only [cond_true]
      have hin := spec_From_in hss hB hB8 hl i es[i] ss.length n 0 es (by omega) (by omega) he h R (fun r4 r5 r6 => kret r4 r5 r6) (fun r7 r8 r9 r10 r11 => spec_l3From_l4 n (IntKind.wrap .i64 (r7 + 1)) r8 r9 r10 r11 kret kexit)
      rw [show ((0 : Nat) : Int) = 0 from rfl, List.drop_zero] at hin
      rw [hin]
      cases hb : bfsIn i es[i].1 es[i].2.2.2 0 ss es with
      | none => rfl
      | some es1 =>
        simp only
        rw [wrapS hi (by omega)]
        exact spec_From_out hss hB hB8 hl f n (i + 1) es1 (by omega) (by omega) (bfsIn_ok hss ss 0 es es1 h he rfl hb).1 R kret kexit
    · rw [dge (by omega), List.getElem?_eq_none (by omega)]; rfl
theorem spec_From {R : Type} {n B : Nat} {ss : List Stp} (hss : StepsIn B ss) (hB : 1 ≤ B) (hB8 : B ≤ 8) (hl : ss.length ≤ 1000) {m0 : List Int} (h0 : MkOk B m0) (hn : 10000 ≤ n) (k : List (List Int) → List (List Int) → Bool → Option R) :
    spec_l3From n (B : Int) ss m0 k = match bfsR ss m0 with | none => k [] [] false | some es => k (msE es) (byL es) true := by
  unfold spec_l3From bfsR
  have := h0.1
  rw [decide_eq_true (show ([] : List Int).length + m0.length ≤ LIM by simp only [LIM, List.length_nil]; omega), List.nil_append, cond_true]
  exact spec_From_out hss hB hB8 hl 402 n 0 (ent0 m0) (by omega) (by omega) (inv0 h0) R (fun r12 r13 r14 => k r12 r13 r14) (fun r15 r16 => k r15 r16 true)
def oneM (B i : Nat) : List Int := (List.replicate B (0 : Int)).set i 1
theorem oneM_ok {B i : Nat} : MkOk B (oneM B i) := by
  refine ⟨by simp [oneM], fun x hx => ?_⟩
  unfold oneM at hx
  rcases List.mem_or_eq_of_mem_set hx with h | h
  · rw [List.eq_of_mem_replicate h]; decide
  · rw [h]; decide
theorem impl_one {R : Type} {n B i : Nat} (hB : B ≤ 8) (hi : i < B) (k : List Int → Option R) : impl_single n (B : Int) (i : Int) k = k (oneM B i) := by
  unfold impl_single
  rw [dnn, decide_eq_true (Int.le_refl _), decide_eq_true (show (B : Int) ≤ 1099511627776 by omega), dnn, List.length_replicate, Int.toNat_natCast, dlt hi, Int.toNat_natCast]
  rfl
theorem spec_one {R : Type} {n B i : Nat} (hB : B ≤ 8) (hi : i < B) (k : List Int → Option R) : spec_l3One n (B : Int) (i : Int) k = k (oneM B i) := by
  unfold spec_l3One
  rw [dnn, decide_eq_true (Int.le_refl _), decide_eq_true (show (B : Int) ≤ 1099511627776 by omega), dnn, List.length_replicate, Int.toNat_natCast, dlt hi, Int.toNat_natCast]
  rfl
theorem wrapP {B : Nat} (h : 1 ≤ B) (h8 : B ≤ 8) : IntKind.wrap .i64 ((B : Int) - 1) = ((B - 1 : Nat) : Int) := by
  rw [wrap64 (by omega) (by omega)]; omega
theorem impl_FIdx_loop {R : Type} {l : List (List Int)} {m : List Int} (hl : l.length ≤ 1000) (hv : ∀ x ∈ l, x.length ≤ 1000) (kr : Int → List Int → Option R) (ke : List Int → Option R) : ∀ (n j : Nat), l.length - j + 1500 < n → j ≤ l.length →
    slices_IndexFunc_int_impl_FinishFrom_c1_l2 n l (l.length : Int) (j : Int) m kr ke = if m ∈ l.drop j then kr (atF j (l.drop j) m) m else ke m
  | 0, _, h, _ => by omega
  | n + 1, j, hn, hj => by
    rw [slices_IndexFunc_int_impl_FinishFrom_c1_l2]
    by_cases h : j < l.length
    · have hx := hv _ (List.getElem_mem h)
      rw [dlt h, dnn, getD_at _ _ h, wrapS h (by omega), List.drop_eq_getElem_cons h, atF]
      unfold impl_FinishFrom_c1
      simp only [cond_true]
      rw [slices_Eq (by omega) (by omega)]
      by_cases c : l[j] = m
      · rw [decide_eq_true c, if_pos c, if_pos (by rw [c]; exact List.mem_cons_self)]; rfl
      · rw [decide_eq_false c, if_neg c, cond_false, impl_FIdx_loop hl hv kr ke n (j + 1) (by omega) (by omega)]
        by_cases d : m ∈ l.drop (j + 1)
        · rw [if_pos d, if_pos (List.mem_cons_of_mem _ d)]
        · rw [if_neg d, if_neg (fun e => by
            rcases List.mem_cons.1 e with e | e
            · exact c e.symm
            · exact d e)]
    · rw [dge (by omega), List.drop_eq_nil_iff.2 (by omega), if_neg (by simp)]; rfl
theorem impl_SIdx_loop {R : Type} {l : List (List Int)} {m : List Int} (hl : l.length ≤ 1000) (hv : ∀ x ∈ l, x.length ≤ 1000) (kr : Int → List Int → Option R) (ke : List Int → Option R) : ∀ (n j : Nat), l.length - j + 1500 < n → j ≤ l.length →
    slices_IndexFunc_int_impl_Net_soundIn_c1_l2 n l (l.length : Int) (j : Int) m kr ke = if m ∈ l.drop j then kr (atF j (l.drop j) m) m else ke m
  | 0, _, h, _ => by omega
  | n + 1, j, hn, hj => by
    rw [slices_IndexFunc_int_impl_Net_soundIn_c1_l2]
    by_cases h : j < l.length
    · have hx := hv _ (List.getElem_mem h)
      rw [dlt h, dnn, getD_at _ _ h, wrapS h (by omega), List.drop_eq_getElem_cons h, atF]
      unfold impl_Net_soundIn_c1
      simp only [cond_true]
      rw [slices_Eq (by omega) (by omega)]
      by_cases c : l[j] = m
      · rw [decide_eq_true c, if_pos c, if_pos (by rw [c]; exact List.mem_cons_self)]; rfl
      · rw [decide_eq_false c, if_neg c, cond_false, impl_SIdx_loop hl hv kr ke n (j + 1) (by omega) (by omega)]
        by_cases d : m ∈ l.drop (j + 1)
        · rw [if_pos d, if_pos (List.mem_cons_of_mem _ d)]
        · rw [if_neg d, if_neg (fun e => by
            rcases List.mem_cons.1 e with e | e
            · exact c e.symm
            · exact d e)]
    · rw [dge (by omega), List.drop_eq_nil_iff.2 (by omega), if_neg (by simp)]; rfl
theorem impl_SCon {R : Type} {n : Nat} {l : List (List Int)} {m : List Int} (hl : l.length ≤ 1000) (hv : ∀ x ∈ l, x.length ≤ 1000) (hn : 3000 ≤ n) (k : Bool → List Int → Option R) : slices_ContainsFunc_int_impl_Net_soundIn_c1 n l m k = k (decide (m ∈ l)) m := by
  unfold slices_ContainsFunc_int_impl_Net_soundIn_c1 slices_IndexFunc_int_impl_Net_soundIn_c1
  have := impl_SIdx_loop (R := R) (m := m) hl hv (fun r3 r4 => k (decide (r3 ≥ 0)) r4) (fun r5 => k (decide ((-1 : Int) ≥ 0)) r5) n 0 (by omega) (by omega)
  rw [show ((0 : Nat) : Int) = 0 from rfl, List.drop_zero] at this
  refine this.trans ?_
  by_cases c : m ∈ l
  · obtain ⟨q, hq, _⟩ := atF_some l 0 m c
    rw [if_pos c, hq, decide_eq_true c, decide_eq_true (by omega)]
  · rw [if_neg c, decide_eq_false c]; rfl
theorem impl_Back {R : Type} {B : Nat} {ss : List Stp} {m0 : List Int} {es : List Ent} (h : Inv B ss m0 es) (hl8 : ss.length ≤ 1000) (kexit : List Int → Option R) : ∀ (c n q : Nat) (e : Ent) (acc : List Int), q ≤ c → c < n → es[q]? = some e → acc.length + q ≤ 1000 →
    impl_FinishFrom_l11 n (msE es, fromL es, stepL es) (q : Int) acc kexit = kexit (acc ++ e.2.2.2.reverse)
  | c, 0, _, _, _, _, h, _, _ => by omega
  | c, n + 1, q, e, acc, hq, hn, he, ha => by
    have hlt := (List.getElem?_eq_some_iff.1 he).1
    rw [impl_FinishFrom_l11]
    by_cases h0 : q = 0
    · subst h0
      obtain ⟨t, ht⟩ := h.hd
      have e0 : e = (m0, 0, 0, []) := by rw [ht] at he; simpa using he.symm
      rw [decide_eq_false (show ¬ (((0 : Nat) : Int) > 0) by omega), e0]
      simp
    · obtain ⟨e', a, b, d⟩ := (h.way q e he).resolve_left h0
      have gs : (stepL es).getD (Int.toNat (q : Int)) 0 = (e.2.2.1 : Int) := by
        rw [Int.toNat_natCast, List.getD_eq_getElem?_getD]
        obtain ⟨t, ht⟩ := h.hd
        subst ht
        obtain ⟨p, rfl⟩ : ∃ p, q = p + 1 := ⟨q - 1, by omega⟩
        show (((t.map fun e => (e.2.2.1 : Int))[p]?).getD 0) = _
        have he' : t[p]? = some e := he
        rw [List.getElem?_map, he']; rfl
      have gf : (fromL es).getD (Int.toNat (q : Int)) 0 = (e.2.1 : Int) := by
        rw [Int.toNat_natCast, List.getD_eq_getElem?_getD]
        obtain ⟨t, ht⟩ := h.hd
        subst ht
        obtain ⟨p, rfl⟩ : ∃ p, q = p + 1 := ⟨q - 1, by omega⟩
        show (((t.map fun e => (e.2.1 : Int))[p]?).getD 0) = _
        have he' : t[p]? = some e := he
        rw [List.getElem?_map, he']; rfl
      have hls : q < (stepL es).length := by rw [len_step]; exact hlt
      have hlf : q < (fromL es).length := by rw [len_from]; exact hlt
      simp only
      rw [decide_eq_true (show (q : Int) > 0 by omega), dnn, dlt hls, dlt hlf, gs, gf, decide_eq_true (show acc.length + [(e.2.2.1 : Int)].length ≤ LIM by simp [LIM]; omega)]
      simp only [cond_true]
      cases c with
      | zero => omega
      | succ c =>
        have ih := impl_Back h hl8 kexit c n e.2.1 e' (acc ++ [(e.2.2.1 : Int)]) (by omega) (by omega) b (by rw [List.length_append]; simp; omega)
        rw [ih, d, List.reverse_append, List.append_assoc]
        rfl
def finO (B : Nat) (ss : List Stp) (m : List Int) : Option (List Int) := match bfsR ss m with
  | none => none
  | some es => if oneM B (B - 1) ∈ msE es then some ((byL es).getD (atF 0 (msE es) (oneM B (B - 1))).toNat []) else none
def okMk (B : Nat) (ss : List Stp) (m : List Int) : Bool := okNet (B : Int) ss && (decide ((m.length : Int) = (B : Int)) && okM m)
theorem impl_markOk_eq {R : Type} {n B : Nat} (hB : B ≤ 100) {ss : List Stp} (hl : ss.length ≤ 1000) (hx : ∀ s ∈ ss, s.1.length ≤ 500 ∧ s.2.length ≤ 500) {m : List Int} (hm : m.length ≤ 1000) (hn : 5000 ≤ n) (k : Bool → Option R) : impl_markOk n (B : Int) ss m k = k (okMk B ss m) := by
  unfold impl_markOk okMk
  rw [impl_GoodNet_eq (by omega) (by omega) hl (fun s hs => by have := hx s hs; omega) hn]
  cases okNet (B : Int) ss with
  | false => rfl
  | true =>
    rw [cond_true, impl_isMarking_eq hm (by omega)]; rfl
theorem okMk_ok {B : Nat} {ss : List Stp} {m : List Int} (hx : ∀ s ∈ ss, s.1.length ≤ 500 ∧ s.2.length ≤ 500) (h : okMk B ss m = true) : (1 ≤ B ∧ B ≤ 8) ∧ ss.length ≤ 12 ∧ StepsIn B ss ∧ MkOk B m := by
  unfold okMk at h
  simp only [Bool.and_eq_true, decide_eq_true_eq] at h
  obtain ⟨a, b, c, d⟩ := okNet_in h.1 hx
  exact ⟨⟨a, b⟩, c, d, by omega, okM_iff.1 h.2.2⟩
theorem path_at {es : List Ent} {B : Nat} {ss : List Stp} {m0 m : List Int} (h : Inv B ss m0 es) (hm : m ∈ msE es) : ∃ (q : Nat) (e : Ent), atF 0 (msE es) m = (q : Int) ∧ es[q]? = some e ∧ e.1 = m ∧ (byL es).getD (atF 0 (msE es) m).toNat [] = e.2.2.2 := by
  obtain ⟨q, h1, h2⟩ := atF_some (msE es) 0 m hm
  rw [Nat.zero_add] at h1
  have h2' : (es.map fun e => e.1)[q]? = some m := h2
  rw [List.getElem?_map] at h2'
  cases he : es[q]? with
  | none => rw [he] at h2'; cases h2'
  | some e =>
    rw [he] at h2'
    refine ⟨q, e, h1, he, by simpa using h2', ?_⟩
    rw [h1, Int.toNat_natCast, List.getD_eq_getElem?_getD]
    show ((es.map fun e => e.2.2.2)[q]?).getD [] = e.2.2.2
    rw [List.getElem?_map, he]; rfl
theorem impl_Finish {R : Type} {n B : Nat} (hB : B ≤ 100) {ss : List Stp} (hl : ss.length ≤ 1000) (hx : ∀ s ∈ ss, s.1.length ≤ 500 ∧ s.2.length ≤ 500) {m : List Int} (hm : m.length ≤ 1000) (hn : 20000 ≤ n) (k : Bool → List Int → Option R) :
    impl_FinishFrom n (B : Int) ss m k = if okMk B ss m = true then (match finO B ss m with | some p => k true p | none => k false []) else k false [] := by
  unfold impl_FinishFrom
  rw [impl_markOk_eq hB hl hx hm (by omega)]
  cases ho : okMk B ss m with
  | false => rfl
  | true =>
    obtain ⟨⟨b1, b8⟩, hl12, hss, hmk⟩ := okMk_ok hx ho
    simp only [Bool.not_true, cond_false, if_true]
    rw [impl_marks hss b1 b8 hl hmk (by omega)]
    unfold finO
    cases hb : bfsR ss m with
    | none => rfl
    | some es =>
      obtain ⟨hi, _, _⟩ := bfsR_ok hss hmk hb
      simp only [Bool.not_true, cond_false]
      rw [wrapP b1 b8, impl_one b8 (by omega)]
      unfold slices_IndexFunc_int_impl_FinishFrom_c1
      have hidx := impl_FIdx_loop (R := R) (l := msE es) (m := oneM B (B - 1)) (by rw [len_ms]; have := hi.len; omega) (fun x hx' => by have := (hi.val x hx').1; omega) (fun r3 r4 => (bif (decide (r3 < 0)) then k false ([] : List Int) else (impl_FinishFrom_l11 n (msE es, fromL es, stepL es) r3 ([] : List Int) (fun r13 => (slices_Reverse_int n r13 fun r14 => k true r14))))) (fun r5 => (bif (decide ((-1 : Int) < 0)) then k false ([] : List Int) else (impl_FinishFrom_l11 n (msE es, fromL es, stepL es) (-1) ([] : List Int) (fun r13 => (slices_Reverse_int n r13 fun r14 => k true r14))))) n 0 (by rw [len_ms]; have := hi.len; omega) (by omega)
      rw [show ((0 : Nat) : Int) = 0 from rfl, List.drop_zero] at hidx
      refine hidx.trans ?_
      by_cases c : oneM B (B - 1) ∈ msE es
      · obtain ⟨q, e, h1, h2, h3, h4⟩ := path_at hi c
        have hq := (List.getElem?_eq_some_iff.1 h2).1
        have hpl := path_len hi q q e (Nat.le_refl _) h2
        rw [if_pos c, if_pos c, h4, h1, decide_eq_false (show ¬ (q : Int) < 0 by omega), cond_false, impl_Back hi hl _ q n q e [] (Nat.le_refl _) (by have := hi.len; omega) h2 (by have := hi.len; simp; omega), List.nil_append, reverse_eq (by rw [List.length_reverse]; have := hi.len; omega) (by rw [List.length_reverse]; have := hi.len; omega), List.reverse_reverse]
      · rw [if_neg c, if_neg c]; rfl
theorem spec_Finish {R : Type} {n B : Nat} (hB : B ≤ 100) {ss : List Stp} (hl : ss.length ≤ 1000) (hx : ∀ s ∈ ss, s.1.length ≤ 500 ∧ s.2.length ≤ 500) {m : List Int} (hm : m.length ≤ 1000) (hn : 20000 ≤ n) (k : Bool → List Int → Option R) :
    spec_FinishFrom n (B : Int) ss m k = if okMk B ss m = true then (match finO B ss m with | some p => k true p | none => k false []) else k false [] := by
  unfold spec_FinishFrom
  rw [spec_GoodNet_eq (by omega) (by omega) hl (fun s hs => by have := hx s hs; omega) (by omega)]
  have hok : okMk B ss m = (okNet (B : Int) ss && (decide ((m.length : Int) = (B : Int)) && okM m)) := rfl
  cases h1 : okNet (B : Int) ss with
  | false => rw [hok, h1]; rfl
  | true =>
    simp only [Bool.not_true, cond_false]
    rw [spec_l3Mark_eq hm (by omega)]
    cases h2 : decide ((m.length : Int) = (B : Int)) && okM m with
    | false => rw [hok, h1, h2]; rfl
    | true =>
      have ho : okMk B ss m = true := by rw [hok, h1, h2]; rfl
      obtain ⟨⟨b1, b8⟩, hl12, hss, hmk⟩ := okMk_ok hx ho
      simp only [Bool.not_true, cond_false]
      rw [if_pos ho, spec_From hss b1 b8 hl hmk (by omega)]
      unfold finO
      cases hb : bfsR ss m with
      | none =>
        simp only
        rw [wrapP b1 b8, spec_one b8 (by omega), spec_At (by simp) (by simp) (by omega)]; rfl
      | some es =>
        obtain ⟨hi, _, _⟩ := bfsR_ok hss hmk hb
        have hlen := hi.len
        simp only
        rw [wrapP b1 b8, spec_one b8 (by omega), spec_At (by rw [len_ms]; omega) (fun x hx' => by have := (hi.val x hx').1; omega) (by omega)]
        simp only [Bool.not_true, cond_false]
        by_cases c : oneM B (B - 1) ∈ msE es
        · obtain ⟨q, e, h1, h2, h3, h4⟩ := path_at hi c
          have hq := (List.getElem?_eq_some_iff.1 h2).1
          have hpl := path_len hi q q e (Nat.le_refl _) h2
          rw [if_pos c, h4]
          rw [h1]
          rw [decide_eq_false (show ¬ (q : Int) < 0 by omega), dnn, len_by, dlt hq, List.nil_append, decide_eq_true (show ([] : List Int).length + e.2.2.2.length ≤ LIM by simp only [LIM, List.length_nil]; omega)]
          rfl
        · rw [if_neg c, atF_none _ _ _ c]; rfl
def sndM (B : Nat) (ss : List Stp) (m : List Int) : Bool := (!(decide (m.getD (B - 1) 0 > 0)) || decide (m = oneM B (B - 1))) && (match bfsR ss m with
  | some e => decide (oneM B (B - 1) ∈ msE e)
  | none => false)
def canF (m : List Int) (s : Stp) : Bool := (fireO m s).isSome
def sndS (ss : List Stp) (ms : List (List Int)) : Bool := ss.all fun s => ms.any fun m => canF m s
def sndB (B : Nat) (ss : List Stp) (ms : List (List Int)) : Bool := ms.all (sndM B ss) && sndS ss ms
theorem one_len (B i : Nat) : (oneM B i).length = B := by simp [oneM]
theorem impl_snd_loop {R : Type} {B : Nat} {ss : List Stp} (hss : StepsIn B ss) (b1 : 1 ≤ B) (b8 : B ≤ 8) (hl : ss.length ≤ 1000) {ms : List (List Int)} (hlm : ms.length ≤ 400) (hms : ∀ m ∈ ms, MkOk B m ∧ ∃ es, bfsR ss m = some es) (kret : Bool → Option R) (kexit : List (List Int) → (Int × List Stp) → Option R) : ∀ (n j : Nat), ms.length - j + 20000 < n → j ≤ ms.length →
    impl_Net_soundIn_l3 n ms ms (ms.length : Int) (j : Int) ((B : Int), ss) (oneM B (B - 1)) kret kexit = bif (ms.drop j).all (sndM B ss) then kexit ms ((B : Int), ss) else kret false
  | 0, _, h, _ => by omega
  | n + 1, j, hn, hj => by
    rw [impl_Net_soundIn_l3]
    by_cases h : j < ms.length
    · obtain ⟨hmk, es, hes⟩ := hms _ (List.getElem_mem h)
      obtain ⟨hi, _, _⟩ := bfsR_ok hss hmk hes
      have hlt : B - 1 < ms[j].length := by rw [hmk.1]; omega
      rw [dlt h, dnn, getD_at _ _ h, wrapS h (by omega), List.drop_eq_getElem_cons h, List.all_cons]
      simp only [cond_true]
      rw [wrapP b1 b8, dnn, dlt hlt, Int.toNat_natCast]
      simp only [cond_true]
      rw [slices_Eq (by rw [hmk.1]; omega) (by rw [hmk.1]; omega), impl_marks_v1 hss b1 b8 hl hmk (by omega), hes]
      simp only
      have hcon := fun k => impl_SCon (R := R) (n := n) (l := msE es) (m := oneM B (B - 1)) (by rw [len_ms]; have := hi.len; omega) (fun x hx => by have := (hi.val x hx).1; omega) (by omega) k
      rw [hcon]
      have ih := impl_snd_loop hss b1 b8 hl hlm hms kret kexit n (j + 1) (by omega) (by omega)
      rw [ih]
      unfold sndM
      rw [hes]
      simp only
      cases decide (ms[j].getD (B - 1) 0 > 0) <;> cases decide (ms[j] = oneM B (B - 1)) <;> cases decide (oneM B (B - 1) ∈ msE es) <;> rfl
    · rw [dge (by omega), List.drop_eq_nil_iff.2 (by omega)]; rfl
theorem fired_v1_ex {n B : Nat} {m : List Int} {ss : List Stp} {j : Nat} (h : j < ss.length) (hm : MkOk B m) (b1 : 1 ≤ B) (b8 : B ≤ 8) (hss : StepsIn B ss) (hn : 2000 ≤ n) :
    ∃ x, ∀ (R : Type) (k : Bool → List Int → Option R), impl_Net_fired_v1 n ((B : Int), ss) m (j : Int) k = match fireO m ss[j] with | some m' => k true m' | none => k false x := by
  obtain ⟨x, hx⟩ := impl_fired_ex (n := n) h hm.2 (by rw [hm.1]; omega) (by rw [hm.1]; omega) (by rw [hm.1]; exact hss _ (List.getElem_mem h)) hn
  refine ⟨x, fun R k => ?_⟩
  rw [fired_same n (B : Int) ss m (j : Int) k (fun a b _ _ => k a b) (fun a b => rfl), show (B : Int) = (m.length : Int) by rw [hm.1], hx]
theorem impl_C2_loop {R : Type} {B : Nat} {ss : List Stp} (hss : StepsIn B ss) (b1 : 1 ≤ B) (b8 : B ≤ 8) {ms : List (List Int)} (hlm : ms.length ≤ 400) (hms : ∀ m ∈ ms, MkOk B m) {s : Nat} (hs : s < ss.length) (kr : Int → (Int × List Stp) → Int → Option R) (ke : (Int × List Stp) → Int → Option R) : ∀ (n j : Nat), ms.length - j + 3000 < n → j ≤ ms.length →
    ((ms.drop j).any (fun m => canF m ss[s]) = true → ∃ q : Nat, slices_IndexFunc_int_impl_Net_soundIn_c2_l2 n ms (ms.length : Int) (j : Int) ((B : Int), ss) (s : Int) kr ke = kr (q : Int) ((B : Int), ss) (s : Int)) ∧
    ((ms.drop j).any (fun m => canF m ss[s]) = false → slices_IndexFunc_int_impl_Net_soundIn_c2_l2 n ms (ms.length : Int) (j : Int) ((B : Int), ss) (s : Int) kr ke = ke ((B : Int), ss) (s : Int))
  | 0, _, h, _ => by omega
  | n + 1, j, hn, hj => by
    rw [slices_IndexFunc_int_impl_Net_soundIn_c2_l2]
    by_cases h : j < ms.length
    · obtain ⟨x, hx⟩ := fired_v1_ex (n := n) hs (hms _ (List.getElem_mem h)) b1 b8 hss (by omega)
      rw [dlt h, dnn, getD_at _ _ h, wrapS h (by omega), List.drop_eq_getElem_cons h, List.any_cons]
      unfold impl_Net_soundIn_c2
      simp only [cond_true]
      rw [hx]
      unfold canF
      cases hf : fireO ms[j] ss[s] with
      | some m' =>
        exact ⟨fun _ => ⟨j, rfl⟩, fun c => by simp at c⟩
      | none =>
        have ih := impl_C2_loop hss b1 b8 hlm hms hs kr ke n (j + 1) (by omega) (by omega)
        simp only [Option.isSome_none, Bool.false_or, cond_false]
        exact ih
    · rw [dge (by omega), List.drop_eq_nil_iff.2 (by omega)]
      exact ⟨fun c => by simp at c, fun _ => rfl⟩
theorem impl_SCon2 {R : Type} {n B : Nat} {ss : List Stp} (hss : StepsIn B ss) (b1 : 1 ≤ B) (b8 : B ≤ 8) {ms : List (List Int)} (hlm : ms.length ≤ 400) (hms : ∀ m ∈ ms, MkOk B m) {s : Nat} (hs : s < ss.length) (hn : 4000 ≤ n) (k : Bool → (Int × List Stp) → Int → Option R) :
    slices_ContainsFunc_int_impl_Net_soundIn_c2 n ms ((B : Int), ss) (s : Int) k = k (ms.any fun m => canF m ss[s]) ((B : Int), ss) (s : Int) := by
  unfold slices_ContainsFunc_int_impl_Net_soundIn_c2 slices_IndexFunc_int_impl_Net_soundIn_c2
  have h := impl_C2_loop (R := R) hss b1 b8 hlm hms hs (fun r4 r5 r6 => k (decide (r4 ≥ 0)) r5 r6) (fun r7 r8 => k (decide ((-1 : Int) ≥ 0)) r7 r8) n 0 (by omega) (by omega)
  rw [show ((0 : Nat) : Int) = 0 from rfl, List.drop_zero] at h
  cases ha : ms.any fun m => canF m ss[s] with
  | true =>
    obtain ⟨q, hq⟩ := h.1 ha
    refine hq.trans ?_
    rw [decide_eq_true (by omega)]
  | false => exact h.2 ha
theorem impl_S12 {R : Type} {B : Nat} {ss : List Stp} (hss : StepsIn B ss) (b1 : 1 ≤ B) (b8 : B ≤ 8) (hl : ss.length ≤ 1000) {ms : List (List Int)} (hlm : ms.length ≤ 400) (hms : ∀ m ∈ ms, MkOk B m) (kret : Bool → Option R) (kexit : Option R) : ∀ (n j : Nat), ss.length - j + 5000 < n → j ≤ ss.length →
    impl_Net_soundIn_l12 n ms (ss.length : Int) (j : Int) ((B : Int), ss) kret kexit = bif sndS (ss.drop j) ms then kexit else kret false
  | 0, _, h, _ => by omega
  | n + 1, j, hn, hj => by
    rw [impl_Net_soundIn_l12]
    by_cases h : j < ss.length
    · rw [dlt h, wrapS h (by omega), List.drop_eq_getElem_cons h]
      simp only [cond_true]
      rw [impl_SCon2 hss b1 b8 hlm hms h (by omega), impl_S12 hss b1 b8 hl hlm hms kret kexit n (j + 1) (by omega) (by omega)]
      unfold sndS
      rw [List.all_cons]
      cases ms.any fun m => canF m ss[j] <;> rfl
    · rw [dge (by omega), List.drop_eq_nil_iff.2 (by omega)]; rfl
def sndO (B : Nat) (ss : List Stp) : Option Bool := if okNet (B : Int) ss = true ∧ 2 ≤ B then (match bfsR ss (oneM B 0) with
  | some es => some (sndB B ss (msE es))
  | none => none) else none
theorem impl_Sound {R : Type} {n B : Nat} (hB : B ≤ 100) {ss : List Stp} (hl : ss.length ≤ 1000) (hx : ∀ s ∈ ss, s.1.length ≤ 500 ∧ s.2.length ≤ 500) (hn : 40000 ≤ n) (k : Bool → Bool → Option R) : impl_IsSound n (B : Int) ss k = match sndO B ss with | some b => k b true | none => k false false := by
  unfold impl_IsSound sndO
  rw [impl_GoodNet_eq (by omega) (by omega) hl (fun s hs => by have := hx s hs; omega) (by omega)]
  cases ho : okNet (B : Int) ss with
  | false => rw [if_neg (by simp)]; rfl
  | true =>
    simp only [Bool.not_true, cond_false]
    by_cases h2 : 2 ≤ B
    · obtain ⟨b1, b8, hl12, hss⟩ := okNet_in ho hx
      rw [decide_eq_false (show ¬ (B : Int) < 2 by omega), cond_false, if_pos (by simp [h2])]
      have e0 := fun k => impl_one (R := R) (n := n) (B := B) (i := 0) b8 (by omega) k
      rw [show ((0 : Nat) : Int) = 0 from rfl] at e0
      rw [e0, impl_marks hss b1 b8 hl oneM_ok (by omega)]
      cases hb : bfsR ss (oneM B 0) with
      | none => rfl
      | some es =>
        obtain ⟨hi, _, _⟩ := bfsR_ok hss oneM_ok hb
        have hlen := hi.len
        simp only [cond_true]
        unfold impl_Net_soundIn
        simp only
        rw [wrapP b1 b8, impl_one b8 (by omega)]
        have hms : ∀ m ∈ msE es, MkOk B m ∧ ∃ es, bfsR ss m = some es := fun m hm => ⟨hi.val m hm, by obtain ⟨e', h1, _⟩ := bfsR_sub hss oneM_ok hb hm; exact ⟨e', h1⟩⟩
        have l3 := impl_snd_loop (R := R) hss b1 b8 hl (ms := msE es) (by rw [len_ms]; exact hlen) hms (fun r13 => k r13 true) (fun r14 r15 => (impl_Net_soundIn_l12 n r14 (r15.2.length : Int) 0 r15 (fun r19 => k r19 true) (k true true))) n 0 (by rw [len_ms]; omega) (by omega)
        rw [show ((0 : Nat) : Int) = 0 from rfl, List.drop_zero] at l3
        rw [l3]
        have l12 := impl_S12 (R := R) hss b1 b8 hl (ms := msE es) (by rw [len_ms]; exact hlen) (fun m hm => (hms m hm).1) (fun r19 => k r19 true) (k true true) n 0 (by omega) (by omega)
        rw [show ((0 : Nat) : Int) = 0 from rfl, List.drop_zero] at l12
        simp only
        rw [l12]
        unfold sndB
        cases (msE es).all (sndM B ss) <;> cases sndS ss (msE es) <;> rfl
    · rw [decide_eq_true (show (B : Int) < 2 by omega), if_neg (fun c => h2 c.2)]; rfl
def updL (m : List Int) : List Stp → List Bool → List Bool
  | s :: r, f :: fs => (f || canF m s) :: updL m r fs
  | _, fs => fs
theorem updL_len (m : List Int) : ∀ (ss : List Stp) (f : List Bool), (updL m ss f).length = f.length
  | [], f => by unfold updL; rfl
  | s :: ss, [] => by unfold updL; rfl
  | s :: ss, x :: f => by
    unfold updL
    simp [updL_len m ss f]
theorem spec_L14 {R : Type} {B : Nat} {ss : List Stp} (hss : StepsIn B ss) (b1 : 1 ≤ B) (b8 : B ≤ 8) (hl : ss.length ≤ 1000) {m : List Int} (hm : MkOk B m) (list : List (List Int)) (a b c : Int) (e : List Int) (kexit : List Int → List (List Int) → Int → Int → Int → List Stp → List Int → List Bool → Option R) : ∀ (n j : Nat) (f : List Bool), ss.length - j + 3000 < n → j ≤ ss.length → f.length = ss.length →
    spec_IsSound_l14 n m list a b ss (ss.length : Int) (j : Int) c ss e f kexit = kexit m list a b c ss e (f.take j ++ updL m (ss.drop j) (f.drop j))
  | 0, _, _, h, _, _ => by omega
  | n + 1, j, f, hn, hj, hf => by
    rw [spec_IsSound_l14]
    by_cases h : j < ss.length
    · have hjf : j < f.length := by omega
      rw [dlt h, dnn, getD_at _ _ h, wrapS h (by omega), dlt hjf, getD_at _ _ hjf, Int.toNat_natCast]
      simp only [cond_true]
      rw [spec_fire_eq hm.2 (by rw [hm.1]; omega) (by rw [hm.1]; exact hss _ (List.getElem_mem h)) (by omega)]
      have go : ∀ v, spec_IsSound_l14 n m list a b ss (ss.length : Int) ((j + 1 : Nat) : Int) c ss e (f.set j v) kexit = kexit m list a b c ss e (f.take j ++ v :: updL m (ss.drop (j + 1)) (f.drop (j + 1))) := fun v => by
        rw [spec_L14 hss b1 b8 hl hm list a b c e kexit n (j + 1) (f.set j v) (by omega) (by omega) (by rw [List.length_set]; exact hf), set_take_drop hjf, List.append_assoc]
        have : (f.set j v).drop (j + 1) = f.drop (j + 1) := by
          rw [List.drop_set, if_pos (by omega)]
        rw [this]; rfl
      rw [List.drop_eq_getElem_cons h, List.drop_eq_getElem_cons hjf, updL]
      unfold canF
      cases hfi : fireO m ss[j] with
      | some m' =>
        simp only [Option.isSome_some, Bool.or_true]
        cases f[j] with
        | true => simp only [cond_true]; exact go true
        | false => simp only [cond_false, cond_true]; exact go true
      | none =>
        simp only [Option.isSome_none, Bool.or_false]
        cases f[j] with
        | true => simp only [cond_true]; exact go true
        | false => simp only [cond_false, cond_true]; exact go false
    · rw [dge (by omega), List.drop_eq_nil_iff.2 (show ss.length ≤ j by omega), List.drop_eq_nil_iff.2 (show f.length ≤ j by omega), List.take_of_length_le (by omega)]
      simp [updL]
def updA (ss : List Stp) (ms : List (List Int)) (f : List Bool) : List Bool := ms.foldl (fun f m => updL m ss f) f
theorem spec_L9 {R : Type} {B : Nat} {ss : List Stp} (hss : StepsIn B ss) (b1 : 1 ≤ B) (b8 : B ≤ 8) (hl : ss.length ≤ 1000) {ms : List (List Int)} (hlm : ms.length ≤ 400) (hms : ∀ m ∈ ms, MkOk B m) (kret : Bool → Bool → Option R) (kexit : List Bool → Option R) : ∀ (n j : Nat) (f : List Bool), ms.length - j + 20000 < n → j ≤ ms.length → f.length = ss.length →
    spec_IsSound_l9 n ms (ms.length : Int) (j : Int) (B : Int) ss (oneM B (B - 1)) f kret kexit = bif (ms.drop j).all (sndM B ss) then kexit (updA ss (ms.drop j) f) else kret false true
  | 0, _, _, h, _, _ => by omega
  | n + 1, j, f, hn, hj, hf => by
    rw [spec_IsSound_l9]
    by_cases h : j < ms.length
    · have hmk := hms _ (List.getElem_mem h)
      have hlt : B - 1 < ms[j].length := by rw [hmk.1]; omega
      rw [dlt h, dnn, getD_at _ _ h, List.drop_eq_getElem_cons h, List.all_cons]
      simp only [cond_true]
      rw [wrapP b1 b8, dnn, dlt hlt, Int.toNat_natCast]
      simp only [cond_true]
      have l14 := fun (kk : List Int → List (List Int) → Int → Int → Int → List Stp → List Int → List Bool → Option R) => spec_L14 (R := R) hss b1 b8 hl hmk ms (ms.length : Int) (j : Int) (B : Int) (oneM B (B - 1)) kk n 0 f (by omega) (by omega) hf
      simp only [show ((0 : Nat) : Int) = 0 from rfl, List.drop_zero, List.take_zero, List.nil_append] at l14
      have tail : ∀ (kk : Option R), (spec_IsSound_l14 n ms[j] ms (ms.length : Int) (j : Int) ss (ss.length : Int) 0 (B : Int) ss (oneM B (B - 1)) f (fun r22 r23 r24 r25 r26 r27 r28 r29 => (spec_l3From n r26 r27 r22 fun r30 r31 r32 => (spec_l3At n r30 r28 fun r33 => (bif (decide (r33 < 0)) then kret false true else spec_IsSound_l9 n r23 r24 (IntKind.wrap .i64 (r25 + 1)) r26 r27 r28 r29 kret kexit))))) = bif (match bfsR ss ms[j] with | some e => decide (oneM B (B - 1) ∈ msE e) | none => false) && (ms.drop (j + 1)).all (sndM B ss) then kexit (updA ss (ms[j] :: ms.drop (j + 1)) f) else kret false true := fun kk => by
        rw [l14, spec_From hss b1 b8 hl hmk (by omega)]
        cases hb : bfsR ss ms[j] with
        | none =>
          simp only
          rw [spec_At (by simp) (by simp) (by omega)]; rfl
        | some es =>
          obtain ⟨hi, _, _⟩ := bfsR_ok hss hmk hb
          simp only
          rw [spec_At (by rw [len_ms]; have := hi.len; omega) (fun x hx => by have := (hi.val x hx).1; omega) (by omega), wrapS h (by omega)]
          by_cases c : oneM B (B - 1) ∈ msE es
          · obtain ⟨q, hq, _⟩ := atF_some (msE es) 0 _ c
            rw [hq, decide_eq_false (show ¬ ((0 + q : Nat) : Int) < 0 by omega), cond_false, decide_eq_true c, Bool.true_and, spec_L9 hss b1 b8 hl hlm hms kret kexit n (j + 1) _ (by omega) (by omega) (by rw [updL_len]; exact hf)]
            rfl
          · rw [atF_none _ _ _ c, decide_eq_false c]; rfl
      rw [spec_Same (by rw [hmk.1]; omega) (by rw [hmk.1]; omega), tail none]
      unfold sndM
      cases decide (ms[j].getD (B - 1) 0 > 0) <;> cases decide (ms[j] = oneM B (B - 1)) <;> rfl
    · rw [dge (by omega), List.drop_eq_nil_iff.2 (by omega)]; rfl
theorem spec_L24 {R : Type} {f : List Bool} (hl : f.length ≤ 1000) (kret : Bool → Bool → Option R) (kexit : Option R) : ∀ (n j : Nat), f.length - j < n → j ≤ f.length →
    spec_IsSound_l24 n (f.length : Int) (j : Int) f kret kexit = bif (f.drop j).all id then kexit else kret false true
  | 0, _, h, _ => by omega
  | n + 1, j, hn, hj => by
    rw [spec_IsSound_l24]
    by_cases h : j < f.length
    · rw [dlt h, dnn, getD_at _ _ h, wrapS h (by omega), List.drop_eq_getElem_cons h, List.all_cons]
      simp only [cond_true]
      rw [spec_L24 hl kret kexit n (j + 1) (by omega) (by omega)]
      cases f[j] <;> rfl
    · rw [dge (by omega), List.drop_eq_nil_iff.2 (by omega)]; rfl
def updM (ms : List (List Int)) : List Stp → List Bool → List Bool
  | s :: r, f :: fs => (f || ms.any fun m => canF m s) :: updM ms r fs
  | _, fs => fs
theorem updM_cons (m : List Int) (ms : List (List Int)) : ∀ (ss : List Stp) (f : List Bool), updM (m :: ms) ss f = updM ms ss (updL m ss f)
  | [], f => by unfold updM updL; rfl
  | s :: ss, [] => by unfold updL updM; rfl
  | s :: ss, x :: f => by
    unfold updL
    rw [updM, updM, updM_cons m ms ss f, List.any_cons, Bool.or_assoc]
theorem updM_nil : ∀ (ss : List Stp) (f : List Bool), updM [] ss f = f
  | [], f => by unfold updM; rfl
  | s :: ss, [] => by unfold updM; rfl
  | s :: ss, x :: f => by rw [updM, updM_nil ss f]; simp
theorem updA_M (ss : List Stp) : ∀ (ms : List (List Int)) (f : List Bool), updA ss ms f = updM ms ss f
  | [], f => (updM_nil ss f).symm
  | m :: ms, f => by
    rw [updM_cons, ← updA_M ss ms]; rfl
theorem updM_all (ms : List (List Int)) : ∀ (ss : List Stp), (updM ms ss (List.replicate ss.length false)).all id = sndS ss ms
  | [] => rfl
  | s :: ss => by
    rw [List.length_cons, List.replicate_succ, updM, List.all_cons, updM_all ms ss]
    unfold sndS
    rw [List.all_cons]; simp
theorem updM_len (ms : List (List Int)) : ∀ (ss : List Stp) (f : List Bool), (updM ms ss f).length = f.length
  | [], f => by unfold updM; rfl
  | s :: ss, [] => by unfold updM; rfl
  | s :: ss, x :: f => by rw [updM]; simp [updM_len ms ss f]
theorem spec_Sound {R : Type} {n B : Nat} (hB : B ≤ 100) {ss : List Stp} (hl : ss.length ≤ 1000) (hx : ∀ s ∈ ss, s.1.length ≤ 500 ∧ s.2.length ≤ 500) (hn : 40000 ≤ n) (k : Bool → Bool → Option R) : spec_IsSound n (B : Int) ss k = match sndO B ss with | some b => k b true | none => k false false := by
  unfold spec_IsSound sndO
  rw [spec_GoodNet_eq (by omega) (by omega) hl (fun s hs => by have := hx s hs; omega) (by omega)]
  cases ho : okNet (B : Int) ss with
  | false => rw [if_neg (by simp)]; rfl
  | true =>
    simp only [Bool.not_true, cond_false]
    by_cases h2 : 2 ≤ B
    · obtain ⟨b1, b8, hl12, hss⟩ := okNet_in ho hx
      rw [decide_eq_false (show ¬ (B : Int) < 2 by omega), cond_false, if_pos (by simp [h2])]
      have e0 := fun k => spec_one (R := R) (n := n) (B := B) (i := 0) b8 (by omega) k
      rw [show ((0 : Nat) : Int) = 0 from rfl] at e0
      rw [wrapP b1 b8, spec_one b8 (by omega), e0, spec_From hss b1 b8 hl oneM_ok (by omega)]
      cases hb : bfsR ss (oneM B 0) with
      | none => rfl
      | some es =>
        obtain ⟨hi, _, _⟩ := bfsR_ok hss oneM_ok hb
        have hlen := hi.len
        simp only [Bool.not_true, cond_false]
        rw [dnn, decide_eq_true (Int.le_refl _), decide_eq_true (show (ss.length : Int) ≤ 1099511627776 by omega), Int.toNat_natCast]
        simp only [cond_true]
        have l9 := spec_L9 (R := R) hss b1 b8 hl (ms := msE es) (by rw [len_ms]; exact hlen) (fun m hm => hi.val m hm) (fun r34 r35 => k r34 r35) (fun r36 => (spec_IsSound_l24 n (r36.length : Int) 0 r36 (fun r37 r38 => k r37 r38) (k true true))) n 0 (List.replicate ss.length false) (by rw [len_ms]; omega) (by omega) (by simp)
        rw [show ((0 : Nat) : Int) = 0 from rfl, List.drop_zero] at l9
        rw [l9, updA_M]
        have hul : (updM (msE es) ss (List.replicate ss.length false)).length = ss.length := by rw [updM_len, List.length_replicate]
        have l24 := spec_L24 (R := R) (f := updM (msE es) ss (List.replicate ss.length false)) (by rw [hul]; exact hl) (fun r37 r38 => k r37 r38) (k true true) n 0 (by rw [hul]; omega) (by omega)
        rw [show ((0 : Nat) : Int) = 0 from rfl, List.drop_zero, updM_all] at l24
        rw [l24]
        unfold sndB
        cases (msE es).all (sndM B ss) <;> cases sndS ss (msE es) <;> rfl
    · rw [decide_eq_true (show (B : Int) < 2 by omega), if_neg (fun c => h2 c.2)]; rfl
theorem and255 (x : Int) : 0 ≤ IntKind.wrap .i64 (IntKind.wrap .u64 (Int.ofNat (BitVec.toNat (BitVec.ofInt (IntKind.bits .u64) x &&& BitVec.ofInt (IntKind.bits .u64) 255)))) ∧ IntKind.wrap .i64 (IntKind.wrap .u64 (Int.ofNat (BitVec.toNat (BitVec.ofInt (IntKind.bits .u64) x &&& BitVec.ofInt (IntKind.bits .u64) 255)))) ≤ 255 := by
  have h : BitVec.toNat (BitVec.ofInt (IntKind.bits .u64) x &&& BitVec.ofInt (IntKind.bits .u64) 255) ≤ 255 := by
    rw [BitVec.toNat_and]
    exact Nat.le_trans Nat.and_le_right (by decide)
  generalize BitVec.toNat (BitVec.ofInt (IntKind.bits .u64) x &&& BitVec.ofInt (IntKind.bits .u64) 255) = y at h
  have h1 : IntKind.wrap .u64 (Int.ofNat y) = (y : Int) := by
    simp only [IntKind.wrap, IntKind.signed, IntKind.bits]
    simp
    omega
  rw [h1, wrap64 (by omega) (by omega)]
  omega
/-- Bytes. -/
def Bytes (l : List Int) : Prop := ∀ x ∈ l, 0 ≤ x ∧ x ≤ 255
theorem bytes_getD {l : List Int} (hl : Bytes l) {i : Nat} (h : i < l.length) : 0 ≤ l.getD i 0 ∧ l.getD i 0 ≤ 255 := by
  rw [List.getD_eq_getElem?_getD, List.getElem?_eq_getElem h]
  exact hl _ (List.getElem_mem h)
def seedN (s b : Int) : Int := IntKind.wrap .u64 ((IntKind.wrap .u64 ((IntKind.wrap .u64 (s * 6364136223846793005)) + b)) + 1442695040888963407)
theorem next_ex {l : List Int} (hl : Bytes l) (n : Nat) {p s : Int} (h0 : 0 ≤ p) (h1 : p ≤ 4611686018427387904) : ∃ r s', 0 ≤ r ∧ r ≤ 255 ∧ ∀ (R : Type) (k : Int → List Int → Int → Int → Option R), spec_l1Cur_next n l p s k = k r l (p + 1) s' := by
  have hw : IntKind.wrap .i64 (p + 1) = p + 1 := wrap64 (by omega) (by omega)
  by_cases c : p < (l.length : Int)
  · obtain ⟨b1, b2⟩ := bytes_getD hl (i := Int.toNat p) (by omega)
    have hg : IntKind.wrap .i64 (l.getD (Int.toNat p) 0) = l.getD (Int.toNat p) 0 := wrap64 (by omega) (by omega)
    refine ⟨l.getD (Int.toNat p) 0, seedN s (IntKind.wrap .u64 (l.getD (Int.toNat p) 0)), b1, b2, fun R k => ?_⟩
    unfold spec_l1Cur_next
    rw [decide_eq_true c, decide_eq_true h0, hw, decide_eq_true (show p + 1 ≤ (l.length : Int) by omega), hg]
    rfl
  · have hn := and255 (Int.fdiv (seedN s 0) (2 ^ (min (Int.toNat 40) (IntKind.bits .u64))))
    refine ⟨_, seedN s 0, hn.1, hn.2, fun R k => ?_⟩
    unfold spec_l1Cur_next
    rw [decide_eq_false c, hw, decide_eq_false (show ¬ p + 1 ≤ (l.length : Int) by omega)]
    rfl
theorem pick_ex {l : List Int} (hl : Bytes l) (n : Nat) {m p s : Int} (hm : m ≤ 60000) (h0 : 0 ≤ p) (h1 : p ≤ 4611686018427387000) : ∃ r p' s', 0 ≤ r ∧ (r < m ∨ (m ≤ 1 ∧ r = 0)) ∧ p ≤ p' ∧ p' ≤ p + 2 ∧ ∀ (R : Type) (k : Int → List Int → Int → Int → Option R), spec_l1Cur_pick n m l p s k = k r l p' s' := by
  by_cases c : m ≤ 1
  · exact ⟨0, p, s, by omega, .inr ⟨c, rfl⟩, by omega, by omega, fun R k => by unfold spec_l1Cur_pick; rw [decide_eq_true c]; rfl⟩
  · obtain ⟨r, s1, r0, r1, hr⟩ := next_ex hl n (s := s) h0 (by omega)
    by_cases c2 : m > 200
    · obtain ⟨q, s2, q0, q1, hq⟩ := next_ex hl n (p := p + 1) (s := s1) (by omega) (by omega)
      have e : IntKind.wrap .i64 (IntKind.wrap .i64 (r * 256) + q) = r * 256 + q := by rw [wrap64 (x := r * 256) (by omega) (by omega), wrap64 (by omega) (by omega)]
      have t0 := Int.tmod_nonneg m (show 0 ≤ r * 256 + q by omega)
      have t1 := Int.tmod_lt_of_pos (r * 256 + q) (show 0 < m by omega)
      refine ⟨Int.tmod (r * 256 + q) m, p + 1 + 1, s2, t0, .inl t1, by omega, by omega, fun R k => ?_⟩
      unfold spec_l1Cur_pick
      rw [decide_eq_false c, hr, decide_eq_true c2, hq, decide_eq_true (show m ≠ 0 by omega), e]
      rfl
    · have t0 := Int.tmod_nonneg m (show 0 ≤ r by omega)
      have t1 := Int.tmod_lt_of_pos r (show 0 < m by omega)
      refine ⟨Int.tmod r m, p + 1, s1, t0, .inl t1, by omega, by omega, fun R k => ?_⟩
      unfold spec_l1Cur_pick
      rw [decide_eq_false c, hr, decide_eq_false c2, decide_eq_true (show m ≠ 0 by omega)]
      rfl
theorem among_ex {l : List Int} (hl : Bytes l) (n : Nat) {xs : List Int} (hx : xs ≠ []) (hx2 : xs.length ≤ 200) {p s : Int} (h0 : 0 ≤ p) (h1 : p ≤ 4611686018427387000) : ∃ r p' s', r ∈ xs ∧ p ≤ p' ∧ p' ≤ p + 2 ∧ ∀ (R : Type) (k : Int → List Int → Int → Int → Option R), spec_l1Cur_among n xs l p s k = k r l p' s' := by
  have hp := List.length_pos_iff.2 hx
  obtain ⟨i, p', s', i0, i1, q0, q1, hi⟩ := pick_ex hl n (m := (xs.length : Int)) (s := s) (by omega) h0 h1
  have hlt : Int.toNat i < xs.length := by omega
  refine ⟨xs.getD (Int.toNat i) 0, p', s', ?_, q0, q1, fun R k => ?_⟩
  · rw [List.getD_eq_getElem?_getD, List.getElem?_eq_getElem hlt]
    exact List.getElem_mem hlt
  · unfold spec_l1Cur_among
    rw [hi, decide_eq_true i0, decide_eq_true (show i < (xs.length : Int) by omega)]
    rfl
theorem oneN_ex {l : List Int} (hl : Bytes l) (n : Nat) {m p s : Int} (hm : m ≤ 60000) (h0 : 0 ≤ p) (h1 : p ≤ 4611686018427387000) : ∃ b p' s', p ≤ p' ∧ p' ≤ p + 2 ∧ ∀ (R : Type) (k : Bool → List Int → Int → Int → Option R), spec_l1Cur_one n m l p s k = k b l p' s' := by
  obtain ⟨r, p1, s1, _, _, q0, q1, hr⟩ := pick_ex hl n (m := m) (s := s) hm h0 h1
  exact ⟨r == 0, p1, s1, q0, q1, fun R k => by unfold spec_l1Cur_one; rw [hr]⟩
def NetIn (B : Int) (ss : List (List Int × List Int)) : Prop := 1 ≤ B ∧ B ≤ 8 ∧ ss.length ≤ 50 ∧ ∀ x ∈ ss, x.1.length ≤ 3 ∧ x.2.length ≤ 3
def QS (B : Int) (x : List Int × List Int) : Prop := B ≤ 3 ∨ ∃ p ∈ x.1, p ≠ 0
theorem placesS_loop {l : List Int} (hl : Bytes l) {B : Int} (hB : B ≤ 100) : ∀ (c n : Nat) (v p s : Int) (out : List Int), c + out.length = 3 → c < n → 0 ≤ v → v ≤ 200 → 0 ≤ p → p + 2 * c ≤ 4611686018427380000 →
    ∃ out' p' s', out'.length ≤ 3 ∧ p ≤ p' ∧ p' ≤ p + 2 * c ∧ ((∀ x ∈ out, x ∈ out') ∧ (4 ≤ B → v < 4 → (out.length = 0 ∨ (out.length = 1 ∧ 1 ≤ v)) → ∃ q ∈ out', q ≠ 0)) ∧ ∀ (R : Type) (k : List Int → List Int → Int → Int → Option R), spec_l1Cur_places_l3 n B v l p s out k = k out' l p' s'
  | c, 0, _, _, _, _, _, h, _, _, _, _ => by omega
  | c, n + 1, v, p, s, out, ho, hn, hv, hv2, hp, hp2 => by
    by_cases h : v < B
    · by_cases h2 : out.length < 2
      · obtain ⟨r, p1, s1, r0, r1, q0, q1, hr⟩ := pick_ex hl n (m := 3) (s := s) (by omega) hp (by omega)
        have hw : IntKind.wrap .i64 (v + IntKind.wrap .i64 (1 + r)) = v + (1 + r) := by rw [wrap64 (x := 1 + r) (by omega) (by omega), wrap64 (x := v + (1 + r)) (by omega) (by omega)]
        obtain ⟨o, p2, s2, a1, a2, a3, ⟨b1, b2⟩, a4⟩ := placesS_loop hl hB (c - 1) n (v + (1 + r)) p1 s1 (out ++ [v]) (by simp; omega) (by omega) (by omega) (by omega) (by omega) (by omega)
        refine ⟨o, p2, s2, a1, by omega, by omega, ⟨fun x hx => b1 x (List.mem_append_left _ hx), fun h4 hv4 hc => ?_⟩, fun R k => ?_⟩
        · by_cases hz : v = 0
          · exact b2 h4 (by omega) (.inr ⟨by rw [List.length_append, List.length_singleton]; omega, by omega⟩)
          · exact ⟨v, b1 v (by simp), hz⟩
        · rw [spec_l1Cur_places_l3]
          rw [decide_eq_true h, decide_eq_true (show (out.length : Int) < 2 by omega), decide_eq_true (show out.length + [v].length ≤ LIM by simp [LIM]; omega)]
          simp only [cond_true]
          rw [hr, hw]
          exact a4 R k
      · refine ⟨out, p, s, by omega, by omega, by omega, ⟨fun x hx => hx, fun h4 hv4 hc => by omega⟩, fun R k => ?_⟩
        rw [spec_l1Cur_places_l3]
        rw [decide_eq_true h, decide_eq_false (show ¬ (out.length : Int) < 2 by omega)]
        rfl
    · refine ⟨out, p, s, by omega, by omega, by omega, ⟨fun x hx => hx, fun h4 hv4 hc => by omega⟩, fun R k => ?_⟩
      rw [spec_l1Cur_places_l3]
      rw [decide_eq_false h]
      rfl
theorem placesS_ex {l : List Int} (hl : Bytes l) {n : Nat} {B p s : Int} (hB : B ≤ 100) (hn : 20 ≤ n) (hp : 0 ≤ p) (hp2 : p + 20 ≤ 4611686018427380000) :
    ∃ out' p' s', out'.length ≤ 3 ∧ p ≤ p' ∧ p' ≤ p + 20 ∧ (B ≤ 3 ∨ ∃ q ∈ out', q ≠ 0) ∧ ∀ (R : Type) (k : List Int → List Int → Int → Int → Option R), spec_l1Cur_places n B l p s k = k out' l p' s' := by
  obtain ⟨r, p1, s1, r0, r1, q0, q1, hr⟩ := pick_ex hl n (m := 3) (s := s) (by omega) hp (by omega)
  obtain ⟨o, p2, s2, a1, a2, a3, ⟨_, b2⟩, a4⟩ := placesS_loop hl hB 3 n r p1 s1 [] (by simp) (by omega) (by omega) (by omega) (by omega) (by omega)
  refine ⟨o, p2, s2, a1, by omega, by omega, ?_, fun R k => ?_⟩
  · by_cases h3 : B ≤ 3
    · exact .inl h3
    · exact .inr (b2 (by omega) (by omega) (.inl rfl))
  · unfold spec_l1Cur_places
    rw [hr]
    exact a4 R k
theorem stepsS_loop {l : List Int} (hl : Bytes l) {B : Int} (hB : B ≤ 100) (z1 : List (List Int × List Int)) (z2 : Int) : ∀ (c n : Nat) (p s : Int) (out : List (List Int × List Int)), c + 30 < n → 0 ≤ p → p + 40 * c ≤ 4611686018427380000 → out.length + c ≤ 100 → (∀ x ∈ out, (x.1.length ≤ 3 ∧ x.2.length ≤ 3) ∧ QS B x) →
    ∃ out' p' s', out'.length ≤ out.length + c ∧ (∀ x ∈ out', (x.1.length ≤ 3 ∧ x.2.length ≤ 3) ∧ QS B x) ∧ p ≤ p' ∧ p' ≤ p + 40 * c ∧ ∀ (R : Type) (k : List Int → Int → Int → List (List Int × List Int) → Int → List (List Int × List Int) → Int → Option R), spec_l1Cur_net_l18 n (c : Int) l p s z1 z2 out B k = k l p' s' z1 z2 out' B
  | c, 0, _, _, _, h, _, _, _, _ => by omega
  | 0, n + 1, p, s, out, _, _, _, _, hb => ⟨out, p, s, by omega, hb, by omega, by omega, fun R k => by rw [spec_l1Cur_net_l18]; rfl⟩
  | c + 1, n + 1, p, s, out, hn, hp, hp2, ho, hb => by
    obtain ⟨a, p1, s1, a0, q0, q1, aq, ha⟩ := placesS_ex hl (n := n) (B := B) (s := s) hB (by omega) hp (by omega)
    obtain ⟨b, p2, s2, b0, b1, b2, _, b3⟩ := placesS_ex hl (n := n) (B := B) (p := p1) (s := s1) hB (by omega) (by omega) (by omega)
    obtain ⟨o, p3, s3, a1, a2, a3, a4, a5⟩ := stepsS_loop hl hB z1 z2 c n p2 s2 (out ++ [(a, b)]) (by omega) (by omega) (by omega) (by simp; omega) (fun x hx => by
      rcases List.mem_append.1 hx with hx | hx
      · exact hb x hx
      · rw [List.mem_singleton.1 hx]; exact ⟨⟨a0, b0⟩, aq⟩)
    simp only [List.length_append, List.length_singleton] at a1
    refine ⟨o, p3, s3, by omega, a2, by omega, by omega, fun R k => ?_⟩
    rw [spec_l1Cur_net_l18]
    rw [decide_eq_true (show ((c + 1 : Nat) : Int) > 0 by omega), cond_true, ha, b3, decide_eq_true (show out.length + [(a, b)].length ≤ LIM by simp [LIM]; omega), wrap64 (x := ((c + 1 : Nat) : Int) - 1) (by omega) (by omega), show ((c + 1 : Nat) : Int) - 1 = (c : Int) by omega]
    exact a5 R k
theorem chainS_loop (l : List Int) (p s : Int) (z1 : List (List Int × List Int)) (z2 B : Int) (hB : B ≤ 100) : ∀ (c n : Nat) (j : Int) (out : List (List Int × List Int)), c < n → B - j ≤ c → 0 ≤ j → out.length + c ≤ 1000 → (∀ x ∈ out, x.1.length = 1 ∧ x.2.length = 1) →
    ∃ out', out'.length ≤ out.length + c ∧ (∀ x ∈ out', x.1.length = 1 ∧ x.2.length = 1) ∧ ∀ (R : Type) (k : List Int → Int → Int → List (List Int × List Int) → Int → List (List Int × List Int) → Int → Option R), spec_l1Cur_net_l5 n j l p s z1 z2 out B k = k l p s z1 z2 out' B
  | _, 0, _, _, h, _, _, _, _ => by omega
  | 0, n + 1, j, out, _, hj, _, _, hb => ⟨out, by omega, hb, fun R k => by rw [spec_l1Cur_net_l5, decide_eq_false (show ¬ j < B by omega)]; rfl⟩
  | c + 1, n + 1, j, out, hn, hj, h0, ho, hb => by
    by_cases h : j < B
    · obtain ⟨o, a1, a2, a3⟩ := chainS_loop l p s z1 z2 B hB c n (j + 1) (out ++ [([j - 1], [j])]) (by omega) (by omega) (by omega) (by simp; omega) (fun x hx => by
        rcases List.mem_append.1 hx with hx | hx
        · exact hb x hx
        · rw [List.mem_singleton.1 hx]; simp)
      simp only [List.length_append, List.length_singleton] at a1
      refine ⟨o, by omega, a2, fun R k => ?_⟩
      rw [spec_l1Cur_net_l5, decide_eq_true h, cond_true, wrap64 (x := j - 1) (by omega) (by omega), wrap64 (x := j + 1) (by omega) (by omega), decide_eq_true (show out.length + [([j - 1], [j])].length ≤ LIM by simp [LIM]; omega), cond_true]
      exact a3 R k
    · exact ⟨out, by omega, hb, fun R k => by rw [spec_l1Cur_net_l5, decide_eq_false h]; rfl⟩
def six (x : List Int) : List Stp := [([0], [1, 2]), ([1], [3]), ([2], [4]), (x, [5])]
def QNet (B : Int) (ss : List Stp) : Prop := (∀ s ∈ ss, s.1.length = 1 ∧ s.2.length = 1) ∨ (B = 6 ∧ (ss = six [3, 4] ∨ ss = six [3] ∨ ss = six [4])) ∨ B ≤ 3 ∨ ∀ s ∈ ss, ∃ p ∈ s.1, p ≠ 0
theorem netS_ex {l : List Int} (hl : Bytes l) {n : Nat} (hn : 100 ≤ n) : ∃ B ss p' s', (NetIn B ss ∧ QNet B ss) ∧ 0 ≤ p' ∧ p' ≤ 1000 ∧ ∀ (R : Type) (k : Int → List (List Int × List Int) → List Int → Int → Int → Option R), spec_l1Cur_net n l 0 0 k = k B ss l p' s' := by
  obtain ⟨r, p1, s1, r0, r1, q0, q1, hr⟩ := pick_ex hl n (m := 4) (p := 0) (s := 0) (by omega) (by omega) (by omega)
  by_cases c0 : r = 0
  · subst c0
    obtain ⟨v, p2, s2, v0, v1, w0, w1, hv⟩ := pick_ex hl n (m := 4) (p := p1) (s := s1) (by omega) (by omega) (by omega)
    obtain ⟨o, a1, a2, a3⟩ := chainS_loop l p2 s2 [] 0 (2 + v) (by omega) 5 n 1 [] (by omega) (by omega) (by omega) (by simp) (fun x hx => by simp at hx)
    simp only [List.length_nil] at a1
    obtain ⟨b, p3, s3, u0, u1, ht⟩ := oneN_ex hl n (m := 3) (p := p2) (s := s2) (by omega) (by omega) (by omega)
    have hw : IntKind.wrap .i64 (2 + v) = 2 + v := wrap64 (by omega) (by omega)
    cases b with
    | true =>
      obtain ⟨x, p4, s4, x0, x1, y0, y1, hx⟩ := pick_ex hl n (m := IntKind.wrap .i64 (2 + v - 1)) (p := p3) (s := s3) (by rw [wrap64 (by omega) (by omega)]; omega) (by omega) (by omega)
      obtain ⟨x', p5, s5, x0', x1', y0', y1', hx'⟩ := pick_ex hl n (m := IntKind.wrap .i64 (2 + v - 1)) (p := p4) (s := s4) (by rw [wrap64 (by omega) (by omega)]; omega) (by omega) (by omega)
      have hq : ∀ z ∈ o ++ [([x], [x'])], z.1.length = 1 ∧ z.2.length = 1 := fun z hz => by
        rcases List.mem_append.1 hz with hz | hz
        · exact a2 z hz
        · rw [List.mem_singleton.1 hz]; simp
      refine ⟨2 + v, o ++ [([x], [x'])], p5, s5, ⟨⟨by omega, by omega, by simp; omega, fun z hz => by have := hq z hz; omega⟩, .inl hq⟩, by omega, by omega, fun R k => ?_⟩
      unfold spec_l1Cur_net
      rw [hr, show ((0 : Int) == 0) = true from rfl, cond_true, hv, hw, a3, ht, cond_true, hx, hx', decide_eq_true (show o.length + [([x], [x'])].length ≤ LIM by simp [LIM]; omega), cond_true]
    | false =>
      refine ⟨2 + v, o, p3, s3, ⟨⟨by omega, by omega, by omega, fun z hz => by have := a2 z hz; omega⟩, .inl a2⟩, by omega, by omega, fun R k => ?_⟩
      unfold spec_l1Cur_net
      rw [hr, show ((0 : Int) == 0) = true from rfl, cond_true, hv, hw, a3, ht, cond_false]
  · have e0 : (r == 0) = false := by simpa using c0
    by_cases c1 : r = 1
    · subst c1
      obtain ⟨b, p3, s3, u0, u1, ht⟩ := oneN_ex hl n (m := 3) (p := p1) (s := s1) (by omega) (by omega) (by omega)
      cases b with
      | true =>
        obtain ⟨x, p4, s4, x0, x1, y0, y1, hx⟩ := pick_ex hl n (m := 2) (p := p3) (s := s3) (by omega) (by omega) (by omega)
        refine ⟨6, ([([0], [1, 2]), ([1], [3]), ([2], [4]), ([3, 4], [5])] : List (List Int × List Int)).set 3 ([(IntKind.wrap .i64 (3 + x))], (([([0], [1, 2]), ([1], [3]), ([2], [4]), ([3, 4], [5])] : List (List Int × List Int)).getD 3 ([], [])).2), p4, s4, ⟨⟨by omega, by omega, ?_, ?_⟩, ?_⟩, by omega, by omega, fun R k => ?_⟩
        rotate_left 3
        · unfold spec_l1Cur_net
          rw [hr, show ((1 : Int) == 0) = false from rfl, cond_false, show ((1 : Int) == 1) = true from rfl, cond_true, ht, cond_true, hx]
          rfl
        · simp
        · intro z hz
          simp at hz
          rcases hz with rfl | rfl | rfl | rfl <;> simp
        · have hx2 : x = 0 ∨ x = 1 := by omega
          rcases hx2 with rfl | rfl
          · exact .inr (.inl ⟨rfl, .inr (.inl rfl)⟩)
          · exact .inr (.inl ⟨rfl, .inr (.inr rfl)⟩)
      | false =>
        refine ⟨6, [([0], [1, 2]), ([1], [3]), ([2], [4]), ([3, 4], [5])], p3, s3, ⟨⟨by omega, by omega, ?_, ?_⟩, .inr (.inl ⟨rfl, .inl rfl⟩)⟩, by omega, by omega, fun R k => ?_⟩
        rotate_left 2
        · unfold spec_l1Cur_net
          rw [hr, show ((1 : Int) == 0) = false from rfl, cond_false, show ((1 : Int) == 1) = true from rfl, cond_true, ht, cond_false]
        · simp
        · intro z hz
          simp at hz
          rcases hz with rfl | rfl | rfl | rfl <;> simp
    · have e1 : (r == 1) = false := by simpa using c1
      obtain ⟨v, p2, s2, v0, v1, w0, w1, hv⟩ := pick_ex hl n (m := 5) (p := p1) (s := s1) (by omega) (by omega) (by omega)
      obtain ⟨c, p3, s3, c0', c1', y0, y1, hc⟩ := pick_ex hl n (m := 5) (p := p2) (s := s2) (by omega) (by omega) (by omega)
      obtain ⟨o, p4, s4, a1, a2, a3, a4, a5⟩ := stepsS_loop hl (B := 1 + v) (by omega) [] 0 c.toNat n p3 s3 [] (by omega) (by omega) (by omega) (by simp; omega) (fun x hx => by simp at hx)
      rw [Int.toNat_of_nonneg (by omega)] at a5
      simp only [List.length_nil] at a1
      obtain ⟨b, p5, s5, u0, u1, ht⟩ := oneN_ex hl n (m := 30) (p := p4) (s := s4) (by omega) (by omega) (by omega)
      have hw : IntKind.wrap .i64 (1 + v) = 1 + v := wrap64 (by omega) (by omega)
      have qn : ∀ ss : List Stp, (∀ s ∈ ss, QS (1 + v) s) → QNet (1 + v) ss := fun ss hs => by
        by_cases h3 : 1 + v ≤ 3
        · exact .inr (.inr (.inl h3))
        · exact .inr (.inr (.inr fun s hs' => (hs s hs').resolve_left h3))
      have keep : NetIn (1 + v) o ∧ QNet (1 + v) o := ⟨⟨by omega, by omega, by omega, fun x hx => (a2 x hx).1⟩, qn o fun x hx => (a2 x hx).2⟩
      cases b with
      | true =>
        by_cases h : (o.length : Int) > 0
        · have h' : 0 < o.length := by omega
          have hz : ∀ z ∈ o.set 0 ([1 + v], (o.getD 0 ([], [])).2), (z.1.length ≤ 3 ∧ z.2.length ≤ 3) ∧ QS (1 + v) z := fun z hz => by
            rcases List.mem_or_eq_of_mem_set hz with hz | rfl
            · exact a2 z hz
            · refine ⟨⟨by simp, ?_⟩, .inr ⟨1 + v, by simp, by omega⟩⟩
              rw [List.getD_eq_getElem?_getD, List.getElem?_eq_getElem h']
              exact (a2 _ (List.getElem_mem h')).1.2
          refine ⟨1 + v, o.set 0 ([1 + v], (o.getD 0 ([], [])).2), p5, s5, ⟨⟨by omega, by omega, by simp; omega, fun z hz' => (hz z hz').1⟩, qn _ fun z hz' => (hz z hz').2⟩, by omega, by omega, fun R k => ?_⟩
          unfold spec_l1Cur_net
          rw [hr, e0, cond_false, e1, cond_false, hv, hc, hw, a5, ht, cond_true, decide_eq_true h, cond_true, cond_true]
        · refine ⟨1 + v, o, p5, s5, keep, by omega, by omega, fun R k => ?_⟩
          unfold spec_l1Cur_net
          rw [hr, e0, cond_false, e1, cond_false, hv, hc, hw, a5, ht, cond_true, decide_eq_false h, cond_false]
      | false =>
        refine ⟨1 + v, o, p5, s5, keep, by omega, by omega, fun R k => ?_⟩
        unfold spec_l1Cur_net
        rw [hr, e0, cond_false, e1, cond_false, hv, hc, hw, a5, ht, cond_false]
theorem dot_ones : ∀ m : List Int, dot (List.replicate m.length 1) m = m.sum
  | [] => rfl
  | x :: m => by
    rw [List.length_cons, List.replicate_succ, dot, dot_ones m, List.sum_cons]; omega
theorem sum_nn : ∀ m : List Int, (∀ x ∈ m, 0 ≤ x) → 0 ≤ m.sum
  | [], _ => Int.le_refl _
  | x :: m, h => by
    have := sum_nn m fun y hy => h y (List.mem_cons_of_mem _ hy)
    have := h x List.mem_cons_self
    rw [List.sum_cons]; omega
theorem sum_zero : ∀ m : List Int, (∀ x ∈ m, 0 ≤ x) → m.sum = 0 → m = List.replicate m.length 0
  | [], _, _ => rfl
  | x :: m, h, hs => by
    have h1 := sum_nn m fun y hy => h y (List.mem_cons_of_mem _ hy)
    have h2 := h x List.mem_cons_self
    rw [List.sum_cons] at hs
    rw [List.length_cons, List.replicate_succ, ← sum_zero m (fun y hy => h y (List.mem_cons_of_mem _ hy)) (by omega)]
    congr 1; omega
theorem sum_one : ∀ m : List Int, (∀ x ∈ m, 0 ≤ x) → m.sum = 1 → ∃ i, i < m.length ∧ m = oneM m.length i
  | [], _, hs => by simp at hs
  | x :: m, h, hs => by
    have hm := fun y hy => h y (List.mem_cons_of_mem x hy)
    have h1 := sum_nn m hm
    have h2 := h x List.mem_cons_self
    rw [List.sum_cons] at hs
    by_cases c : x = 0
    · obtain ⟨i, hi, e⟩ := sum_one m hm (by omega)
      refine ⟨i + 1, by simp; omega, ?_⟩
      unfold oneM at e ⊢
      rw [List.length_cons, List.replicate_succ, List.set_cons_succ, ← e, c]
    · refine ⟨0, by simp, ?_⟩
      unfold oneM
      rw [List.length_cons, List.replicate_succ, List.set_cons_zero, ← sum_zero m hm (by omega)]
      congr 1; omega
theorem sum_repl : ∀ b : Nat, (List.replicate b (0 : Int)).sum = 0
  | 0 => rfl
  | b + 1 => by rw [List.replicate_succ, List.sum_cons, sum_repl b]; rfl
theorem sumAt_ones {B : Nat} {ps : List Int} (h1 : ps.length = 1) (h : ∀ p ∈ ps, 0 ≤ p ∧ p < (B : Int)) : sumAt (List.replicate B 1) ps = 1 := by
  match ps, h1 with
  | [p], _ =>
    have := h p List.mem_cons_self
    simp only [sumAt, List.map_cons, List.map_nil, List.sum_cons, List.sum_nil]
    rw [List.getD_eq_getElem?_getD, List.getElem?_replicate, if_pos (by omega)]; rfl
theorem dec_need : ∀ (ps m m' : List Int), ps.Pairwise (· < ·) → (∀ p ∈ ps, 0 ≤ p) → decO m ps = some m' → ∀ p ∈ ps, m.getD p.toNat 0 ≠ 0
  | [], _, _, _, _, _, p, hp => by cases hp
  | q :: ps, m, m', hw, h0, hd, p, hp => by
    unfold decO at hd
    split at hd
    · cases hd
    · rename_i hq
      rcases List.mem_cons.1 hp with e | e
      · rw [e]; exact hq
      · have hw' := List.pairwise_cons.1 hw
        have := dec_need ps _ m' hw'.2 (fun x hx => h0 x (List.mem_cons_of_mem _ hx)) hd p e
        rw [getD_setN] at this
        have hlt := hw'.1 p e
        have := h0 q List.mem_cons_self
        have := h0 p hp
        rwa [if_neg (by omega)] at *
theorem few {B : Nat} {ss : List Stp} (hq : QNet (B : Int) ss) (ho : okNet (B : Int) ss = true) (hx : ∀ s ∈ ss, s.1.length ≤ 500 ∧ s.2.length ≤ 500) (h2 : 2 ≤ B) {es : List Ent} (hb : bfsR ss (oneM B 0) = some es) (hs : sndB B ss (msE es) = true) : es.length ≤ 200 := by
  obtain ⟨b1, b8, hl12, hss⟩ := okNet_in ho hx
  obtain ⟨hi, h0, hcl⟩ := bfsR_ok hss oneM_ok hb
  have hel : es.length = (msE es).length := (len_ms es).symm
  rcases hq with hq | ⟨hB6, hq⟩ | hq | hq
  · have hT : Clo ss fun m => MkOk B m ∧ m.sum = 1 := fun m hm s hs m' hf => by
      have hst := hss s hs
      obtain ⟨e1, e2, e3⟩ := fire_some hm.1.2 (by rw [hm.1.1]; exact hst) hf
      refine ⟨⟨by rw [e3, hm.1.1], e2⟩, ?_⟩
      have hlen : (List.replicate m.length (1 : Int)).length = m.length := by simp
      have hin : ∀ p ∈ s.1, 0 ≤ p ∧ p < (m.length : Int) := by rw [hm.1.1]; exact hst.1.2
      have hout : ∀ p ∈ s.2, 0 ≤ p ∧ p < ((sub1 m s.1).length : Int) := by rw [sub1_length, hm.1.1]; exact hst.2.1.2
      have d1 := dot_sub (List.replicate m.length 1) s.1 m hlen hin
      have d2 := dot_add (List.replicate m.length 1) s.2 (sub1 m s.1) (by rw [sub1_length]; exact hlen) hout
      rw [sumAt_ones (hq s hs).1 hin] at d1
      rw [sumAt_ones (hq s hs).2 (by rw [sub1_length] at hout; exact hout)] at d2
      rw [← e1, d1, dot_ones, show m.length = m'.length from e3.symm, dot_ones] at d2
      have := hm.2
      omega
    have h1 : MkOk B (oneM B 0) ∧ (oneM B 0).sum = 1 := ⟨oneM_ok, by
      obtain ⟨b, rfl⟩ : ∃ b, B = b + 1 := ⟨B - 1, by omega⟩
      unfold oneM
      rw [List.replicate_succ, List.set_cons_zero, List.sum_cons]
      have := sum_repl b
      omega⟩
    have hall := hi.T hT h1
    have := nodup_len (msE es) ((List.range B).map (oneM B)) hi.nd fun m hm => by
      obtain ⟨⟨a, b⟩, c⟩ := hall m hm
      obtain ⟨i, i1, i2⟩ := sum_one m (fun x hx => (b x hx).1) c
      rw [a] at i1 i2
      rw [i2]
      exact List.mem_map.2 ⟨i, List.mem_range.2 i1, rfl⟩
    rw [List.length_map, List.length_range] at this
    omega
  · have hB : B = 6 := by omega
    subst hB
    have e : ∀ x, ss = six x → (bfsR (six x) (oneM 6 0)).map List.length = some es.length := fun x hx => by rw [← hx, hb]; rfl
    have c1 : (bfsR (six [3, 4]) (oneM 6 0)).map List.length = some 6 := by decide +kernel
    have c2 : ((bfsR (six [3]) (oneM 6 0)).map fun l => decide (l.length ≤ 200)) = some true := by decide +kernel
    have c3 : ((bfsR (six [4]) (oneM 6 0)).map fun l => decide (l.length ≤ 200)) = some true := by decide +kernel
    rcases hq with hq | hq | hq
    · have := e _ hq
      rw [c1] at this
      have := Option.some.inj this
      omega
    · rw [← hq, hb] at c2
      exact of_decide_eq_true (Option.some.inj c2)
    · rw [← hq, hb] at c3
      exact of_decide_eq_true (Option.some.inj c3)
  · have hsm : ∀ m ∈ msE es, m.getD (B - 1) 0 > 0 → m = oneM B (B - 1) := fun m hm hp => by
      unfold sndB at hs
      simp only [Bool.and_eq_true] at hs
      have := List.all_eq_true.1 hs.1 m hm
      unfold sndM at this
      simp only [Bool.and_eq_true, Bool.or_eq_true, Bool.not_eq_true', decide_eq_false_iff_not, decide_eq_true_eq] at this
      exact this.1.resolve_left fun c => c hp
    have hB : B = 2 ∨ B = 3 := by omega
    rcases hB with rfl | rfl
    · have := nodup_len (msE es) (oneM 2 1 :: (List.range 10).map fun a : Nat => [(a : Int), 0]) hi.nd fun m hm => by
        obtain ⟨v1, v2⟩ := hi.val m hm
        match m, v1 with
        | [a, c], _ =>
          have ha := v2 a (by simp)
          have hc := v2 c (by simp)
          by_cases h : c > 0
          · rw [hsm _ hm h]; exact List.mem_cons_self
          · refine List.mem_cons_of_mem _ (List.mem_map.2 ⟨a.toNat, List.mem_range.2 (by omega), ?_⟩)
            rw [show ((a.toNat : Nat) : Int) = a by omega, show (0 : Int) = c by omega]
      rw [List.length_cons, List.length_map, List.length_range] at this
      omega
    · have := nodup_len (msE es) (oneM 3 2 :: (List.range 100).map fun q : Nat => [((q / 10 : Nat) : Int), ((q % 10 : Nat) : Int), 0]) hi.nd fun m hm => by
        obtain ⟨v1, v2⟩ := hi.val m hm
        match m, v1 with
        | [a, b, c], _ =>
          have ha := v2 a (by simp)
          have hb' := v2 b (by simp)
          have hc := v2 c (by simp)
          by_cases h : c > 0
          · rw [hsm _ hm h]; exact List.mem_cons_self
          · refine List.mem_cons_of_mem _ (List.mem_map.2 ⟨a.toNat * 10 + b.toNat, List.mem_range.2 (by omega), ?_⟩)
            rw [show (((a.toNat * 10 + b.toNat) / 10 : Nat) : Int) = a by omega, show (((a.toNat * 10 + b.toNat) % 10 : Nat) : Int) = b by omega, show (0 : Int) = c by omega]
      rw [List.length_cons, List.length_map, List.length_range] at this
      omega
  · have hT : Clo ss fun m => m = oneM B 0 := fun m hm s hs' m' hf => by
      exfalso
      subst hm
      obtain ⟨p, hp, hp0⟩ := hq s hs'
      have hst := hss s hs'
      unfold fireO at hf
      cases hd : decO (oneM B 0) s.1 with
      | none => rw [hd] at hf; cases hf
      | some m1 =>
        have := dec_need s.1 _ m1 hst.1.1 (fun x hx => (hst.1.2 x hx).1) hd p hp
        apply this
        have := (hst.1.2 p hp).1
        unfold oneM
        rw [getD_setN, if_neg (by omega), List.getD_eq_getElem?_getD, List.getElem?_replicate]
        split <;> rfl
    have hall := hi.T hT rfl
    have := nodup_len (msE es) [oneM B 0] hi.nd fun m hm => by rw [hall m hm]; exact List.mem_cons_self
    simp only [List.length_cons, List.length_nil] at this
    omega
theorem l13_ex {x : List Int} (hb : Bytes x) (B : Int) {l : List Stp} (hl : 0 < l.length) (hl2 : l.length ≤ 1000) (m0 : List Int) : ∀ (c n j : Nat) (out : List Int), c + j = 40 → c < n → out.length = j → (∀ v ∈ out, 0 ≤ v ∧ v < (l.length : Int)) →
    ∃ out', out'.length ≤ 40 ∧ (∀ v ∈ out', 0 ≤ v ∧ v < (l.length : Int)) ∧ ∀ (R : Type) (k : List Int → List Stp → Int → List Int → List Int → Option R), laws_FnSound_l13 n x (j : Int) l B m0 out k = k x l B m0 out'
  | _, 0, _, _, _, h, _, _ => by omega
  | c, n + 1, j, out, hc, hn, ho, hv => by
    by_cases h : j < x.length
    · by_cases h4 : (j : Int) < 40
      · obtain ⟨b1, b2⟩ := hb x[j] (List.getElem_mem h)
        have t0 := Int.tmod_nonneg (l.length : Int) (show 0 ≤ x[j] by omega)
        have t1 := Int.tmod_lt_of_pos x[j] (show (0 : Int) < (l.length : Int) by omega)
        obtain ⟨o, e1, e2, e3⟩ := l13_ex hb B hl hl2 m0 (c - 1) n (j + 1) (out ++ [Int.tmod x[j] (l.length : Int)]) (by omega) (by omega) (by simp [ho]) (fun u hu => by
          rcases List.mem_append.1 hu with hu | hu
          · exact hv u hu
          · rw [List.mem_singleton.1 hu]; exact ⟨t0, t1⟩)
        refine ⟨o, e1, e2, fun R k => ?_⟩
        rw [laws_FnSound_l13]
        rw [dlt h, dnn, decide_eq_true h4, getD_at _ _ h, wrapS (show j < j + 1 by omega) (by omega), wrap64 (x := x[j]) (by omega) (by omega), decide_eq_true (show (l.length : Int) ≠ 0 by omega), decide_eq_true (show out.length + [Int.tmod x[j] (l.length : Int)].length ≤ LIM by simp [LIM]; omega)]
        exact e3 R k
      · refine ⟨out, by omega, hv, fun R k => ?_⟩
        rw [laws_FnSound_l13]
        rw [dlt h, decide_eq_false h4]
        rfl
    · refine ⟨out, by omega, hv, fun R k => ?_⟩
      rw [laws_FnSound_l13]
      rw [dge (by omega)]
      rfl
theorem l22_eq {R : Type} (x : List Int) {y : List Int} (hl : y.length ≤ 1000) (hy : ∀ v ∈ y, v = 0) (kr : Bool → Option R) (ke : List Int → Option R) : ∀ (n j : Nat), y.length - j < n → j ≤ y.length → laws_FnSound_l22 n x y (y.length : Int) (j : Int) kr ke = ke x
  | 0, _, h, _ => by omega
  | n + 1, j, hn, hj => by
    rw [laws_FnSound_l22]
    by_cases h : j < y.length
    · rw [dlt h, dnn, getD_at _ _ h, wrapS h (by omega), hy _ (List.getElem_mem h)]
      simp only [cond_true, bne_self_eq_false, cond_false]
      exact l22_eq x hl hy kr ke n (j + 1) (by omega) (by omega)
    · rw [dge (by omega)]; rfl
theorem play_T {ss : List Stp} {T : List Int → Prop} (hT : Clo ss T) : ∀ (xs m : List Int) (c : Nat), (∀ x ∈ xs, 0 ≤ x ∧ x < (ss.length : Int)) → T m → T (playO ss xs m c).1
  | [], m, c, _, h => h
  | x :: xs, m, c, hx, h => by
    have h0 := hx x List.mem_cons_self
    have hx' := fun y hy => hx y (List.mem_cons_of_mem x hy)
    rw [playO]
    cases hf : fireO m (ss.getD x.toNat ([], [])) with
    | none => exact play_T hT xs m c hx' h
    | some m' =>
      refine play_T hT xs m' (c + 1) hx' (hT m h (ss.getD x.toNat ([], [])) ?_ m' hf)
      rw [List.getD_eq_getElem?_getD, List.getElem?_eq_getElem (show x.toNat < ss.length by omega)]
      exact List.getElem_mem _
theorem play_run {ss : List Stp} : ∀ (xs m m' : List Int) (c : Nat), runO ss xs m = some m' → playO ss xs m c = (m', c + xs.length)
  | [], m, m', c, h => by cases h; rfl
  | x :: xs, m, m', c, h => by
    unfold runO at h
    rw [playO]
    cases hf : fireO m (ss.getD x.toNat ([], [])) with
    | none => rw [hf] at h; cases h
    | some m1 =>
      rw [hf] at h
      simp only
      rw [play_run xs m1 m' (c + 1) h, List.length_cons]
      congr 1; omega
theorem mark_loop {l : List Int} (hl : Bytes l) : ∀ (c n j : Nat) (p s : Int) (m : List Int), c < n → j + c = m.length → m.length ≤ 100 → 0 ≤ p → p + 2 * c ≤ 4611686018427380000 →
    ∃ m' p' s', m'.length = m.length ∧ p ≤ p' ∧ p' ≤ p + 2 * c ∧ ∀ (R : Type) (k : List Int → Int → Int → List Int → Option R), spec_l1Cur_marking_l6 n (m.length : Int) (j : Int) l p s m k = k l p' s' m'
  | c, 0, _, _, _, _, h, _, _, _, _ => by omega
  | 0, n + 1, j, p, s, m, hn, hj, hm, hp, hp2 => ⟨m, p, s, rfl, by omega, by omega, fun R k => by
      rw [spec_l1Cur_marking_l6, dge (by omega)]; rfl⟩
  | c + 1, n + 1, j, p, s, m, hn, hj, hm, hp, hp2 => by
    have h : j < m.length := by omega
    obtain ⟨r, p1, s1, r0, r1, q0, q1, hr⟩ := pick_ex hl n (m := 3) (p := p) (s := s) (by omega) hp (by omega)
    obtain ⟨m', p2, s2, a1, a2, a3, a4⟩ := mark_loop hl c n (j + 1) p1 s1 (m.set j r) (by omega) (by rw [List.length_set]; omega) (by rw [List.length_set]; exact hm) (by omega) (by omega)
    rw [List.length_set] at a1 a4
    refine ⟨m', p2, s2, a1, by omega, by omega, fun R k => ?_⟩
    rw [spec_l1Cur_marking_l6, dlt h, cond_true, hr, dnn, wrapS h (by omega), Int.toNat_natCast]
    exact a4 R k
theorem marking_ex {l : List Int} (hl : Bytes l) {n : Nat} (hn : 200 ≤ n) {B : Int} (b1 : 1 ≤ B) (b8 : B ≤ 8) (ss : List Stp) {p s : Int} (hp : 0 ≤ p) (hp2 : p ≤ 100000) : ∃ m p' s', m.length ≤ 1000 ∧ ∀ (R : Type) (k : List Int → List Int → Int → Int → Option R), spec_l1Cur_marking n B ss l p s k = k m l p' s' := by
  obtain ⟨b, p1, s1, u0, u1, ht⟩ := oneN_ex hl n (m := 2) (p := p) (s := s) (by omega) (by omega) (by omega)
  have hlen : (List.replicate (Int.toNat B) (0 : Int)).length = B.toNat := List.length_replicate ..
  unfold spec_l1Cur_marking
  rw [decide_eq_true (show 0 ≤ B by omega), decide_eq_true (Int.le_refl B), decide_eq_true (show B ≤ 1099511627776 by omega)]
  simp only [cond_true, ht]
  cases b with
  | true =>
    refine ⟨(List.replicate (Int.toNat B) (0 : Int)).set 0 1, p1, s1, by rw [List.length_set, hlen]; omega, fun R k => ?_⟩
    rw [cond_true, hlen, decide_eq_true (show (0 : Int) < ((B.toNat : Nat) : Int) by omega)]; rfl
  | false =>
    obtain ⟨m', p2, s2, a1, a2, a3, a4⟩ := mark_loop hl B.toNat n 0 p1 s1 (List.replicate (Int.toNat B) (0 : Int)) (by omega) (by rw [hlen]; omega) (by rw [hlen]; omega) (by omega) (by omega)
    obtain ⟨b2, p3, s3, u2, u3, ht2⟩ := oneN_ex hl n (m := 30) (p := p2) (s := s2) (by omega) (by omega) (by omega)
    rw [show ((0 : Nat) : Int) = 0 from rfl] at a4
    simp only [cond_false, a4, ht2]
    cases b2 with
    | true =>
      obtain ⟨x, p4, s4, x1, _, _, ht3⟩ := among_ex hl n (xs := [-1, 9, 10]) (p := p3) (s := s3) (by simp) (by simp) (by omega) (by omega)
      refine ⟨m'.set 0 x, p4, s4, by rw [List.length_set, a1, hlen]; omega, fun R k => ?_⟩
      rw [cond_true, ht3, a1, hlen, decide_eq_true (show (0 : Int) < ((B.toNat : Nat) : Int) by omega)]; rfl
    | false => exact ⟨m', p3, s3, by rw [a1, hlen]; omega, fun R k => rfl⟩
theorem tail_eq {R : Type} {n : Nat} {x : List Int} (hx : Bytes x) (hn : 100000 ≤ n) (k : Bool → Option R) : (spec_DrawFinishFrom n x fun r22 r23 r24 => (impl_FinishFrom n r22 r23 r24 fun r25 r26 => (spec_FinishFrom n r22 r23 r24 fun r27 r28 => (bif (r25 == r27) then (laws_sameInts n r26 r28 fun r29 => k r29) else k false)))) = k true := by
  obtain ⟨B, ss, p1, s1, ⟨⟨b1, b8, hl, h3⟩, _⟩, q0, q1, he⟩ := netS_ex hx (n := n) (by omega)
  obtain ⟨m, p2, s2, hm, hme⟩ := marking_ex hx (n := n) (by omega) b1 b8 ss (p := p1) (s := s1) q0 (by omega)
  unfold spec_DrawFinishFrom spec_DrawMarksFrom
  obtain ⟨b, rfl⟩ : ∃ b : Nat, B = (b : Int) := ⟨B.toNat, by omega⟩
  have h5 : ∀ s ∈ ss, s.1.length ≤ 500 ∧ s.2.length ≤ 500 := fun s hs => by have := h3 s hs; omega
  rw [he]
  simp only [hme]
  rw [impl_Finish (by omega) (by omega) h5 hm (by omega)]
  have sf := fun k => spec_Finish (R := R) (n := n) (B := b) (by omega) (ss := ss) (by omega) h5 hm (by omega) k
  simp only [sf]
  cases ho : okMk b ss m with
  | false =>
    rw [if_neg (by simp)]
    simp only [Bool.false_eq_true, if_false, beq_self_eq_true, cond_true]
    rw [laws_sameInts_eq (by simp) (by simp; omega), decide_eq_true rfl]
  | true =>
    rw [if_pos rfl]
    simp only [if_true]
    have hok := okMk_ok h5 ho
    cases hf : finO b ss m with
    | none =>
      simp only [beq_self_eq_true, cond_true]
      rw [laws_sameInts_eq (by simp) (by simp; omega), decide_eq_true rfl]
    | some p =>
      simp only [beq_self_eq_true, cond_true]
      have hpl : p.length ≤ 400 := by
        unfold finO at hf
        cases hb : bfsR ss m with
        | none => rw [hb] at hf; cases hf
        | some es =>
          rw [hb] at hf
          simp only at hf
          obtain ⟨hi, _, _⟩ := bfsR_ok hok.2.2.1 hok.2.2.2 hb
          by_cases c : oneM b (b - 1) ∈ msE es
          · rw [if_pos c] at hf
            obtain ⟨q, e, h1, h2, h3, h4⟩ := path_at hi c
            rw [h4] at hf
            cases hf
            have := path_len hi q q e (Nat.le_refl _) h2
            have := (List.getElem?_eq_some_iff.1 h2).1
            have := hi.len
            omega
          · rw [if_neg c] at hf; cases hf
      rw [laws_sameInts_eq (by omega) (by omega), decide_eq_true rfl]
theorem law {R : Type} {n : Nat} {x y : List Int} (hx : Bytes x) (hy : Bytes y) (hn : 100000 ≤ n) (k : Bool → Option R) : laws_FnSound n x y k = k true := by
  unfold laws_FnSound
  by_cases hc : IntKind.wrap .i64 ((x.length : Int) + (y.length : Int)) > 1048576
  · rw [decide_eq_true hc]; rfl
  rw [decide_eq_false hc, cond_false]
  obtain ⟨B, ss, p1, s1, ⟨⟨b1, b8, hl, h3⟩, hq⟩, q0, q1, he⟩ := netS_ex hx (n := n) (by omega)
  unfold spec_DrawIsSound spec_DrawGoodNet
  obtain ⟨b, rfl⟩ : ∃ b : Nat, B = (b : Int) := ⟨B.toNat, by omega⟩
  have h5 : ∀ s ∈ ss, s.1.length ≤ 500 ∧ s.2.length ≤ 500 := fun s hs => by have := h3 s hs; omega
  rw [he]
  simp only
  rw [impl_Sound (by omega) (by omega) h5 (by omega)]
  have sf := fun k => spec_Sound (R := R) (n := n) (B := b) (by omega) (ss := ss) (by omega) h5 (by omega) k
  have tl := tail_eq (R := R) hy hn k
  cases hs : sndO b ss with
  | none =>
    rw [hs] at sf
    simp only [sf, beq_self_eq_true, Bool.not_true, cond_false]
    exact tl
  | some v =>
    rw [hs] at sf
    simp only [sf, beq_self_eq_true, Bool.not_true, cond_false]
    cases v with
    | false => exact tl
    | true =>
      unfold sndO at hs
      by_cases hcnd : okNet (b : Int) ss = true ∧ 2 ≤ b
      case neg => rw [if_neg hcnd] at hs; cases hs
      rw [if_pos hcnd] at hs
      obtain ⟨ho, h2⟩ := hcnd
      obtain ⟨bb1, bb8, hl12, hss⟩ := okNet_in ho h5
      cases hb : bfsR ss (oneM b 0) with
      | none => rw [hb] at hs; cases hs
      | some es =>
        rw [hb] at hs
        have hsnd : sndB b ss (msE es) = true := Option.some.inj hs
        obtain ⟨hi, h0, hcl⟩ := bfsR_ok hss oneM_ok hb
        have hfew := few hq ho h5 h2 hb hsnd
        have hall := hsnd
        unfold sndB at hall
        simp only [Bool.and_eq_true] at hall
        have hfin : ∀ m ∈ msE es, ∃ e', bfsR ss m = some e' ∧ oneM b (b - 1) ∈ msE e' ∧ e'.length ≤ 200 := fun m hm => by
          have := List.all_eq_true.1 hall.1 m hm
          unfold sndM at this
          simp only [Bool.and_eq_true] at this
          obtain ⟨e', h1, _, h3⟩ := bfsR_sub hss oneM_ok hb hm
          rw [h1] at this
          exact ⟨e', h1, of_decide_eq_true this.2, by omega⟩
        have hne : 0 < ss.length := by
          rcases Nat.eq_zero_or_pos ss.length with h | h
          · exfalso
            have hnil := List.length_eq_zero_iff.1 h
            subst hnil
            obtain ⟨e', h1, h2', _⟩ := hfin _ h0
            obtain ⟨a1, a2, a3⟩ := bfsR_ok hss oneM_ok h1
            have := a1.T (T := fun m => m = oneM b 0) (fun m hm s hs => by cases hs) rfl _ h2'
            have h4 := congrArg (fun l : List Int => l.getD 0 0) this
            unfold oneM at h4
            simp only [getD_setN] at h4
            rw [if_neg (by omega), if_pos (by simp; omega), List.getD_eq_getElem?_getD, List.getElem?_replicate, if_pos (by omega)] at h4
            exact absurd h4 (by decide)
          · exact h
        simp only [cond_true]
        have hlen : (List.replicate (Int.toNat (b : Int)) (0 : Int)).length = b := by rw [List.length_replicate, Int.toNat_natCast]
        rw [dnn, decide_eq_true (Int.le_refl (b : Int)), decide_eq_true (show (b : Int) ≤ 1099511627776 by omega), hlen, decide_eq_true (show (0 : Int) < (b : Int) by omega)]
        simp only [cond_true]
        obtain ⟨xs, x1, x2, x3⟩ := l13_ex hy (b : Int) hne (by omega) ((List.replicate (Int.toNat (b : Int)) (0 : Int)).set 0 1) 40 n 0 [] (by omega) (by omega) rfl (fun v hv => by cases hv)
        rw [show ((0 : Nat) : Int) = 0 from rfl] at x3
        rw [x3]
        rw [show (List.replicate (Int.toNat (b : Int)) (0 : Int)).set 0 1 = oneM b 0 by rw [Int.toNat_natCast]; rfl]
        rw [impl_PlayNet_eq ho h5 (one_len b 0) oneM_ok.2 (by omega) x2 (by omega)]
        have hmx := play_T hcl xs (oneM b 0) 0 x2 h0
        generalize (playO ss xs (oneM b 0) 0).1 = m at hmx ⊢
        have hmk := hi.val m hmx
        obtain ⟨e', f1, f2, f3⟩ := hfin m hmx
        obtain ⟨hi', _, _⟩ := bfsR_ok hss hmk f1
        obtain ⟨q, e, g1, g2, g3, g4⟩ := path_at hi' f2
        have hrun := hi'.run e (mem_of_get g2)
        have hpl := path_len hi' q q e (Nat.le_refl _) g2
        have hqlt := (List.getElem?_eq_some_iff.1 g2).1
        have hokm : okMk b ss m = true := by
          unfold okMk
          rw [ho, decide_eq_true (show (m.length : Int) = (b : Int) by rw [hmk.1]), okM_iff.2 hmk.2]; rfl
        rw [impl_Finish (by omega) (by omega) h5 (by rw [hmk.1]; omega) (by omega), if_pos hokm]
        have hfo : finO b ss m = some e.2.2.2 := by
          unfold finO
          rw [f1]
          simp only
          rw [if_pos f2, g4]
        rw [hfo]
        simp only
        rw [impl_PlayNet_eq ho h5 hmk.1 hmk.2 (by omega) hrun.2 (by omega), play_run _ _ _ 0 hrun.1, g3]
        simp only [Bool.not_true, cond_false, Nat.zero_add, bne_self_eq_false]
        rw [wrapP bb1 bb8, dnn, one_len, decide_eq_true (show ((b - 1 : Nat) : Int) < (b : Int) by omega), decide_eq_true (show ((b - 1 : Nat) : Int) ≤ (b : Int) by omega), Int.toNat_natCast]
        have hlast : (oneM b (b - 1)).getD (b - 1) 0 = 1 := by
          unfold oneM
          rw [getD_setN, if_pos ⟨rfl, by simp; omega⟩]
        rw [hlast]
        simp only [cond_true, bne_self_eq_false, cond_false, List.drop_zero, Nat.sub_zero]
        have hz : ∀ v ∈ (oneM b (b - 1)).take (b - 1), v = 0 := fun v hv => by
          unfold oneM at hv
          rw [List.take_set, List.set_eq_of_length_le (by rw [List.length_take]; omega)] at hv
          exact List.eq_of_mem_replicate (List.mem_of_mem_take hv)
        have l22 := l22_eq (R := R) y (y := (oneM b (b - 1)).take (b - 1)) (by rw [List.length_take, one_len]; omega) hz (fun r20 => k r20) (fun r21 => (spec_DrawFinishFrom n r21 fun r22 r23 r24 => (impl_FinishFrom n r22 r23 r24 fun r25 r26 => (spec_FinishFrom n r22 r23 r24 fun r27 r28 => (bif (r25 == r27) then (laws_sameInts n r26 r28 fun r29 => k r29) else k false))))) n 0 (by rw [List.length_take, one_len]; omega) (by omega)
        rw [show ((0 : Nat) : Int) = 0 from rfl] at l22
        exact l22.trans tl
theorem plain : Plain := fun l m hl hm _ k => ⟨_, law (fun x hx => hl.2 x hx) (fun x hx => hm.2 x hx) (Nat.le_refl 100000) k⟩
end Go.Am.G
