/- The plain law: what the functions compute answers as the law says, for all arguments. -/
import Derived.Test.YtkbaenelfhakbaaDoorF4
set_option linter.unusedVariables false
set_option linter.unusedSimpArgs false
namespace Go.Am.G
open Go Go.Am
theorem wrap64 {x : Int} (h1 : -9223372036854775808 ≤ x) (h2 : x ≤ 9223372036854775807) : IntKind.wrap .i64 x = x := by
  simp only [IntKind.wrap, IntKind.signed, IntKind.bits]
  simp
  omega
theorem getD_at {α : Type} (l : List α) (d : α) {j : Nat} (h : j < l.length) : l.getD (Int.toNat (j : Int)) d = l[j] := by
  rw [Int.toNat_natCast, List.getD_eq_getElem?_getD, List.getElem?_eq_getElem h]; rfl
theorem dlt {a b : Nat} (h : a < b) : decide ((a : Int) < (b : Int)) = true := decide_eq_true (by omega)
theorem dge {a b : Nat} (h : b ≤ a) : decide ((a : Int) < (b : Int)) = false := decide_eq_false (by omega)
theorem dnn (a : Nat) : decide (0 ≤ (a : Int)) = true := decide_eq_true (by omega)
theorem wrapS {j m : Nat} (h : j < m) (hm : m ≤ 9223372036854775807) : IntKind.wrap .i64 ((j : Int) + 1) = ((j + 1 : Nat) : Int) := by
  rw [wrap64 (by omega) (by omega)]; rfl
theorem spec_l1In_eq {R : Type} (n : Nat) (x a b : Int) (k : Bool → Option R) : spec_l1In n x a b k = k (decide (a ≤ x ∧ x ≤ b)) := by
  simp only [spec_l1In]
  by_cases h : x ≥ a
  · have : a ≤ x := h
    simp [this]
  · have : ¬ a ≤ x := h
    simp [this]
theorem impl_in_eq {R : Type} (n : Nat) (x a b : Int) (k : Bool → Option R) : impl_in n x a b k = k (decide (a ≤ x ∧ x ≤ b)) := by
  simp only [impl_in]
  by_cases h : x ≥ a
  · have : a ≤ x := h
    simp [this]
  · have : ¬ a ≤ x := h
    simp [this]
theorem bifk {R α : Type} (b : Bool) (x y : α) (k : α → Option R) : (bif b then k x else k y) = k (bif b then x else y) := by cases b <;> rfl
theorem bl_loop (b : ByteArray) : ∀ (m i : Nat) (r : List UInt8), b.size - i ≤ m → ByteArray.toList.loop b i r = r.reverse ++ (b.data.toList.drop i) := by
  intro m
  induction m with
  | zero =>
    intro i r h
    unfold ByteArray.toList.loop
    have hl : b.data.toList.length = b.size := rfl
    rw [if_neg (by omega), List.drop_eq_nil_iff.2 (by omega), List.append_nil]
  | succ m ih =>
    intro i r h
    unfold ByteArray.toList.loop
    have hl : b.data.toList.length = b.size := rfl
    by_cases c : i < b.size
    · rw [if_pos c, ih _ _ (by omega), List.reverse_cons, List.append_assoc, List.drop_eq_getElem_cons (show i < b.data.toList.length by omega)]
      have : b.get! i = b.data.toList[i] := by
        show b.data[i]! = _
        rw [getElem!_pos b.data i c]; rfl
      rw [this]; rfl
    · rw [if_neg c, List.drop_eq_nil_iff.2 (by omega), List.append_nil]
theorem bl_data (b : ByteArray) : ByteArray.toList b = b.data.toList := by
  unfold ByteArray.toList
  rw [bl_loop b b.size 0 [] (by omega)]; rfl
def okB (b : UInt8) : Bool := (decide (97 ≤ (b.toNat : Int)) && decide ((b.toNat : Int) ≤ 122)) || (decide (48 ≤ (b.toNat : Int)) && decide ((b.toNat : Int) ≤ 57))
def goodN (s : ByteArray) : Bool := s.data.toList.all okB && decide ((s.size : Int) ≤ 12)
theorem byte_at (s : ByteArray) {j : Nat} (h : j < s.data.toList.length) : s.data.getD (Int.toNat (j : Int)) 0 = s.data.toList[j] := by
  rw [Int.toNat_natCast]
  have h' : j < s.size := h
  simp [Array.getD, h']
theorem spec_l1Name_loop {R : Type} (s : ByteArray) (hl : s.size ≤ 9223372036854775807) (kr : Bool → Option R) (ke : ByteArray → Option R) : ∀ (n j : Nat), s.size - j < n → j ≤ s.size → spec_l1Name_l2 n s (j : Int) kr ke = bif (s.data.toList.drop j).all okB then ke s else kr false
  | 0, _, h, _ => by omega
  | n + 1, j, hn, hj => by
    have hsz : s.data.toList.length = s.size := rfl
    rw [spec_l1Name_l2]
    by_cases h : j < s.size
    · have h' : j < s.data.toList.length := by omega
      have go := spec_l1Name_loop s hl kr ke n (j + 1) (by omega) (by omega)
      rw [dlt h, dnn, byte_at s h', wrapS h hl, List.drop_eq_getElem_cons h', List.all_cons, okB]
      simp only [cond_true, ge_iff_le]
      cases decide (97 ≤ (s.data.toList[j].toNat : Int)) with
      | true =>
        cases decide ((s.data.toList[j].toNat : Int) ≤ 122) with
        | true => exact go
        | false =>
          cases decide (48 ≤ (s.data.toList[j].toNat : Int)) with
          | false => rfl
          | true =>
            cases decide ((s.data.toList[j].toNat : Int) ≤ 57) with
            | false => rfl
            | true => exact go
      | false =>
        cases decide (48 ≤ (s.data.toList[j].toNat : Int)) with
        | false => rfl
        | true =>
          cases decide ((s.data.toList[j].toNat : Int) ≤ 57) with
          | false => rfl
          | true => exact go
    · rw [dge (by omega), List.drop_eq_nil_iff.2 (by omega)]; rfl
theorem spec_l1Name_eq {R : Type} {n : Nat} {s : ByteArray} (hl : s.size ≤ 9223372036854775807) (hn : s.size < n) (k : Bool → Option R) : spec_l1Name n s k = k (goodN s) := by
  unfold spec_l1Name goodN
  have := spec_l1Name_loop s hl (fun r1 => k r1) (fun r2 => k (decide ((r2.size : Int) ≤ 12))) n 0 (by omega) (by omega)
  rw [show ((0 : Nat) : Int) = 0 from rfl, List.drop_zero] at this
  rw [this]
  cases s.data.toList.all okB <;> rfl
def signs : List UInt8 := [97, 98, 99, 100, 101, 102, 103, 104, 105, 106, 107, 108, 109, 110, 111, 112, 113, 114, 115, 116, 117, 118, 119, 120, 121, 122, 48, 49, 50, 51, 52, 53, 54, 55, 56, 57]
theorem signs_ok : ∀ b : UInt8, signs.contains b = okB b := by
  have h : ∀ n : Nat, n < 256 → signs.contains (UInt8.ofNat n) = okB (UInt8.ofNat n) := by decide +kernel
  intro b
  have := h b.toNat b.toNat_lt
  rw [UInt8.ofNat_toNat] at this
  exact this
theorem dropW_nil {p : UInt8 → Bool} : ∀ {l : List UInt8}, l.dropWhile p = [] ↔ l.all p = true
  | [] => by simp
  | a :: l => by
    rw [List.dropWhile_cons, List.all_cons]
    cases p a with
    | true => simp only [if_true, Bool.true_and]; exact dropW_nil
    | false => simp
theorem dropW_all {p : UInt8 → Bool} : ∀ {l : List UInt8}, (l.dropWhile p).all p = l.all p
  | [] => rfl
  | a :: l => by
    rw [List.dropWhile_cons, List.all_cons]
    cases h : p a with
    | true => simp only [if_true, Bool.true_and]; exact dropW_all
    | false => simp [h]
theorem trimF_nil (l cs : List UInt8) : (trimF l cs = []) ↔ l.all (cs.contains ·) = true := by
  unfold trimF
  rw [dropW_nil, List.all_reverse, dropW_all, List.all_reverse]
theorem impl_goodName_eq {R : Type} {n : Nat} (s : ByteArray) (k : Bool → Option R) : impl_goodName n s k = k (goodN s) := by
  unfold impl_goodName goodN strings_Trim
  by_cases h : (s.size : Int) ≤ 12
  · rw [decide_eq_true h, cond_true, decide_eq_true (show s.size ≤ 9223372036854775807 by omega)]
    simp only [cond_true, Bool.and_true]
    rw [decide_eq_true (show (ByteArray.mk #[97, 98, 99, 100, 101, 102, 103, 104, 105, 106, 107, 108, 109, 110, 111, 112, 113, 114, 115, 116, 117, 118, 119, 120, 121, 122, 48, 49, 50, 51, 52, 53, 54, 55, 56, 57]).size < 4294967281 by decide)]
    change (bif signs.all (fun b => decide (b.toNat < 128)) then k (ByteArray.toList ⟨(trimF s.data.toList signs).toArray⟩ == ByteArray.toList ⟨#[]⟩) else none) = _
    rw [show signs.all (fun b => decide (b.toNat < 128)) = true by decide, cond_true]
    rw [bl_data, bl_data]
    congr 1
    have e : (ByteArray.mk (trimF s.data.toList signs).toArray).data.toList = trimF s.data.toList signs := by simp
    rw [e]
    have e2 : s.data.toList.all okB = s.data.toList.all (signs.contains ·) := by
      congr 1; funext b; exact (signs_ok b).symm
    rw [e2]
    have := trimF_nil s.data.toList signs
    cases h1 : s.data.toList.all (signs.contains ·) with
    | true => rw [this.2 h1]; rfl
    | false =>
      cases h2 : trimF s.data.toList signs with
      | nil => rw [this.1 h2] at h1; cases h1
      | cons a l => rfl
  · rw [decide_eq_false h, Bool.and_false]; rfl
def goodFrom : Int → Int → List (Int × Int) → Bool
  | _, _, [] => true
  | u, v, x :: r => decide (u < x.1 ∧ x.1 ≤ 1000 ∧ v < x.2 ∧ x.2 ≤ 1000000) && goodFrom x.1 x.2 r
def goodI (l : List (Int × Int)) : Bool := decide (l.length ≤ 20) && goodFrom 0 (-1) l
theorem getD_prev {α : Type} (l : List α) (d : α) {j : Nat} (hj : 0 < j) (h : j ≤ l.length) (hb : l.length ≤ 9223372036854775807) : IntKind.wrap .i64 ((j : Int) - 1) = ((j - 1 : Nat) : Int) := by
  rw [wrap64 (by omega) (by omega)]; omega
theorem spec_GoodItems_loop {R : Type} (l : List (Int × Int)) (hb : l.length ≤ 9223372036854775807) (kr : Bool → Option R) (ke : List (Int × Int) → Option R) : ∀ (n j : Nat) (u v : Int), l.length - j < n → j ≤ l.length → 0 ≤ u → -1 ≤ v →
    (j = 0 → u = 0 ∧ v = -1) → (∀ (h : j - 1 < l.length), 0 < j → l[j - 1] = (u, v)) →
    spec_GoodItems_l2 n l l (l.length : Int) (j : Int) kr ke = bif goodFrom u v (l.drop j) then ke l else kr false
  | 0, _, _, _, h, _, _, _, _, _ => by omega
  | n + 1, j, u, v, hn, hj, hu, hv, h0, h1 => by
    unfold spec_GoodItems_l2
    by_cases h : j < l.length
    · rw [dlt h, dnn, getD_at _ _ h, wrapS h hb, List.drop_eq_getElem_cons h]
      simp only [cond_true, spec_l1In_eq, goodFrom]
      have ih := spec_GoodItems_loop l hb kr ke n (j + 1) l[j].1 l[j].2 (by omega) (by omega)
      by_cases hz : j = 0
      · obtain ⟨rfl, rfl⟩ := h0 hz
        rw [decide_eq_false (show ¬ ((j : Int) > 0) by omega)]
        by_cases c1 : 1 ≤ l[j].1 ∧ l[j].1 ≤ 1000
        · by_cases c2 : 0 ≤ l[j].2 ∧ l[j].2 ≤ 1000000
          · rw [decide_eq_true c1, decide_eq_true c2, decide_eq_true (show 0 < l[j].1 ∧ l[j].1 ≤ 1000 ∧ -1 < l[j].2 ∧ l[j].2 ≤ 1000000 by omega)]
            simp only [Bool.not_true, cond_false, Bool.true_and]
            exact ih (by omega) (by omega) (by omega) (fun _ _ => rfl)
          · rw [decide_eq_true c1, decide_eq_false c2, decide_eq_false (show ¬ (0 < l[j].1 ∧ l[j].1 ≤ 1000 ∧ -1 < l[j].2 ∧ l[j].2 ≤ 1000000) by omega)]; rfl
        · rw [decide_eq_false c1, decide_eq_false (show ¬ (0 < l[j].1 ∧ l[j].1 ≤ 1000 ∧ -1 < l[j].2 ∧ l[j].2 ≤ 1000000) by omega)]; rfl
      · have hp : j - 1 < l.length := by omega
        have hq := h1 hp (by omega)
        rw [decide_eq_true (show ((j : Int) > 0) by omega), getD_prev l (0, 0) (by omega) (by omega) hb, dnn, dlt hp, getD_at _ _ hp, hq]
        simp only [cond_true]
        by_cases c1 : 1 ≤ l[j].1 ∧ l[j].1 ≤ 1000
        · by_cases c2 : 0 ≤ l[j].2 ∧ l[j].2 ≤ 1000000
          · rw [decide_eq_true c1, decide_eq_true c2]
            simp only [Bool.not_true, cond_false]
            by_cases c3 : u < l[j].1
            · by_cases c4 : v < l[j].2
              · rw [decide_eq_false (show ¬ (u ≥ l[j].1) by omega), decide_eq_false (show ¬ (v ≥ l[j].2) by omega), decide_eq_true (show u < l[j].1 ∧ l[j].1 ≤ 1000 ∧ v < l[j].2 ∧ l[j].2 ≤ 1000000 by omega)]
                simp only [cond_false, Bool.true_and]
                exact ih (by omega) (by omega) (by omega) (fun _ _ => rfl)
              · rw [decide_eq_false (show ¬ (u ≥ l[j].1) by omega), decide_eq_true (show (v ≥ l[j].2) by omega), decide_eq_false (show ¬ (u < l[j].1 ∧ l[j].1 ≤ 1000 ∧ v < l[j].2 ∧ l[j].2 ≤ 1000000) by omega)]; rfl
            · rw [decide_eq_true (show (u ≥ l[j].1) by omega), decide_eq_false (show ¬ (u < l[j].1 ∧ l[j].1 ≤ 1000 ∧ v < l[j].2 ∧ l[j].2 ≤ 1000000) by omega)]; rfl
          · rw [decide_eq_true c1, decide_eq_false c2, decide_eq_false (show ¬ (u < l[j].1 ∧ l[j].1 ≤ 1000 ∧ v < l[j].2 ∧ l[j].2 ≤ 1000000) by omega)]; rfl
        · rw [decide_eq_false c1, decide_eq_false (show ¬ (u < l[j].1 ∧ l[j].1 ≤ 1000 ∧ v < l[j].2 ∧ l[j].2 ≤ 1000000) by omega)]; rfl
    · rw [dge (by omega), List.drop_eq_nil_iff.2 (by omega)]; rfl
theorem spec_GoodItems_eq {R : Type} {n : Nat} {l : List (Int × Int)} (hb : l.length ≤ 9223372036854775807) (hn : l.length < n) (k : Bool → Option R) : spec_GoodItems n l k = k (goodI l) := by
  unfold spec_GoodItems
  have := spec_GoodItems_loop l hb k (fun r4 => k (decide ((r4.length : Int) ≤ 20))) n 0 0 (-1) (by omega) (by omega) (by omega) (by omega) (fun _ => ⟨rfl, rfl⟩) (fun _ h => by omega)
  rw [show ((0 : Nat) : Int) = 0 from rfl] at this
  rw [this, List.drop_zero, bifk]
  congr 1
  unfold goodI
  cases goodFrom 0 (-1) l with
  | true => simp only [cond_true, Bool.and_true]; apply decide_eq_decide.2; omega
  | false => simp
theorem impl_isVersion_eq {R : Type} (n : Nat) (x : Int) (k : Bool → Option R) : impl_isVersion n x k = k (decide (0 ≤ x ∧ x ≤ 1000000)) := by
  unfold impl_isVersion
  rw [impl_in_eq]
theorem impl_GoodItems_loop {R : Type} (l : List (Int × Int)) (hb : l.length ≤ 9223372036854775807) (kr : Bool → Option R) (ke : Option R) : ∀ (n j : Nat) (u v : Int), l.length - j < n → j ≤ l.length → 0 ≤ u → -1 ≤ v →
    (j = 0 → u = 0 ∧ v = -1) → (∀ (h : j - 1 < l.length), 0 < j → l[j - 1] = (u, v)) →
    impl_GoodItems_l4 n l l (l.length : Int) (j : Int) kr ke = bif goodFrom u v (l.drop j) then ke else kr false
  | 0, _, _, _, h, _, _, _, _, _ => by omega
  | n + 1, j, u, v, hn, hj, hu, hv, h0, h1 => by
    unfold impl_GoodItems_l4
    by_cases h : j < l.length
    · rw [dlt h, dnn, getD_at _ _ h, wrapS h hb, List.drop_eq_getElem_cons h]
      simp only [cond_true, impl_in_eq, impl_isVersion_eq, goodFrom]
      have ih := impl_GoodItems_loop l hb kr ke n (j + 1) l[j].1 l[j].2 (by omega) (by omega)
      by_cases hz : j = 0
      · obtain ⟨rfl, rfl⟩ := h0 hz
        rw [decide_eq_false (show ¬ ((j : Int) > 0) by omega)]
        by_cases c1 : 1 ≤ l[j].1 ∧ l[j].1 ≤ 1000
        · by_cases c2 : 0 ≤ l[j].2 ∧ l[j].2 ≤ 1000000
          · rw [decide_eq_true c1, decide_eq_true c2, decide_eq_true (show 0 < l[j].1 ∧ l[j].1 ≤ 1000 ∧ -1 < l[j].2 ∧ l[j].2 ≤ 1000000 by omega)]
            simp only [Bool.not_true, cond_false, Bool.true_and]
            exact ih (by omega) (by omega) (by omega) (fun _ _ => rfl)
          · rw [decide_eq_true c1, decide_eq_false c2, decide_eq_false (show ¬ (0 < l[j].1 ∧ l[j].1 ≤ 1000 ∧ -1 < l[j].2 ∧ l[j].2 ≤ 1000000) by omega)]; rfl
        · rw [decide_eq_false c1, decide_eq_false (show ¬ (0 < l[j].1 ∧ l[j].1 ≤ 1000 ∧ -1 < l[j].2 ∧ l[j].2 ≤ 1000000) by omega)]; rfl
      · have hp : j - 1 < l.length := by omega
        have hq := h1 hp (by omega)
        rw [decide_eq_true (show ((j : Int) > 0) by omega), getD_prev l (0, 0) (by omega) (by omega) hb, dnn, dlt hp, getD_at _ _ hp, hq]
        simp only [cond_true]
        by_cases c1 : 1 ≤ l[j].1 ∧ l[j].1 ≤ 1000
        · by_cases c2 : 0 ≤ l[j].2 ∧ l[j].2 ≤ 1000000
          · rw [decide_eq_true c1, decide_eq_true c2]
            simp only [Bool.not_true, cond_false]
            by_cases c3 : u < l[j].1
            · by_cases c4 : v < l[j].2
              · rw [decide_eq_false (show ¬ (l[j].1 ≤ u) by omega), decide_eq_false (show ¬ (l[j].2 ≤ v) by omega), decide_eq_true (show u < l[j].1 ∧ l[j].1 ≤ 1000 ∧ v < l[j].2 ∧ l[j].2 ≤ 1000000 by omega)]
                simp only [cond_false, Bool.true_and]
                exact ih (by omega) (by omega) (by omega) (fun _ _ => rfl)
              · rw [decide_eq_false (show ¬ (l[j].1 ≤ u) by omega), decide_eq_true (show (l[j].2 ≤ v) by omega), decide_eq_false (show ¬ (u < l[j].1 ∧ l[j].1 ≤ 1000 ∧ v < l[j].2 ∧ l[j].2 ≤ 1000000) by omega)]; rfl
            · rw [decide_eq_true (show (l[j].1 ≤ u) by omega), decide_eq_false (show ¬ (u < l[j].1 ∧ l[j].1 ≤ 1000 ∧ v < l[j].2 ∧ l[j].2 ≤ 1000000) by omega)]; rfl
          · rw [decide_eq_true c1, decide_eq_false c2, decide_eq_false (show ¬ (u < l[j].1 ∧ l[j].1 ≤ 1000 ∧ v < l[j].2 ∧ l[j].2 ≤ 1000000) by omega)]; rfl
        · rw [decide_eq_false c1, decide_eq_false (show ¬ (u < l[j].1 ∧ l[j].1 ≤ 1000 ∧ v < l[j].2 ∧ l[j].2 ≤ 1000000) by omega)]; rfl
    · rw [dge (by omega), List.drop_eq_nil_iff.2 (by omega)]; rfl
theorem impl_GoodItems_eq {R : Type} {n : Nat} {l : List (Int × Int)} (hb : l.length ≤ 9223372036854775807) (hn : l.length < n) (k : Bool → Option R) : impl_GoodItems n l k = k (goodI l) := by
  unfold impl_GoodItems
  have := impl_GoodItems_loop l hb k (k true) n 0 0 (-1) (by omega) (by omega) (by omega) (by omega) (fun _ => ⟨rfl, rfl⟩) (fun _ h => by omega)
  rw [show ((0 : Nat) : Int) = 0 from rfl] at this
  rw [this, List.drop_zero, bifk, bifk]
  congr 1
  unfold goodI
  by_cases h : l.length ≤ 20
  · rw [decide_eq_false (by omega), decide_eq_true h]
    cases goodFrom 0 (-1) l <;> rfl
  · rw [decide_eq_true (by omega), decide_eq_false h]
    cases goodFrom 0 (-1) l <;> rfl
/-- The last of items, by what it tells. -/
def lastI (l : List (Int × Int)) : Int × Int := l.getLast?.getD (0, 0)
theorem getD_last {l : List (Int × Int)} (h : l ≠ []) (hb : l.length ≤ 9223372036854775807) : l.getD (Int.toNat (IntKind.wrap .i64 ((l.length : Int) - 1))) (0, 0) = lastI l := by
  have := List.length_pos_iff.2 h
  rw [wrap64 (by omega) (by omega), show (l.length : Int) - 1 = ((l.length - 1 : Nat) : Int) by omega, getD_at _ _ (by omega), ← List.getLast_eq_getElem h]
  rw [lastI, List.getLast?_eq_some_getLast h]; rfl
theorem dlast {l : List (Int × Int)} (h : l ≠ []) (hb : l.length ≤ 9223372036854775807) : decide (0 ≤ IntKind.wrap .i64 ((l.length : Int) - 1)) = true ∧ decide (IntKind.wrap .i64 ((l.length : Int) - 1) < (l.length : Int)) = true := by
  have := List.length_pos_iff.2 h
  rw [wrap64 (by omega) (by omega)]
  exact ⟨decide_eq_true (by omega), decide_eq_true (by omega)⟩
theorem len0 {l : List (Int × Int)} (h : l ≠ []) : ((l.length : Int) == 0) = false := by
  have := List.length_pos_iff.2 h
  simp; omega
theorem impl_last_eq {R : Type} {n : Nat} {l : List (Int × Int)} (hb : l.length ≤ 9223372036854775807) (k : Int → Option R) : impl_last n l k = k (lastI l).1 := by
  unfold impl_last
  by_cases h : l = []
  · subst h; rfl
  · rw [len0 h, (dlast h hb).1, (dlast h hb).2, getD_last h hb]; rfl
theorem impl_lastVersion_eq {R : Type} {n : Nat} {l : List (Int × Int)} (hb : l.length ≤ 9223372036854775807) (k : Int → Option R) : impl_lastVersion n l k = k (lastI l).2 := by
  unfold impl_lastVersion
  by_cases h : l = []
  · subst h; rfl
  · rw [len0 h, (dlast h hb).1, (dlast h hb).2, getD_last h hb]; rfl
/-- The version of an id. -/
def atV (l : List (Int × Int)) (id : Int) : Option Int := (l.find? fun x => decide (id ≤ x.1)).map (·.2)
theorem impl_indexFunc_loop {R : Type} (l : List (Int × Int)) (hb : l.length ≤ 9223372036854775807) (id : Int) (kr : Int → Int → Option R) (ke : Int → Option R) (k : Int → Option R) (hk : ∀ i : Nat, ∀ h : i < l.length, kr i id = k l[i].2) : ∀ (n j : Nat), l.length - j < n → j ≤ l.length →
    slices_IndexFunc_impl_Item_impl_versionAt_c1_l2 n l (l.length : Int) (j : Int) id kr ke = match atV (l.drop j) id with | some v => k v | none => ke id
  | 0, _, h, _ => by omega
  | n + 1, j, hn, hj => by
    unfold slices_IndexFunc_impl_Item_impl_versionAt_c1_l2
    by_cases h : j < l.length
    · rw [dlt h, dnn, getD_at _ _ h, wrapS h hb, List.drop_eq_getElem_cons h]
      simp only [cond_true, atV, List.find?_cons, impl_versionAt_c1]
      by_cases c : id ≤ l[j].1
      · rw [decide_eq_true c, cond_true]
        exact hk j h
      · rw [decide_eq_false c]
        exact impl_indexFunc_loop l hb id kr ke k hk n (j + 1) (by omega) (by omega)
    · rw [dge (by omega), List.drop_eq_nil_iff.2 (by omega)]; rfl
theorem impl_versionAt_eq {R : Type} {n : Nat} {l : List (Int × Int)} (hb : l.length ≤ 9223372036854775807) (hn : l.length < n) {id v : Int} (hv : atV l id = some v) (k : Int → Option R) : impl_versionAt n l id k = k v := by
  unfold impl_versionAt slices_IndexFunc_impl_Item_impl_versionAt_c1
  have := impl_indexFunc_loop (R := R) l hb id (fun r1 _ => bif decide (0 ≤ r1) then (bif decide (r1 < (l.length : Int)) then k ((l.getD (Int.toNat r1) (0, 0)).2) else none) else none)
    (fun _ => none) k (fun i h => by rw [dnn, dlt h, getD_at _ _ h]; rfl) n 0 (by omega) (by omega)
  rw [show ((0 : Nat) : Int) = 0 from rfl, List.drop_zero, hv] at this
  exact this
theorem atV_last {l : List (Int × Int)} {id : Int} (h0 : l ≠ []) (h : id ≤ (lastI l).1) : ∃ v, atV l id = some v := by
  have : (l.find? fun x => decide (id ≤ x.1)).isSome := by
    rw [List.find?_isSome]
    refine ⟨l.getLast h0, List.getLast_mem h0, ?_⟩
    rw [lastI, List.getLast?_eq_some_getLast h0] at h
    exact decide_eq_true h
  obtain ⟨x, hx⟩ := Option.isSome_iff_exists.1 this
  exact ⟨x.2, by rw [atV, hx]; rfl⟩
theorem atV_in {l : List (Int × Int)} {id : Int} (h : 1 ≤ id ∧ id ≤ (lastI l).1) : ∃ v, atV l id = some v := by
  refine atV_last (fun h0 => ?_) h.2
  subst h0
  have := h.2
  simp [lastI] at this
  omega
theorem spec_l11Last_eq {R : Type} {n : Nat} {l : List (Int × Int)} (hb : l.length ≤ 9223372036854775807) (k : Int → Option R) : spec_l11Last n l k = k (lastI l).1 := by
  unfold spec_l11Last
  by_cases h : l = []
  · subst h; rfl
  · rw [len0 h, (dlast h hb).1, (dlast h hb).2, getD_last h hb]; rfl
theorem goodFrom_bounds : ∀ {l : List (Int × Int)} {u v : Int}, goodFrom u v l = true → ∀ x ∈ l, u < x.1 ∧ x.1 ≤ 1000 ∧ v < x.2 ∧ x.2 ≤ 1000000
  | [], _, _, _, x, hx => by simp at hx
  | y :: r, u, v, h, x, hx => by
    simp only [goodFrom, Bool.and_eq_true, decide_eq_true_eq] at h
    rcases List.mem_cons.1 hx with rfl | hx
    · exact h.1
    · have := goodFrom_bounds h.2 x hx
      omega
theorem goodI_len {l : List (Int × Int)} (h : goodI l = true) : l.length ≤ 20 := by
  simp only [goodI, Bool.and_eq_true, decide_eq_true_eq] at h
  exact h.1
theorem goodI_mem {l : List (Int × Int)} (h : goodI l = true) {x : Int × Int} (hx : x ∈ l) : 1 ≤ x.1 ∧ x.1 ≤ 1000 ∧ 0 ≤ x.2 ∧ x.2 ≤ 1000000 := by
  simp only [goodI, Bool.and_eq_true, decide_eq_true_eq] at h
  have := goodFrom_bounds h.2 x hx
  omega
theorem lastI_le {l : List (Int × Int)} (h : goodI l = true) : 0 ≤ (lastI l).1 ∧ (lastI l).1 ≤ 1000 := by
  unfold lastI
  cases h0 : l.getLast? with
  | none => simp
  | some x =>
    have := goodI_mem h (List.mem_of_getLast? h0)
    simp only [Option.getD_some]
    omega
/-- From an id on, the last one up to which two tell the same versions; j is how far it can be. -/
def lcaFrom (a b : List (Int × Int)) : Nat → Int → Int
  | 0, id => id
  | j + 1, id => if id < (lastI a).1 ∧ id < (lastI b).1 ∧ atV a (id + 1) = atV b (id + 1) then lcaFrom a b j (id + 1) else id
theorem impl_common_loop {R : Type} {a b : List (Int × Int)} (ha : goodI a = true) (hb : goodI b = true) (k : Int → Option R) : ∀ (n j : Nat) (id : Int), j + 50 ≤ n → 0 ≤ id → id + j = 1001 → id ≤ 1000 → impl_common_l2 n a b id k = k (lcaFrom a b j id)
  | 0, _, _, h, _, _, _ => by omega
  | n + 1, 0, id, hn, h0, h1, h2 => by omega
  | n + 1, j + 1, id, hn, h0, h1, h2 => by
    have la := goodI_len ha
    have lb := goodI_len hb
    have b1 := lastI_le ha
    have b2 := lastI_le hb
    unfold impl_common_l2 lcaFrom
    simp only [impl_last_eq (show a.length ≤ 9223372036854775807 by omega), impl_last_eq (show b.length ≤ 9223372036854775807 by omega)]
    by_cases c1 : id < (lastI a).1 ∧ id < (lastI b).1
    · have c1' : id < (if (lastI b).1 < (lastI a).1 then (lastI b).1 else (lastI a).1) := by split <;> omega
      rw [decide_eq_true c1']
      obtain ⟨v, hv⟩ := atV_in (l := a) (id := id + 1) (by omega)
      obtain ⟨u, hu⟩ := atV_in (l := b) (id := id + 1) (by omega)
      rw [wrap64 (by omega) (by omega)]
      simp only [cond_true, impl_versionAt_eq (show a.length ≤ 9223372036854775807 by omega) (show a.length < n by omega) hv, impl_versionAt_eq (show b.length ≤ 9223372036854775807 by omega) (show b.length < n by omega) hu]
      rw [hv, hu]
      by_cases c3 : v = u
      · rw [if_pos ⟨c1.1, c1.2, by rw [c3]⟩, beq_iff_eq.2 c3, cond_true]
        by_cases c4 : id = 1000
        · omega
        · exact impl_common_loop ha hb k n j (id + 1) (by omega) (by omega) (by omega) (by omega)
      · rw [if_neg fun h => c3 (Option.some.inj h.2.2), beq_eq_false_iff_ne.2 c3, cond_false]
    · have c1' : ¬ id < (if (lastI b).1 < (lastI a).1 then (lastI b).1 else (lastI a).1) := by split <;> omega
      rw [decide_eq_false c1', if_neg fun h => c1 ⟨h.1, h.2.1⟩]; rfl
theorem impl_common_eq {R : Type} {a b : List (Int × Int)} (ha : goodI a = true) (hb : goodI b = true) {n : Nat} (hn : 1100 ≤ n) (k : Int → Option R) : impl_common n a b k = k (lcaFrom a b 1001 0) := by
  unfold impl_common
  exact impl_common_loop ha hb k n 1001 0 (by omega) (by omega) (by omega) (by omega)
/-- Items that are cut: what is told behind the last id falls away. -/
def cutF (upto : Int) : Int → List (Int × Int) → List (Int × Int)
  | _, [] => []
  | u, x :: r => if u < upto then (if upto < x.1 then (upto, x.2) :: cutF upto upto r else x :: cutF upto x.1 r) else []
theorem cutF_stop {upto : Int} : ∀ r, cutF upto upto r = []
  | [] => rfl
  | x :: r => by unfold cutF; rw [if_neg (by omega)]
theorem lastI_snoc (l : List (Int × Int)) (x : Int × Int) : lastI (l ++ [x]) = x := by simp [lastI]
theorem cutF_length {upto : Int} : ∀ (r : List (Int × Int)) (u : Int), (cutF upto u r).length ≤ r.length
  | [], _ => by simp [cutF]
  | x :: r, u => by
    have h1 := cutF_length (upto := upto) r upto
    have h2 := cutF_length (upto := upto) r x.1
    unfold cutF
    split
    · split <;> simp <;> omega
    · simp
theorem spec_l11Cut_loop {R : Type} {l : List (Int × Int)} (hl : l.length ≤ 9223372036854775807) (upto : Int) (k : List (Int × Int) → Option R) : ∀ (n j : Nat) (v : Int) (out : List (Int × Int)), l.length - j < n → j ≤ l.length → out.length ≤ j → out.length + (l.length - j) ≤ 1000000 → (lastI out).1 ≤ upto → goodFrom (lastI out).1 v (l.drop j) = true →
    spec_l11Cut_l3 n upto l (l.length : Int) (j : Int) out k = k (out ++ cutF upto (lastI out).1 (l.drop j))
  | 0, _, _, _, h, _, _, _, _, _ => by omega
  | n + 1, j, v, out, hn, hj, ho, ho2, hu, hg => by
    unfold spec_l11Cut_l3
    by_cases h : j < l.length
    · rw [List.drop_eq_getElem_cons h] at hg ⊢
      simp only [goodFrom, Bool.and_eq_true, decide_eq_true_eq] at hg
      rw [dlt h, dnn, getD_at _ _ h, wrapS h hl]
      simp only [cond_true, spec_l11Last_eq (show out.length ≤ 9223372036854775807 by omega)]
      unfold cutF
      by_cases c : (lastI out).1 = upto
      · rw [beq_iff_eq.2 c, if_neg (by omega)]; simp
      · rw [beq_eq_false_iff_ne.2 c, if_pos (by omega), cond_false, decide_eq_true (show out.length + [(upto, l[j].2)].length ≤ LIM by simp [LIM]; omega), decide_eq_true (show out.length + [(l[j].1, l[j].2)].length ≤ LIM by simp [LIM]; omega)]
        by_cases c2 : upto < l[j].1
        · rw [decide_eq_true (show l[j].1 > upto by omega), if_pos c2, cond_true, cond_true]
          cases n with
          | zero => omega
          | succ n =>
            unfold spec_l11Cut_l3
            by_cases h' : j + 1 < l.length
            · rw [dlt h', dnn, cond_true, cond_true, cond_true, spec_l11Last_eq (by simp; omega), lastI_snoc, beq_self_eq_true, cond_true, cutF_stop]
            · rw [dge (by omega), cond_false, cutF_stop]
        · rw [decide_eq_false (show ¬ l[j].1 > upto by omega), if_neg c2, cond_false, cond_true]
          have := spec_l11Cut_loop hl upto k n (j + 1) l[j].2 (out ++ [(l[j].1, l[j].2)]) (by omega) (by omega) (by simp; omega) (by simp; omega) (by rw [lastI_snoc]; exact Int.not_lt.1 c2) (by rw [lastI_snoc]; exact hg.2)
          rw [this, lastI_snoc]
          simp
    · rw [dge (by omega), List.drop_eq_nil_iff.2 (by omega)]
      simp [cutF]
theorem impl_cut_loop {R : Type} {l : List (Int × Int)} (hl : l.length ≤ 9223372036854775807) (upto : Int) (k : List (Int × Int) → Option R) : ∀ (n j : Nat) (v : Int) (out : List (Int × Int)), l.length - j < n → j ≤ l.length → out.length ≤ j → out.length + (l.length - j) ≤ 1000000 → (lastI out).1 ≤ upto → ((lastI out).1 = upto ∨ goodFrom (lastI out).1 v (l.drop j) = true) →
    impl_CutItems_l5 n upto l (l.length : Int) (j : Int) out k = k (out ++ cutF upto (lastI out).1 (l.drop j))
  | 0, _, _, _, h, _, _, _, _, _ => by omega
  | n + 1, j, v, out, hn, hj, ho, ho2, hu, hg => by
    unfold impl_CutItems_l5
    by_cases h : j < l.length
    · rw [List.drop_eq_getElem_cons h] at hg ⊢
      rw [dlt h, dnn, getD_at _ _ h, wrapS h hl]
      simp only [cond_true, impl_last_eq (show out.length ≤ 9223372036854775807 by omega)]
      by_cases c : (lastI out).1 = upto
      · rw [decide_eq_false (by omega), cond_false, impl_cut_loop hl upto k n (j + 1) 0 out (by omega) (by omega) (by omega) (by omega) hu (.inl c), c, cutF_stop, cutF_stop]
      · have hg := hg.resolve_left c
        simp only [goodFrom, Bool.and_eq_true, decide_eq_true_eq] at hg
        unfold cutF
        rw [decide_eq_true (show (lastI out).1 < upto by omega), if_pos (show (lastI out).1 < upto by omega), cond_true]
        by_cases c2 : upto < l[j].1
        · rw [if_pos c2, if_pos c2, decide_eq_true (by simp [LIM]; omega), cond_true,
            impl_cut_loop hl upto k n (j + 1) 0 (out ++ [(upto, l[j].2)]) (by omega) (by omega) (by simp; omega) (by simp; omega) (by rw [lastI_snoc]; exact Int.le_refl _) (.inl (by rw [lastI_snoc])), lastI_snoc]
          simp
        · rw [if_neg c2, if_neg c2, decide_eq_true (by simp [LIM]; omega), cond_true,
            impl_cut_loop hl upto k n (j + 1) l[j].2 (out ++ [(l[j].1, l[j].2)]) (by omega) (by omega) (by simp; omega) (by simp; omega) (by rw [lastI_snoc]; exact Int.not_lt.1 c2) (.inr (by rw [lastI_snoc]; exact hg.2)), lastI_snoc]
          simp
    · rw [dge (by omega), List.drop_eq_nil_iff.2 (by omega)]
      simp [cutF]
theorem goodI_from {l : List (Int × Int)} (h : goodI l = true) : goodFrom 0 (-1) l = true := by
  simp only [goodI, Bool.and_eq_true] at h
  exact h.2
theorem spec_l11Cut_eq {R : Type} {l : List (Int × Int)} (hg : goodI l = true) {upto : Int} (hu : 0 ≤ upto) {n : Nat} (hn : 100 ≤ n) (k : List (Int × Int) → Option R) : spec_l11Cut n l upto k = k (cutF upto 0 l) := by
  have hl := goodI_len hg
  unfold spec_l11Cut
  exact spec_l11Cut_loop (by omega) upto k n 0 (-1) [] (by omega) (by omega) (by simp) (by simp; omega) (by simpa [lastI] using hu) (by simpa [lastI] using goodI_from hg)
theorem impl_CutItems_eq {R : Type} {l : List (Int × Int)} (upto : Int) {n : Nat} (hn : 1048700 ≤ n) (hl : l.length ≤ 1048576) (k : Bool → List (Int × Int) → Option R) : impl_CutItems n l upto k = if goodI l = true ∧ 0 ≤ upto ∧ upto ≤ (lastI l).1 then k true (cutF upto 0 l) else k false [] := by
  unfold impl_CutItems
  rw [impl_GoodItems_eq (by omega) (by omega)]
  cases hg : goodI l with
  | false => simp
  | true =>
    have hl := goodI_len hg
    rw [impl_last_eq (by omega), impl_in_eq]
    by_cases c : 0 ≤ upto ∧ upto ≤ (lastI l).1
    · rw [decide_eq_true c, if_pos ⟨rfl, c⟩]
      simp only [Bool.not_true, cond_false]
      exact impl_cut_loop (by omega) upto (k true) n 0 (-1) [] (by omega) (by omega) (by simp) (by simp; omega) (by simpa [lastI] using c.1) (.inr (by simpa [lastI] using goodI_from hg))
    · rw [decide_eq_false c, if_neg fun h => c h.2]
      simp
abbrev Ev := Int × Int × Int × ByteArray
def goodEv (e : Ev) : Bool := decide (1 ≤ e.1 ∧ e.1 ≤ 1000) && (decide (0 ≤ e.2.1 ∧ e.2.1 ≤ 1000000) && (decide (1 ≤ e.2.2.1 ∧ e.2.2.1 ≤ 6) && goodN e.2.2.2))
theorem spec_GoodEvent_eq {R : Type} {n : Nat} (a b c : Int) (s : ByteArray) (hs : s.size ≤ 1048576) (hn : 2000000 ≤ n) (k : Bool → Option R) : spec_GoodEvent n a b c s k = k (goodEv (a, b, c, s)) := by
  unfold spec_GoodEvent goodEv
  simp only [spec_l1In_eq, spec_l1Name_eq (show s.size ≤ 9223372036854775807 by omega) (show s.size < n by omega)]
  cases decide (1 ≤ a ∧ a ≤ 1000) <;> cases decide (0 ≤ b ∧ b ≤ 1000000) <;> cases decide (1 ≤ c ∧ c ≤ 6) <;> rfl
theorem impl_GoodEvent_eq {R : Type} (n : Nat) (a b c : Int) (s : ByteArray) (k : Bool → Option R) : impl_GoodEvent n a b c s k = k (goodEv (a, b, c, s)) := by
  unfold impl_GoodEvent goodEv impl_goodKind
  simp only [impl_in_eq, impl_isVersion_eq, impl_goodName_eq]
  cases decide (1 ≤ a ∧ a ≤ 1000) <;> cases decide (0 ≤ b ∧ b ≤ 1000000) <;> cases decide (1 ≤ c ∧ c ≤ 6) <;> rfl
def appI (out : List (Int × Int)) (id v : Int) : List (Int × Int) := if out ≠ [] ∧ (lastI out).2 = v then out.set (out.length - 1) (id, (lastI out).2) else out ++ [(id, v)]
theorem appI_len (out : List (Int × Int)) (id v : Int) : out.length ≤ (appI out id v).length ∧ (appI out id v).length ≤ out.length + 1 := by
  unfold appI
  split <;> simp
theorem wlast {l : List (Int × Int)} (h : l ≠ []) (hb : l.length ≤ 2000000) : Int.toNat (IntKind.wrap .i64 ((l.length : Int) - 1)) = l.length - 1 := by
  have := List.length_pos_iff.2 h
  rw [wrap64 (by omega) (by omega)]; omega
theorem spec_l11Append_eq {R : Type} {n : Nat} {out : List (Int × Int)} (hl : out.length ≤ 2000000) (id v : Int) (k : List (Int × Int) → Option R) : spec_l11Append n out id v k = k (appI out id v) := by
  unfold spec_l11Append appI
  rw [List.nil_append, decide_eq_true (show ([] : List (Int × Int)).length + out.length ≤ LIM by simp [LIM]; omega), decide_eq_true (show out.length + [(id, v)].length ≤ LIM by simp [LIM]; omega)]
  by_cases h : out = []
  · subst h
    rw [decide_eq_false (show ¬ IntKind.wrap .i64 (((([] : List (Int × Int)).length : Nat) : Int) - 1) ≥ 0 by rw [wrap64 (by simp) (by simp)]; simp)]
    simp
  · have hp := List.length_pos_iff.2 h
    obtain ⟨d1, d2⟩ := dlast h (show out.length ≤ 9223372036854775807 by omega)
    rw [getD_last h (by omega), d2, wlast h hl, decide_eq_true (show IntKind.wrap .i64 ((out.length : Int) - 1) ≥ 0 by rw [wrap64 (by omega) (by omega)]; omega)]
    simp only [cond_true]
    by_cases h2 : (lastI out).2 = v
    · rw [if_pos ⟨h, h2⟩, show ((lastI out).2 == v) = true by simpa using h2]; rfl
    · rw [if_neg (fun h3 => h2 h3.2), show ((lastI out).2 == v) = false by simpa using h2]; rfl
theorem impl_appended_eq {R : Type} {n : Nat} {out : List (Int × Int)} (hg : goodI out = true) (hn : 1000 ≤ n) (id v : Int) (k : Bool → List (Int × Int) → Option R) :
    impl_appended n out id v k = if id = (lastI out).1 + 1 ∧ (lastI out).2 ≤ v ∧ 0 ≤ v ∧ v ≤ 1000000 then k (goodI (appI out id v)) (appI out id v) else k false [] := by
  have hl := goodI_len hg
  have hla := lastI_le hg
  unfold impl_appended slices_Clone_impl_Item
  simp only [impl_last_eq (show out.length ≤ 9223372036854775807 by omega), impl_lastVersion_eq (show out.length ≤ 9223372036854775807 by omega), impl_isVersion_eq, wrap64 (x := (lastI out).1 + 1) (by omega) (by omega)]
  by_cases h1 : id = (lastI out).1 + 1
  case neg => rw [show (id != (lastI out).1 + 1) = true by simpa using h1, if_neg (fun h => h1 h.1)]; rfl
  by_cases h2 : v < (lastI out).2
  · rw [show (id != (lastI out).1 + 1) = false by simpa using h1, decide_eq_true h2, if_neg (fun h => by omega)]; rfl
  by_cases h3 : 0 ≤ v ∧ v ≤ 1000000
  case neg => rw [show (id != (lastI out).1 + 1) = false by simpa using h1, decide_eq_false h2, decide_eq_false h3, if_neg (fun h => h3 h.2.2)]; rfl
  rw [show (id != (lastI out).1 + 1) = false by simpa using h1, decide_eq_false h2, decide_eq_true h3, if_pos ⟨h1, by omega, h3⟩, decide_eq_true (show 0 + out.length ≤ LIM by simp [LIM]; omega), decide_eq_true (show out.length + [(id, v)].length ≤ LIM by simp [LIM]; omega)]
  simp only [Bool.not_true, cond_false, cond_true]
  have hal := appI_len out id v
  by_cases h : out = []
  · subst h
    have e : appI [] id v = [] ++ [(id, v)] := by simp [appI]
    rw [e]
    show (bif false then _ else impl_GoodItems n ([] ++ [(id, v)]) fun r8 => k r8 ([] ++ [(id, v)])) = _
    rw [cond_false, impl_GoodItems_eq (by simp) (by simp; omega)]
  · have hp := List.length_pos_iff.2 h
    obtain ⟨d1, d2⟩ := dlast h (show out.length ≤ 9223372036854775807 by omega)
    rw [decide_eq_true (show (out.length : Int) > 0 by omega), d1, d2, getD_last h (by omega), wlast h (by omega), cond_true]
    by_cases h4 : v = (lastI out).2
    · have e : appI out id v = out.set (out.length - 1) (id, (lastI out).2) := by unfold appI; rw [if_pos ⟨h, h4.symm⟩]
      rw [show (v == (lastI out).2) = true by simpa using h4, e]
      simp only [cond_true]
      rw [impl_GoodItems_eq (by simp; omega) (by simp; omega)]
    · have e : appI out id v = out ++ [(id, v)] := by unfold appI; rw [if_neg (fun h5 => h4 h5.2.symm)]
      rw [show (v == (lastI out).2) = false by simpa using h4, e]
      simp only [cond_false]
      rw [impl_GoodItems_eq (by simp; omega) (by simp; omega)]
theorem set_lastE {α : Type} (a : List α) (y x : α) : (a ++ [y]).set ((a ++ [y]).length - 1) x = a ++ [x] := by
  rw [List.set_append_right _ _ (by simp)]
  simp
def lastP (u v : Int) (l : List (Int × Int)) : Int × Int := if l = [] then (u, v) else lastI l
theorem goodFrom_snoc (x : Int × Int) : ∀ (l : List (Int × Int)) (u v : Int), goodFrom u v (l ++ [x]) = (goodFrom u v l && decide ((lastP u v l).1 < x.1 ∧ x.1 ≤ 1000 ∧ (lastP u v l).2 < x.2 ∧ x.2 ≤ 1000000))
  | [], u, v => by simp [goodFrom, lastP]
  | y :: l, u, v => by
    have ih := goodFrom_snoc x l y.1 y.2
    have e : lastP u v (y :: l) = lastP y.1 y.2 l := by
      unfold lastP
      rw [if_neg (by simp)]
      cases l with
      | nil => simp [lastI]
      | cons z l => simp [lastI]
    rw [List.cons_append, goodFrom, ih, goodFrom, e, Bool.and_assoc]
def evAt (l : List Ev) (j : Nat) : Ev := l.getD j (0, (0, (0, ByteArray.empty)))
theorem evAt_at (l : List Ev) {j : Nat} (h : j < l.length) : evAt l j = l[j] := by
  unfold evAt; rw [List.getD_eq_getElem?_getD, List.getElem?_eq_getElem h]; rfl
def stepOk (l : List Ev) (j : Nat) : Bool := goodEv (evAt l j) && (decide ((evAt l j).1 = (j : Int) + 1) && (decide (j = 0) || decide ((evAt l (j - 1)).2.1 ≤ (evAt l j).2.1)))
def itF (l : List Ev) : Nat → Nat → List (Int × Int) → Option (List (Int × Int))
  | 0, _, out => some out
  | c + 1, j, out => if stepOk l j = true then itF l c (j + 1) (appI out (evAt l j).1 (evAt l j).2.1) else none
theorem itF_len {l : List Ev} : ∀ {c j : Nat} {out o : List (Int × Int)}, itF l c j out = some o → out.length ≤ o.length
  | 0, _, _, _, h => by cases h; exact Nat.le_refl _
  | c + 1, j, out, o, h => by
    unfold itF at h
    split at h
    · exact Nat.le_trans (appI_len _ _ _).1 (itF_len h)
    · cases h
structure InvI (l : List Ev) (j : Nat) (out : List (Int × Int)) : Prop where
  from' : goodFrom 0 (-1) out = true
  z : j = 0 → out = []
  s : 0 < j → out ≠ [] ∧ lastI out = ((j : Int), (evAt l (j - 1)).2.1)
theorem InvI.step {l : List Ev} {j : Nat} {out : List (Int × Int)} (h : InvI l j out) (hs : stepOk l j = true) : InvI l (j + 1) (appI out (evAt l j).1 (evAt l j).2.1) := by
  simp only [stepOk, Bool.and_eq_true, decide_eq_true_eq, Bool.or_eq_true, goodEv] at hs
  obtain ⟨⟨h1, h2, _⟩, h3, h4⟩ := hs
  have mk : ∀ o : List (Int × Int), goodFrom 0 (-1) o = true → o ≠ [] → lastI o = ((j : Int) + 1, (evAt l j).2.1) → InvI l (j + 1) o := fun o a b c => ⟨a, fun h => by omega, fun _ => ⟨b, by rw [c]; simp⟩⟩
  by_cases hj : j = 0
  · have e := h.z hj
    subst e
    have e2 : appI [] (evAt l j).1 (evAt l j).2.1 = [((evAt l j).1, (evAt l j).2.1)] := by simp [appI]
    rw [e2]
    refine mk _ ?_ (by simp) (by simp [lastI, h3])
    simp only [goodFrom, Bool.and_true, decide_eq_true_eq]
    omega
  · obtain ⟨hne, hla⟩ := h.s (by omega)
    have h5 : (evAt l (j - 1)).2.1 ≤ (evAt l j).2.1 := h4.resolve_left hj
    by_cases h6 : (lastI out).2 = (evAt l j).2.1
    · have e2 : appI out (evAt l j).1 (evAt l j).2.1 = out.set (out.length - 1) ((evAt l j).1, (lastI out).2) := by unfold appI; rw [if_pos ⟨hne, h6⟩]
      have e3 : out = out.dropLast ++ [lastI out] := by
        unfold lastI
        rw [List.getLast?_eq_some_getLast hne]
        exact (List.dropLast_concat_getLast hne).symm
      have hp := List.length_pos_iff.2 hne
      have e4 : out.set (out.length - 1) ((evAt l j).1, (lastI out).2) = out.dropLast ++ [((evAt l j).1, (lastI out).2)] := by
        have := set_lastE out.dropLast (lastI out) ((evAt l j).1, (lastI out).2)
        rw [← e3] at this
        exact this
      have hf := h.from'
      rw [e3, goodFrom_snoc, Bool.and_eq_true, decide_eq_true_eq] at hf
      rw [e2, e4]
      refine mk _ ?_ (by simp) (by simp [lastI_snoc, h3, h6])
      rw [goodFrom_snoc, hf.1, Bool.true_and, decide_eq_true_eq]
      have h7 := hf.2
      rw [hla] at h7 ⊢
      exact ⟨by have := h7.1; show _ < (evAt l j).1; simp only at this; omega, by show (evAt l j).1 ≤ 1000; omega, h7.2.2⟩
    · have e2 : appI out (evAt l j).1 (evAt l j).2.1 = out ++ [((evAt l j).1, (evAt l j).2.1)] := by unfold appI; rw [if_neg (fun h => h6 h.2)]
      rw [e2]
      refine mk _ ?_ (by simp) (by simp [lastI_snoc, h3])
      rw [goodFrom_snoc, h.from', Bool.true_and, decide_eq_true_eq]
      have e3 : lastP 0 (-1) out = lastI out := if_neg hne
      rw [e3, hla]
      rw [hla] at h6
      simp only at h6 ⊢
      omega
theorem spec_items_loop {R : Type} {l : List Ev} (hl : l.length ≤ 1048576) (hsz : ∀ x ∈ l, x.2.2.2.size ≤ 1048576) (kr : List (Int × Int) → Bool → Option R) (ke : List Ev → List (Int × Int) → Option R) : ∀ (c n j : Nat) (out : List (Int × Int)), c + 2000000 < n → j + c = l.length → out.length ≤ j →
    spec_ItemsOf_l3 n l l (l.length : Int) (j : Int) out kr ke = match itF l c j out with
      | none => kr [] false
      | some o => ke l o
  | c, 0, _, _, h, _, _ => by omega
  | 0, n + 1, j, out, hn, hj, ho => by rw [spec_ItemsOf_l3, dge (by omega)]; rfl
  | c + 1, n + 1, j, out, hn, hj, ho => by
    have h : j < l.length := by omega
    have hal := appI_len out l[j].1 l[j].2.1
    have go := spec_items_loop hl hsz kr ke c n (j + 1) (appI out l[j].1 l[j].2.1) (by omega) (by omega) (by omega)
    rw [spec_ItemsOf_l3, dlt h, dnn, getD_at _ _ h, wrapS h (by omega), spec_GoodEvent_eq _ _ _ _ (hsz _ (List.getElem_mem h)) (by omega), itF, stepOk, evAt_at l h]
    simp only [cond_true]
    rw [show goodEv (l[j].1, l[j].2.1, l[j].2.2.1, l[j].2.2.2) = goodEv l[j] from rfl]
    cases hg : goodEv l[j] with
    | false => rfl
    | true =>
      by_cases h1 : l[j].1 = (j : Int) + 1
      case neg =>
        rw [show (l[j].1 != ((j + 1 : Nat) : Int)) = true by simp; omega, decide_eq_false h1]; rfl
      rw [show (l[j].1 != ((j + 1 : Nat) : Int)) = false by simp; omega, decide_eq_true h1]
      by_cases h0 : j = 0
      · rw [decide_eq_true h0, decide_eq_false (show ¬ (j : Int) > 0 by omega), spec_l11Append_eq (by omega)]
        simp only [Bool.not_true, cond_false, Bool.true_and, Bool.true_or, if_true]
        exact go
      · have hj1 : j - 1 < l.length := by omega
        rw [decide_eq_false h0, decide_eq_true (show (j : Int) > 0 by omega), wrap64 (x := (j : Int) - 1) (by omega) (by omega), show (j : Int) - 1 = ((j - 1 : Nat) : Int) by omega, dnn, dlt hj1, getD_at _ _ hj1, evAt_at l hj1]
        simp only [Bool.not_true, cond_false, cond_true, Bool.true_and, Bool.false_or]
        by_cases h2 : l[j - 1].2.1 ≤ l[j].2.1
        · rw [decide_eq_true h2, decide_eq_false (show ¬ l[j - 1].2.1 > l[j].2.1 by omega), spec_l11Append_eq (by omega), cond_false, if_pos rfl]
          exact go
        · rw [decide_eq_false h2, decide_eq_true (show l[j - 1].2.1 > l[j].2.1 by omega)]; rfl
def resI (l : List Ev) : Option (List (Int × Int)) := if l.length ≤ 60 then (match itF l l.length 0 [] with
  | none => none
  | some o => if goodI o = true then some o else none) else none
theorem itF_bound {l : List Ev} : ∀ {c j : Nat} {out o : List (Int × Int)}, itF l c j out = some o → o.length ≤ out.length + c
  | 0, _, _, _, h => by cases h; omega
  | c + 1, j, out, o, h => by
    unfold itF at h
    split at h
    · have := itF_bound h
      have := (appI_len out (evAt l j).1 (evAt l j).2.1).2
      omega
    · cases h
def ansI {R : Type} (o : Option (List (Int × Int))) (k : List (Int × Int) → Bool → Option R) : Option R := match o with
  | none => k [] false
  | some o => k o true
theorem spec_ItemsOf_eq {R : Type} {n : Nat} {l : List Ev} (hl : l.length ≤ 1048576) (hsz : ∀ x ∈ l, x.2.2.2.size ≤ 1048576) (hn : 4000000 ≤ n) (k : List (Int × Int) → Bool → Option R) : spec_ItemsOf n l k = ansI (resI l) k := by
  unfold spec_ItemsOf resI
  have := spec_items_loop hl hsz (fun r4 r5 => k r4 r5) (fun r6 r7 => (bif (decide ((r6.length : Int) > 60)) then k ([] : List (Int × Int)) false else (spec_GoodItems n r7 fun r8 => (bif (!r8) then k ([] : List (Int × Int)) false else k r7 true)))) l.length n 0 [] (by omega) (by omega) (by simp)
  rw [show ((0 : Nat) : Int) = 0 from rfl] at this
  rw [this]
  cases h : itF l l.length 0 [] with
  | none => simp only; split <;> rfl
  | some o =>
    have hb := itF_bound h
    simp only [List.length_nil] at hb
    simp only
    by_cases h60 : l.length ≤ 60
    · rw [if_pos h60, decide_eq_false (show ¬ (l.length : Int) > 60 by omega), cond_false, spec_GoodItems_eq (by omega) (by omega)]
      cases goodI o <;> rfl
    · rw [if_neg h60, decide_eq_true (show (l.length : Int) > 60 by omega)]; rfl
/-- What the program's loop does with one event. -/
theorem items_step {R : Type} {l : List Ev} {c j : Nat} {out : List (Int × Int)} (hi : InvI l j out) (hg : goodI out = true) {n : Nat} (hn : 2000 ≤ n) (bad : Option R) (ke : List (Int × Int) → Option R) (rec' : List (Int × Int) → Option R)
    (hrec : stepOk l j = true → goodI (appI out (evAt l j).1 (evAt l j).2.1) = true → rec' (appI out (evAt l j).1 (evAt l j).2.1) = match itF l c (j + 1) (appI out (evAt l j).1 (evAt l j).2.1) with
      | none => bad
      | some o => if goodI o = true then ke o else bad) :
    (impl_appended n out (evAt l j).1 (evAt l j).2.1 fun r1 r2 => (bif (!r1) then bad else (impl_GoodEvent n (evAt l j).1 (evAt l j).2.1 (evAt l j).2.2.1 (evAt l j).2.2.2 fun r3 => (bif (!r3) then bad else rec' r2)))) = match itF l (c + 1) j out with
      | none => bad
      | some o => if goodI o = true then ke o else bad := by
  rw [impl_appended_eq hg (by omega), itF]
  have hse : stepOk l j = true → (evAt l j).1 = (lastI out).1 + 1 ∧ (lastI out).2 ≤ (evAt l j).2.1 ∧ 0 ≤ (evAt l j).2.1 ∧ (evAt l j).2.1 ≤ 1000000 := fun hs => by
    simp only [stepOk, Bool.and_eq_true, decide_eq_true_eq, Bool.or_eq_true, goodEv] at hs
    obtain ⟨⟨h1, h2, _⟩, h3, h4⟩ := hs
    by_cases hj : j = 0
    · rw [hi.z hj]
      show (evAt l j).1 = 0 + 1 ∧ 0 ≤ (evAt l j).2.1 ∧ _
      omega
    · rw [(hi.s (by omega)).2]
      have := h4.resolve_left hj
      simp only
      omega
  by_cases hs : stepOk l j = true
  · rw [if_pos (hse hs), if_pos hs]
    have hst := hi.step hs
    cases hgn : goodI (appI out (evAt l j).1 (evAt l j).2.1) with
    | true =>
      have hge : goodEv (evAt l j) = true := by
        simp only [stepOk, Bool.and_eq_true] at hs; exact hs.1
      rw [impl_GoodEvent_eq, show goodEv ((evAt l j).1, (evAt l j).2.1, (evAt l j).2.2.1, (evAt l j).2.2.2) = goodEv (evAt l j) from rfl, hge]
      simp only [Bool.not_true, cond_false]
      exact hrec hs hgn
    | false =>
      simp only [Bool.not_false, cond_true]
      have hlen : 20 < (appI out (evAt l j).1 (evAt l j).2.1).length := by
        unfold goodI at hgn
        rw [hst.from', Bool.and_true, decide_eq_false_iff_not] at hgn
        omega
      cases h : itF l c (j + 1) (appI out (evAt l j).1 (evAt l j).2.1) with
      | none => rfl
      | some o =>
        have := itF_len h
        have hgo : goodI o = false := by
          unfold goodI
          rw [decide_eq_false (by omega), Bool.false_and]
        simp only [hgo]; rfl
  · rw [if_neg hs]
    by_cases hA : (evAt l j).1 = (lastI out).1 + 1 ∧ (lastI out).2 ≤ (evAt l j).2.1 ∧ 0 ≤ (evAt l j).2.1 ∧ (evAt l j).2.1 ≤ 1000000
    · rw [if_pos hA]
      cases goodI (appI out (evAt l j).1 (evAt l j).2.1) with
      | false => rfl
      | true =>
        rw [impl_GoodEvent_eq, show goodEv ((evAt l j).1, (evAt l j).2.1, (evAt l j).2.2.1, (evAt l j).2.2.2) = goodEv (evAt l j) from rfl]
        have hge : goodEv (evAt l j) = false := by
          cases hge : goodEv (evAt l j) with
          | false => rfl
          | true =>
            exfalso
            refine hs ?_
            unfold stepOk
            rw [hge]
            by_cases hj : j = 0
            · rw [hi.z hj] at hA
              have h1 : (evAt l j).1 = 0 + 1 := hA.1
              simp only [Bool.true_and, Bool.and_eq_true, decide_eq_true_eq, Bool.or_eq_true]
              exact ⟨by omega, .inl hj⟩
            · rw [(hi.s (by omega)).2] at hA
              simp only at hA
              simp only [Bool.true_and, Bool.and_eq_true, decide_eq_true_eq, Bool.or_eq_true]
              exact ⟨by omega, .inr hA.2.1⟩
        rw [hge]; rfl
    · rw [if_neg hA]; rfl
theorem inv0 (l : List Ev) : InvI l 0 [] := ⟨rfl, fun _ => rfl, fun h => by omega⟩
theorem lcaFrom_in {a b : List (Int × Int)} : ∀ (j : Nat) (id : Int), 0 ≤ id → lcaFrom a b j id = id ∨ (id < lcaFrom a b j id ∧ lcaFrom a b j id ≤ (lastI a).1 ∧ lcaFrom a b j id ≤ (lastI b).1)
  | 0, id, _ => .inl rfl
  | j + 1, id, h => by
    unfold lcaFrom
    split
    · rename_i c
      have := lcaFrom_in (a := a) (b := b) j (id + 1) (by omega)
      omega
    · exact .inl rfl
theorem lcaFrom_end (a b : List (Int × Int)) : ∀ (j : Nat) (id : Int), (lastI a).1 < id + j → lcaFrom a b j id < (lastI a).1 → lcaFrom a b j id < (lastI b).1 → atV a (lcaFrom a b j id + 1) ≠ atV b (lcaFrom a b j id + 1)
  | 0, id, h0, h1, h2 => by simp only [lcaFrom] at h1; omega
  | j + 1, id, h0, h1, h2 => by
    unfold lcaFrom at h1 h2 ⊢
    split
    · rename_i h
      rw [if_pos h] at h1 h2
      exact lcaFrom_end a b j (id + 1) (by omega) h1 h2
    · rename_i h
      rw [if_neg h] at h1 h2
      exact fun e => h ⟨h1, h2, e⟩
theorem atV_cons (x : Int × Int) (r : List (Int × Int)) (i : Int) : atV (x :: r) i = if i ≤ x.1 then some x.2 else atV r i := by
  unfold atV
  rw [List.find?_cons]
  by_cases h : i ≤ x.1
  · rw [decide_eq_true h, if_pos h]; rfl
  · rw [decide_eq_false h, if_neg h]
theorem impl_VersionAt_eq {R : Type} {n : Nat} {l : List (Int × Int)} (hg : goodI l = true) (hn : 100 ≤ n) (x : Int) (k : Int → Bool → Option R) : impl_VersionAt n l x k = if 1 ≤ x ∧ x ≤ (lastI l).1 then k ((atV l x).getD (-1)) true else k 0 false := by
  have hl := goodI_len hg
  unfold impl_VersionAt
  rw [impl_GoodItems_eq (by omega) (by omega), hg, impl_last_eq (by omega), impl_in_eq]
  by_cases c : 1 ≤ x ∧ x ≤ (lastI l).1
  · obtain ⟨v, hv⟩ := atV_in c
    rw [decide_eq_true c, if_pos c]
    simp only [Bool.not_true, cond_false]
    rw [impl_versionAt_eq (by omega) (by omega) hv, hv]
    rfl
  · rw [decide_eq_false c, if_neg c]
    rfl
theorem laws_sameItems_loop {R : Type} (xs ys : List (Int × Int)) (hl : xs.length = ys.length) (hb : xs.length ≤ 9223372036854775807) (kr : Bool → Option R) (ke : Option R) : ∀ (n j : Nat), xs.length - j < n → j ≤ xs.length →
    laws_sameItems_l4 n xs ys (xs.length : Int) (j : Int) kr ke = if xs.drop j = ys.drop j then ke else kr false
  | 0, _, h, _ => by omega
  | n + 1, j, hn, hj => by
    unfold laws_sameItems_l4
    by_cases h : j < xs.length
    · have h' : j < ys.length := by omega
      rw [dlt h, dlt h', dnn, getD_at _ _ h, getD_at _ _ h', wrapS h hb, List.drop_eq_getElem_cons h, List.drop_eq_getElem_cons h']
      simp only [cond_true]
      by_cases he : xs[j] = ys[j]
      · rw [he, beq_self_eq_true, beq_self_eq_true, laws_sameItems_loop xs ys hl hb kr ke n (j + 1) (by omega) (by omega)]
        simp only [List.cons.injEq, true_and, Bool.and_self, Bool.not_true, cond_false]
      · have : ((xs[j].1 == ys[j].1) && ((xs[j].2 == ys[j].2) && true)) = false := by
          apply Bool.eq_false_iff.2
          intro h2
          simp only [Bool.and_eq_true, beq_iff_eq] at h2
          exact he (Prod.ext h2.1 h2.2.1)
        rw [this, Bool.not_false, cond_true, if_neg fun h => he (List.cons.inj h).1]
    · rw [dge (by omega)]
      have h1 : xs.drop j = [] := List.drop_eq_nil_iff.2 (by omega)
      have h2 : ys.drop j = [] := List.drop_eq_nil_iff.2 (by omega)
      simp [h1, h2]
theorem laws_sameItems_refl {R : Type} {n : Nat} {xs : List (Int × Int)} (hb : xs.length ≤ 9223372036854775807) (hn : xs.length < n) (k : Bool → Option R) : laws_sameItems n xs xs k = k true := by
  unfold laws_sameItems
  rw [bne_self_eq_false, cond_false]
  have := laws_sameItems_loop xs xs rfl hb k (k true) n 0 (by omega) (by omega)
  rw [show ((0 : Nat) : Int) = 0 from rfl, if_pos rfl] at this
  exact this
theorem lastI_cons {x : Int × Int} {l : List (Int × Int)} (h : l ≠ []) : lastI (x :: l) = lastI l := by
  cases l with
  | nil => exact absurd rfl h
  | cons y l => simp [lastI]
theorem cutF_good {upto : Int} (h1 : upto ≤ 1000) : ∀ {l : List (Int × Int)} {u v : Int}, goodFrom u v l = true → goodFrom u v (cutF upto u l) = true
  | [], _, _, _ => rfl
  | x :: r, u, v, h => by
    simp only [goodFrom, Bool.and_eq_true, decide_eq_true_eq] at h
    unfold cutF
    by_cases c : u < upto
    · rw [if_pos c]
      by_cases c2 : upto < x.1
      · rw [if_pos c2, cutF_stop]
        simp only [goodFrom, Bool.and_true, decide_eq_true_eq]
        omega
      · rw [if_neg c2]
        simp only [goodFrom, Bool.and_eq_true, decide_eq_true_eq]
        exact ⟨h.1, cutF_good h1 h.2⟩
    · rw [if_neg c]; rfl
theorem cutF_last {upto : Int} : ∀ {l : List (Int × Int)} {u v : Int}, goodFrom u v l = true → 0 ≤ u → u < upto → upto ≤ (lastI l).1 → (lastI (cutF upto u l)).1 = upto
  | [], _, _, _, _, _, h => by simp [lastI] at h; omega
  | x :: r, u, v, h, h0, h1, h2 => by
    simp only [goodFrom, Bool.and_eq_true, decide_eq_true_eq] at h
    unfold cutF
    rw [if_pos h1]
    by_cases c2 : upto < x.1
    · rw [if_pos c2, cutF_stop]; simp [lastI]
    · rw [if_neg c2]
      by_cases c3 : x.1 = upto
      · rw [c3, cutF_stop, ← c3]; simp [lastI]
      · have hr : r ≠ [] := fun e => by subst e; simp [lastI] at h2; omega
        rw [lastI_cons hr] at h2
        have ih := cutF_last (upto := upto) h.2 (by omega) (by omega) h2
        have hc : cutF upto x.1 r ≠ [] := fun e => by rw [e] at ih; simp [lastI] at ih; omega
        rw [lastI_cons hc, ih]
theorem cutF_at {upto : Int} {i : Int} (h2 : i ≤ upto) : ∀ {l : List (Int × Int)} {u v : Int}, goodFrom u v l = true → u < i → atV (cutF upto u l) i = atV l i
  | [], _, _, _, _ => rfl
  | x :: r, u, v, h, h1 => by
    simp only [goodFrom, Bool.and_eq_true, decide_eq_true_eq] at h
    unfold cutF
    rw [if_pos (by omega)]
    by_cases c2 : upto < x.1
    · rw [if_pos c2, cutF_stop, atV_cons, atV_cons, if_pos (by omega), if_pos (by omega)]
    · rw [if_neg c2, atV_cons, atV_cons]
      by_cases c3 : i ≤ x.1
      · rw [if_pos c3, if_pos c3]
      · rw [if_neg c3, if_neg c3, cutF_at h2 h.2 (by omega)]
theorem goodI_cut {l : List (Int × Int)} (h : goodI l = true) {u : Int} (hu : u ≤ 1000) : goodI (cutF u 0 l) = true := by
  have h1 := goodI_len h
  have h2 := cutF_length (upto := u) l 0
  simp only [goodI, Bool.and_eq_true, decide_eq_true_eq]
  exact ⟨by omega, cutF_good hu (goodI_from h)⟩
/-- What is cut and what it was cut of have just the cut in common. -/
theorem lca_cut {l : List (Int × Int)} (h : goodI l = true) {u : Int} (h0 : 0 ≤ u) (hu : u ≤ (lastI l).1) : lcaFrom (cutF u 0 l) l 1001 0 = u := by
  have hla := lastI_le h
  by_cases c : u = 0
  · subst c
    have := lcaFrom_in (a := cutF 0 0 l) (b := l) 1001 0 (by omega)
    rw [cutF_stop] at this ⊢
    simp [lastI] at this
    omega
  · have hl := cutF_last (goodI_from h) (by omega) (show 0 < u by omega) hu
    have hin := lcaFrom_in (a := cutF u 0 l) (b := l) 1001 0 (by omega)
    rw [hl] at hin
    by_cases c2 : lcaFrom (cutF u 0 l) l 1001 0 < u
    · exact absurd (cutF_at (show lcaFrom (cutF u 0 l) l 1001 0 + 1 ≤ u by omega) (goodI_from h) (by omega)) (lcaFrom_end (cutF u 0 l) l 1001 0 (by omega) (by omega) (by omega))
    · omega
theorem and255 (x : Int) : 0 ≤ IntKind.wrap .i64 (IntKind.wrap .u64 (Int.ofNat (BitVec.toNat (BitVec.ofInt (IntKind.bits .u64) x &&& BitVec.ofInt (IntKind.bits .u64) 255)))) ∧ IntKind.wrap .i64 (IntKind.wrap .u64 (Int.ofNat (BitVec.toNat (BitVec.ofInt (IntKind.bits .u64) x &&& BitVec.ofInt (IntKind.bits .u64) 255)))) ≤ 255 := by
  have h : BitVec.toNat (BitVec.ofInt (IntKind.bits .u64) x &&& BitVec.ofInt (IntKind.bits .u64) 255) ≤ 255 := by
    rw [BitVec.toNat_and]
    exact Nat.le_trans Nat.and_le_right (by decide)
  generalize BitVec.toNat (BitVec.ofInt (IntKind.bits .u64) x &&& BitVec.ofInt (IntKind.bits .u64) 255) = y at h
  have h1 : IntKind.wrap .u64 (Int.ofNat y) = (y : Int) := by
    simp only [IntKind.wrap, IntKind.signed, IntKind.bits]
    simp
    omega
  rw [h1, wrap64 (by omega) (by omega)]
  omega
/-- Bytes. -/
def Bytes (l : List Int) : Prop := ∀ x ∈ l, 0 ≤ x ∧ x ≤ 255
theorem bytes_getD {l : List Int} (hl : Bytes l) {i : Nat} (h : i < l.length) : 0 ≤ l.getD i 0 ∧ l.getD i 0 ≤ 255 := by
  rw [List.getD_eq_getElem?_getD, List.getElem?_eq_getElem h]
  exact hl _ (List.getElem_mem h)
def seedN (s b : Int) : Int := IntKind.wrap .u64 ((IntKind.wrap .u64 ((IntKind.wrap .u64 (s * 6364136223846793005)) + b)) + 1442695040888963407)
theorem next_ex {l : List Int} (hl : Bytes l) (n : Nat) {p s : Int} (h0 : 0 ≤ p) (h1 : p ≤ 4611686018427387904) : ∃ r s', 0 ≤ r ∧ r ≤ 255 ∧ ∀ (R : Type) (k : Int → List Int → Int → Int → Option R), spec_l1Cur_next n l p s k = k r l (p + 1) s' := by
  have hw : IntKind.wrap .i64 (p + 1) = p + 1 := wrap64 (by omega) (by omega)
  by_cases c : p < (l.length : Int)
  · obtain ⟨b1, b2⟩ := bytes_getD hl (i := Int.toNat p) (by omega)
    have hg : IntKind.wrap .i64 (l.getD (Int.toNat p) 0) = l.getD (Int.toNat p) 0 := wrap64 (by omega) (by omega)
    refine ⟨l.getD (Int.toNat p) 0, seedN s (IntKind.wrap .u64 (l.getD (Int.toNat p) 0)), b1, b2, fun R k => ?_⟩
    unfold spec_l1Cur_next
    rw [decide_eq_true c, decide_eq_true h0, hw, decide_eq_true (show p + 1 ≤ (l.length : Int) by omega), hg]
    rfl
  · have hn := and255 (Int.fdiv (seedN s 0) (2 ^ (min (Int.toNat 40) (IntKind.bits .u64))))
    refine ⟨_, seedN s 0, hn.1, hn.2, fun R k => ?_⟩
    unfold spec_l1Cur_next
    rw [decide_eq_false c, hw, decide_eq_false (show ¬ p + 1 ≤ (l.length : Int) by omega)]
    rfl
theorem pick_ex {l : List Int} (hl : Bytes l) (n : Nat) {m p s : Int} (hm : m ≤ 60000) (h0 : 0 ≤ p) (h1 : p ≤ 4611686018427387000) : ∃ r p' s', 0 ≤ r ∧ (r < m ∨ (m ≤ 1 ∧ r = 0)) ∧ p ≤ p' ∧ p' ≤ p + 2 ∧ ∀ (R : Type) (k : Int → List Int → Int → Int → Option R), spec_l1Cur_pick n m l p s k = k r l p' s' := by
  by_cases c : m ≤ 1
  · exact ⟨0, p, s, by omega, .inr ⟨c, rfl⟩, by omega, by omega, fun R k => by unfold spec_l1Cur_pick; rw [decide_eq_true c]; rfl⟩
  · obtain ⟨r, s1, r0, r1, hr⟩ := next_ex hl n (s := s) h0 (by omega)
    by_cases c2 : m > 200
    · obtain ⟨q, s2, q0, q1, hq⟩ := next_ex hl n (p := p + 1) (s := s1) (by omega) (by omega)
      have e : IntKind.wrap .i64 (IntKind.wrap .i64 (r * 256) + q) = r * 256 + q := by rw [wrap64 (x := r * 256) (by omega) (by omega), wrap64 (by omega) (by omega)]
      have t0 := Int.tmod_nonneg m (show 0 ≤ r * 256 + q by omega)
      have t1 := Int.tmod_lt_of_pos (r * 256 + q) (show 0 < m by omega)
      refine ⟨Int.tmod (r * 256 + q) m, p + 1 + 1, s2, t0, .inl t1, by omega, by omega, fun R k => ?_⟩
      unfold spec_l1Cur_pick
      rw [decide_eq_false c, hr, decide_eq_true c2, hq, decide_eq_true (show m ≠ 0 by omega), e]
      rfl
    · have t0 := Int.tmod_nonneg m (show 0 ≤ r by omega)
      have t1 := Int.tmod_lt_of_pos r (show 0 < m by omega)
      refine ⟨Int.tmod r m, p + 1, s1, t0, .inl t1, by omega, by omega, fun R k => ?_⟩
      unfold spec_l1Cur_pick
      rw [decide_eq_false c, hr, decide_eq_false c2, decide_eq_true (show m ≠ 0 by omega)]
      rfl
theorem among_ex {l : List Int} (hl : Bytes l) (n : Nat) {xs : List Int} (hx : xs ≠ []) (hx2 : xs.length ≤ 200) {p s : Int} (h0 : 0 ≤ p) (h1 : p ≤ 4611686018427387000) : ∃ r p' s', r ∈ xs ∧ p ≤ p' ∧ p' ≤ p + 2 ∧ ∀ (R : Type) (k : Int → List Int → Int → Int → Option R), spec_l1Cur_among n xs l p s k = k r l p' s' := by
  have hp := List.length_pos_iff.2 hx
  obtain ⟨i, p', s', i0, i1, q0, q1, hi⟩ := pick_ex hl n (m := (xs.length : Int)) (s := s) (by omega) h0 h1
  have hlt : Int.toNat i < xs.length := by omega
  refine ⟨xs.getD (Int.toNat i) 0, p', s', ?_, q0, q1, fun R k => ?_⟩
  · rw [List.getD_eq_getElem?_getD, List.getElem?_eq_getElem hlt]
    exact List.getElem_mem hlt
  · unfold spec_l1Cur_among
    rw [hi, decide_eq_true i0, decide_eq_true (show i < (xs.length : Int) by omega)]
    rfl
theorem one_ex {l : List Int} (hl : Bytes l) (n : Nat) {m p s : Int} (hm : m ≤ 60000) (h0 : 0 ≤ p) (h1 : p ≤ 4611686018427387000) : ∃ b p' s', p ≤ p' ∧ p' ≤ p + 2 ∧ ∀ (R : Type) (k : Bool → List Int → Int → Int → Option R), spec_l1Cur_one n m l p s k = k b l p' s' := by
  obtain ⟨r, p', s', _, _, a, b, h⟩ := pick_ex hl n (s := s) hm h0 h1
  exact ⟨_, p', s', a, b, fun R k => by unfold spec_l1Cur_one; rw [h]⟩
theorem items_loop_ex {l : List Int} (hl : Bytes l) : ∀ (n j : Nat) (x y p s : Int) (out : List (Int × Int)), j < n → out.length + j ≤ 2000 → 0 ≤ p → p + 4 * j ≤ 4000000 → ∃ o p' s', o.length = out.length + j ∧ p ≤ p' ∧ p' ≤ p + 4 * j ∧ ∀ (R : Type) (k : List Int → Int → Int → List (Int × Int) → Option R), spec_l1Cur_items_l7 n x y (j : Int) l p s out k = k l p' s' o
  | 0, _, _, _, _, _, _, h, _, _, _ => by omega
  | n + 1, 0, x, y, p, s, out, hn, ho, h0, h1 => ⟨out, p, s, by simp, by omega, by omega, fun R k => by unfold spec_l1Cur_items_l7; rfl⟩
  | n + 1, j + 1, x, y, p, s, out, hn, ho, h0, h1 => by
    obtain ⟨r1, p1, s1, _, _, a1, b1, e1⟩ := pick_ex hl n (m := 4) (p := p) (s := s) (by omega) (by omega) (by omega)
    obtain ⟨r2, p2, s2, _, _, a2, b2, e2⟩ := pick_ex hl n (m := 3) (p := p1) (s := s1) (by omega) (by omega) (by omega)
    obtain ⟨o, p3, s3, c1, c2, c3, e3⟩ := items_loop_ex hl n j (IntKind.wrap .i64 (x + IntKind.wrap .i64 (1 + r1))) (IntKind.wrap .i64 (y + IntKind.wrap .i64 (1 + r2))) p2 s2 (out ++ [(IntKind.wrap .i64 (x + IntKind.wrap .i64 (1 + r1)), y)]) (by omega) (by simp; omega) (by omega) (by omega)
    refine ⟨o, p3, s3, by rw [c1]; simp; omega, by omega, by omega, fun R k => ?_⟩
    unfold spec_l1Cur_items_l7
    rw [decide_eq_true (show ((j + 1 : Nat) : Int) > 0 by omega), e1, decide_eq_true (show out.length + [(IntKind.wrap .i64 (x + IntKind.wrap .i64 (1 + r1)), y)].length ≤ LIM by simp [LIM]; omega), e2, wrap64 (x := ((j + 1 : Nat) : Int) - 1) (by omega) (by omega), show ((j + 1 : Nat) : Int) - 1 = (j : Int) by omega]
    exact e3 R k
theorem items_tail_ex {l : List Int} (hl : Bytes l) (n : Nat) (o : List (Int × Int)) {p s : Int} (h0 : 0 ≤ p) (h1 : p ≤ 4000000) : ∃ o' p' s', o'.length = o.length ∧ p ≤ p' ∧ p' ≤ p + 4 ∧ ∀ (R : Type) (k : List (Int × Int) → List Int → Int → Int → Option R),
    (bif (decide ((o.length : Int) > 0)) then (spec_l1Cur_one n 30 l p s fun r29 r30 r31 r32 => (bif r29 then (spec_l1Cur_among n ([0, 5, 1001]) r30 r31 r32 fun r33 r34 r35 r36 => (bif decide (0 < (o.length : Int)) then k (o.set 0 (r33, (o.getD 0 (0, 0)).2)) r34 r35 r36 else none)) else k o r30 r31 r32)) else k o l p s) = k o' l p' s' := by
  by_cases c : (o.length : Int) > 0
  · obtain ⟨b, p1, s1, a1, b1, e1⟩ := one_ex hl n (m := 30) (p := p) (s := s) (by omega) (by omega) (by omega)
    cases b with
    | true =>
      obtain ⟨q, p2, s2, _, a2, b2, e2⟩ := among_ex hl n (xs := [0, 5, 1001]) (p := p1) (s := s1) (by simp) (by simp) (by omega) (by omega)
      refine ⟨o.set 0 (q, (o.getD 0 (0, 0)).2), p2, s2, by simp, by omega, by omega, fun R k => ?_⟩
      rw [decide_eq_true c, e1]
      simp only [cond_true]
      rw [e2]
    | false => exact ⟨o, p1, s1, rfl, by omega, by omega, fun R k => by rw [decide_eq_true c, e1]; rfl⟩
  · exact ⟨o, p, s, rfl, by omega, by omega, fun R k => by rw [decide_eq_false c]; rfl⟩
theorem items_ex {l : List Int} (hl : Bytes l) {n : Nat} (hn : 100 ≤ n) {p s : Int} (h0 : 0 ≤ p) (h1 : p ≤ 1000000) : ∃ o p' s', o.length ≤ 21 ∧ p ≤ p' ∧ p' ≤ p + 200 ∧ ∀ (R : Type) (k : List (Int × Int) → List Int → Int → Int → Option R), spec_l1Cur_items n l p s k = k o l p' s' := by
  obtain ⟨r1, p1, s1, _, _, a1, b1, e1⟩ := pick_ex hl n (m := 3) (p := p) (s := s) (by omega) (by omega) (by omega)
  obtain ⟨r2, p2, s2, u2, v2, a2, b2, e2⟩ := pick_ex hl n (m := 5) (p := p1) (s := s1) (by omega) (by omega) (by omega)
  obtain ⟨b, p3, s3, a3, b3, e3⟩ := one_ex hl n (m := 20) (p := p2) (s := s2) (by omega) (by omega) (by omega)
  cases b with
  | true =>
    obtain ⟨r4, p4, s4, u4, v4, a4, b4, e4⟩ := pick_ex hl n (m := 2) (p := p3) (s := s3) (by omega) (by omega) (by omega)
    obtain ⟨o, p5, s5, c5, a5, b5, e5⟩ := items_loop_ex hl n (20 + r4).toNat 0 r1 p4 s4 [] (by omega) (by simp; omega) (by omega) (by omega)
    obtain ⟨o', p6, s6, c6, a6, b6, e6⟩ := items_tail_ex hl n o (p := p5) (s := s5) (by omega) (by omega)
    refine ⟨o', p6, s6, by simp at c5; omega, by omega, by omega, fun R k => ?_⟩
    unfold spec_l1Cur_items
    rw [e1, e2, e3, cond_true, e4, wrap64 (x := 20 + r4) (by omega) (by omega)]
    rw [show (((20 + r4).toNat : Nat) : Int) = 20 + r4 by omega] at e5
    rw [e5]
    exact e6 R k
  | false =>
    obtain ⟨o, p5, s5, c5, a5, b5, e5⟩ := items_loop_ex hl n r2.toNat 0 r1 p3 s3 [] (by omega) (by simp; omega) (by omega) (by omega)
    obtain ⟨o', p6, s6, c6, a6, b6, e6⟩ := items_tail_ex hl n o (p := p5) (s := s5) (by omega) (by omega)
    refine ⟨o', p6, s6, by simp at c5; omega, by omega, by omega, fun R k => ?_⟩
    unfold spec_l1Cur_items
    rw [e1, e2, e3, cond_false]
    rw [show ((r2.toNat : Nat) : Int) = r2 by omega] at e5
    rw [e5]
    exact e6 R k
theorem impl_items_loop {R : Type} {l : List Ev} (hl : l.length ≤ 60) (kr : List (Int × Int) → Bool → Option R) (ke : List (Int × Int) → Option R) : ∀ (c n j : Nat) (out : List (Int × Int)), c + 5000 < n → j + c = l.length → InvI l j out → goodI out = true →
    impl_ItemsOf_l5 n l (l.length : Int) (j : Int) out kr ke = match itF l c j out with
      | none => kr [] false
      | some o => if goodI o = true then ke o else kr [] false
  | c, 0, _, _, h, _, _, _ => by omega
  | 0, n + 1, j, out, hn, hj, hi, hg => by
    rw [impl_ItemsOf_l5, dge (by omega)]
    simp only [itF, hg, if_true]; rfl
  | c + 1, n + 1, j, out, hn, hj, hi, hg => by
    have h : j < l.length := by omega
    have e : l.getD (Int.toNat (j : Int)) (0, (0, (0, ByteArray.empty))) = evAt l j := by rw [Int.toNat_natCast]; rfl
    rw [impl_ItemsOf_l5, dlt h, dnn, e, wrapS h (by omega)]
    simp only [cond_true]
    exact items_step hi hg (by omega) (kr [] false) ke (fun r2 => impl_ItemsOf_l5 n l (l.length : Int) ((j + 1 : Nat) : Int) r2 kr ke) fun hs hgn => impl_items_loop hl kr ke c n (j + 1) _ (by omega) (by omega) (hi.step hs) hgn
theorem impl_ItemsOf_eq {R : Type} {n : Nat} {l : List Ev} (hn : 4000000 ≤ n) (k : List (Int × Int) → Bool → Option R) : impl_ItemsOf n l k = ansI (resI l) k := by
  unfold impl_ItemsOf resI
  by_cases h : l.length ≤ 60
  · rw [decide_eq_false (show ¬ (l.length : Int) > 60 by omega), cond_false, if_pos h]
    have := impl_items_loop h (fun r4 r5 => k r4 r5) (fun r6 => k r6 true) l.length n 0 [] (by omega) (by omega) (inv0 l) (by decide)
    rw [show ((0 : Nat) : Int) = 0 from rfl] at this
    rw [this]
    cases itF l l.length 0 [] with
    | none => rfl
    | some o =>
      cases hg : goodI o with
      | true => simp only [hg, if_true]; rfl
      | false => simp only [hg]; rfl
  · rw [decide_eq_true (show (l.length : Int) > 60 by omega), cond_true, if_neg h]; rfl
theorem spec_CutItems_eq2 {R : Type} {l : List (Int × Int)} (upto : Int) {n : Nat} (hn : 1048700 ≤ n) (hl : l.length ≤ 1048576) (k : Bool → List (Int × Int) → Option R) : spec_CutItems n l upto k = if goodI l = true ∧ 0 ≤ upto ∧ upto ≤ (lastI l).1 then k true (cutF upto 0 l) else k false [] := by
  unfold spec_CutItems
  rw [spec_GoodItems_eq (by omega) (by omega)]
  cases hg : goodI l with
  | false => simp
  | true =>
    have hl := goodI_len hg
    rw [spec_l11Last_eq (by omega), spec_l1In_eq]
    by_cases c : 0 ≤ upto ∧ upto ≤ (lastI l).1
    · rw [decide_eq_true c, if_pos ⟨rfl, c⟩]
      simp only [Bool.not_true, cond_false]
      rw [spec_l11Cut_eq hg c.1 (by omega)]
    · rw [decide_eq_false c, if_neg fun h => c h.2]
      simp
/-! ### What is drawn -/
theorem evs_loop_ex {l : List Int} (hl : Bytes l) : ∀ (n j : Nat) (v p s : Int) (out : List Ev), j < n → out.length + j ≤ 2000 → 0 ≤ p → p + 6 * j ≤ 4000000 → (∀ x ∈ out, x.2.2.2.size ≤ 1) → ∃ (o : List Ev) (p' s' : Int), o.length = out.length + j ∧ (∀ x ∈ o, x.2.2.2.size ≤ 1) ∧ p ≤ p' ∧ p' ≤ p + 6 * j ∧ ∀ (R : Type) (k : List Int → Int → Int → List Ev → Option R), spec_DrawItemsOf_l5 n v (j : Int) l p s out k = k l p' s' o
  | 0, _, _, _, _, _, h, _, _, _, _ => by omega
  | n + 1, 0, v, p, s, out, hn, ho, h0, h1, hs => ⟨out, p, s, by simp, hs, by omega, by omega, fun R k => by unfold spec_DrawItemsOf_l5; rfl⟩
  | n + 1, j + 1, v, p, s, out, hn, ho, h0, h1, hs => by
    obtain ⟨r1, p1, s1, _, _, a1, b1, e1⟩ := pick_ex hl n (m := 2) (p := p) (s := s) (by omega) (by omega) (by omega)
    obtain ⟨r2, p2, s2, _, _, a2, b2, e2⟩ := pick_ex hl n (m := 3) (p := p1) (s := s1) (by omega) (by omega) (by omega)
    obtain ⟨r3, p3, s3, _, _, a3, b3, e3⟩ := pick_ex hl n (m := 6) (p := p2) (s := s2) (by omega) (by omega) (by omega)
    obtain ⟨o, p4, s4, c1, c2, c3, c4, e4⟩ := evs_loop_ex hl n j (IntKind.wrap .i64 (v + IntKind.wrap .i64 (r1 * r2))) p3 s3 (out ++ [(IntKind.wrap .i64 ((out.length : Int) + 1), (IntKind.wrap .i64 (v + IntKind.wrap .i64 (r1 * r2)), (IntKind.wrap .i64 (1 + r3), ByteArray.mk #[97])))]) (by omega) (by simp; omega) (by omega) (by omega) (fun x hx => by
      rcases List.mem_append.1 hx with hx | hx
      · exact hs x hx
      · rw [List.mem_singleton.1 hx]; exact Nat.le_refl 1)
    refine ⟨o, p4, s4, by rw [c1]; simp; omega, c2, by omega, by omega, fun R k => ?_⟩
    unfold spec_DrawItemsOf_l5
    rw [decide_eq_true (show ((j + 1 : Nat) : Int) > 0 by omega), e1, e2, e3, decide_eq_true (by simp [LIM]; omega), wrap64 (x := ((j + 1 : Nat) : Int) - 1) (by omega) (by omega), show ((j + 1 : Nat) : Int) - 1 = (j : Int) by omega]
    exact e4 R k
theorem mem_setE {α : Type} {P : α → Prop} {l : List α} (h : ∀ x ∈ l, P x) {i : Nat} {y : α} (hy : P y) : ∀ x ∈ l.set i y, P x := fun x hx => by
  rcases List.mem_or_eq_of_mem_set hx with h1 | h1
  · exact h x h1
  · rw [h1]; exact hy
theorem evs_ex {l : List Int} (hl : Bytes l) {n : Nat} (hn : 100 ≤ n) : ∃ o : List Ev, o.length ≤ 60 ∧ (∀ x ∈ o, x.2.2.2.size ≤ 1048576) ∧ ∀ (R : Type) (k : List Ev → Option R), spec_DrawItemsOf n l k = k o := by
  obtain ⟨r1, p1, s1, _, _, a1, b1, e1⟩ := pick_ex hl n (m := 4) (p := 0) (s := 0) (by omega) (by omega) (by omega)
  obtain ⟨r2, p2, s2, u2, v2, a2, b2, e2⟩ := pick_ex hl n (m := 10) (p := p1) (s := s1) (by omega) (by omega) (by omega)
  obtain ⟨o, p3, s3, c1, c2, c3, c4, e3⟩ := evs_loop_ex hl n r2.toNat r1 p2 s2 [] (by omega) (by simp; omega) (by omega) (by omega) (by simp)
  rw [show ((r2.toNat : Nat) : Int) = r2 by omega] at e3
  simp only [List.length_nil] at c1
  have c2' : ∀ x ∈ o, x.2.2.2.size ≤ 1048576 := fun x hx => Nat.le_trans (c2 x hx) (by omega)
  unfold spec_DrawItemsOf
  simp only [e1, e2, e3]
  by_cases c : (o.length : Int) > 0
  · simp only [decide_eq_true c, cond_true]
    obtain ⟨r4, p4, s4, _, _, a4, b4, e4⟩ := pick_ex hl n (m := 12) (p := p3) (s := s3) (by omega) (by omega) (by omega)
    simp only [spec_l1Cur_one, e4]
    cases r4 == 0 with
    | false => exact ⟨o, by omega, c2', fun R k => rfl⟩
    | true =>
      obtain ⟨r5, p5, s5, u5, v5, a5, b5, e5⟩ := pick_ex hl n (m := (o.length : Int)) (p := p4) (s := s4) (by omega) (by omega) (by omega)
      obtain ⟨r6, p6, s6, _, _, a6, b6, e6⟩ := pick_ex hl n (m := 5) (p := p5) (s := s5) (by omega) (by omega) (by omega)
      obtain ⟨r7, p7, s7, _, _, a7, b7, e7⟩ := pick_ex hl n (m := 2) (p := p6) (s := s6) (by omega) (by omega) (by omega)
      have hlt : r5 < (o.length : Int) := by omega
      have hgd : ∀ L : List Ev, (∀ x ∈ L, x.2.2.2.size ≤ 1048576) → (L.getD (Int.toNat r5) (0, (0, (0, ByteArray.empty)))).2.2.2.size ≤ 1048576 := fun L hL => by
        rw [List.getD_eq_getElem?_getD]
        cases hq : L[Int.toNat r5]? with
        | none => exact Nat.zero_le _
        | some x => exact hL x (List.mem_of_getElem? hq)
      have h1 : ∀ x ∈ o.set (Int.toNat r5) ((o.getD (Int.toNat r5) (0, (0, (0, ByteArray.empty)))).1, (r6, (o.getD (Int.toNat r5) (0, (0, (0, ByteArray.empty)))).2.2)), x.2.2.2.size ≤ 1048576 := mem_setE (P := fun x : Ev => x.2.2.2.size ≤ 1048576) c2' (hgd o c2')
      simp only [cond_true, e5, e6, e7, decide_eq_true u5, decide_eq_true hlt, List.length_set]
      refine ⟨_, ?_, ?_, fun R k => rfl⟩
      · simp only [List.length_set]; omega
      · exact mem_setE (P := fun x : Ev => x.2.2.2.size ≤ 1048576) h1 (hgd _ h1)
  · exact ⟨o, by omega, c2', fun R k => by rw [decide_eq_false c]; rfl⟩
theorem pick_any {l : List Int} (hl : Bytes l) (n : Nat) (m : Int) {p s : Int} (h0 : 0 ≤ p) (h1 : p ≤ 4611686018427387000) : ∃ r p' s', ∀ (R : Type) (k : Int → List Int → Int → Int → Option R), spec_l1Cur_pick n m l p s k = k r l p' s' := by
  by_cases c : m ≤ 60000
  · obtain ⟨r, p', s', _, _, _, _, h⟩ := pick_ex hl n (m := m) (p := p) (s := s) c h0 h1
    exact ⟨r, p', s', h⟩
  · obtain ⟨r, s1, r0, r1, hr⟩ := next_ex hl n (s := s) h0 (by omega)
    obtain ⟨q, s2, q0, q1, hq⟩ := next_ex hl n (p := p + 1) (s := s1) (by omega) (by omega)
    exact ⟨_, _, _, fun R k => by
      unfold spec_l1Cur_pick
      rw [decide_eq_false (show ¬ m ≤ 1 by omega), hr, decide_eq_true (show m > 200 by omega), hq, decide_eq_true (show m ≠ 0 by omega)]
      rfl⟩
theorem drawCut_ex {l : List Int} (hl : Bytes l) {n : Nat} (hn : 100 ≤ n) : ∃ (u : Int) (o : List (Int × Int)), o.length ≤ 21 ∧ ∀ (R : Type) (k : Int → List (Int × Int) → Option R), spec_DrawCutItems n l k = k u o := by
  obtain ⟨o, p1, s1, c1, a1, b1, e1⟩ := items_ex hl hn (p := 0) (s := 0) (by omega) (by omega)
  obtain ⟨r, p2, s2, e2⟩ := pick_any hl n (IntKind.wrap .i64 ((lastI o).1 + 3)) (p := p1) (s := s1) (by omega) (by omega)
  exact ⟨_, o, c1, fun R k => by unfold spec_DrawCutItems; rw [e1, spec_l11Last_eq (by omega), e2]⟩

/-! ### Items one by one -/
theorem atV_snoc (x : Int × Int) (i : Int) : ∀ l : List (Int × Int), atV (l ++ [x]) i = match atV l i with
    | some v => some v
    | none => if i ≤ x.1 then some x.2 else none
  | [] => by rw [List.nil_append, atV_cons]; rfl
  | y :: l => by
    rw [List.cons_append, atV_cons, atV_cons, atV_snoc x i l]
    by_cases c : i ≤ y.1
    · rw [if_pos c, if_pos c]
    · rw [if_neg c, if_neg c]
theorem atV_past {l : List (Int × Int)} {i : Int} (h : ∀ x ∈ l, x.1 < i) : atV l i = none := by
  unfold atV
  rw [List.find?_eq_none.2 fun x hx => by have := h x hx; simp; omega]; rfl
theorem from_last : ∀ {l : List (Int × Int)} {u v : Int}, goodFrom u v l = true → ∀ x ∈ l, x.1 ≤ (lastI l).1
  | [], _, _, _, _, h => nomatch h
  | y :: l, u, v, h, x, hx => by
    simp only [goodFrom, Bool.and_eq_true, decide_eq_true_eq] at h
    by_cases c : l = []
    · subst c
      rw [List.mem_singleton.1 hx]; simp [lastI]
    · rw [lastI_cons c]
      rcases List.mem_cons.1 hx with e | hx
      · have h2 := from_last h.2 (l.getLast c) (List.getLast_mem c)
        have h3 := goodFrom_bounds h.2 (l.getLast c) (List.getLast_mem c)
        rw [e]; omega
      · exact from_last h.2 x hx
def AtI (l : List Ev) (j : Nat) (out : List (Int × Int)) : Prop := ∀ i, i < j → atV out ((i : Int) + 1) = some (evAt l i).2.1
theorem AtI.step {l : List Ev} {j : Nat} {out : List (Int × Int)} (hi : InvI l j out) (hs : stepOk l j = true) (h : AtI l j out) : AtI l (j + 1) (appI out (evAt l j).1 (evAt l j).2.1) := by
  have hid : (evAt l j).1 = (j : Int) + 1 := by
    simp only [stepOk, Bool.and_eq_true, decide_eq_true_eq] at hs
    exact hs.2.1
  intro i hij
  by_cases hc : out ≠ [] ∧ (lastI out).2 = (evAt l j).2.1
  · unfold appI
    rw [if_pos hc]
    have hp := List.length_pos_iff.2 hc.1
    have hj0 : 0 < j := by
      rcases Nat.eq_zero_or_pos j with h0 | h0
      · exact absurd (hi.z h0) hc.1
      · exact h0
    have hla := (hi.s hj0).2
    have e3 : out = out.dropLast ++ [lastI out] := by
      unfold lastI
      rw [List.getLast?_eq_some_getLast hc.1]
      exact (List.dropLast_concat_getLast hc.1).symm
    have e4 : out.set (out.length - 1) ((evAt l j).1, (lastI out).2) = out.dropLast ++ [((evAt l j).1, (lastI out).2)] := by
      have := set_lastE out.dropLast (lastI out) ((evAt l j).1, (lastI out).2)
      rw [← e3] at this
      exact this
    rw [e4, atV_snoc]
    by_cases c2 : i = j
    · have hg := hi.from'
      rw [e3, goodFrom_snoc, Bool.and_eq_true, decide_eq_true_eq] at hg
      have hpast : atV out.dropLast ((i : Int) + 1) = none := atV_past fun x hx => by
        have h1 := from_last hi.from' x (List.dropLast_subset _ hx)
        rw [hla] at h1
        simp only at h1; omega
      rw [hpast, hid, c2]
      simp only [Int.le_refl, if_true, hc.2]
    · have h1 := h i (by omega)
      rw [e3, atV_snoc] at h1
      revert h1
      cases atV out.dropLast ((i : Int) + 1) with
      | some v => exact fun h1 => h1
      | none =>
        simp only [hla]
        intro h1
        split at h1
        · rw [hid, if_pos (by omega)]
          exact h1
        · cases h1
  · unfold appI
    rw [if_neg hc, atV_snoc]
    by_cases c2 : i = j
    · have hpast : atV out ((i : Int) + 1) = none := atV_past fun x hx => by
        have h1 := from_last hi.from' x hx
        by_cases h0 : j = 0
        · rw [hi.z h0] at hx; exact nomatch hx
        · rw [(hi.s (by omega)).2] at h1
          simp only at h1; omega
      rw [hpast, hid, c2]
      simp
    · rw [h i (by omega)]
theorem AtI.all {l : List Ev} : ∀ (c j : Nat) (out o : List (Int × Int)), InvI l j out → AtI l j out → itF l c j out = some o → AtI l (j + c) o
  | 0, j, out, o, _, h, e => by cases e; exact h
  | c + 1, j, out, o, hi, h, e => by
    unfold itF at e
    split at e
    · rename_i hs
      have := AtI.all c (j + 1) _ o (hi.step hs) (AtI.step hi hs h) e
      rw [show j + (c + 1) = j + 1 + c by omega]
      exact this
    · cases e
theorem impl_AppendItem_eq {R : Type} {n : Nat} {out : List (Int × Int)} (hg : goodI out = true) (hn : 1000 ≤ n) {id v : Int} (h : id = (lastI out).1 + 1 ∧ (lastI out).2 ≤ v ∧ 0 ≤ v ∧ v ≤ 1000000) (h2 : goodI (appI out id v) = true) (k : Bool → List (Int × Int) → Option R) : impl_AppendItem n out id v k = k true (appI out id v) := by
  have hl := goodI_len hg
  unfold impl_AppendItem
  rw [impl_GoodItems_eq (by omega) (by omega), hg, impl_appended_eq hg hn, if_pos h, h2]
  rfl
theorem goodI_of {l : List (Int × Int)} (h : goodFrom 0 (-1) l = true) (h2 : l.length ≤ 20) : goodI l = true := by
  simp only [goodI, Bool.and_eq_true, decide_eq_true_eq]
  exact ⟨h2, h⟩
theorem l11_eq {R : Type} {l : List Ev} {o : List (Int × Int)} {xs : List Int} (hl : l.length ≤ 60) (hgo : goodI o = true) (hat : AtI l l.length o) (hid : (l.length : Int) ≤ (lastI o).1) (kr : Bool → Option R) (ke : List Int → List (Int × Int) → List (Int × Int) → Option R) : ∀ (c n j : Nat) (out : List (Int × Int)), c + 5000 < n → j + c = l.length → InvI l j out → itF l c j out = some o →
    laws_FnItems_l11 n xs o l (l.length : Int) (j : Int) out kr ke = ke xs o o
  | c, 0, _, _, h, _, _, _ => by omega
  | 0, n + 1, j, out, hn, hj, hi, hf => by
    cases hf
    rw [laws_FnItems_l11, dge (by omega)]; rfl
  | c + 1, n + 1, j, out, hn, hj, hi, hf => by
    have h : j < l.length := by omega
    have e : l.getD (Int.toNat (j : Int)) (0, (0, (0, ByteArray.empty))) = evAt l j := by rw [Int.toNat_natCast]; rfl
    rw [laws_FnItems_l11, dlt h, dnn, e, wrapS h (by omega)]
    unfold itF at hf
    split at hf
    case isFalse => cases hf
    rename_i hs
    have hst := hi.step hs
    have hlen := itF_len hf
    have hlo := goodI_len hgo
    have hal := appI_len out (evAt l j).1 (evAt l j).2.1
    have hga : goodI (appI out (evAt l j).1 (evAt l j).2.1) = true := goodI_of hst.from' (by omega)
    have hgo' : goodI out = true := goodI_of hi.from' (by omega)
    have hs' := hs
    simp only [stepOk, Bool.and_eq_true, decide_eq_true_eq, Bool.or_eq_true, goodEv] at hs'
    obtain ⟨⟨h1, h2, _⟩, h3, h4⟩ := hs'
    have hcond : (evAt l j).1 = (lastI out).1 + 1 ∧ (lastI out).2 ≤ (evAt l j).2.1 ∧ 0 ≤ (evAt l j).2.1 ∧ (evAt l j).2.1 ≤ 1000000 := by
      by_cases h0 : j = 0
      · rw [hi.z h0]
        simp [lastI]; omega
      · rw [(hi.s (by omega)).2]
        have := h4.resolve_left h0
        simp only; omega
    have hv := hat j h
    rw [impl_VersionAt_eq hgo (by omega), if_pos (by omega), h3, hv, ← h3, impl_AppendItem_eq hgo' (by omega) hcond hga]
    simp only [cond_true, Bool.not_true, cond_false, Option.getD_some, bne_self_eq_false]
    exact l11_eq hl hgo hat hid kr ke c n (j + 1) _ (by omega) (by omega) hst hf
theorem itF_inv {l : List Ev} : ∀ (c j : Nat) (out o : List (Int × Int)), InvI l j out → itF l c j out = some o → InvI l (j + c) o
  | 0, j, out, o, h, e => by cases e; exact h
  | c + 1, j, out, o, h, e => by
    unfold itF at e
    split at e
    · rename_i hs
      have := itF_inv c (j + 1) _ o (h.step hs) e
      rw [show j + (c + 1) = j + 1 + c by omega]
      exact this
    · cases e
theorem l29_eq {R : Type} {a : List (Int × Int)} (hg : goodI a = true) {u : Int} (h0 : 0 ≤ u) (hu : u ≤ (lastI a).1) (kr : Bool → Option R) (ke : Int → List (Int × Int) → List (Int × Int) → Option R) : ∀ (c n : Nat) (i : Int), c + 2000 < n → 1 ≤ i → i + c = u + 1 → laws_FnItems_l29 n u i a (cutF u 0 a) kr ke = ke u a (cutF u 0 a)
  | c, 0, _, h, _, _ => by omega
  | 0, n + 1, i, hn, h1, h2 => by rw [laws_FnItems_l29, decide_eq_false (show ¬ i ≤ u by omega)]; rfl
  | c + 1, n + 1, i, hn, h1, h2 => by
    have hla := lastI_le hg
    have hgc := goodI_cut hg (show u ≤ 1000 by omega)
    have hlc := cutF_last (goodI_from hg) (by omega) (show 0 < u by omega) hu
    obtain ⟨w, hw⟩ := atV_in (l := a) (id := i) (by omega)
    have hc := cutF_at (show i ≤ u by omega) (goodI_from hg) (by omega)
    rw [laws_FnItems_l29, decide_eq_true (show i ≤ u by omega), cond_true, impl_VersionAt_eq hg (by omega), if_pos (by omega), impl_VersionAt_eq hgc (by omega), if_pos (by omega), hc, hw]
    simp only [Bool.not_true, cond_false, bne_self_eq_false]
    rw [wrap64 (by omega) (by omega)]
    exact l29_eq hg h0 hu kr ke c n (i + 1) (by omega) (by omega) (by omega)
/-- The second half of the law: what is cut. -/
theorem half {R : Type} {n : Nat} (hn : 5000000 ≤ n) {l : List Int} (hl : Bytes l) (k : Bool → Option R) : (spec_DrawCutItems n l fun r37 r38 => (impl_CutItems n r38 r37 fun r39 r40 => (spec_CutItems n r38 r37 fun r41 r42 => (bif (!(r39 == r41)) then k false else (laws_sameItems n r40 r42 fun r43 => (bif (!r43) then k false else (bif (!r39) then k ((r40.length : Int) == 0) else (laws_FnItems_l29 n r37 1 r38 r40 (fun r44 => k r44) (fun r45 r46 r47 => (impl_LastOf n r47 fun r48 r49 r50 => (impl_IsAhead n r47 r46 fun r51 r52 => (bif (r50 == (decide (r45 > 0))) then (bif (r48 == r45) then (bif r52 then k r51 else k false) else k false) else k false)))))))))))) = k true := by
  obtain ⟨u, a, ha, e⟩ := drawCut_ex hl (n := n) (by omega)
  rw [e, impl_CutItems_eq u (by omega) (by omega)]
  by_cases c : goodI a = true ∧ 0 ≤ u ∧ u ≤ (lastI a).1
  · have hcl := cutF_length (upto := u) a 0
    have hla := lastI_le c.1
    have hgc := goodI_cut c.1 (show u ≤ 1000 by omega)
    rw [if_pos c, spec_CutItems_eq2 u (by omega) (by omega), if_pos c, laws_sameItems_refl (by omega) (by omega), l29_eq c.1 c.2.1 c.2.2 _ _ u.toNat n 1 (by omega) (by omega) (by omega)]
    have hah : ∀ kk : Bool → Bool → Option R, impl_IsAhead n (cutF u 0 a) a kk = kk (u == (lastI (cutF u 0 a)).1) true := fun kk => by
      unfold impl_IsAhead
      rw [impl_GoodItems_eq (by omega) (by omega), hgc, impl_GoodItems_eq (by omega) (by omega), c.1, impl_common_eq hgc c.1 (by omega), impl_last_eq (by omega), lca_cut c.1 c.2.1 c.2.2]
      rfl
    unfold impl_LastOf
    simp only [beq_self_eq_true, Bool.not_true, cond_false]
    rw [impl_GoodItems_eq (by omega) (by omega), hgc]
    by_cases h0 : u = 0
    · subst h0
      rw [cutF_stop] at hah ⊢
      simp only [Bool.not_true, cond_false]
      rw [show ((([] : List (Int × Int)).length : Int) == 0) = true from rfl, cond_true, hah]; rfl
    · have hlc := cutF_last (goodI_from c.1) (by omega) (show 0 < u by omega) c.2.2
      have hne : cutF u 0 a ≠ [] := fun e => by rw [e] at hlc; simp [lastI] at hlc; omega
      rw [len0 hne, impl_last_eq (by omega), impl_lastVersion_eq (by omega)]
      simp only [Bool.not_true, cond_false]
      rw [hah, hlc, decide_eq_true (show u > 0 by omega)]
      simp
  · rw [if_neg c, spec_CutItems_eq2 u (by omega) (by omega), if_neg c, laws_sameItems_refl (by simp) (by simp; omega)]
    rfl
theorem items_law {R : Type} {n : Nat} (hn : 5000000 ≤ n) {l m : List Int} (hl : Bytes l) (hm : Bytes m) (k : Bool → Option R) : laws_FnItems n l m k = k true := by
  unfold laws_FnItems
  cases decide (IntKind.wrap .i64 ((l.length : Int) + (m.length : Int)) > 1048576) with
  | true => rfl
  | false =>
    obtain ⟨ev, he, hes, hd⟩ := evs_ex hl (n := n) (by omega)
    rw [cond_false, hd, impl_ItemsOf_eq (by omega)]
    cases hr : resI ev with
    | none =>
      simp only [ansI]
      rw [spec_ItemsOf_eq (by omega) hes (by omega), hr]
      simp only [ansI]
      rw [laws_sameItems_refl (by simp) (by simp; omega)]
      exact half hn hm k
    | some o =>
      have hr' := hr
      unfold resI at hr'
      rw [if_pos he] at hr'
      split at hr'
      · cases hr'
      rename_i o' hf
      split at hr'
      case isFalse => cases hr'
      rename_i hgo
      cases hr'
      have hlo := goodI_len hgo
      have hinv := itF_inv ev.length 0 [] o (inv0 ev) hf
      have hat := AtI.all ev.length 0 [] o (inv0 ev) (fun i h => by omega) hf
      rw [Nat.zero_add] at hinv hat
      have hid : (ev.length : Int) ≤ (lastI o).1 := by
        by_cases h0 : ev.length = 0
        · have := lastI_le hgo; omega
        · rw [(hinv.s (by omega)).2]
          exact Int.le_refl _
      simp only [ansI]
      rw [spec_ItemsOf_eq (by omega) hes (by omega), hr]
      simp only [ansI]
      rw [laws_sameItems_refl (by omega) (by omega)]
      simp only [beq_self_eq_true, Bool.not_true, cond_false, cond_true]
      have := l11_eq (R := R) (xs := m) he hgo hat hid (fun r11 => k r11) (fun r12 r13 r14 => (laws_sameItems n r14 r13 fun r15 => (bif (!r15) then k false else (impl_GoodItems n r13 fun r16 => (bif (!r16) then k false else (spec_DrawCutItems n r12 fun r17 r18 => (impl_CutItems n r18 r17 fun r19 r20 => (spec_CutItems n r18 r17 fun r21 r22 => (bif (!(r19 == r21)) then k false else (laws_sameItems n r20 r22 fun r23 => (bif (!r23) then k false else (bif (!r19) then k ((r20.length : Int) == 0) else (laws_FnItems_l29 n r17 1 r18 r20 (fun r28 => k r28) (fun r29 r30 r31 => (impl_LastOf n r31 fun r32 r33 r34 => (impl_IsAhead n r31 r30 fun r35 r36 => (bif (r34 == (decide (r29 > 0))) then (bif (r32 == r29) then (bif r36 then k r35 else k false) else k false) else k false))))))))))))))))) ev.length n 0 [] (by omega) (by omega) (inv0 ev) hf
      rw [show ((0 : Nat) : Int) = 0 from rfl] at this
      rw [this, laws_sameItems_refl (by omega) (by omega), impl_GoodItems_eq (by omega) (by omega), hgo]
      exact half hn hm k
theorem plain : Plain := fun l m hl hm _ k => ⟨_, items_law (Nat.le_refl _) (fun x hx => hl.2 x hx) (fun x hx => hm.2 x hx) k⟩
end Go.Am.G
