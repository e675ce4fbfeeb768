/- The plain law: what the functions compute answers as the law says, for all arguments. -/
import Derived.Test.YtkbaenelfhakbaaDoorF3
set_option linter.unusedVariables false
set_option linter.unusedSimpArgs false
namespace Go.Am.G
open Go Go.Am
theorem wrap64 {x : Int} (h1 : -9223372036854775808 ≤ x) (h2 : x ≤ 9223372036854775807) : IntKind.wrap .i64 x = x := by
  simp only [IntKind.wrap, IntKind.signed, IntKind.bits]
  simp
  omega
theorem getD_at {α : Type} (l : List α) (d : α) {j : Nat} (h : j < l.length) : l.getD (Int.toNat (j : Int)) d = l[j] := by
  rw [Int.toNat_natCast, List.getD_eq_getElem?_getD, List.getElem?_eq_getElem h]; rfl
theorem dlt {a b : Nat} (h : a < b) : decide ((a : Int) < (b : Int)) = true := decide_eq_true (by omega)
theorem dge {a b : Nat} (h : b ≤ a) : decide ((a : Int) < (b : Int)) = false := decide_eq_false (by omega)
theorem dnn (a : Nat) : decide (0 ≤ (a : Int)) = true := decide_eq_true (by omega)
theorem wrapS {j m : Nat} (h : j < m) (hm : m ≤ 9223372036854775807) : IntKind.wrap .i64 ((j : Int) + 1) = ((j + 1 : Nat) : Int) := by
  rw [wrap64 (by omega) (by omega)]; rfl
theorem spec_l1In_eq {R : Type} (n : Nat) (x a b : Int) (k : Bool → Option R) : spec_l1In n x a b k = k (decide (a ≤ x ∧ x ≤ b)) := by
  simp only [spec_l1In]
  by_cases h : x ≥ a
  · have : a ≤ x := h
    simp [this]
  · have : ¬ a ≤ x := h
    simp [this]
theorem impl_in_eq {R : Type} (n : Nat) (x a b : Int) (k : Bool → Option R) : impl_in n x a b k = k (decide (a ≤ x ∧ x ≤ b)) := by
  simp only [impl_in]
  by_cases h : x ≥ a
  · have : a ≤ x := h
    simp [this]
  · have : ¬ a ≤ x := h
    simp [this]
theorem bifk {R α : Type} (b : Bool) (x y : α) (k : α → Option R) : (bif b then k x else k y) = k (bif b then x else y) := by cases b <;> rfl
theorem bl_loop (b : ByteArray) : ∀ (m i : Nat) (r : List UInt8), b.size - i ≤ m → ByteArray.toList.loop b i r = r.reverse ++ (b.data.toList.drop i) := by
  intro m
  induction m with
  | zero =>
    intro i r h
    unfold ByteArray.toList.loop
    have hl : b.data.toList.length = b.size := rfl
    rw [if_neg (by omega), List.drop_eq_nil_iff.2 (by omega), List.append_nil]
  | succ m ih =>
    intro i r h
    unfold ByteArray.toList.loop
    have hl : b.data.toList.length = b.size := rfl
    by_cases c : i < b.size
    · rw [if_pos c, ih _ _ (by omega), List.reverse_cons, List.append_assoc, List.drop_eq_getElem_cons (show i < b.data.toList.length by omega)]
      have : b.get! i = b.data.toList[i] := by
        show b.data[i]! = _
        rw [getElem!_pos b.data i c]; rfl
      rw [this]; rfl
    · rw [if_neg c, List.drop_eq_nil_iff.2 (by omega), List.append_nil]
theorem bl_data (b : ByteArray) : ByteArray.toList b = b.data.toList := by
  unfold ByteArray.toList
  rw [bl_loop b b.size 0 [] (by omega)]; rfl
def okB (b : UInt8) : Bool := (decide (97 ≤ (b.toNat : Int)) && decide ((b.toNat : Int) ≤ 122)) || (decide (48 ≤ (b.toNat : Int)) && decide ((b.toNat : Int) ≤ 57))
def goodN (s : ByteArray) : Bool := s.data.toList.all okB && decide ((s.size : Int) ≤ 12)
theorem byte_at (s : ByteArray) {j : Nat} (h : j < s.data.toList.length) : s.data.getD (Int.toNat (j : Int)) 0 = s.data.toList[j] := by
  rw [Int.toNat_natCast]
  have h' : j < s.size := h
  simp [Array.getD, h']
theorem spec_l1Name_loop {R : Type} (s : ByteArray) (hl : s.size ≤ 9223372036854775807) (kr : Bool → Option R) (ke : ByteArray → Option R) : ∀ (n j : Nat), s.size - j < n → j ≤ s.size → spec_l1Name_l2 n s (j : Int) kr ke = bif (s.data.toList.drop j).all okB then ke s else kr false
  | 0, _, h, _ => by omega
  | n + 1, j, hn, hj => by
    have hsz : s.data.toList.length = s.size := rfl
    rw [spec_l1Name_l2]
    by_cases h : j < s.size
    · have h' : j < s.data.toList.length := by omega
      have go := spec_l1Name_loop s hl kr ke n (j + 1) (by omega) (by omega)
      rw [dlt h, dnn, byte_at s h', wrapS h hl, List.drop_eq_getElem_cons h', List.all_cons, okB]
      simp only [cond_true, ge_iff_le]
      cases decide (97 ≤ (s.data.toList[j].toNat : Int)) with
      | true =>
        cases decide ((s.data.toList[j].toNat : Int) ≤ 122) with
        | true => exact go
        | false =>
          cases decide (48 ≤ (s.data.toList[j].toNat : Int)) with
          | false => rfl
          | true =>
            cases decide ((s.data.toList[j].toNat : Int) ≤ 57) with
            | false => rfl
            | true => exact go
      | false =>
        cases decide (48 ≤ (s.data.toList[j].toNat : Int)) with
        | false => rfl
        | true =>
          cases decide ((s.data.toList[j].toNat : Int) ≤ 57) with
          | false => rfl
          | true => exact go
    · rw [dge (by omega), List.drop_eq_nil_iff.2 (by omega)]; rfl
theorem spec_l1Name_eq {R : Type} {n : Nat} {s : ByteArray} (hl : s.size ≤ 9223372036854775807) (hn : s.size < n) (k : Bool → Option R) : spec_l1Name n s k = k (goodN s) := by
  unfold spec_l1Name goodN
  have := spec_l1Name_loop s hl (fun r1 => k r1) (fun r2 => k (decide ((r2.size : Int) ≤ 12))) n 0 (by omega) (by omega)
  rw [show ((0 : Nat) : Int) = 0 from rfl, List.drop_zero] at this
  rw [this]
  cases s.data.toList.all okB <;> rfl
def signs : List UInt8 := [97, 98, 99, 100, 101, 102, 103, 104, 105, 106, 107, 108, 109, 110, 111, 112, 113, 114, 115, 116, 117, 118, 119, 120, 121, 122, 48, 49, 50, 51, 52, 53, 54, 55, 56, 57]
theorem signs_ok : ∀ b : UInt8, signs.contains b = okB b := by
  have h : ∀ n : Nat, n < 256 → signs.contains (UInt8.ofNat n) = okB (UInt8.ofNat n) := by decide +kernel
  intro b
  have := h b.toNat b.toNat_lt
  rw [UInt8.ofNat_toNat] at this
  exact this
theorem dropW_nil {p : UInt8 → Bool} : ∀ {l : List UInt8}, l.dropWhile p = [] ↔ l.all p = true
  | [] => by simp
  | a :: l => by
    rw [List.dropWhile_cons, List.all_cons]
    cases p a with
    | true => simp only [if_true, Bool.true_and]; exact dropW_nil
    | false => simp
theorem dropW_all {p : UInt8 → Bool} : ∀ {l : List UInt8}, (l.dropWhile p).all p = l.all p
  | [] => rfl
  | a :: l => by
    rw [List.dropWhile_cons, List.all_cons]
    cases h : p a with
    | true => simp only [if_true, Bool.true_and]; exact dropW_all
    | false => simp [h]
theorem trimF_nil (l cs : List UInt8) : (trimF l cs = []) ↔ l.all (cs.contains ·) = true := by
  unfold trimF
  rw [dropW_nil, List.all_reverse, dropW_all, List.all_reverse]
theorem impl_goodName_eq {R : Type} {n : Nat} (s : ByteArray) (k : Bool → Option R) : impl_goodName n s k = k (goodN s) := by
  unfold impl_goodName goodN strings_Trim
  by_cases h : (s.size : Int) ≤ 12
  · rw [decide_eq_true h, cond_true, decide_eq_true (show s.size ≤ 9223372036854775807 by omega)]
    simp only [cond_true, Bool.and_true]
    rw [decide_eq_true (show (ByteArray.mk #[97, 98, 99, 100, 101, 102, 103, 104, 105, 106, 107, 108, 109, 110, 111, 112, 113, 114, 115, 116, 117, 118, 119, 120, 121, 122, 48, 49, 50, 51, 52, 53, 54, 55, 56, 57]).size < 4294967281 by decide)]
    change (bif signs.all (fun b => decide (b.toNat < 128)) then k (ByteArray.toList ⟨(trimF s.data.toList signs).toArray⟩ == ByteArray.toList ⟨#[]⟩) else none) = _
    rw [show signs.all (fun b => decide (b.toNat < 128)) = true by decide, cond_true]
    rw [bl_data, bl_data]
    congr 1
    have e : (ByteArray.mk (trimF s.data.toList signs).toArray).data.toList = trimF s.data.toList signs := by simp
    rw [e]
    have e2 : s.data.toList.all okB = s.data.toList.all (signs.contains ·) := by
      congr 1; funext b; exact (signs_ok b).symm
    rw [e2]
    have := trimF_nil s.data.toList signs
    cases h1 : s.data.toList.all (signs.contains ·) with
    | true => rw [this.2 h1]; rfl
    | false =>
      cases h2 : trimF s.data.toList signs with
      | nil => rw [this.1 h2] at h1; cases h1
      | cons a l => rfl
  · rw [decide_eq_false h, Bool.and_false]; rfl
theorem laws_eqItem_eq {R : Type} (n : Nat) (a b c d : Int) (k : Bool → Option R) : laws_eqItem n a b c d k = k (decide ((a, b) = (c, d))) := by
  unfold laws_eqItem
  by_cases h1 : a = c
  · by_cases h2 : b = d
    · simp [h1, h2]
    · have : (b != d) = true := by simpa using h2
      simp [h1, h2, this]
  · have : (a != c) = true := by simpa using h1
    simp [h1, this]
theorem laws_eqItemS_loop {R : Type} (xs ys : List (Int × Int)) (hl : xs.length = ys.length) (hb : xs.length ≤ 9223372036854775807) (kr : Bool → Option R) (ke : Option R) : ∀ (n j : Nat), xs.length - j < n → j ≤ xs.length →
    laws_eqItemS_l4 n xs ys (j : Int) kr ke = if xs.drop j = ys.drop j then ke else kr false
  | 0, _, h, _ => by omega
  | n + 1, j, hn, hj => by
    unfold laws_eqItemS_l4
    by_cases h : j < xs.length
    · have h' : j < ys.length := by omega
      rw [dlt h, dlt h', dnn, getD_at _ _ h, getD_at _ _ h', wrapS h hb, List.drop_eq_getElem_cons h, List.drop_eq_getElem_cons h']
      simp only [cond_true, laws_eqItem_eq]
      by_cases he : xs[j] = ys[j]
      · rw [decide_eq_true (by rw [he]), Bool.not_true, cond_false, laws_eqItemS_loop xs ys hl hb kr ke n (j + 1) (by omega) (by omega)]
        simp only [List.cons.injEq, he, true_and]
      · rw [decide_eq_false (by exact he), Bool.not_false, cond_true, if_neg fun h => he (List.cons.inj h).1]
    · rw [dge (by omega)]
      have h1 : xs.drop j = [] := List.drop_eq_nil_iff.2 (by omega)
      have h2 : ys.drop j = [] := List.drop_eq_nil_iff.2 (by omega)
      simp [h1, h2]
theorem laws_eqItemS_eq {R : Type} {n : Nat} {xs ys : List (Int × Int)} (hb : xs.length ≤ 9223372036854775807) (hn : xs.length < n) (k : Bool → Option R) : laws_eqItemS n xs ys k = k (decide (xs = ys)) := by
  unfold laws_eqItemS
  by_cases hl : xs.length = ys.length
  · have : ((xs.length : Int) != (ys.length : Int)) = false := by simp [hl]
    rw [this, cond_false]
    have := laws_eqItemS_loop xs ys hl hb k (k true) n 0 (by omega) (by omega)
    simp only [List.drop_zero] at this
    rw [show ((0 : Nat) : Int) = 0 from rfl] at this
    rw [this]
    split <;> simp_all
  · have : ((xs.length : Int) != (ys.length : Int)) = true := by simp; omega
    rw [this, cond_true, decide_eq_false fun h => hl (by rw [h])]
def goodFrom : Int → Int → List (Int × Int) → Bool
  | _, _, [] => true
  | u, v, x :: r => decide (u < x.1 ∧ x.1 ≤ 1000 ∧ v < x.2 ∧ x.2 ≤ 1000000) && goodFrom x.1 x.2 r
def goodI (l : List (Int × Int)) : Bool := decide (l.length ≤ 20) && goodFrom 0 (-1) l
theorem getD_prev {α : Type} (l : List α) (d : α) {j : Nat} (hj : 0 < j) (h : j ≤ l.length) (hb : l.length ≤ 9223372036854775807) : IntKind.wrap .i64 ((j : Int) - 1) = ((j - 1 : Nat) : Int) := by
  rw [wrap64 (by omega) (by omega)]; omega
theorem spec_GoodItems_loop {R : Type} (l : List (Int × Int)) (hb : l.length ≤ 9223372036854775807) (kr : Bool → Option R) (ke : List (Int × Int) → Option R) : ∀ (n j : Nat) (u v : Int), l.length - j < n → j ≤ l.length → 0 ≤ u → -1 ≤ v →
    (j = 0 → u = 0 ∧ v = -1) → (∀ (h : j - 1 < l.length), 0 < j → l[j - 1] = (u, v)) →
    spec_GoodItems_l2 n l l (l.length : Int) (j : Int) kr ke = bif goodFrom u v (l.drop j) then ke l else kr false
  | 0, _, _, _, h, _, _, _, _, _ => by omega
  | n + 1, j, u, v, hn, hj, hu, hv, h0, h1 => by
    unfold spec_GoodItems_l2
    by_cases h : j < l.length
    · rw [dlt h, dnn, getD_at _ _ h, wrapS h hb, List.drop_eq_getElem_cons h]
      simp only [cond_true, spec_l1In_eq, goodFrom]
      have ih := spec_GoodItems_loop l hb kr ke n (j + 1) l[j].1 l[j].2 (by omega) (by omega)
      by_cases hz : j = 0
      · obtain ⟨rfl, rfl⟩ := h0 hz
        rw [decide_eq_false (show ¬ ((j : Int) > 0) by omega)]
        by_cases c1 : 1 ≤ l[j].1 ∧ l[j].1 ≤ 1000
        · by_cases c2 : 0 ≤ l[j].2 ∧ l[j].2 ≤ 1000000
          · rw [decide_eq_true c1, decide_eq_true c2, decide_eq_true (show 0 < l[j].1 ∧ l[j].1 ≤ 1000 ∧ -1 < l[j].2 ∧ l[j].2 ≤ 1000000 by omega)]
            simp only [Bool.not_true, cond_false, Bool.true_and]
            exact ih (by omega) (by omega) (by omega) (fun _ _ => rfl)
          · rw [decide_eq_true c1, decide_eq_false c2, decide_eq_false (show ¬ (0 < l[j].1 ∧ l[j].1 ≤ 1000 ∧ -1 < l[j].2 ∧ l[j].2 ≤ 1000000) by omega)]; rfl
        · rw [decide_eq_false c1, decide_eq_false (show ¬ (0 < l[j].1 ∧ l[j].1 ≤ 1000 ∧ -1 < l[j].2 ∧ l[j].2 ≤ 1000000) by omega)]; rfl
      · have hp : j - 1 < l.length := by omega
        have hq := h1 hp (by omega)
        rw [decide_eq_true (show ((j : Int) > 0) by omega), getD_prev l (0, 0) (by omega) (by omega) hb, dnn, dlt hp, getD_at _ _ hp, hq]
        simp only [cond_true]
        by_cases c1 : 1 ≤ l[j].1 ∧ l[j].1 ≤ 1000
        · by_cases c2 : 0 ≤ l[j].2 ∧ l[j].2 ≤ 1000000
          · rw [decide_eq_true c1, decide_eq_true c2]
            simp only [Bool.not_true, cond_false]
            by_cases c3 : u < l[j].1
            · by_cases c4 : v < l[j].2
              · rw [decide_eq_false (show ¬ (u ≥ l[j].1) by omega), decide_eq_false (show ¬ (v ≥ l[j].2) by omega), decide_eq_true (show u < l[j].1 ∧ l[j].1 ≤ 1000 ∧ v < l[j].2 ∧ l[j].2 ≤ 1000000 by omega)]
                simp only [cond_false, Bool.true_and]
                exact ih (by omega) (by omega) (by omega) (fun _ _ => rfl)
              · rw [decide_eq_false (show ¬ (u ≥ l[j].1) by omega), decide_eq_true (show (v ≥ l[j].2) by omega), decide_eq_false (show ¬ (u < l[j].1 ∧ l[j].1 ≤ 1000 ∧ v < l[j].2 ∧ l[j].2 ≤ 1000000) by omega)]; rfl
            · rw [decide_eq_true (show (u ≥ l[j].1) by omega), decide_eq_false (show ¬ (u < l[j].1 ∧ l[j].1 ≤ 1000 ∧ v < l[j].2 ∧ l[j].2 ≤ 1000000) by omega)]; rfl
          · rw [decide_eq_true c1, decide_eq_false c2, decide_eq_false (show ¬ (u < l[j].1 ∧ l[j].1 ≤ 1000 ∧ v < l[j].2 ∧ l[j].2 ≤ 1000000) by omega)]; rfl
        · rw [decide_eq_false c1, decide_eq_false (show ¬ (u < l[j].1 ∧ l[j].1 ≤ 1000 ∧ v < l[j].2 ∧ l[j].2 ≤ 1000000) by omega)]; rfl
    · rw [dge (by omega), List.drop_eq_nil_iff.2 (by omega)]; rfl
theorem spec_GoodItems_eq {R : Type} {n : Nat} {l : List (Int × Int)} (hb : l.length ≤ 9223372036854775807) (hn : l.length < n) (k : Bool → Option R) : spec_GoodItems n l k = k (goodI l) := by
  unfold spec_GoodItems
  have := spec_GoodItems_loop l hb k (fun r4 => k (decide ((r4.length : Int) ≤ 20))) n 0 0 (-1) (by omega) (by omega) (by omega) (by omega) (fun _ => ⟨rfl, rfl⟩) (fun _ h => by omega)
  rw [show ((0 : Nat) : Int) = 0 from rfl] at this
  rw [this, List.drop_zero, bifk]
  congr 1
  unfold goodI
  cases goodFrom 0 (-1) l with
  | true => simp only [cond_true, Bool.and_true]; apply decide_eq_decide.2; omega
  | false => simp
theorem impl_isVersion_eq {R : Type} (n : Nat) (x : Int) (k : Bool → Option R) : impl_isVersion n x k = k (decide (0 ≤ x ∧ x ≤ 1000000)) := by
  unfold impl_isVersion
  rw [impl_in_eq]
theorem impl_GoodItems_loop {R : Type} (l : List (Int × Int)) (hb : l.length ≤ 9223372036854775807) (kr : Bool → Option R) (ke : Option R) : ∀ (n j : Nat) (u v : Int), l.length - j < n → j ≤ l.length → 0 ≤ u → -1 ≤ v →
    (j = 0 → u = 0 ∧ v = -1) → (∀ (h : j - 1 < l.length), 0 < j → l[j - 1] = (u, v)) →
    impl_GoodItems_l4 n l l (l.length : Int) (j : Int) kr ke = bif goodFrom u v (l.drop j) then ke else kr false
  | 0, _, _, _, h, _, _, _, _, _ => by omega
  | n + 1, j, u, v, hn, hj, hu, hv, h0, h1 => by
    unfold impl_GoodItems_l4
    by_cases h : j < l.length
    · rw [dlt h, dnn, getD_at _ _ h, wrapS h hb, List.drop_eq_getElem_cons h]
      simp only [cond_true, impl_in_eq, impl_isVersion_eq, goodFrom]
      have ih := impl_GoodItems_loop l hb kr ke n (j + 1) l[j].1 l[j].2 (by omega) (by omega)
      by_cases hz : j = 0
      · obtain ⟨rfl, rfl⟩ := h0 hz
        rw [decide_eq_false (show ¬ ((j : Int) > 0) by omega)]
        by_cases c1 : 1 ≤ l[j].1 ∧ l[j].1 ≤ 1000
        · by_cases c2 : 0 ≤ l[j].2 ∧ l[j].2 ≤ 1000000
          · rw [decide_eq_true c1, decide_eq_true c2, decide_eq_true (show 0 < l[j].1 ∧ l[j].1 ≤ 1000 ∧ -1 < l[j].2 ∧ l[j].2 ≤ 1000000 by omega)]
            simp only [Bool.not_true, cond_false, Bool.true_and]
            exact ih (by omega) (by omega) (by omega) (fun _ _ => rfl)
          · rw [decide_eq_true c1, decide_eq_false c2, decide_eq_false (show ¬ (0 < l[j].1 ∧ l[j].1 ≤ 1000 ∧ -1 < l[j].2 ∧ l[j].2 ≤ 1000000) by omega)]; rfl
        · rw [decide_eq_false c1, decide_eq_false (show ¬ (0 < l[j].1 ∧ l[j].1 ≤ 1000 ∧ -1 < l[j].2 ∧ l[j].2 ≤ 1000000) by omega)]; rfl
      · have hp : j - 1 < l.length := by omega
        have hq := h1 hp (by omega)
        rw [decide_eq_true (show ((j : Int) > 0) by omega), getD_prev l (0, 0) (by omega) (by omega) hb, dnn, dlt hp, getD_at _ _ hp, hq]
        simp only [cond_true]
        by_cases c1 : 1 ≤ l[j].1 ∧ l[j].1 ≤ 1000
        · by_cases c2 : 0 ≤ l[j].2 ∧ l[j].2 ≤ 1000000
          · rw [decide_eq_true c1, decide_eq_true c2]
            simp only [Bool.not_true, cond_false]
            by_cases c3 : u < l[j].1
            · by_cases c4 : v < l[j].2
              · rw [decide_eq_false (show ¬ (l[j].1 ≤ u) by omega), decide_eq_false (show ¬ (l[j].2 ≤ v) by omega), decide_eq_true (show u < l[j].1 ∧ l[j].1 ≤ 1000 ∧ v < l[j].2 ∧ l[j].2 ≤ 1000000 by omega)]
                simp only [cond_false, Bool.true_and]
                exact ih (by omega) (by omega) (by omega) (fun _ _ => rfl)
              · rw [decide_eq_false (show ¬ (l[j].1 ≤ u) by omega), decide_eq_true (show (l[j].2 ≤ v) by omega), decide_eq_false (show ¬ (u < l[j].1 ∧ l[j].1 ≤ 1000 ∧ v < l[j].2 ∧ l[j].2 ≤ 1000000) by omega)]; rfl
            · rw [decide_eq_true (show (l[j].1 ≤ u) by omega), decide_eq_false (show ¬ (u < l[j].1 ∧ l[j].1 ≤ 1000 ∧ v < l[j].2 ∧ l[j].2 ≤ 1000000) by omega)]; rfl
          · rw [decide_eq_true c1, decide_eq_false c2, decide_eq_false (show ¬ (u < l[j].1 ∧ l[j].1 ≤ 1000 ∧ v < l[j].2 ∧ l[j].2 ≤ 1000000) by omega)]; rfl
        · rw [decide_eq_false c1, decide_eq_false (show ¬ (u < l[j].1 ∧ l[j].1 ≤ 1000 ∧ v < l[j].2 ∧ l[j].2 ≤ 1000000) by omega)]; rfl
    · rw [dge (by omega), List.drop_eq_nil_iff.2 (by omega)]; rfl
theorem impl_GoodItems_eq {R : Type} {n : Nat} {l : List (Int × Int)} (hb : l.length ≤ 9223372036854775807) (hn : l.length < n) (k : Bool → Option R) : impl_GoodItems n l k = k (goodI l) := by
  unfold impl_GoodItems
  have := impl_GoodItems_loop l hb k (k true) n 0 0 (-1) (by omega) (by omega) (by omega) (by omega) (fun _ => ⟨rfl, rfl⟩) (fun _ h => by omega)
  rw [show ((0 : Nat) : Int) = 0 from rfl] at this
  rw [this, List.drop_zero, bifk, bifk]
  congr 1
  unfold goodI
  by_cases h : l.length ≤ 20
  · rw [decide_eq_false (by omega), decide_eq_true h]
    cases goodFrom 0 (-1) l <;> rfl
  · rw [decide_eq_true (by omega), decide_eq_false h]
    cases goodFrom 0 (-1) l <;> rfl
/-- The last of items, by what it tells. -/
def lastI (l : List (Int × Int)) : Int × Int := l.getLast?.getD (0, 0)
theorem getD_last {l : List (Int × Int)} (h : l ≠ []) (hb : l.length ≤ 9223372036854775807) : l.getD (Int.toNat (IntKind.wrap .i64 ((l.length : Int) - 1))) (0, 0) = lastI l := by
  have := List.length_pos_iff.2 h
  rw [wrap64 (by omega) (by omega), show (l.length : Int) - 1 = ((l.length - 1 : Nat) : Int) by omega, getD_at _ _ (by omega), ← List.getLast_eq_getElem h]
  rw [lastI, List.getLast?_eq_some_getLast h]; rfl
theorem dlast {l : List (Int × Int)} (h : l ≠ []) (hb : l.length ≤ 9223372036854775807) : decide (0 ≤ IntKind.wrap .i64 ((l.length : Int) - 1)) = true ∧ decide (IntKind.wrap .i64 ((l.length : Int) - 1) < (l.length : Int)) = true := by
  have := List.length_pos_iff.2 h
  rw [wrap64 (by omega) (by omega)]
  exact ⟨decide_eq_true (by omega), decide_eq_true (by omega)⟩
theorem len0 {l : List (Int × Int)} (h : l ≠ []) : ((l.length : Int) == 0) = false := by
  have := List.length_pos_iff.2 h
  simp; omega
theorem impl_last_eq {R : Type} {n : Nat} {l : List (Int × Int)} (hb : l.length ≤ 9223372036854775807) (k : Int → Option R) : impl_last n l k = k (lastI l).1 := by
  unfold impl_last
  by_cases h : l = []
  · subst h; rfl
  · rw [len0 h, (dlast h hb).1, (dlast h hb).2, getD_last h hb]; rfl
theorem impl_lastVersion_eq {R : Type} {n : Nat} {l : List (Int × Int)} (hb : l.length ≤ 9223372036854775807) (k : Int → Option R) : impl_lastVersion n l k = k (lastI l).2 := by
  unfold impl_lastVersion
  by_cases h : l = []
  · subst h; rfl
  · rw [len0 h, (dlast h hb).1, (dlast h hb).2, getD_last h hb]; rfl
theorem goodFrom_bounds : ∀ {l : List (Int × Int)} {u v : Int}, goodFrom u v l = true → ∀ x ∈ l, u < x.1 ∧ x.1 ≤ 1000 ∧ v < x.2 ∧ x.2 ≤ 1000000
  | [], _, _, _, x, hx => by simp at hx
  | y :: r, u, v, h, x, hx => by
    simp only [goodFrom, Bool.and_eq_true, decide_eq_true_eq] at h
    rcases List.mem_cons.1 hx with rfl | hx
    · exact h.1
    · have := goodFrom_bounds h.2 x hx
      omega
theorem goodI_len {l : List (Int × Int)} (h : goodI l = true) : l.length ≤ 20 := by
  simp only [goodI, Bool.and_eq_true, decide_eq_true_eq] at h
  exact h.1
theorem goodI_mem {l : List (Int × Int)} (h : goodI l = true) {x : Int × Int} (hx : x ∈ l) : 1 ≤ x.1 ∧ x.1 ≤ 1000 ∧ 0 ≤ x.2 ∧ x.2 ≤ 1000000 := by
  simp only [goodI, Bool.and_eq_true, decide_eq_true_eq] at h
  have := goodFrom_bounds h.2 x hx
  omega
theorem lastI_le {l : List (Int × Int)} (h : goodI l = true) : 0 ≤ (lastI l).1 ∧ (lastI l).1 ≤ 1000 := by
  unfold lastI
  cases h0 : l.getLast? with
  | none => simp
  | some x =>
    have := goodI_mem h (List.mem_of_getLast? h0)
    simp only [Option.getD_some]
    omega
theorem lastI_snoc (l : List (Int × Int)) (x : Int × Int) : lastI (l ++ [x]) = x := by simp [lastI]
abbrev Ev := Int × Int × Int × ByteArray
def goodEv (e : Ev) : Bool := decide (1 ≤ e.1 ∧ e.1 ≤ 1000) && (decide (0 ≤ e.2.1 ∧ e.2.1 ≤ 1000000) && (decide (1 ≤ e.2.2.1 ∧ e.2.2.1 ≤ 6) && goodN e.2.2.2))
theorem spec_GoodEvent_eq {R : Type} {n : Nat} (a b c : Int) (s : ByteArray) (hs : s.size ≤ 1048576) (hn : 2000000 ≤ n) (k : Bool → Option R) : spec_GoodEvent n a b c s k = k (goodEv (a, b, c, s)) := by
  unfold spec_GoodEvent goodEv
  simp only [spec_l1In_eq, spec_l1Name_eq (show s.size ≤ 9223372036854775807 by omega) (show s.size < n by omega)]
  cases decide (1 ≤ a ∧ a ≤ 1000) <;> cases decide (0 ≤ b ∧ b ≤ 1000000) <;> cases decide (1 ≤ c ∧ c ≤ 6) <;> rfl
theorem impl_GoodEvent_eq {R : Type} (n : Nat) (a b c : Int) (s : ByteArray) (k : Bool → Option R) : impl_GoodEvent n a b c s k = k (goodEv (a, b, c, s)) := by
  unfold impl_GoodEvent goodEv impl_goodKind
  simp only [impl_in_eq, impl_isVersion_eq, impl_goodName_eq]
  cases decide (1 ≤ a ∧ a ≤ 1000) <;> cases decide (0 ≤ b ∧ b ≤ 1000000) <;> cases decide (1 ≤ c ∧ c ≤ 6) <;> rfl
def appI (out : List (Int × Int)) (id v : Int) : List (Int × Int) := if out ≠ [] ∧ (lastI out).2 = v then out.set (out.length - 1) (id, (lastI out).2) else out ++ [(id, v)]
theorem appI_len (out : List (Int × Int)) (id v : Int) : out.length ≤ (appI out id v).length ∧ (appI out id v).length ≤ out.length + 1 := by
  unfold appI
  split <;> simp
theorem wlast {l : List (Int × Int)} (h : l ≠ []) (hb : l.length ≤ 2000000) : Int.toNat (IntKind.wrap .i64 ((l.length : Int) - 1)) = l.length - 1 := by
  have := List.length_pos_iff.2 h
  rw [wrap64 (by omega) (by omega)]; omega
theorem spec_l11Append_eq {R : Type} {n : Nat} {out : List (Int × Int)} (hl : out.length ≤ 2000000) (id v : Int) (k : List (Int × Int) → Option R) : spec_l11Append n out id v k = k (appI out id v) := by
  unfold spec_l11Append appI
  rw [List.nil_append, decide_eq_true (show ([] : List (Int × Int)).length + out.length ≤ LIM by simp [LIM]; omega), decide_eq_true (show out.length + [(id, v)].length ≤ LIM by simp [LIM]; omega)]
  by_cases h : out = []
  · subst h
    rw [decide_eq_false (show ¬ IntKind.wrap .i64 (((([] : List (Int × Int)).length : Nat) : Int) - 1) ≥ 0 by rw [wrap64 (by simp) (by simp)]; simp)]
    simp
  · have hp := List.length_pos_iff.2 h
    obtain ⟨d1, d2⟩ := dlast h (show out.length ≤ 9223372036854775807 by omega)
    rw [getD_last h (by omega), d2, wlast h hl, decide_eq_true (show IntKind.wrap .i64 ((out.length : Int) - 1) ≥ 0 by rw [wrap64 (by omega) (by omega)]; omega)]
    simp only [cond_true]
    by_cases h2 : (lastI out).2 = v
    · rw [if_pos ⟨h, h2⟩, show ((lastI out).2 == v) = true by simpa using h2]; rfl
    · rw [if_neg (fun h3 => h2 h3.2), show ((lastI out).2 == v) = false by simpa using h2]; rfl
theorem impl_appended_eq {R : Type} {n : Nat} {out : List (Int × Int)} (hg : goodI out = true) (hn : 1000 ≤ n) (id v : Int) (k : Bool → List (Int × Int) → Option R) :
    impl_appended n out id v k = if id = (lastI out).1 + 1 ∧ (lastI out).2 ≤ v ∧ 0 ≤ v ∧ v ≤ 1000000 then k (goodI (appI out id v)) (appI out id v) else k false [] := by
  have hl := goodI_len hg
  have hla := lastI_le hg
  unfold impl_appended slices_Clone_impl_Item
  simp only [impl_last_eq (show out.length ≤ 9223372036854775807 by omega), impl_lastVersion_eq (show out.length ≤ 9223372036854775807 by omega), impl_isVersion_eq, wrap64 (x := (lastI out).1 + 1) (by omega) (by omega)]
  by_cases h1 : id = (lastI out).1 + 1
  case neg => rw [show (id != (lastI out).1 + 1) = true by simpa using h1, if_neg (fun h => h1 h.1)]; rfl
  by_cases h2 : v < (lastI out).2
  · rw [show (id != (lastI out).1 + 1) = false by simpa using h1, decide_eq_true h2, if_neg (fun h => by omega)]; rfl
  by_cases h3 : 0 ≤ v ∧ v ≤ 1000000
  case neg => rw [show (id != (lastI out).1 + 1) = false by simpa using h1, decide_eq_false h2, decide_eq_false h3, if_neg (fun h => h3 h.2.2)]; rfl
  rw [show (id != (lastI out).1 + 1) = false by simpa using h1, decide_eq_false h2, decide_eq_true h3, if_pos ⟨h1, by omega, h3⟩, decide_eq_true (show 0 + out.length ≤ LIM by simp [LIM]; omega), decide_eq_true (show out.length + [(id, v)].length ≤ LIM by simp [LIM]; omega)]
  simp only [Bool.not_true, cond_false, cond_true]
  have hal := appI_len out id v
  by_cases h : out = []
  · subst h
    have e : appI [] id v = [] ++ [(id, v)] := by simp [appI]
    rw [e]
    show (bif false then _ else impl_GoodItems n ([] ++ [(id, v)]) fun r8 => k r8 ([] ++ [(id, v)])) = _
    rw [cond_false, impl_GoodItems_eq (by simp) (by simp; omega)]
  · have hp := List.length_pos_iff.2 h
    obtain ⟨d1, d2⟩ := dlast h (show out.length ≤ 9223372036854775807 by omega)
    rw [decide_eq_true (show (out.length : Int) > 0 by omega), d1, d2, getD_last h (by omega), wlast h (by omega), cond_true]
    by_cases h4 : v = (lastI out).2
    · have e : appI out id v = out.set (out.length - 1) (id, (lastI out).2) := by unfold appI; rw [if_pos ⟨h, h4.symm⟩]
      rw [show (v == (lastI out).2) = true by simpa using h4, e]
      simp only [cond_true]
      rw [impl_GoodItems_eq (by simp; omega) (by simp; omega)]
    · have e : appI out id v = out ++ [(id, v)] := by unfold appI; rw [if_neg (fun h5 => h4 h5.2.symm)]
      rw [show (v == (lastI out).2) = false by simpa using h4, e]
      simp only [cond_false]
      rw [impl_GoodItems_eq (by simp; omega) (by simp; omega)]
theorem set_lastE {α : Type} (a : List α) (y x : α) : (a ++ [y]).set ((a ++ [y]).length - 1) x = a ++ [x] := by
  rw [List.set_append_right _ _ (by simp)]
  simp
def lastP (u v : Int) (l : List (Int × Int)) : Int × Int := if l = [] then (u, v) else lastI l
theorem goodFrom_snoc (x : Int × Int) : ∀ (l : List (Int × Int)) (u v : Int), goodFrom u v (l ++ [x]) = (goodFrom u v l && decide ((lastP u v l).1 < x.1 ∧ x.1 ≤ 1000 ∧ (lastP u v l).2 < x.2 ∧ x.2 ≤ 1000000))
  | [], u, v => by simp [goodFrom, lastP]
  | y :: l, u, v => by
    have ih := goodFrom_snoc x l y.1 y.2
    have e : lastP u v (y :: l) = lastP y.1 y.2 l := by
      unfold lastP
      rw [if_neg (by simp)]
      cases l with
      | nil => simp [lastI]
      | cons z l => simp [lastI]
    rw [List.cons_append, goodFrom, ih, goodFrom, e, Bool.and_assoc]
def evAt (l : List Ev) (j : Nat) : Ev := l.getD j (0, (0, (0, ByteArray.empty)))
theorem evAt_at (l : List Ev) {j : Nat} (h : j < l.length) : evAt l j = l[j] := by
  unfold evAt; rw [List.getD_eq_getElem?_getD, List.getElem?_eq_getElem h]; rfl
def stepOk (l : List Ev) (j : Nat) : Bool := goodEv (evAt l j) && (decide ((evAt l j).1 = (j : Int) + 1) && (decide (j = 0) || decide ((evAt l (j - 1)).2.1 ≤ (evAt l j).2.1)))
def itF (l : List Ev) : Nat → Nat → List (Int × Int) → Option (List (Int × Int))
  | 0, _, out => some out
  | c + 1, j, out => if stepOk l j = true then itF l c (j + 1) (appI out (evAt l j).1 (evAt l j).2.1) else none
theorem itF_len {l : List Ev} : ∀ {c j : Nat} {out o : List (Int × Int)}, itF l c j out = some o → out.length ≤ o.length
  | 0, _, _, _, h => by cases h; exact Nat.le_refl _
  | c + 1, j, out, o, h => by
    unfold itF at h
    split at h
    · exact Nat.le_trans (appI_len _ _ _).1 (itF_len h)
    · cases h
structure InvI (l : List Ev) (j : Nat) (out : List (Int × Int)) : Prop where
  from' : goodFrom 0 (-1) out = true
  z : j = 0 → out = []
  s : 0 < j → out ≠ [] ∧ lastI out = ((j : Int), (evAt l (j - 1)).2.1)
theorem InvI.step {l : List Ev} {j : Nat} {out : List (Int × Int)} (h : InvI l j out) (hs : stepOk l j = true) : InvI l (j + 1) (appI out (evAt l j).1 (evAt l j).2.1) := by
  simp only [stepOk, Bool.and_eq_true, decide_eq_true_eq, Bool.or_eq_true, goodEv] at hs
  obtain ⟨⟨h1, h2, _⟩, h3, h4⟩ := hs
  have mk : ∀ o : List (Int × Int), goodFrom 0 (-1) o = true → o ≠ [] → lastI o = ((j : Int) + 1, (evAt l j).2.1) → InvI l (j + 1) o := fun o a b c => ⟨a, fun h => by omega, fun _ => ⟨b, by rw [c]; simp⟩⟩
  by_cases hj : j = 0
  · have e := h.z hj
    subst e
    have e2 : appI [] (evAt l j).1 (evAt l j).2.1 = [((evAt l j).1, (evAt l j).2.1)] := by simp [appI]
    rw [e2]
    refine mk _ ?_ (by simp) (by simp [lastI, h3])
    simp only [goodFrom, Bool.and_true, decide_eq_true_eq]
    omega
  · obtain ⟨hne, hla⟩ := h.s (by omega)
    have h5 : (evAt l (j - 1)).2.1 ≤ (evAt l j).2.1 := h4.resolve_left hj
    by_cases h6 : (lastI out).2 = (evAt l j).2.1
    · have e2 : appI out (evAt l j).1 (evAt l j).2.1 = out.set (out.length - 1) ((evAt l j).1, (lastI out).2) := by unfold appI; rw [if_pos ⟨hne, h6⟩]
      have e3 : out = out.dropLast ++ [lastI out] := by
        unfold lastI
        rw [List.getLast?_eq_some_getLast hne]
        exact (List.dropLast_concat_getLast hne).symm
      have hp := List.length_pos_iff.2 hne
      have e4 : out.set (out.length - 1) ((evAt l j).1, (lastI out).2) = out.dropLast ++ [((evAt l j).1, (lastI out).2)] := by
        have := set_lastE out.dropLast (lastI out) ((evAt l j).1, (lastI out).2)
        rw [← e3] at this
        exact this
      have hf := h.from'
      rw [e3, goodFrom_snoc, Bool.and_eq_true, decide_eq_true_eq] at hf
      rw [e2, e4]
      refine mk _ ?_ (by simp) (by simp [lastI_snoc, h3, h6])
      rw [goodFrom_snoc, hf.1, Bool.true_and, decide_eq_true_eq]
      have h7 := hf.2
      rw [hla] at h7 ⊢
      exact ⟨by have := h7.1; show _ < (evAt l j).1; simp only at this; omega, by show (evAt l j).1 ≤ 1000; omega, h7.2.2⟩
    · have e2 : appI out (evAt l j).1 (evAt l j).2.1 = out ++ [((evAt l j).1, (evAt l j).2.1)] := by unfold appI; rw [if_neg (fun h => h6 h.2)]
      rw [e2]
      refine mk _ ?_ (by simp) (by simp [lastI_snoc, h3])
      rw [goodFrom_snoc, h.from', Bool.true_and, decide_eq_true_eq]
      have e3 : lastP 0 (-1) out = lastI out := if_neg hne
      rw [e3, hla]
      rw [hla] at h6
      simp only at h6 ⊢
      omega
theorem spec_items_loop {R : Type} {l : List Ev} (hl : l.length ≤ 1048576) (hsz : ∀ x ∈ l, x.2.2.2.size ≤ 1048576) (kr : List (Int × Int) → Bool → Option R) (ke : List Ev → List (Int × Int) → Option R) : ∀ (c n j : Nat) (out : List (Int × Int)), c + 2000000 < n → j + c = l.length → out.length ≤ j →
    spec_ItemsOf_l3 n l l (l.length : Int) (j : Int) out kr ke = match itF l c j out with
      | none => kr [] false
      | some o => ke l o
  | c, 0, _, _, h, _, _ => by omega
  | 0, n + 1, j, out, hn, hj, ho => by rw [spec_ItemsOf_l3, dge (by omega)]; rfl
  | c + 1, n + 1, j, out, hn, hj, ho => by
    have h : j < l.length := by omega
    have hal := appI_len out l[j].1 l[j].2.1
    have go := spec_items_loop hl hsz kr ke c n (j + 1) (appI out l[j].1 l[j].2.1) (by omega) (by omega) (by omega)
    rw [spec_ItemsOf_l3, dlt h, dnn, getD_at _ _ h, wrapS h (by omega), spec_GoodEvent_eq _ _ _ _ (hsz _ (List.getElem_mem h)) (by omega), itF, stepOk, evAt_at l h]
    simp only [cond_true]
    rw [show goodEv (l[j].1, l[j].2.1, l[j].2.2.1, l[j].2.2.2) = goodEv l[j] from rfl]
    cases hg : goodEv l[j] with
    | false => rfl
    | true =>
      by_cases h1 : l[j].1 = (j : Int) + 1
      case neg =>
        rw [show (l[j].1 != ((j + 1 : Nat) : Int)) = true by simp; omega, decide_eq_false h1]; rfl
      rw [show (l[j].1 != ((j + 1 : Nat) : Int)) = false by simp; omega, decide_eq_true h1]
      by_cases h0 : j = 0
      · rw [decide_eq_true h0, decide_eq_false (show ¬ (j : Int) > 0 by omega), spec_l11Append_eq (by omega)]
        simp only [Bool.not_true, cond_false, Bool.true_and, Bool.true_or, if_true]
        exact go
      · have hj1 : j - 1 < l.length := by omega
        rw [decide_eq_false h0, decide_eq_true (show (j : Int) > 0 by omega), wrap64 (x := (j : Int) - 1) (by omega) (by omega), show (j : Int) - 1 = ((j - 1 : Nat) : Int) by omega, dnn, dlt hj1, getD_at _ _ hj1, evAt_at l hj1]
        simp only [Bool.not_true, cond_false, cond_true, Bool.true_and, Bool.false_or]
        by_cases h2 : l[j - 1].2.1 ≤ l[j].2.1
        · rw [decide_eq_true h2, decide_eq_false (show ¬ l[j - 1].2.1 > l[j].2.1 by omega), spec_l11Append_eq (by omega), cond_false, if_pos rfl]
          exact go
        · rw [decide_eq_false h2, decide_eq_true (show l[j - 1].2.1 > l[j].2.1 by omega)]; rfl
def resI (l : List Ev) : Option (List (Int × Int)) := if l.length ≤ 60 then (match itF l l.length 0 [] with
  | none => none
  | some o => if goodI o = true then some o else none) else none
theorem itF_bound {l : List Ev} : ∀ {c j : Nat} {out o : List (Int × Int)}, itF l c j out = some o → o.length ≤ out.length + c
  | 0, _, _, _, h => by cases h; omega
  | c + 1, j, out, o, h => by
    unfold itF at h
    split at h
    · have := itF_bound h
      have := (appI_len out (evAt l j).1 (evAt l j).2.1).2
      omega
    · cases h
def ansI {R : Type} (o : Option (List (Int × Int))) (k : List (Int × Int) → Bool → Option R) : Option R := match o with
  | none => k [] false
  | some o => k o true
theorem spec_ItemsOf_eq {R : Type} {n : Nat} {l : List Ev} (hl : l.length ≤ 1048576) (hsz : ∀ x ∈ l, x.2.2.2.size ≤ 1048576) (hn : 4000000 ≤ n) (k : List (Int × Int) → Bool → Option R) : spec_ItemsOf n l k = ansI (resI l) k := by
  unfold spec_ItemsOf resI
  have := spec_items_loop hl hsz (fun r4 r5 => k r4 r5) (fun r6 r7 => (bif (decide ((r6.length : Int) > 60)) then k ([] : List (Int × Int)) false else (spec_GoodItems n r7 fun r8 => (bif (!r8) then k ([] : List (Int × Int)) false else k r7 true)))) l.length n 0 [] (by omega) (by omega) (by simp)
  rw [show ((0 : Nat) : Int) = 0 from rfl] at this
  rw [this]
  cases h : itF l l.length 0 [] with
  | none => simp only; split <;> rfl
  | some o =>
    have hb := itF_bound h
    simp only [List.length_nil] at hb
    simp only
    by_cases h60 : l.length ≤ 60
    · rw [if_pos h60, decide_eq_false (show ¬ (l.length : Int) > 60 by omega), cond_false, spec_GoodItems_eq (by omega) (by omega)]
      cases goodI o <;> rfl
    · rw [if_neg h60, decide_eq_true (show (l.length : Int) > 60 by omega)]; rfl
/-- What the program's loop does with one event. -/
theorem items_step {R : Type} {l : List Ev} {c j : Nat} {out : List (Int × Int)} (hi : InvI l j out) (hg : goodI out = true) {n : Nat} (hn : 2000 ≤ n) (bad : Option R) (ke : List (Int × Int) → Option R) (rec' : List (Int × Int) → Option R)
    (hrec : stepOk l j = true → goodI (appI out (evAt l j).1 (evAt l j).2.1) = true → rec' (appI out (evAt l j).1 (evAt l j).2.1) = match itF l c (j + 1) (appI out (evAt l j).1 (evAt l j).2.1) with
      | none => bad
      | some o => if goodI o = true then ke o else bad) :
    (impl_appended n out (evAt l j).1 (evAt l j).2.1 fun r1 r2 => (bif (!r1) then bad else (impl_GoodEvent n (evAt l j).1 (evAt l j).2.1 (evAt l j).2.2.1 (evAt l j).2.2.2 fun r3 => (bif (!r3) then bad else rec' r2)))) = match itF l (c + 1) j out with
      | none => bad
      | some o => if goodI o = true then ke o else bad := by
  rw [impl_appended_eq hg (by omega), itF]
  have hse : stepOk l j = true → (evAt l j).1 = (lastI out).1 + 1 ∧ (lastI out).2 ≤ (evAt l j).2.1 ∧ 0 ≤ (evAt l j).2.1 ∧ (evAt l j).2.1 ≤ 1000000 := fun hs => by
    simp only [stepOk, Bool.and_eq_true, decide_eq_true_eq, Bool.or_eq_true, goodEv] at hs
    obtain ⟨⟨h1, h2, _⟩, h3, h4⟩ := hs
    by_cases hj : j = 0
    · rw [hi.z hj]
      show (evAt l j).1 = 0 + 1 ∧ 0 ≤ (evAt l j).2.1 ∧ _
      omega
    · rw [(hi.s (by omega)).2]
      have := h4.resolve_left hj
      simp only
      omega
  by_cases hs : stepOk l j = true
  · rw [if_pos (hse hs), if_pos hs]
    have hst := hi.step hs
    cases hgn : goodI (appI out (evAt l j).1 (evAt l j).2.1) with
    | true =>
      have hge : goodEv (evAt l j) = true := by
        simp only [stepOk, Bool.and_eq_true] at hs; exact hs.1
      rw [impl_GoodEvent_eq, show goodEv ((evAt l j).1, (evAt l j).2.1, (evAt l j).2.2.1, (evAt l j).2.2.2) = goodEv (evAt l j) from rfl, hge]
      simp only [Bool.not_true, cond_false]
      exact hrec hs hgn
    | false =>
      simp only [Bool.not_false, cond_true]
      have hlen : 20 < (appI out (evAt l j).1 (evAt l j).2.1).length := by
        unfold goodI at hgn
        rw [hst.from', Bool.and_true, decide_eq_false_iff_not] at hgn
        omega
      cases h : itF l c (j + 1) (appI out (evAt l j).1 (evAt l j).2.1) with
      | none => rfl
      | some o =>
        have := itF_len h
        have hgo : goodI o = false := by
          unfold goodI
          rw [decide_eq_false (by omega), Bool.false_and]
        simp only [hgo]; rfl
  · rw [if_neg hs]
    by_cases hA : (evAt l j).1 = (lastI out).1 + 1 ∧ (lastI out).2 ≤ (evAt l j).2.1 ∧ 0 ≤ (evAt l j).2.1 ∧ (evAt l j).2.1 ≤ 1000000
    · rw [if_pos hA]
      cases goodI (appI out (evAt l j).1 (evAt l j).2.1) with
      | false => rfl
      | true =>
        rw [impl_GoodEvent_eq, show goodEv ((evAt l j).1, (evAt l j).2.1, (evAt l j).2.2.1, (evAt l j).2.2.2) = goodEv (evAt l j) from rfl]
        have hge : goodEv (evAt l j) = false := by
          cases hge : goodEv (evAt l j) with
          | false => rfl
          | true =>
            exfalso
            refine hs ?_
            unfold stepOk
            rw [hge]
            by_cases hj : j = 0
            · rw [hi.z hj] at hA
              have h1 : (evAt l j).1 = 0 + 1 := hA.1
              simp only [Bool.true_and, Bool.and_eq_true, decide_eq_true_eq, Bool.or_eq_true]
              exact ⟨by omega, .inl hj⟩
            · rw [(hi.s (by omega)).2] at hA
              simp only at hA
              simp only [Bool.true_and, Bool.and_eq_true, decide_eq_true_eq, Bool.or_eq_true]
              exact ⟨by omega, .inr hA.2.1⟩
        rw [hge]; rfl
    · rw [if_neg hA]; rfl
theorem inv0 (l : List Ev) : InvI l 0 [] := ⟨rfl, fun _ => rfl, fun h => by omega⟩
/-- Items that are numbered through. -/
def marksI : Nat → Int → List (Int × Int)
  | 0, _ => []
  | m + 1, k => (k, k + 1) :: marksI m (k + 2)
theorem marksI_length : ∀ m k, (marksI m k).length = m
  | 0, _ => rfl
  | m + 1, k => by simp [marksI, marksI_length m]
theorem set_take_dropI {α : Type} {l : List α} {j : Nat} (h : j < l.length) (x : α) : (l.set j x).take (j + 1) = l.take j ++ [x] := by
  rw [List.take_set, List.take_succ_eq_append_getElem h, List.set_append_right _ _ (by simp; omega)]
  rw [show j - (l.take j).length = 0 by simp; omega]
  rfl
theorem laws_markItemS_loop {R : Type} (ke : Int → List (Int × Int) → Option R) : ∀ (n j : Nat) (l : List (Int × Int)) (q : Int), l.length - j < n → j ≤ l.length → 0 ≤ q → q + 2 * (l.length - j : Nat) ≤ 9223372036854775807 → l.length ≤ 9223372036854775807 →
    laws_markItemS_l2 n q (j : Int) l ke = ke (q + 2 * (l.length - j : Nat)) (l.take j ++ marksI (l.length - j) q)
  | 0, _, _, _, h, _, _, _, _ => by omega
  | n + 1, j, l, q, hn, hj, h0, h1, h2 => by
    unfold laws_markItemS_l2
    by_cases h : j < l.length
    · rw [dlt h, dnn, wrapS h (by omega), wrap64 (x := q + 1) (by omega) (by omega), wrap64 (x := q + 1 + 1) (by omega) (by omega), Int.toNat_natCast, List.length_set, dlt h]
      have e : (l.set j (q, (l.getD j (0, 0)).2)).getD j (0, 0) = (q, (l.getD j (0, 0)).2) := by
        rw [List.getD_eq_getElem?_getD, List.getElem?_set_self (by omega)]; rfl
      rw [e, List.set_set]
      simp only [cond_true]
      rw [laws_markItemS_loop ke n (j + 1) _ (q + 1 + 1) (by simp; omega) (by simp; omega) (by omega) (by simp; omega) (by simp; omega)]
      rw [List.length_set, set_take_dropI h, List.append_assoc, show l.length - j = (l.length - (j + 1)) + 1 by omega, marksI, show q + 1 + 1 = q + 2 by omega]
      congr 1
      omega
    · rw [dge (by omega), cond_false, show l.length - j = 0 by omega, List.take_of_length_le (by omega)]
      simp [marksI]
theorem laws_markItemS_eq {R : Type} {n : Nat} {l : List (Int × Int)} {q : Int} (hn : l.length < n) (h0 : 0 ≤ q) (h1 : q + 2 * l.length ≤ 9223372036854775807) (k : Int → List (Int × Int) → Option R) : laws_markItemS n q l k = k (q + 2 * l.length) (marksI l.length q) := by
  unfold laws_markItemS
  have := laws_markItemS_loop k n 0 l q (by omega) (by omega) h0 (by omega) (by omega)
  simp only [List.take_zero, List.nil_append, Nat.sub_zero] at this
  exact this
theorem laws_heldItemS_loop {R : Type} (l : List (Int × Int)) (kr ke : Int → Option R) : ∀ (n j : Nat) (q : Int), l.length - j < n → j ≤ l.length → 0 ≤ q → q + 2 * (l.length - j : Nat) ≤ 9223372036854775807 → l.length ≤ 9223372036854775807 → l.drop j = marksI (l.length - j) q →
    laws_heldItemS_l2 n l q (j : Int) kr ke = ke (q + 2 * (l.length - j : Nat))
  | 0, _, _, h, _, _, _, _, _ => by omega
  | n + 1, j, q, hn, hj, h0, h1, h2, h3 => by
    unfold laws_heldItemS_l2
    by_cases h : j < l.length
    · rw [show l.length - j = (l.length - (j + 1)) + 1 by omega, List.drop_eq_getElem_cons h, marksI] at h3
      injection h3 with h4 h5
      rw [dlt h, dnn, getD_at _ _ h, wrapS h h2, wrap64 (x := q + 1) (by omega) (by omega), wrap64 (x := q + 1 + 1) (by omega) (by omega), h4, bne_self_eq_false, bne_self_eq_false]
      simp only [cond_true, cond_false]
      rw [show q + 1 + 1 = q + 2 by omega, laws_heldItemS_loop l kr ke n (j + 1) (q + 2) (by omega) (by omega) (by omega) (by omega) h2 h5]
      congr 1
      omega
    · rw [dge (by omega), cond_false, show l.length - j = 0 by omega]
      simp
theorem laws_heldItemS_eq {R : Type} {n m : Nat} {q : Int} (hn : m < n) (h0 : 0 ≤ q) (h1 : q + 2 * m ≤ 9223372036854775807) (k : Int → Option R) : laws_heldItemS n (marksI m q) q k = k (q + 2 * m) := by
  unfold laws_heldItemS
  have := laws_heldItemS_loop (marksI m q) k k n 0 q (by rw [marksI_length]; omega) (by omega) h0 (by rw [marksI_length]; omega) (by rw [marksI_length]; omega) (by rw [marksI_length]; simp)
  rw [marksI_length] at this
  simp only [Nat.sub_zero] at this
  exact this
theorem laws_szEv_loop {R : Type} (l : List Ev) (hl : l.length ≤ 1048576) (hs : ∀ x ∈ l, x.2.2.2.size ≤ 9223372036854775807) (kr ke : Int → Option R) : ∀ (c n j : Nat) (q : Int), c < n → j + c = l.length → 0 ≤ q → q ≤ 1048576 →
    (laws_szEventS_l5 n l q (j : Int) kr ke = kr (-1)) ∨ ((∀ x ∈ l.drop j, x.2.2.2.size ≤ 1048576) ∧ ∃ q', 0 ≤ q' ∧ q' ≤ 1048576 ∧ laws_szEventS_l5 n l q (j : Int) kr ke = ke q')
  | c, 0, _, _, h, _, _, _ => by omega
  | 0, n + 1, j, q, hn, hj, q0, q1 => .inr ⟨by rw [List.drop_eq_nil_iff.2 (by omega)]; simp, q, q0, q1, by rw [laws_szEventS_l5, dge (by omega)]; rfl⟩
  | c + 1, n + 1, j, q, hn, hj, q0, q1 => by
    have h : j < l.length := by omega
    have h1 := hs _ (List.getElem_mem h)
    rw [laws_szEventS_l5, dlt h, dnn, getD_at _ _ h, wrapS h (by omega)]
    simp only [cond_true, laws_szEvent, wrap64 (x := q - (l[j].2.2.2.size : Int)) (by omega) (by omega)]
    by_cases h2 : q - (l[j].2.2.2.size : Int) < 0
    · rw [decide_eq_true h2]; exact .inl rfl
    · rw [decide_eq_false h2, cond_false, cond_false]
      rcases laws_szEv_loop l hl hs kr ke c n (j + 1) (q - (l[j].2.2.2.size : Int)) (by omega) (by omega) (by omega) (by omega) with h3 | ⟨h3, q', a, b, e⟩
      · exact .inl h3
      · refine .inr ⟨fun x hx => ?_, q', a, b, e⟩
        rw [List.drop_eq_getElem_cons h] at hx
        rcases List.mem_cons.1 hx with rfl | hx
        · omega
        · exact h3 x hx
theorem laws_szEv_eq {R : Type} {n : Nat} {l : List Ev} (hl : l.length ≤ 9223372036854775807) (hs : ∀ x ∈ l, x.2.2.2.size ≤ 9223372036854775807) {q : Int} (q0 : 0 ≤ q) (q1 : q ≤ 1048576) (hn : 3000000 ≤ n) (k : Int → Option R) :
    laws_szEventS n l q k = k (-1) ∨ ((l.length ≤ 1048576 ∧ ∀ x ∈ l, x.2.2.2.size ≤ 1048576) ∧ ∃ q', 0 ≤ q' ∧ q' ≤ 1048576 ∧ laws_szEventS n l q k = k q') := by
  unfold laws_szEventS
  rw [wrap64 (x := q - (l.length : Int)) (by omega) (by omega)]
  by_cases h : q - (l.length : Int) < 0
  · rw [decide_eq_true h]; exact .inl rfl
  · rw [decide_eq_false h, cond_false]
    rcases laws_szEv_loop l (by omega) hs (fun r2 => k r2) (fun r3 => k r3) l.length n 0 (q - (l.length : Int)) (by omega) (by omega) (by omega) (by omega) with h3 | ⟨h3, q', a, b, e⟩
    · exact .inl h3
    · rw [List.drop_zero] at h3
      exact .inr ⟨⟨by omega, h3⟩, q', a, b, e⟩
theorem laws_toEv_loop {R : Type} (l : List Ev) (hb : l.length ≤ 9223372036854775807) (ke : List Ev → Option R) : ∀ (n j : Nat) (out : List Ev), l.length - j < n → j ≤ l.length → out.length = l.length → out.take j = l.take j →
    laws_toEventS_l3 n l (j : Int) out ke = ke l
  | 0, _, _, h, _, _, _ => by omega
  | n + 1, j, out, hn, hj, ho, ht => by
    unfold laws_toEventS_l3
    by_cases h : j < l.length
    · rw [dlt h, dnn, getD_at _ _ h, wrapS h hb, Int.toNat_natCast, ho, dlt h]
      simp only [cond_true, laws_toEvent]
      refine laws_toEv_loop l hb ke n (j + 1) _ (by omega) (by omega) (by simpa using ho) ?_
      rw [List.take_set, List.take_succ_eq_append_getElem (by omega), List.take_succ_eq_append_getElem h, ht, List.set_append_right _ _ (by simp; omega)]
      rw [show j - (l.take j).length = 0 by simp; omega]
      rfl
    · rw [dge (by omega), cond_false]
      have h1 : l.take j = l := List.take_of_length_le (by omega)
      rw [List.take_of_length_le (by omega), h1] at ht
      rw [ht]
theorem laws_toEv_eq {R : Type} {n : Nat} {l : List Ev} (hl : l.length ≤ 1048576) (hn : l.length < n) (k : List Ev → Option R) : laws_toEventS n l k = k l := by
  unfold laws_toEventS
  rw [decide_eq_true (by omega), decide_eq_true (by omega), decide_eq_true (by omega)]
  simp only [cond_true, Int.toNat_natCast]
  exact laws_toEv_loop l (by omega) k n 0 _ (by omega) (by omega) (by simp) (by simp)
theorem laws_eqEv_loop {R : Type} (l : List Ev) (hb : l.length ≤ 9223372036854775807) (kr : Bool → Option R) (ke : Option R) : ∀ (c n j : Nat), c < n → j + c = l.length → laws_eqEventS_l4 n l l (j : Int) kr ke = ke
  | c, 0, _, h, _ => by omega
  | 0, n + 1, j, hn, hj => by rw [laws_eqEventS_l4, dge (by omega)]; rfl
  | c + 1, n + 1, j, hn, hj => by
    have h : j < l.length := by omega
    rw [laws_eqEventS_l4, dlt h, dnn, wrapS h hb]
    simp only [cond_true, laws_eqEvent, bne_self_eq_false, beq_self_eq_true, Bool.not_true, cond_false]
    exact laws_eqEv_loop l hb kr ke c n (j + 1) (by omega) (by omega)
theorem laws_eqEv_eq {R : Type} {n : Nat} {l : List Ev} (hb : l.length ≤ 9223372036854775807) (hn : l.length < n) (k : Bool → Option R) : laws_eqEventS n l l k = k true := by
  unfold laws_eqEventS
  rw [bne_self_eq_false, cond_false]
  exact laws_eqEv_loop l hb _ _ l.length n 0 hn (by omega)
theorem one_size (b : Int) : (bytesOf [b]).size = 1 := rfl
theorem mark_text_loop : ∀ (c n : Nat) (q : Int) (t : ByteArray), c < n → 0 ≤ q → q < 10 ^ c → q ≤ 1000000000 → t.size + c ≤ 1000 → ∃ t' : ByteArray, t'.size ≤ 1000 ∧ ∀ (R : Type) (k : ByteArray → Option R), laws_markText_l4 n q t k = k t'
  | c, 0, _, _, h, _, _, _, _ => by omega
  | 0, n + 1, q, t, hn, q0, q1, q2, ht => ⟨t, by omega, fun R k => by rw [laws_markText_l4, decide_eq_false (show ¬ q > 0 by simp at q1; omega)]; rfl⟩
  | c + 1, n + 1, q, t, hn, q0, q1, q2, ht => by
    by_cases h : q > 0
    · have hq : q / 10 < 10 ^ c := by
        have : (10 : Int) ^ (c + 1) = 10 ^ c * 10 := Int.pow_succ ..
        omega
      have ed : Int.tdiv q 10 = q / 10 := Int.tdiv_eq_ediv_of_nonneg q0
      have hs : ∀ b : Int, (bytesOf [b] ++ t).size = t.size + 1 := fun b => by rw [ByteArray.size_append, one_size]; omega
      obtain ⟨t', h1, h2⟩ := mark_text_loop c n (q / 10) (bytesOf [IntKind.wrap .u8 (IntKind.wrap .i64 (48 + Int.tmod q 10))] ++ t) (by omega) (by omega) hq (by omega) (by rw [hs]; omega)
      refine ⟨t', h1, fun R k => ?_⟩
      rw [laws_markText_l4, decide_eq_true h, cond_true, one_size, decide_eq_true (show 1 + t.size ≤ STR by simp [STR]; omega), cond_true, ed, wrap64 (x := q / 10) (by omega) (by omega)]
      exact h2 R k
    · exact ⟨t, by omega, fun R k => by rw [laws_markText_l4, decide_eq_false h]; rfl⟩
theorem mark_text_ex {n : Nat} (hn : 100 ≤ n) {q : Int} (q0 : 0 ≤ q) (q1 : q ≤ 900000000) : ∃ t' : ByteArray, ∀ (R : Type) (k : ByteArray → Option R), laws_markText n q k = k t' := by
  obtain ⟨t, h1, h2⟩ := mark_text_loop 9 n q (ByteArray.mk #[]) (by omega) q0 (by omega) (by omega) (by decide)
  by_cases h : q ≤ 0
  · exact ⟨_, fun R k => by unfold laws_markText; rw [decide_eq_true h, cond_true]⟩
  · refine ⟨(ByteArray.mk #[109]) ++ t, fun R k => ?_⟩
    unfold laws_markText
    rw [decide_eq_false h, cond_false, h2, decide_eq_true (show (ByteArray.mk #[109]).size + t.size ≤ STR by
      have : (ByteArray.mk #[109]).size = 1 := rfl
      simp [STR]; omega)]
    rfl
theorem mark_ev_loop : ∀ (c n j : Nat) (l : List Ev) (q : Int), l.length ≤ 1048576 → c + 200 < n → j + c = l.length → 0 ≤ q → q + 4 * c ≤ 800000000 → ∃ (q' : Int) (l' : List Ev), 0 ≤ q' ∧ ∀ (R : Type) (ke : Int → List Ev → Option R), laws_markEventS_l2 n q (j : Int) l ke = ke q' l'
  | c, 0, _, _, _, _, h, _, _, _ => by omega
  | 0, n + 1, j, l, q, hl, hn, hj, q0, q1 => ⟨q, l, q0, fun R ke => by rw [laws_markEventS_l2, dge (by omega)]; rfl⟩
  | c + 1, n + 1, j, l, q, hl, hn, hj, q0, q1 => by
    have h : j < l.length := by omega
    obtain ⟨t, ht⟩ := mark_text_ex (n := n) (by omega) (q := q + 1 + 1 + 1) (by omega) (by omega)
    have ih := fun (L : List Ev) (hL : L.length = l.length) => mark_ev_loop c n (j + 1) L (q + 1 + 1 + 1 + 1) (by omega) (by omega) (by omega) (by omega) (by omega)
    simp only [laws_markEventS_l2, List.length_set, dlt h, dnn, cond_true, wrap64 (x := q + 1) (by omega) (by omega), wrap64 (x := q + 1 + 1) (by omega) (by omega), wrap64 (x := q + 1 + 1 + 1) (by omega) (by omega), wrap64 (x := q + 1 + 1 + 1 + 1) (by omega) (by omega), ht, wrapS h (show l.length ≤ 9223372036854775807 by omega)]
    exact ih _ (by simp)
theorem mark_ev_ex {n : Nat} {l : List Ev} (hl : l.length ≤ 1048576) (hn : 2000000 ≤ n) : ∃ (q' : Int) (l' : List Ev), 0 ≤ q' ∧ ∀ (R : Type) (ke : Int → List Ev → Option R), laws_markEventS n 1 l ke = ke q' l' := by
  obtain ⟨q', l', h, e⟩ := mark_ev_loop l.length n 0 l 1 hl (by omega) (by omega) (by omega) (by omega)
  exact ⟨q', l', h, fun R ke => by unfold laws_markEventS; exact e R ke⟩
theorem impl_items_loop {R : Type} {l : List Ev} (hl : l.length ≤ 60) (kr : Bool → List (Int × Int) → Option R) (ke : List (Int × Int) → Option R) : ∀ (c n j : Nat) (out : List (Int × Int)), c + 5000 < n → j + c = l.length → InvI l j out → goodI out = true →
    impl_ItemsOf_l5 n l (l.length : Int) (j : Int) out kr ke = match itF l c j out with
      | none => kr false []
      | some o => if goodI o = true then ke o else kr false []
  | c, 0, _, _, h, _, _, _ => by omega
  | 0, n + 1, j, out, hn, hj, hi, hg => by
    rw [impl_ItemsOf_l5, dge (by omega)]
    simp only [itF, hg, if_true]; rfl
  | c + 1, n + 1, j, out, hn, hj, hi, hg => by
    have h : j < l.length := by omega
    have e : l.getD (Int.toNat (j : Int)) (0, (0, (0, ByteArray.empty))) = evAt l j := by rw [Int.toNat_natCast]; rfl
    rw [impl_ItemsOf_l5, dlt h, dnn, e, wrapS h (by omega)]
    simp only [cond_true]
    exact items_step hi hg (by omega) (kr false []) ke (fun r2 => impl_ItemsOf_l5 n l (l.length : Int) ((j + 1 : Nat) : Int) r2 kr ke) fun hs hgn => impl_items_loop hl kr ke c n (j + 1) _ (by omega) (by omega) (hi.step hs) hgn
theorem impl_ItemsOf_eq {R : Type} {n : Nat} {l : List Ev} (hn : 4000000 ≤ n) (k : Bool → List (Int × Int) → Option R) : impl_ItemsOf n l k = ansI (resI l) fun a b => k b a := by
  unfold impl_ItemsOf resI
  by_cases h : l.length ≤ 60
  · rw [decide_eq_false (show ¬ (l.length : Int) > 60 by omega), cond_false, if_pos h]
    have := impl_items_loop h (fun r4 r5 => k r4 r5) (fun r6 => k true r6) l.length n 0 [] (by omega) (by omega) (inv0 l) (by decide)
    rw [show ((0 : Nat) : Int) = 0 from rfl] at this
    rw [this]
    cases itF l l.length 0 [] with
    | none => rfl
    | some o =>
      cases hg : goodI o with
      | true => simp only [hg, if_true]; rfl
      | false => simp only [hg]; rfl
  · rw [decide_eq_true (show (l.length : Int) > 60 by omega), cond_true, if_neg h]; rfl
theorem ans_val (o : Option (List (Int × Int))) : ∃ a b, ∀ (R : Type) (k : List (Int × Int) → Bool → Option R), ansI o k = k a b := by
  cases o with
  | none => exact ⟨[], false, fun R k => rfl⟩
  | some o => exact ⟨o, true, fun R k => rfl⟩
theorem resI_len {l : List Ev} {o : List (Int × Int)} (h : resI l = some o) : o.length ≤ 20 := by
  unfold resI at h
  split at h
  · split at h
    · cases h
    · split at h
      · rename_i hg; cases h; exact goodI_len hg
      · cases h
  · cases h
theorem law_res {R : Type} {n : Nat} {l : List Ev} (hl : l.length ≤ 1048576) (hsz : ∀ x ∈ l, x.2.2.2.size ≤ 1048576) (hn : 10000000 ≤ n) (k : Bool → Option R) : (laws_toEventS n l fun r2 => (spec_ItemsOf n r2 fun r3 r4 => (laws_toEventS n l fun r5 => (impl_ItemsOf n r5 fun r6 r7 => (laws_eqItemS n r7 r3 fun r8 => (bif (!r8) then k false else (bif (!(r6 == r4)) then k false else (laws_toEventS n l fun r9 => (laws_eqEventS n r5 r9 fun r10 => (bif (!r10) then k false else (laws_markEventS n 1 r5 fun r11 r12 => (bif (decide (r11 < 0)) then k false else (laws_eqItemS n r7 r3 fun r13 => (bif (!r13) then k false else (bif (!(r6 == r4)) then k false else (laws_markItemS n 1 r7 fun r14 r15 => (laws_heldItemS n r15 1 fun r16 => (bif (decide (r16 < 0)) then k false else (bif (r16 != r14) then k false else (laws_toEventS n l fun r17 => (impl_ItemsOf n r17 fun r18 r19 => (laws_eqItemS n r19 r3 fun r20 => (bif (!r20) then k false else (bif (!(r18 == r4)) then k false else (laws_heldItemS n r15 1 fun r21 => (bif (decide (r21 < 0)) then k false else (bif (r21 != r14) then k false else k true))))))))))))))))))))))))))) = k true := by
  have hto : ∀ (k : List Ev → Option R), laws_toEventS n l k = k l := fun k => laws_toEv_eq hl (by omega) k
  obtain ⟨a, b, hab, hlen⟩ : ∃ a b, (∀ (k : List (Int × Int) → Bool → Option R), ansI (resI l) k = k a b) ∧ a.length ≤ 20 := by
    cases h : resI l with
    | none => exact ⟨[], false, fun k => rfl, by simp⟩
    | some o => exact ⟨o, true, fun k => rfl, resI_len h⟩
  have hsp : ∀ (k : List (Int × Int) → Bool → Option R), spec_ItemsOf n l k = k a b := fun k => by rw [spec_ItemsOf_eq hl hsz (by omega) k, hab]
  have him : ∀ (k : Bool → List (Int × Int) → Option R), impl_ItemsOf n l k = k b a := fun k => by rw [impl_ItemsOf_eq (by omega) k, hab]
  obtain ⟨q', l', hq, hm⟩ := mark_ev_ex (n := n) hl (by omega)
  simp only [hto, hsp, him, laws_eqItemS_eq (xs := a) (ys := a) (by omega) (show a.length < n by omega), laws_eqEv_eq (l := l) (by omega) (show l.length < n by omega), hm, decide_true, Bool.not_true, cond_false, beq_self_eq_true, decide_eq_false (show ¬ q' < 0 by omega), laws_markItemS_eq (l := a) (q := 1) (show a.length < n by omega) (by omega) (by omega)]
  simp only [laws_heldItemS_eq (m := a.length) (q := 1) (show a.length < n by omega) (by omega) (by omega), decide_eq_false (show ¬ (1 : Int) + 2 * a.length < 0 by omega), bne_self_eq_false, cond_false]
theorem key {R : Type} {n : Nat} (hn : 10000000 ≤ n) (l : List Ev) (h1 : l.length ≤ 9223372036854775807) (h2 : ∀ x ∈ l, x.2.2.2.size ≤ 9223372036854775807) (k : Bool → Option R) : laws_FnExactItemsOf n l k = k true := by
  unfold laws_FnExactItemsOf
  rcases laws_szEv_eq (R := R) h1 h2 (q := 1048576) (by omega) (by omega) (show 3000000 ≤ n by omega) (fun r1 => (bif (decide (r1 < 0)) then k true else (laws_toEventS n l fun r2 => (spec_ItemsOf n r2 fun r3 r4 => (laws_toEventS n l fun r5 => (impl_ItemsOf n r5 fun r6 r7 => (laws_eqItemS n r7 r3 fun r8 => (bif (!r8) then k false else (bif (!(r6 == r4)) then k false else (laws_toEventS n l fun r9 => (laws_eqEventS n r5 r9 fun r10 => (bif (!r10) then k false else (laws_markEventS n 1 r5 fun r11 r12 => (bif (decide (r11 < 0)) then k false else (laws_eqItemS n r7 r3 fun r13 => (bif (!r13) then k false else (bif (!(r6 == r4)) then k false else (laws_markItemS n 1 r7 fun r14 r15 => (laws_heldItemS n r15 1 fun r16 => (bif (decide (r16 < 0)) then k false else (bif (r16 != r14) then k false else (laws_toEventS n l fun r17 => (impl_ItemsOf n r17 fun r18 r19 => (laws_eqItemS n r19 r3 fun r20 => (bif (!r20) then k false else (bif (!(r18 == r4)) then k false else (laws_heldItemS n r15 1 fun r21 => (bif (decide (r21 < 0)) then k false else (bif (r21 != r14) then k false else k true))))))))))))))))))))))))))))) with e | ⟨⟨hl, hsz⟩, q, q0, q1, e⟩
  · exact e.trans rfl
  · refine e.trans ?_
    show (bif (decide (q < 0)) then _ else _) = _
    rw [decide_eq_false (show ¬ q < 0 by omega), cond_false]
    exact law_res hl hsz hn k
theorem plain : Plain := fun l hl R k => ⟨_, key (Nat.le_refl _) l hl.1 (fun x hx => (hl.2 x hx).2.2.2) k⟩
end Go.Am.G
