/- The plain law: what the functions compute answers as the law says, for all arguments. -/
import Derived.Test.YtkmjmhjfadaebaaF9
set_option linter.unusedVariables false
set_option linter.unusedSimpArgs false
namespace Go.Am.G
open Go Go.Am
theorem wrap64 {x : Int} (h1 : -9223372036854775808 ≤ x) (h2 : x ≤ 9223372036854775807) : IntKind.wrap .i64 x = x := by
  simp only [IntKind.wrap, IntKind.signed, IntKind.bits]
  simp
  omega
theorem bif_true {α : Type} (a b : α) : (bif true then a else b) = a := rfl
theorem bif_false {α : Type} (a b : α) : (bif false then a else b) = b := rfl
theorem spec_l1In_eq {R : Type} (n : Nat) (x a b : Int) (k : Bool → Option R) : spec_l1In n x a b k = k (decide (a ≤ x ∧ x ≤ b)) := by
  simp only [spec_l1In]
  by_cases h : x ≥ a
  · have : a ≤ x := h
    simp [this]
  · have : ¬ a ≤ x := h
    simp [this]
theorem impl_in_eq {R : Type} (n : Nat) (x a b : Int) (k : Bool → Option R) : impl_in n x a b k = k (decide (a ≤ x ∧ x ≤ b)) := by
  simp only [impl_in]
  by_cases h : x ≥ a
  · have : a ≤ x := h
    simp [this]
  · have : ¬ a ≤ x := h
    simp [this]
theorem bifk {R α : Type} (b : Bool) (x y : α) (k : α → Option R) : (bif b then k x else k y) = k (bif b then x else y) := by cases b <;> rfl
def goodP (a b c e : Int) : Bool := decide (1 ≤ a ∧ a ≤ 1000 ∧ 1 ≤ b ∧ b ≤ 10 ∧ a ≤ c ∧ c ≤ 1000000 ∧ 1 ≤ e ∧ e ≤ 40)
theorem spec_GoodPolicy_eq {R : Type} (n : Nat) (a b c e : Int) (k : Bool → Option R) : spec_GoodPolicy n a b c e k = k (goodP a b c e) := by
  simp only [spec_GoodPolicy, spec_l1In_eq, bifk]
  congr 1
  apply Bool.eq_iff_iff.2
  simp only [goodP, cond_eq_ite, decide_eq_true_eq]
  repeat' split
  all_goals first | omega | (simp_all; done) | (simp_all; omega)
theorem impl_GoodPolicy_eq {R : Type} (n : Nat) (a b c e : Int) (k : Bool → Option R) : impl_GoodPolicy n a b c e k = k (goodP a b c e) := by
  simp only [impl_GoodPolicy, impl_in_eq, bifk]
  congr 1
  apply Bool.eq_iff_iff.2
  simp only [goodP, cond_eq_ite, decide_eq_true_eq]
  repeat' split
  all_goals first | omega | (simp_all; done) | (simp_all; omega)
/-- A wait, as the reference reckons it. -/
def waitS (t m : Int) : Nat → Int → Int
  | 0, c => c
  | j + 1, c => if c * t > m then m else waitS t m j (c * t)
/-- A wait, as the program reckons it. -/
def waitI (t m : Int) : Nat → Int → Int
  | 0, c => if m < c then m else c
  | j + 1, c => if c < m then waitI t m j (c * t) else if m < c then m else c
theorem mul_bounds {c t : Int} (h1 : 1 ≤ c) (h2 : 1 ≤ t) (h3 : t ≤ 10) : c ≤ c * t ∧ c * t ≤ c * 10 := by
  constructor
  · have := Int.mul_le_mul_of_nonneg_left h2 (show 0 ≤ c by omega)
    omega
  · exact Int.mul_le_mul_of_nonneg_left h3 (by omega)
theorem waitS_top {t m : Int} (hm : 1 ≤ m) (ht : 1 ≤ t) (h10 : t ≤ 10) : ∀ j, waitS t m j m = m
  | 0 => rfl
  | j + 1 => by
    have := mul_bounds hm ht h10
    unfold waitS
    split
    · rfl
    · have : m * t = m := by omega
      rw [this]; exact waitS_top hm ht h10 j
theorem waitI_top {t m c : Int} (h : m ≤ c) : ∀ j, waitI t m j c = m
  | 0 => by unfold waitI; split <;> omega
  | j + 1 => by unfold waitI; rw [if_neg (by omega)]; split <;> omega
theorem waits_eq {t m : Int} (hm : 1 ≤ m) (ht : 1 ≤ t) (h10 : t ≤ 10) : ∀ j c, 1 ≤ c → c ≤ m → waitI t m j c = waitS t m j c
  | 0, c, h1, h2 => by unfold waitI waitS; rw [if_neg (by omega)]
  | j + 1, c, h1, h2 => by
    have hb := mul_bounds h1 ht h10
    unfold waitI
    split
    · unfold waitS
      split
      · exact waitI_top (c := c * t) (by omega) j
      · exact waits_eq hm ht h10 j (c * t) (by omega) (by omega)
    · have : c = m := by omega
      subst this
      rw [if_neg (by omega)]
      exact (waitS_top hm ht h10 (j + 1)).symm
theorem waitS_bounds {t m : Int} (ht : 1 ≤ t) (h10 : t ≤ 10) : ∀ j c, 1 ≤ c → c ≤ m → c ≤ waitS t m j c ∧ waitS t m j c ≤ m
  | 0, c, h1, h2 => by unfold waitS; omega
  | j + 1, c, h1, h2 => by
    have hb := mul_bounds h1 ht h10
    unfold waitS
    split
    · omega
    · have := waitS_bounds (m := m) ht h10 j (c * t) (by omega) (by omega)
      omega
theorem spec_l10Wait_loop {R : Type} {t m : Int} (h1 : 1 ≤ t) (h2 : t ≤ 10) (h3 : m ≤ 1000000) (x y : Int) (k : Int → Option R) : ∀ (n j : Nat) (c : Int), j < n → j ≤ 1000 → 1 ≤ c → c ≤ m →
    spec_l10Wait_l2 n (j + 1) c x t m y k k = k (waitS t m j c)
  | 0, _, _, h, _, _, _ => by omega
  | n + 1, 0, c, _, _, _, _ => by unfold spec_l10Wait_l2; rfl
  | n + 1, j + 1, c, hn, hj, hc, hm => by
    have hb := mul_bounds hc h1 h2
    have e1 : decide (((j + 1 : Nat) : Int) + 1 > 1) = true := decide_eq_true (by omega)
    unfold spec_l10Wait_l2 waitS
    rw [e1, wrap64 (by omega) (by omega), wrap64 (by omega) (by omega)]
    split
    · rename_i h
      rw [decide_eq_true h]; rfl
    · rename_i h
      rw [decide_eq_false h, cond_true, cond_false, show ((j + 1 : Nat) : Int) + 1 - 1 = (j : Int) + 1 by omega]
      exact spec_l10Wait_loop h1 h2 h3 x y k n j (c * t) (by omega) (by omega) (by omega) (by omega)
theorem impl_wait_loop {R : Type} {t m : Int} (h1 : 1 ≤ t) (h2 : t ≤ 10) (h3 : m ≤ 1000000) (f tr T : Int) (ht : tr ≤ 1000) (k : Int → Option R) : ∀ (n j : Nat) (c : Int), j < n → (j : Int) < tr → 1 ≤ c →
    impl_Policy_wait_l3 n tr c (tr - j) f t m T (fun r1 _ _ r4 _ => k (if r4 < r1 then r4 else r1)) = k (waitI t m j c)
  | 0, _, _, h, _, _ => by omega
  | n + 1, 0, c, _, _, _ => by
    have e1 : decide (tr - ((0 : Nat) : Int) < tr) = false := decide_eq_false (by omega)
    unfold impl_Policy_wait_l3 waitI
    rw [e1]; rfl
  | n + 1, j + 1, c, hn, hj, hc => by
    have e1 : decide (tr - ((j + 1 : Nat) : Int) < tr) = true := decide_eq_true (by omega)
    unfold impl_Policy_wait_l3 waitI
    rw [e1, cond_true]
    split
    · rename_i h
      have hb := mul_bounds hc h1 h2
      rw [decide_eq_true h, cond_true, wrap64 (by omega) (by omega), wrap64 (by omega) (by omega), show tr - ((j + 1 : Nat) : Int) + 1 = tr - (j : Int) by omega]
      exact impl_wait_loop h1 h2 h3 f tr T ht k n j (c * t) (by omega) (by omega) (by omega)
    · rename_i h
      rw [decide_eq_false h]; rfl
/-- The wait behind a try. -/
def waitN (a b c tr : Int) : Int := waitS b c (tr - 1).toNat a
theorem spec_l10Wait_eq {R : Type} {n : Nat} {a b c e tr : Int} (hg : goodP a b c e = true) (h1 : 1 ≤ tr) (h2 : tr ≤ 40) (hn : 100 ≤ n) (k : Int → Option R) : spec_l10Wait n a b c e tr k = k (waitN a b c tr) := by
  have hg := of_decide_eq_true hg
  have := spec_l10Wait_loop (R := R) (t := b) (m := c) (by omega) (by omega) (by omega) a e k n (tr - 1).toNat a (by omega) (by omega) (by omega) (by omega)
  rw [show (((tr - 1).toNat : Nat) : Int) + 1 = tr by omega] at this
  unfold spec_l10Wait waitN
  exact this
theorem impl_wait_loop' {R : Type} {t m : Int} (h1 : 1 ≤ t) (h2 : t ≤ 10) (h3 : m ≤ 1000000) (f tr T : Int) (ht : tr ≤ 1000) (k : Int → Int → Int → Int → Int → Option R) (n j : Nat) (c : Int) (hn : j < n) (hj : (j : Int) < tr) (hc : 1 ≤ c) :
    impl_Policy_wait_l3 n tr c (tr - j) f t m T (fun r1 r2 r3 r4 r5 => k (if r4 < r1 then r4 else r1) r2 r3 r4 r5) = k (waitI t m j c) f t m T := by
  have key : ∀ (n j : Nat) (c : Int), j < n → (j : Int) < tr → 1 ≤ c → impl_Policy_wait_l3 n tr c (tr - j) f t m T (fun r1 r2 r3 r4 r5 => k (if r4 < r1 then r4 else r1) r2 r3 r4 r5) = impl_Policy_wait_l3 n tr c (tr - j) f t m T (fun r1 _ _ r4 _ => k (if r4 < r1 then r4 else r1) f t m T) := by
    intro n
    induction n with
    | zero => intro j c h; omega
    | succ n ih =>
      intro j c hn hj hc
      unfold impl_Policy_wait_l3
      by_cases h : tr - (j : Int) < tr
      · rw [decide_eq_true h]
        by_cases h' : c < m
        · have hb := mul_bounds hc h1 h2
          rw [decide_eq_true h', cond_true, cond_true, cond_true, cond_true, wrap64 (by omega) (by omega), wrap64 (by omega) (by omega), show tr - (j : Int) + 1 = tr - ((j - 1 : Nat) : Int) by omega]
          exact ih (j - 1) (c * t) (by omega) (by omega) (by omega)
        · rw [decide_eq_false h']; rfl
      · rw [decide_eq_false h]; rfl
  rw [key n j c hn hj hc]
  exact impl_wait_loop h1 h2 h3 f tr T ht (fun r => k r f t m T) n j c hn hj hc
theorem impl_Policy_wait_eq {R : Type} {n : Nat} {a b c e tr : Int} (hg : goodP a b c e = true) (h1 : 1 ≤ tr) (h2 : tr ≤ 40) (hn : 100 ≤ n) (k : Int → Int → Int → Int → Int → Option R) : impl_Policy_wait n tr a b c e k = k (waitN a b c tr) a b c e := by
  have hg := of_decide_eq_true hg
  have := impl_wait_loop' (R := R) (t := b) (m := c) (by omega) (by omega) (by omega) a tr e (by omega) k n (tr - 1).toNat a (by omega) (by omega) (by omega)
  rw [show tr - (((tr - 1).toNat : Nat) : Int) = 1 by omega, waits_eq (by omega) (by omega) (by omega) _ _ (by omega) (by omega)] at this
  unfold impl_Policy_wait waitN
  exact this
theorem getD_at {α : Type} (l : List α) (d : α) {j : Nat} (h : j < l.length) : l.getD (Int.toNat (j : Int)) d = l[j] := by
  rw [Int.toNat_natCast, List.getD_eq_getElem?_getD, List.getElem?_eq_getElem h]; rfl
theorem dlt {a b : Nat} (h : a < b) : decide ((a : Int) < (b : Int)) = true := decide_eq_true (by omega)
theorem dge {a b : Nat} (h : b ≤ a) : decide ((a : Int) < (b : Int)) = false := decide_eq_false (by omega)
theorem dnn (a : Nat) : decide (0 ≤ (a : Int)) = true := decide_eq_true (by omega)
theorem wrapS {j m : Nat} (h : j < m) (hm : m ≤ 9223372036854775807) : IntKind.wrap .i64 ((j : Int) + 1) = ((j + 1 : Nat) : Int) := by
  rw [wrap64 (by omega) (by omega)]; rfl
theorem laws_eqIntS_loop {R : Type} (xs ys : List Int) (hl : xs.length = ys.length) (hb : xs.length ≤ 9223372036854775807) (kr : Bool → Option R) (ke : Option R) : ∀ (n j : Nat), xs.length - j < n → j ≤ xs.length →
    laws_eqIntS_l4 n xs ys (j : Int) kr ke = if xs.drop j = ys.drop j then ke else kr false
  | 0, _, h, _ => by omega
  | n + 1, j, hn, hj => by
    unfold laws_eqIntS_l4
    by_cases h : j < xs.length
    · have h' : j < ys.length := by omega
      rw [dlt h, dlt h', dnn, getD_at _ _ h, getD_at _ _ h', wrapS h hb, List.drop_eq_getElem_cons h, List.drop_eq_getElem_cons h']
      simp only [cond_true]
      by_cases he : xs[j] = ys[j]
      · have : (xs[j] != ys[j]) = false := by simp [he]
        rw [this, cond_false, laws_eqIntS_loop xs ys hl hb kr ke n (j + 1) (by omega) (by omega)]
        simp only [List.cons.injEq, he, true_and]
      · have : (xs[j] != ys[j]) = true := by simpa using he
        rw [this, cond_true, if_neg fun h => he (List.cons.inj h).1]
    · rw [dge (by omega)]
      have h1 : xs.drop j = [] := List.drop_eq_nil_iff.2 (by omega)
      have h2 : ys.drop j = [] := List.drop_eq_nil_iff.2 (by omega)
      simp [h1, h2]
theorem laws_eqIntS_eq {R : Type} {n : Nat} {xs ys : List Int} (hb : xs.length ≤ 9223372036854775807) (hn : xs.length < n) (k : Bool → Option R) : laws_eqIntS n xs ys k = k (decide (xs = ys)) := by
  unfold laws_eqIntS
  by_cases hl : xs.length = ys.length
  · have : ((xs.length : Int) != (ys.length : Int)) = false := by simp [hl]
    rw [this, cond_false]
    have := laws_eqIntS_loop xs ys hl hb k (k true) n 0 (by omega) (by omega)
    simp only [List.drop_zero] at this
    rw [show ((0 : Nat) : Int) = 0 from rfl] at this
    rw [this]
    split <;> simp_all
  · have : ((xs.length : Int) != (ys.length : Int)) = true := by simp; omega
    rw [this, cond_true, decide_eq_false fun h => hl (by rw [h])]
/-- Numbers one behind the other. -/
def marks : Nat → Int → List Int
  | 0, _ => []
  | m + 1, k => k :: marks m (k + 1)
theorem marks_length : ∀ m k, (marks m k).length = m
  | 0, _ => rfl
  | m + 1, k => by simp [marks, marks_length m]
theorem set_take_drop {α : Type} {l : List α} {j : Nat} (h : j < l.length) (x : α) : (l.set j x).take (j + 1) = l.take j ++ [x] := by
  rw [List.take_set, List.take_succ_eq_append_getElem h, List.set_append_right _ _ (by simp; omega)]
  simp [Nat.min_eq_left (Nat.le_of_lt h)]
theorem laws_markIntS_loop {R : Type} (ke : Int → List Int → Option R) : ∀ (n j : Nat) (l : List Int) (q : Int), l.length - j < n → j ≤ l.length → 0 ≤ q → q + (l.length - j : Nat) ≤ 9223372036854775807 → l.length ≤ 9223372036854775807 →
    laws_markIntS_l2 n q (j : Int) l ke = ke (q + (l.length - j : Nat)) (l.take j ++ marks (l.length - j) q)
  | 0, _, _, _, h, _, _, _, _ => by omega
  | n + 1, j, l, q, hn, hj, h0, h1, h2 => by
    unfold laws_markIntS_l2
    by_cases h : j < l.length
    · rw [dlt h, dnn, wrapS h (by omega), wrap64 (x := q + 1) (by omega) (by omega), Int.toNat_natCast]
      simp only [cond_true]
      rw [laws_markIntS_loop ke n (j + 1) (l.set j q) (q + 1) (by simp; omega) (by simp; omega) (by omega) (by simp; omega) (by simp; omega)]
      rw [List.length_set, set_take_drop h, List.append_assoc, show l.length - j = (l.length - (j + 1)) + 1 by omega]
      congr 1
      omega
    · rw [dge (by omega), cond_false, show l.length - j = 0 by omega, List.take_of_length_le (by omega)]
      simp [marks]
theorem laws_markIntS_eq {R : Type} {n : Nat} {l : List Int} {q : Int} (hn : l.length < n) (h0 : 0 ≤ q) (h1 : q + l.length ≤ 9223372036854775807) (k : Int → List Int → Option R) : laws_markIntS n q l k = k (q + l.length) (marks l.length q) := by
  unfold laws_markIntS
  have := laws_markIntS_loop k n 0 l q (by omega) (by omega) h0 (by omega) (by omega)
  simp only [List.take_zero, List.nil_append, Nat.sub_zero] at this
  exact this
theorem laws_heldIntS_loop {R : Type} (l : List Int) (kr ke : Int → Option R) : ∀ (n j : Nat) (q : Int), l.length - j < n → j ≤ l.length → 0 ≤ q → q + (l.length - j : Nat) ≤ 9223372036854775807 → l.length ≤ 9223372036854775807 → l.drop j = marks (l.length - j) q →
    laws_heldIntS_l2 n l q (j : Int) kr ke = ke (q + (l.length - j : Nat))
  | 0, _, _, h, _, _, _, _, _ => by omega
  | n + 1, j, q, hn, hj, h0, h1, h2, h3 => by
    unfold laws_heldIntS_l2
    by_cases h : j < l.length
    · rw [show l.length - j = (l.length - (j + 1)) + 1 by omega, List.drop_eq_getElem_cons h, marks] at h3
      injection h3 with h4 h5
      rw [dlt h, dnn, getD_at _ _ h, wrapS h h2, wrap64 (by omega) (by omega), h4, bne_self_eq_false]
      simp only [cond_true, cond_false]
      rw [laws_heldIntS_loop l kr ke n (j + 1) (q + 1) (by omega) (by omega) (by omega) (by omega) h2 h5]
      congr 1
      omega
    · rw [dge (by omega), cond_false, show l.length - j = 0 by omega]
      simp
theorem laws_heldIntS_eq {R : Type} {n m : Nat} {q : Int} (hn : m < n) (h0 : 0 ≤ q) (h1 : q + m ≤ 9223372036854775807) (k : Int → Option R) : laws_heldIntS n (marks m q) q k = k (q + m) := by
  unfold laws_heldIntS
  have := laws_heldIntS_loop (marks m q) k k n 0 q (by rw [marks_length]; omega) (by omega) h0 (by rw [marks_length]; omega) (by rw [marks_length]; omega) (by rw [marks_length]; simp)
  rw [marks_length] at this
  simp only [Nat.sub_zero] at this
  exact this
/-- The waits behind the tries from one on. -/
def waits (a b c : Int) : Nat → Int → List Int
  | 0, _ => []
  | j + 1, tr => waitN a b c tr :: waits a b c j (tr + 1)
def wsum (a b c : Int) : Nat → Int → Int
  | 0, _ => 0
  | j + 1, tr => waitN a b c tr + wsum a b c j (tr + 1)
theorem waits_length (a b c : Int) : ∀ j tr, (waits a b c j tr).length = j
  | 0, _ => rfl
  | j + 1, tr => by simp [waits, waits_length a b c j]
theorem waitN_bounds {a b c e tr : Int} (hg : goodP a b c e = true) : 0 ≤ waitN a b c tr ∧ waitN a b c tr ≤ 1000000 := by
  have hg := of_decide_eq_true hg
  have := waitS_bounds (t := b) (m := c) (by omega) (by omega) (tr - 1).toNat a (by omega) (by omega)
  unfold waitN
  omega
theorem spec_loop {R : Type} {a b c e : Int} (hg : goodP a b c e = true) (k : Int → List Int → Option R) : ∀ (n j : Nat) (tr s : Int) (out : List Int), j + 150 ≤ n → 1 ≤ tr → tr + j = e → 0 ≤ s → s ≤ 1000000 * tr → out.length ≤ tr →
    spec_WaitsOf_l6 n s tr a b c e out k = k (s + wsum a b c j tr) (out ++ waits a b c j tr)
  | 0, _, _, _, _, h, _, _, _, _, _ => by omega
  | n + 1, 0, tr, s, out, hn, h1, h2, h3, h4, h5 => by
    unfold spec_WaitsOf_l6
    rw [decide_eq_false (by omega)]
    simp [waits, wsum]
  | n + 1, j + 1, tr, s, out, hn, h1, h2, h3, h4, h5 => by
    have he := of_decide_eq_true hg
    have hw := waitN_bounds (tr := tr) hg
    unfold spec_WaitsOf_l6
    rw [decide_eq_true (show tr < e by omega), cond_true, spec_l10Wait_eq hg h1 (by omega) (by omega), decide_eq_true (show out.length + [waitN a b c tr].length ≤ LIM by simp [LIM]; omega), cond_true,
      spec_l10Wait_eq hg h1 (by omega) (by omega), wrap64 (by omega) (by omega), wrap64 (by omega) (by omega)]
    rw [spec_loop hg k n j (tr + 1) (s + waitN a b c tr) (out ++ [waitN a b c tr]) (by omega) (by omega) (by omega) (by omega) (by omega) (by simp; omega)]
    simp [waits, wsum, Int.add_assoc]
theorem impl_loop {R : Type} {a b c e : Int} (hg : goodP a b c e = true) (k : Int → List Int → Option R) : ∀ (n j : Nat) (tr s : Int) (out : List Int), j + 150 ≤ n → 1 ≤ tr → tr + j = e → 0 ≤ s → s ≤ 1000000 * tr → out.length ≤ tr →
    impl_WaitsOf_l5 n s tr a b c e out k = k (s + wsum a b c j tr) (out ++ waits a b c j tr)
  | 0, _, _, _, _, h, _, _, _, _, _ => by omega
  | n + 1, 0, tr, s, out, hn, h1, h2, h3, h4, h5 => by
    unfold impl_WaitsOf_l5
    rw [decide_eq_false (by omega)]
    simp [waits, wsum]
  | n + 1, j + 1, tr, s, out, hn, h1, h2, h3, h4, h5 => by
    have he := of_decide_eq_true hg
    have hw := waitN_bounds (tr := tr) hg
    unfold impl_WaitsOf_l5
    rw [decide_eq_true (show tr < e by omega), cond_true, impl_Policy_wait_eq hg h1 (by omega) (by omega), decide_eq_true (show out.length + [waitN a b c tr].length ≤ LIM by simp [LIM]; omega), cond_true,
      impl_Policy_wait_eq hg h1 (by omega) (by omega), wrap64 (by omega) (by omega), wrap64 (by omega) (by omega)]
    rw [impl_loop hg k n j (tr + 1) (s + waitN a b c tr) (out ++ [waitN a b c tr]) (by omega) (by omega) (by omega) (by omega) (by omega) (by simp; omega)]
    simp [waits, wsum, Int.add_assoc]
theorem key {R : Type} {n : Nat} (hn : 1000 ≤ n) (a b c e : Int) (k : Bool → Option R) : laws_FnExactWaitsOf n a b c e k = k true := by
  simp only [laws_FnExactWaitsOf, laws_toPolicy, spec_WaitsOf, impl_WaitsOf, spec_GoodPolicy_eq, impl_GoodPolicy_eq]
  cases hg : goodP a b c e with
  | false =>
    simp only [Bool.not_false, cond_true]
    rw [laws_eqIntS_eq (by simp) (by simp; omega)]
    simp only [bne_self_eq_false, decide_true, Bool.not_true, cond_false, beq_self_eq_true]
    rw [laws_markIntS_eq (by simp; omega) (by omega) (by simp), laws_heldIntS_eq (by simp; omega) (by omega) (by simp), decide_eq_false (by simp), laws_eqIntS_eq (by simp) (by simp; omega)]
    simp only [bne_self_eq_false, decide_true, Bool.not_true, cond_false, beq_self_eq_true]
    rw [laws_heldIntS_eq (by simp; omega) (by omega) (by simp), decide_eq_false (by simp)]
    simp only [bne_self_eq_false, cond_false]
  | true =>
    have he := of_decide_eq_true hg
    have hs := fun k => spec_loop (R := R) hg k n (e - 1).toNat 1 0 [] (by omega) (by omega) (by omega) (by omega) (by omega) (by simp)
    have hi := fun k => impl_loop (R := R) hg k n (e - 1).toNat 1 0 [] (by omega) (by omega) (by omega) (by omega) (by omega) (by simp)
    simp only [Bool.not_true, cond_false, hs, hi, List.nil_append]
    have hl : (waits a b c (e - 1).toNat 1).length = (e - 1).toNat := waits_length _ _ _ _ _
    rw [laws_eqIntS_eq (by omega) (by omega)]
    simp only [bne_self_eq_false, decide_true, Bool.not_true, cond_false, beq_self_eq_true]
    rw [laws_markIntS_eq (by omega) (by omega) (by omega), laws_heldIntS_eq (by omega) (by omega) (by omega), decide_eq_false (by omega), laws_eqIntS_eq (by omega) (by omega)]
    simp only [bne_self_eq_false, decide_true, Bool.not_true, cond_false, beq_self_eq_true]
    rw [laws_heldIntS_eq (by omega) (by omega) (by omega), decide_eq_false (by omega)]
    simp only [bne_self_eq_false, cond_false]
theorem plain : Plain := fun ⟨a, b, c, e⟩ _ _ k => ⟨1000, key (Nat.le_refl _) a b c e k⟩
end Go.Am.G
