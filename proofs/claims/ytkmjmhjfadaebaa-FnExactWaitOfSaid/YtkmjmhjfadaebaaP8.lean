/- The plain law: what the functions compute answers as the law says, for all arguments. -/
import Derived.Test.YtkmjmhjfadaebaaF8
set_option linter.unusedVariables false
set_option linter.unusedSimpArgs false
namespace Go.Am.G
open Go Go.Am
theorem wrap64 {x : Int} (h1 : -9223372036854775808 ≤ x) (h2 : x ≤ 9223372036854775807) : IntKind.wrap .i64 x = x := by
  simp only [IntKind.wrap, IntKind.signed, IntKind.bits]
  simp
  omega
theorem bif_true {α : Type} (a b : α) : (bif true then a else b) = a := rfl
theorem bif_false {α : Type} (a b : α) : (bif false then a else b) = b := rfl
theorem spec_l1In_eq {R : Type} (n : Nat) (x a b : Int) (k : Bool → Option R) : spec_l1In n x a b k = k (decide (a ≤ x ∧ x ≤ b)) := by
  simp only [spec_l1In]
  by_cases h : x ≥ a
  · have : a ≤ x := h
    simp [this]
  · have : ¬ a ≤ x := h
    simp [this]
theorem impl_in_eq {R : Type} (n : Nat) (x a b : Int) (k : Bool → Option R) : impl_in n x a b k = k (decide (a ≤ x ∧ x ≤ b)) := by
  simp only [impl_in]
  by_cases h : x ≥ a
  · have : a ≤ x := h
    simp [this]
  · have : ¬ a ≤ x := h
    simp [this]
theorem bifk {R α : Type} (b : Bool) (x y : α) (k : α → Option R) : (bif b then k x else k y) = k (bif b then x else y) := by cases b <;> rfl
def goodP (a b c e : Int) : Bool := decide (1 ≤ a ∧ a ≤ 1000 ∧ 1 ≤ b ∧ b ≤ 10 ∧ a ≤ c ∧ c ≤ 1000000 ∧ 1 ≤ e ∧ e ≤ 40)
theorem spec_GoodPolicy_eq {R : Type} (n : Nat) (a b c e : Int) (k : Bool → Option R) : spec_GoodPolicy n a b c e k = k (goodP a b c e) := by
  simp only [spec_GoodPolicy, spec_l1In_eq, bifk]
  congr 1
  apply Bool.eq_iff_iff.2
  simp only [goodP, cond_eq_ite, decide_eq_true_eq]
  repeat' split
  all_goals first | omega | (simp_all; done) | (simp_all; omega)
theorem impl_GoodPolicy_eq {R : Type} (n : Nat) (a b c e : Int) (k : Bool → Option R) : impl_GoodPolicy n a b c e k = k (goodP a b c e) := by
  simp only [impl_GoodPolicy, impl_in_eq, bifk]
  congr 1
  apply Bool.eq_iff_iff.2
  simp only [goodP, cond_eq_ite, decide_eq_true_eq]
  repeat' split
  all_goals first | omega | (simp_all; done) | (simp_all; omega)
/-- A wait, as the reference reckons it. -/
def waitS (t m : Int) : Nat → Int → Int
  | 0, c => c
  | j + 1, c => if c * t > m then m else waitS t m j (c * t)
/-- A wait, as the program reckons it. -/
def waitI (t m : Int) : Nat → Int → Int
  | 0, c => if m < c then m else c
  | j + 1, c => if c < m then waitI t m j (c * t) else if m < c then m else c
theorem mul_bounds {c t : Int} (h1 : 1 ≤ c) (h2 : 1 ≤ t) (h3 : t ≤ 10) : c ≤ c * t ∧ c * t ≤ c * 10 := by
  constructor
  · have := Int.mul_le_mul_of_nonneg_left h2 (show 0 ≤ c by omega)
    omega
  · exact Int.mul_le_mul_of_nonneg_left h3 (by omega)
theorem waitS_top {t m : Int} (hm : 1 ≤ m) (ht : 1 ≤ t) (h10 : t ≤ 10) : ∀ j, waitS t m j m = m
  | 0 => rfl
  | j + 1 => by
    have := mul_bounds hm ht h10
    unfold waitS
    split
    · rfl
    · have : m * t = m := by omega
      rw [this]; exact waitS_top hm ht h10 j
theorem waitI_top {t m c : Int} (h : m ≤ c) : ∀ j, waitI t m j c = m
  | 0 => by unfold waitI; split <;> omega
  | j + 1 => by unfold waitI; rw [if_neg (by omega)]; split <;> omega
theorem waits_eq {t m : Int} (hm : 1 ≤ m) (ht : 1 ≤ t) (h10 : t ≤ 10) : ∀ j c, 1 ≤ c → c ≤ m → waitI t m j c = waitS t m j c
  | 0, c, h1, h2 => by unfold waitI waitS; rw [if_neg (by omega)]
  | j + 1, c, h1, h2 => by
    have hb := mul_bounds h1 ht h10
    unfold waitI
    split
    · unfold waitS
      split
      · exact waitI_top (c := c * t) (by omega) j
      · exact waits_eq hm ht h10 j (c * t) (by omega) (by omega)
    · have : c = m := by omega
      subst this
      rw [if_neg (by omega)]
      exact (waitS_top hm ht h10 (j + 1)).symm
theorem waitS_bounds {t m : Int} (ht : 1 ≤ t) (h10 : t ≤ 10) : ∀ j c, 1 ≤ c → c ≤ m → c ≤ waitS t m j c ∧ waitS t m j c ≤ m
  | 0, c, h1, h2 => by unfold waitS; omega
  | j + 1, c, h1, h2 => by
    have hb := mul_bounds h1 ht h10
    unfold waitS
    split
    · omega
    · have := waitS_bounds (m := m) ht h10 j (c * t) (by omega) (by omega)
      omega
theorem spec_l10Wait_loop {R : Type} {t m : Int} (h1 : 1 ≤ t) (h2 : t ≤ 10) (h3 : m ≤ 1000000) (x y : Int) (k : Int → Option R) : ∀ (n j : Nat) (c : Int), j < n → j ≤ 1000 → 1 ≤ c → c ≤ m →
    spec_l10Wait_l2 n (j + 1) c x t m y k k = k (waitS t m j c)
  | 0, _, _, h, _, _, _ => by omega
  | n + 1, 0, c, _, _, _, _ => by unfold spec_l10Wait_l2; rfl
  | n + 1, j + 1, c, hn, hj, hc, hm => by
    have hb := mul_bounds hc h1 h2
    have e1 : decide (((j + 1 : Nat) : Int) + 1 > 1) = true := decide_eq_true (by omega)
    unfold spec_l10Wait_l2 waitS
    rw [e1, wrap64 (by omega) (by omega), wrap64 (by omega) (by omega)]
    split
    · rename_i h
      rw [decide_eq_true h]; rfl
    · rename_i h
      rw [decide_eq_false h, cond_true, cond_false, show ((j + 1 : Nat) : Int) + 1 - 1 = (j : Int) + 1 by omega]
      exact spec_l10Wait_loop h1 h2 h3 x y k n j (c * t) (by omega) (by omega) (by omega) (by omega)
theorem impl_wait_loop {R : Type} {t m : Int} (h1 : 1 ≤ t) (h2 : t ≤ 10) (h3 : m ≤ 1000000) (f tr T : Int) (ht : tr ≤ 1000) (k : Int → Option R) : ∀ (n j : Nat) (c : Int), j < n → (j : Int) < tr → 1 ≤ c →
    impl_Policy_wait_l3 n tr c (tr - j) f t m T (fun r1 _ _ r4 _ => k (if r4 < r1 then r4 else r1)) = k (waitI t m j c)
  | 0, _, _, h, _, _ => by omega
  | n + 1, 0, c, _, _, _ => by
    have e1 : decide (tr - ((0 : Nat) : Int) < tr) = false := decide_eq_false (by omega)
    unfold impl_Policy_wait_l3 waitI
    rw [e1]; rfl
  | n + 1, j + 1, c, hn, hj, hc => by
    have e1 : decide (tr - ((j + 1 : Nat) : Int) < tr) = true := decide_eq_true (by omega)
    unfold impl_Policy_wait_l3 waitI
    rw [e1, cond_true]
    split
    · rename_i h
      have hb := mul_bounds hc h1 h2
      rw [decide_eq_true h, cond_true, wrap64 (by omega) (by omega), wrap64 (by omega) (by omega), show tr - ((j + 1 : Nat) : Int) + 1 = tr - (j : Int) by omega]
      exact impl_wait_loop h1 h2 h3 f tr T ht k n j (c * t) (by omega) (by omega) (by omega)
    · rename_i h
      rw [decide_eq_false h]; rfl
/-- The wait behind a try. -/
def waitN (a b c tr : Int) : Int := waitS b c (tr - 1).toNat a
theorem spec_l10Wait_eq {R : Type} {n : Nat} {a b c e tr : Int} (hg : goodP a b c e = true) (h1 : 1 ≤ tr) (h2 : tr ≤ 40) (hn : 100 ≤ n) (k : Int → Option R) : spec_l10Wait n a b c e tr k = k (waitN a b c tr) := by
  have hg := of_decide_eq_true hg
  have := spec_l10Wait_loop (R := R) (t := b) (m := c) (by omega) (by omega) (by omega) a e k n (tr - 1).toNat a (by omega) (by omega) (by omega) (by omega)
  rw [show (((tr - 1).toNat : Nat) : Int) + 1 = tr by omega] at this
  unfold spec_l10Wait waitN
  exact this
theorem impl_wait_loop' {R : Type} {t m : Int} (h1 : 1 ≤ t) (h2 : t ≤ 10) (h3 : m ≤ 1000000) (f tr T : Int) (ht : tr ≤ 1000) (k : Int → Int → Int → Int → Int → Option R) (n j : Nat) (c : Int) (hn : j < n) (hj : (j : Int) < tr) (hc : 1 ≤ c) :
    impl_Policy_wait_l3 n tr c (tr - j) f t m T (fun r1 r2 r3 r4 r5 => k (if r4 < r1 then r4 else r1) r2 r3 r4 r5) = k (waitI t m j c) f t m T := by
  have key : ∀ (n j : Nat) (c : Int), j < n → (j : Int) < tr → 1 ≤ c → impl_Policy_wait_l3 n tr c (tr - j) f t m T (fun r1 r2 r3 r4 r5 => k (if r4 < r1 then r4 else r1) r2 r3 r4 r5) = impl_Policy_wait_l3 n tr c (tr - j) f t m T (fun r1 _ _ r4 _ => k (if r4 < r1 then r4 else r1) f t m T) := by
    intro n
    induction n with
    | zero => intro j c h; omega
    | succ n ih =>
      intro j c hn hj hc
      unfold impl_Policy_wait_l3
      by_cases h : tr - (j : Int) < tr
      · rw [decide_eq_true h]
        by_cases h' : c < m
        · have hb := mul_bounds hc h1 h2
          rw [decide_eq_true h', cond_true, cond_true, cond_true, cond_true, wrap64 (by omega) (by omega), wrap64 (by omega) (by omega), show tr - (j : Int) + 1 = tr - ((j - 1 : Nat) : Int) by omega]
          exact ih (j - 1) (c * t) (by omega) (by omega) (by omega)
        · rw [decide_eq_false h']; rfl
      · rw [decide_eq_false h]; rfl
  rw [key n j c hn hj hc]
  exact impl_wait_loop h1 h2 h3 f tr T ht (fun r => k r f t m T) n j c hn hj hc
theorem impl_Policy_wait_eq {R : Type} {n : Nat} {a b c e tr : Int} (hg : goodP a b c e = true) (h1 : 1 ≤ tr) (h2 : tr ≤ 40) (hn : 100 ≤ n) (k : Int → Int → Int → Int → Int → Option R) : impl_Policy_wait n tr a b c e k = k (waitN a b c tr) a b c e := by
  have hg := of_decide_eq_true hg
  have := impl_wait_loop' (R := R) (t := b) (m := c) (by omega) (by omega) (by omega) a tr e (by omega) k n (tr - 1).toNat a (by omega) (by omega) (by omega)
  rw [show tr - (((tr - 1).toNat : Nat) : Int) = 1 by omega, waits_eq (by omega) (by omega) (by omega) _ _ (by omega) (by omega)] at this
  unfold impl_Policy_wait waitN
  exact this
theorem key {R : Type} (a b c e x : Int) (k : Bool → Option R) : laws_FnExactWaitOf 100 a b c e x k = k true := by
  simp only [laws_FnExactWaitOf, laws_toPolicy, spec_WaitOf, impl_WaitOf, spec_GoodPolicy_eq, impl_GoodPolicy_eq, spec_l1In_eq, impl_in_eq]
  cases hg : goodP a b c e with
  | false => rfl
  | true =>
    by_cases h : 1 ≤ x ∧ x ≤ e
    · have he := of_decide_eq_true hg
      rw [decide_eq_true h]
      simp only [Bool.not_true, cond_false, spec_l10Wait_eq hg h.1 (show x ≤ 40 by omega) (Nat.le_refl 100), impl_Policy_wait_eq hg h.1 (show x ≤ 40 by omega) (Nat.le_refl 100)]
      simp
    · rw [decide_eq_false h]; rfl
theorem plain : Plain := fun ⟨a, b, c, e⟩ x _ _ _ k => ⟨100, key a b c e x k⟩
end Go.Am.G
