/- The plain law: what the functions compute answers as the law says, for all arguments. -/
import Derived.Test.YtkmjmhjfadaebaaF10
set_option linter.unusedVariables false
set_option linter.unusedSimpArgs false
namespace Go.Am.G
open Go Go.Am
theorem wrap64 {x : Int} (h1 : -9223372036854775808 ≤ x) (h2 : x ≤ 9223372036854775807) : IntKind.wrap .i64 x = x := by
  simp only [IntKind.wrap, IntKind.signed, IntKind.bits]
  simp
  omega
theorem spec_l1In_eq {R : Type} (n : Nat) (x a b : Int) (k : Bool → Option R) : spec_l1In n x a b k = k (decide (a ≤ x ∧ x ≤ b)) := by
  simp only [spec_l1In]
  by_cases h : x ≥ a
  · have : a ≤ x := h
    simp [this]
  · have : ¬ a ≤ x := h
    simp [this]
theorem impl_in_eq {R : Type} (n : Nat) (x a b : Int) (k : Bool → Option R) : impl_in n x a b k = k (decide (a ≤ x ∧ x ≤ b)) := by
  simp only [impl_in]
  by_cases h : x ≥ a
  · have : a ≤ x := h
    simp [this]
  · have : ¬ a ≤ x := h
    simp [this]
theorem bifk {R α : Type} (b : Bool) (x y : α) (k : α → Option R) : (bif b then k x else k y) = k (bif b then x else y) := by cases b <;> rfl
def goodP (a b c e : Int) : Bool := decide (1 ≤ a ∧ a ≤ 1000 ∧ 1 ≤ b ∧ b ≤ 10 ∧ a ≤ c ∧ c ≤ 1000000 ∧ 1 ≤ e ∧ e ≤ 40)
theorem spec_GoodPolicy_eq {R : Type} (n : Nat) (a b c e : Int) (k : Bool → Option R) : spec_GoodPolicy n a b c e k = k (goodP a b c e) := by
  simp only [spec_GoodPolicy, spec_l1In_eq, bifk]
  congr 1
  apply Bool.eq_iff_iff.2
  simp only [goodP, cond_eq_ite, decide_eq_true_eq]
  repeat' split
  all_goals first | omega | (simp_all; done) | (simp_all; omega)
theorem impl_GoodPolicy_eq {R : Type} (n : Nat) (a b c e : Int) (k : Bool → Option R) : impl_GoodPolicy n a b c e k = k (goodP a b c e) := by
  simp only [impl_GoodPolicy, impl_in_eq, bifk]
  congr 1
  apply Bool.eq_iff_iff.2
  simp only [goodP, cond_eq_ite, decide_eq_true_eq]
  repeat' split
  all_goals first | omega | (simp_all; done) | (simp_all; omega)
/-- A wait, as the reference reckons it. -/
def waitS (t m : Int) : Nat → Int → Int
  | 0, c => c
  | j + 1, c => if c * t > m then m else waitS t m j (c * t)
/-- A wait, as the program reckons it. -/
def waitI (t m : Int) : Nat → Int → Int
  | 0, c => if m < c then m else c
  | j + 1, c => if c < m then waitI t m j (c * t) else if m < c then m else c
theorem mul_bounds {c t : Int} (h1 : 1 ≤ c) (h2 : 1 ≤ t) (h3 : t ≤ 10) : c ≤ c * t ∧ c * t ≤ c * 10 := by
  constructor
  · have := Int.mul_le_mul_of_nonneg_left h2 (show 0 ≤ c by omega)
    omega
  · exact Int.mul_le_mul_of_nonneg_left h3 (by omega)
theorem waitS_top {t m : Int} (hm : 1 ≤ m) (ht : 1 ≤ t) (h10 : t ≤ 10) : ∀ j, waitS t m j m = m
  | 0 => rfl
  | j + 1 => by
    have := mul_bounds hm ht h10
    unfold waitS
    split
    · rfl
    · have : m * t = m := by omega
      rw [this]; exact waitS_top hm ht h10 j
theorem waitI_top {t m c : Int} (h : m ≤ c) : ∀ j, waitI t m j c = m
  | 0 => by unfold waitI; split <;> omega
  | j + 1 => by unfold waitI; rw [if_neg (by omega)]; split <;> omega
theorem waits_eq {t m : Int} (hm : 1 ≤ m) (ht : 1 ≤ t) (h10 : t ≤ 10) : ∀ j c, 1 ≤ c → c ≤ m → waitI t m j c = waitS t m j c
  | 0, c, h1, h2 => by unfold waitI waitS; rw [if_neg (by omega)]
  | j + 1, c, h1, h2 => by
    have hb := mul_bounds h1 ht h10
    unfold waitI
    split
    · unfold waitS
      split
      · exact waitI_top (c := c * t) (by omega) j
      · exact waits_eq hm ht h10 j (c * t) (by omega) (by omega)
    · have : c = m := by omega
      subst this
      rw [if_neg (by omega)]
      exact (waitS_top hm ht h10 (j + 1)).symm
theorem waitS_bounds {t m : Int} (ht : 1 ≤ t) (h10 : t ≤ 10) : ∀ j c, 1 ≤ c → c ≤ m → c ≤ waitS t m j c ∧ waitS t m j c ≤ m
  | 0, c, h1, h2 => by unfold waitS; omega
  | j + 1, c, h1, h2 => by
    have hb := mul_bounds h1 ht h10
    unfold waitS
    split
    · omega
    · have := waitS_bounds (m := m) ht h10 j (c * t) (by omega) (by omega)
      omega
theorem spec_l10Wait_loop {R : Type} {t m : Int} (h1 : 1 ≤ t) (h2 : t ≤ 10) (h3 : m ≤ 1000000) (x y : Int) (k : Int → Option R) : ∀ (n j : Nat) (c : Int), j < n → j ≤ 1000 → 1 ≤ c → c ≤ m →
    spec_l10Wait_l2 n (j + 1) c x t m y k k = k (waitS t m j c)
  | 0, _, _, h, _, _, _ => by omega
  | n + 1, 0, c, _, _, _, _ => by unfold spec_l10Wait_l2; rfl
  | n + 1, j + 1, c, hn, hj, hc, hm => by
    have hb := mul_bounds hc h1 h2
    have e1 : decide (((j + 1 : Nat) : Int) + 1 > 1) = true := decide_eq_true (by omega)
    unfold spec_l10Wait_l2 waitS
    rw [e1, wrap64 (by omega) (by omega), wrap64 (by omega) (by omega)]
    split
    · rename_i h
      rw [decide_eq_true h]; rfl
    · rename_i h
      rw [decide_eq_false h, cond_true, cond_false, show ((j + 1 : Nat) : Int) + 1 - 1 = (j : Int) + 1 by omega]
      exact spec_l10Wait_loop h1 h2 h3 x y k n j (c * t) (by omega) (by omega) (by omega) (by omega)
theorem impl_wait_loop {R : Type} {t m : Int} (h1 : 1 ≤ t) (h2 : t ≤ 10) (h3 : m ≤ 1000000) (f tr T : Int) (ht : tr ≤ 1000) (k : Int → Option R) : ∀ (n j : Nat) (c : Int), j < n → (j : Int) < tr → 1 ≤ c →
    impl_Policy_wait_l3 n tr c (tr - j) f t m T (fun r1 _ _ r4 _ => k (if r4 < r1 then r4 else r1)) = k (waitI t m j c)
  | 0, _, _, h, _, _ => by omega
  | n + 1, 0, c, _, _, _ => by
    have e1 : decide (tr - ((0 : Nat) : Int) < tr) = false := decide_eq_false (by omega)
    unfold impl_Policy_wait_l3 waitI
    rw [e1]; rfl
  | n + 1, j + 1, c, hn, hj, hc => by
    have e1 : decide (tr - ((j + 1 : Nat) : Int) < tr) = true := decide_eq_true (by omega)
    unfold impl_Policy_wait_l3 waitI
    rw [e1, cond_true]
    split
    · rename_i h
      have hb := mul_bounds hc h1 h2
      rw [decide_eq_true h, cond_true, wrap64 (by omega) (by omega), wrap64 (by omega) (by omega), show tr - ((j + 1 : Nat) : Int) + 1 = tr - (j : Int) by omega]
      exact impl_wait_loop h1 h2 h3 f tr T ht k n j (c * t) (by omega) (by omega) (by omega)
    · rename_i h
      rw [decide_eq_false h]; rfl
/-- The wait behind a try. -/
def waitN (a b c tr : Int) : Int := waitS b c (tr - 1).toNat a
theorem spec_l10Wait_eq {R : Type} {n : Nat} {a b c e tr : Int} (hg : goodP a b c e = true) (h1 : 1 ≤ tr) (h2 : tr ≤ 40) (hn : 100 ≤ n) (k : Int → Option R) : spec_l10Wait n a b c e tr k = k (waitN a b c tr) := by
  have hg := of_decide_eq_true hg
  have := spec_l10Wait_loop (R := R) (t := b) (m := c) (by omega) (by omega) (by omega) a e k n (tr - 1).toNat a (by omega) (by omega) (by omega) (by omega)
  rw [show (((tr - 1).toNat : Nat) : Int) + 1 = tr by omega] at this
  unfold spec_l10Wait waitN
  exact this
theorem impl_wait_loop' {R : Type} {t m : Int} (h1 : 1 ≤ t) (h2 : t ≤ 10) (h3 : m ≤ 1000000) (f tr T : Int) (ht : tr ≤ 1000) (k : Int → Int → Int → Int → Int → Option R) (n j : Nat) (c : Int) (hn : j < n) (hj : (j : Int) < tr) (hc : 1 ≤ c) :
    impl_Policy_wait_l3 n tr c (tr - j) f t m T (fun r1 r2 r3 r4 r5 => k (if r4 < r1 then r4 else r1) r2 r3 r4 r5) = k (waitI t m j c) f t m T := by
  have key : ∀ (n j : Nat) (c : Int), j < n → (j : Int) < tr → 1 ≤ c → impl_Policy_wait_l3 n tr c (tr - j) f t m T (fun r1 r2 r3 r4 r5 => k (if r4 < r1 then r4 else r1) r2 r3 r4 r5) = impl_Policy_wait_l3 n tr c (tr - j) f t m T (fun r1 _ _ r4 _ => k (if r4 < r1 then r4 else r1) f t m T) := by
    intro n
    induction n with
    | zero => intro j c h; omega
    | succ n ih =>
      intro j c hn hj hc
      unfold impl_Policy_wait_l3
      by_cases h : tr - (j : Int) < tr
      · rw [decide_eq_true h]
        by_cases h' : c < m
        · have hb := mul_bounds hc h1 h2
          rw [decide_eq_true h', cond_true, cond_true, cond_true, cond_true, wrap64 (by omega) (by omega), wrap64 (by omega) (by omega), show tr - (j : Int) + 1 = tr - ((j - 1 : Nat) : Int) by omega]
          exact ih (j - 1) (c * t) (by omega) (by omega) (by omega)
        · rw [decide_eq_false h']; rfl
      · rw [decide_eq_false h]; rfl
  rw [key n j c hn hj hc]
  exact impl_wait_loop h1 h2 h3 f tr T ht (fun r => k r f t m T) n j c hn hj hc
theorem impl_Policy_wait_eq {R : Type} {n : Nat} {a b c e tr : Int} (hg : goodP a b c e = true) (h1 : 1 ≤ tr) (h2 : tr ≤ 40) (hn : 100 ≤ n) (k : Int → Int → Int → Int → Int → Option R) : impl_Policy_wait n tr a b c e k = k (waitN a b c tr) a b c e := by
  have hg := of_decide_eq_true hg
  have := impl_wait_loop' (R := R) (t := b) (m := c) (by omega) (by omega) (by omega) a tr e (by omega) k n (tr - 1).toNat a (by omega) (by omega) (by omega)
  rw [show tr - (((tr - 1).toNat : Nat) : Int) = 1 by omega, waits_eq (by omega) (by omega) (by omega) _ _ (by omega) (by omega)] at this
  unfold impl_Policy_wait waitN
  exact this
theorem getD_at {α : Type} (l : List α) (d : α) {j : Nat} (h : j < l.length) : l.getD (Int.toNat (j : Int)) d = l[j] := by
  rw [Int.toNat_natCast, List.getD_eq_getElem?_getD, List.getElem?_eq_getElem h]; rfl
theorem dlt {a b : Nat} (h : a < b) : decide ((a : Int) < (b : Int)) = true := decide_eq_true (by omega)
theorem dge {a b : Nat} (h : b ≤ a) : decide ((a : Int) < (b : Int)) = false := decide_eq_false (by omega)
theorem dnn (a : Nat) : decide (0 ≤ (a : Int)) = true := decide_eq_true (by omega)
theorem wrapS {j m : Nat} (h : j < m) (hm : m ≤ 9223372036854775807) : IntKind.wrap .i64 ((j : Int) + 1) = ((j + 1 : Nat) : Int) := by
  rw [wrap64 (by omega) (by omega)]; rfl
theorem laws_sameInts_loop {R : Type} (xs ys : List Int) (hl : xs.length = ys.length) (hb : xs.length ≤ 9223372036854775807) (kr : Bool → Option R) (ke : Option R) : ∀ (n j : Nat), xs.length - j < n → j ≤ xs.length →
    laws_sameInts_l4 n xs ys (xs.length : Int) (j : Int) kr ke = if xs.drop j = ys.drop j then ke else kr false
  | 0, _, h, _ => by omega
  | n + 1, j, hn, hj => by
    unfold laws_sameInts_l4
    by_cases h : j < xs.length
    · have h' : j < ys.length := by omega
      rw [dlt h, dlt h', dnn, getD_at _ _ h, getD_at _ _ h', wrapS h hb, List.drop_eq_getElem_cons h, List.drop_eq_getElem_cons h']
      simp only [cond_true]
      by_cases he : xs[j] = ys[j]
      · have : (xs[j] != ys[j]) = false := by simp [he]
        rw [this, cond_false, laws_sameInts_loop xs ys hl hb kr ke n (j + 1) (by omega) (by omega)]
        simp only [List.cons.injEq, he, true_and]
      · have : (xs[j] != ys[j]) = true := by simpa using he
        rw [this, cond_true, if_neg fun h => he (List.cons.inj h).1]
    · rw [dge (by omega)]
      have h1 : xs.drop j = [] := List.drop_eq_nil_iff.2 (by omega)
      have h2 : ys.drop j = [] := List.drop_eq_nil_iff.2 (by omega)
      simp [h1, h2]
theorem laws_sameInts_eq {R : Type} {n : Nat} {xs ys : List Int} (hb : xs.length ≤ 9223372036854775807) (hn : xs.length < n) (k : Bool → Option R) : laws_sameInts n xs ys k = k (decide (xs = ys)) := by
  unfold laws_sameInts
  by_cases hl : xs.length = ys.length
  · have : ((xs.length : Int) != (ys.length : Int)) = false := by simp [hl]
    rw [this, cond_false]
    have := laws_sameInts_loop xs ys hl hb k (k true) n 0 (by omega) (by omega)
    simp only [List.drop_zero] at this
    rw [show ((0 : Nat) : Int) = 0 from rfl] at this
    rw [this]
    split <;> simp_all
  · have : ((xs.length : Int) != (ys.length : Int)) = true := by simp; omega
    rw [this, cond_true, decide_eq_false fun h => hl (by rw [h])]
/-- The waits behind the tries from one on. -/
def waits (a b c : Int) : Nat → Int → List Int
  | 0, _ => []
  | j + 1, tr => waitN a b c tr :: waits a b c j (tr + 1)
def wsum (a b c : Int) : Nat → Int → Int
  | 0, _ => 0
  | j + 1, tr => waitN a b c tr + wsum a b c j (tr + 1)
theorem waits_length (a b c : Int) : ∀ j tr, (waits a b c j tr).length = j
  | 0, _ => rfl
  | j + 1, tr => by simp [waits, waits_length a b c j]
theorem waitN_bounds {a b c e tr : Int} (hg : goodP a b c e = true) : 0 ≤ waitN a b c tr ∧ waitN a b c tr ≤ 1000000 := by
  have hg := of_decide_eq_true hg
  have := waitS_bounds (t := b) (m := c) (by omega) (by omega) (tr - 1).toNat a (by omega) (by omega)
  unfold waitN
  omega
theorem spec_loop {R : Type} {a b c e : Int} (hg : goodP a b c e = true) (k : Int → List Int → Option R) : ∀ (n j : Nat) (tr s : Int) (out : List Int), j + 150 ≤ n → 1 ≤ tr → tr + j = e → 0 ≤ s → s ≤ 1000000 * tr → out.length ≤ tr →
    spec_WaitsOf_l6 n s tr a b c e out k = k (s + wsum a b c j tr) (out ++ waits a b c j tr)
  | 0, _, _, _, _, h, _, _, _, _, _ => by omega
  | n + 1, 0, tr, s, out, hn, h1, h2, h3, h4, h5 => by
    unfold spec_WaitsOf_l6
    rw [decide_eq_false (by omega)]
    simp [waits, wsum]
  | n + 1, j + 1, tr, s, out, hn, h1, h2, h3, h4, h5 => by
    have he := of_decide_eq_true hg
    have hw := waitN_bounds (tr := tr) hg
    unfold spec_WaitsOf_l6
    rw [decide_eq_true (show tr < e by omega), cond_true, spec_l10Wait_eq hg h1 (by omega) (by omega), decide_eq_true (show out.length + [waitN a b c tr].length ≤ LIM by simp [LIM]; omega), cond_true,
      spec_l10Wait_eq hg h1 (by omega) (by omega), wrap64 (by omega) (by omega), wrap64 (by omega) (by omega)]
    rw [spec_loop hg k n j (tr + 1) (s + waitN a b c tr) (out ++ [waitN a b c tr]) (by omega) (by omega) (by omega) (by omega) (by omega) (by simp; omega)]
    simp [waits, wsum, Int.add_assoc]
theorem impl_loop {R : Type} {a b c e : Int} (hg : goodP a b c e = true) (k : Int → List Int → Option R) : ∀ (n j : Nat) (tr s : Int) (out : List Int), j + 150 ≤ n → 1 ≤ tr → tr + j = e → 0 ≤ s → s ≤ 1000000 * tr → out.length ≤ tr →
    impl_WaitsOf_l5 n s tr a b c e out k = k (s + wsum a b c j tr) (out ++ waits a b c j tr)
  | 0, _, _, _, _, h, _, _, _, _, _ => by omega
  | n + 1, 0, tr, s, out, hn, h1, h2, h3, h4, h5 => by
    unfold impl_WaitsOf_l5
    rw [decide_eq_false (by omega)]
    simp [waits, wsum]
  | n + 1, j + 1, tr, s, out, hn, h1, h2, h3, h4, h5 => by
    have he := of_decide_eq_true hg
    have hw := waitN_bounds (tr := tr) hg
    unfold impl_WaitsOf_l5
    rw [decide_eq_true (show tr < e by omega), cond_true, impl_Policy_wait_eq hg h1 (by omega) (by omega), decide_eq_true (show out.length + [waitN a b c tr].length ≤ LIM by simp [LIM]; omega), cond_true,
      impl_Policy_wait_eq hg h1 (by omega) (by omega), wrap64 (by omega) (by omega), wrap64 (by omega) (by omega)]
    rw [impl_loop hg k n j (tr + 1) (s + waitN a b c tr) (out ++ [waitN a b c tr]) (by omega) (by omega) (by omega) (by omega) (by omega) (by simp; omega)]
    simp [waits, wsum, Int.add_assoc]
theorem spec_WaitsOf_eq {R : Type} {n : Nat} (hn : 1000 ≤ n) {a b c e : Int} (k : Int → Bool → List Int → Option R) : spec_WaitsOf n a b c e k = if goodP a b c e = true then k (wsum a b c (e - 1).toNat 1) true (waits a b c (e - 1).toNat 1) else k 0 false [] := by
  unfold spec_WaitsOf
  rw [spec_GoodPolicy_eq]
  cases hg : goodP a b c e with
  | false => simp
  | true =>
    have he := of_decide_eq_true hg
    have := spec_loop (R := R) hg (fun r4 r5 => k r4 true r5) n (e - 1).toNat 1 0 [] (by omega) (by omega) (by omega) (by omega) (by omega) (by simp)
    simp only [Bool.not_true, cond_false, this, List.nil_append, if_true, Int.zero_add]
theorem impl_WaitsOf_eq {R : Type} {n : Nat} (hn : 1000 ≤ n) {a b c e : Int} (k : Int → Bool → List Int → Option R) : impl_WaitsOf n a b c e k = if goodP a b c e = true then k (wsum a b c (e - 1).toNat 1) true (waits a b c (e - 1).toNat 1) else k 0 false [] := by
  unfold impl_WaitsOf
  rw [impl_GoodPolicy_eq]
  cases hg : goodP a b c e with
  | false => simp
  | true =>
    have he := of_decide_eq_true hg
    have := impl_loop (R := R) hg (fun r4 r5 => k r4 true r5) n (e - 1).toNat 1 0 [] (by omega) (by omega) (by omega) (by omega) (by omega) (by simp)
    simp only [Bool.not_true, cond_false, this, List.nil_append, if_true, Int.zero_add]
theorem and255 (x : Int) : 0 ≤ IntKind.wrap .i64 (IntKind.wrap .u64 (Int.ofNat (BitVec.toNat (BitVec.ofInt (IntKind.bits .u64) x &&& BitVec.ofInt (IntKind.bits .u64) 255)))) ∧ IntKind.wrap .i64 (IntKind.wrap .u64 (Int.ofNat (BitVec.toNat (BitVec.ofInt (IntKind.bits .u64) x &&& BitVec.ofInt (IntKind.bits .u64) 255)))) ≤ 255 := by
  have h : BitVec.toNat (BitVec.ofInt (IntKind.bits .u64) x &&& BitVec.ofInt (IntKind.bits .u64) 255) ≤ 255 := by
    rw [BitVec.toNat_and]
    exact Nat.le_trans Nat.and_le_right (by decide)
  generalize BitVec.toNat (BitVec.ofInt (IntKind.bits .u64) x &&& BitVec.ofInt (IntKind.bits .u64) 255) = y at h
  have h1 : IntKind.wrap .u64 (Int.ofNat y) = (y : Int) := by
    simp only [IntKind.wrap, IntKind.signed, IntKind.bits]
    simp
    omega
  rw [h1, wrap64 (by omega) (by omega)]
  omega
/-- Bytes. -/
def Bytes (l : List Int) : Prop := ∀ x ∈ l, 0 ≤ x ∧ x ≤ 255
theorem bytes_getD {l : List Int} (hl : Bytes l) {i : Nat} (h : i < l.length) : 0 ≤ l.getD i 0 ∧ l.getD i 0 ≤ 255 := by
  rw [List.getD_eq_getElem?_getD, List.getElem?_eq_getElem h]
  exact hl _ (List.getElem_mem h)
def seedN (s b : Int) : Int := IntKind.wrap .u64 ((IntKind.wrap .u64 ((IntKind.wrap .u64 (s * 6364136223846793005)) + b)) + 1442695040888963407)
theorem next_ex {l : List Int} (hl : Bytes l) (n : Nat) {p s : Int} (h0 : 0 ≤ p) (h1 : p ≤ 4611686018427387904) : ∃ r s', 0 ≤ r ∧ r ≤ 255 ∧ ∀ (R : Type) (k : Int → List Int → Int → Int → Option R), spec_l1Cur_next n l p s k = k r l (p + 1) s' := by
  have hw : IntKind.wrap .i64 (p + 1) = p + 1 := wrap64 (by omega) (by omega)
  by_cases c : p < (l.length : Int)
  · obtain ⟨b1, b2⟩ := bytes_getD hl (i := Int.toNat p) (by omega)
    have hg : IntKind.wrap .i64 (l.getD (Int.toNat p) 0) = l.getD (Int.toNat p) 0 := wrap64 (by omega) (by omega)
    refine ⟨l.getD (Int.toNat p) 0, seedN s (IntKind.wrap .u64 (l.getD (Int.toNat p) 0)), b1, b2, fun R k => ?_⟩
    unfold spec_l1Cur_next
    rw [decide_eq_true c, decide_eq_true h0, hw, decide_eq_true (show p + 1 ≤ (l.length : Int) by omega), hg]
    rfl
  · have hn := and255 (Int.fdiv (seedN s 0) (2 ^ (min (Int.toNat 40) (IntKind.bits .u64))))
    refine ⟨_, seedN s 0, hn.1, hn.2, fun R k => ?_⟩
    unfold spec_l1Cur_next
    rw [decide_eq_false c, hw, decide_eq_false (show ¬ p + 1 ≤ (l.length : Int) by omega)]
    rfl
theorem pick_ex {l : List Int} (hl : Bytes l) (n : Nat) {m p s : Int} (hm : m ≤ 60000) (h0 : 0 ≤ p) (h1 : p ≤ 4611686018427387000) : ∃ r p' s', 0 ≤ r ∧ (r < m ∨ (m ≤ 1 ∧ r = 0)) ∧ p ≤ p' ∧ p' ≤ p + 2 ∧ ∀ (R : Type) (k : Int → List Int → Int → Int → Option R), spec_l1Cur_pick n m l p s k = k r l p' s' := by
  by_cases c : m ≤ 1
  · exact ⟨0, p, s, by omega, .inr ⟨c, rfl⟩, by omega, by omega, fun R k => by unfold spec_l1Cur_pick; rw [decide_eq_true c]; rfl⟩
  · obtain ⟨r, s1, r0, r1, hr⟩ := next_ex hl n (s := s) h0 (by omega)
    by_cases c2 : m > 200
    · obtain ⟨q, s2, q0, q1, hq⟩ := next_ex hl n (p := p + 1) (s := s1) (by omega) (by omega)
      have e : IntKind.wrap .i64 (IntKind.wrap .i64 (r * 256) + q) = r * 256 + q := by rw [wrap64 (x := r * 256) (by omega) (by omega), wrap64 (by omega) (by omega)]
      have t0 := Int.tmod_nonneg m (show 0 ≤ r * 256 + q by omega)
      have t1 := Int.tmod_lt_of_pos (r * 256 + q) (show 0 < m by omega)
      refine ⟨Int.tmod (r * 256 + q) m, p + 1 + 1, s2, t0, .inl t1, by omega, by omega, fun R k => ?_⟩
      unfold spec_l1Cur_pick
      rw [decide_eq_false c, hr, decide_eq_true c2, hq, decide_eq_true (show m ≠ 0 by omega), e]
      rfl
    · have t0 := Int.tmod_nonneg m (show 0 ≤ r by omega)
      have t1 := Int.tmod_lt_of_pos r (show 0 < m by omega)
      refine ⟨Int.tmod r m, p + 1, s1, t0, .inl t1, by omega, by omega, fun R k => ?_⟩
      unfold spec_l1Cur_pick
      rw [decide_eq_false c, hr, decide_eq_false c2, decide_eq_true (show m ≠ 0 by omega)]
      rfl
theorem among_ex {l : List Int} (hl : Bytes l) (n : Nat) {xs : List Int} (hx : xs ≠ []) (hx2 : xs.length ≤ 200) {p s : Int} (h0 : 0 ≤ p) (h1 : p ≤ 4611686018427387000) : ∃ r p' s', r ∈ xs ∧ p ≤ p' ∧ p' ≤ p + 2 ∧ ∀ (R : Type) (k : Int → List Int → Int → Int → Option R), spec_l1Cur_among n xs l p s k = k r l p' s' := by
  have hp := List.length_pos_iff.2 hx
  obtain ⟨i, p', s', i0, i1, q0, q1, hi⟩ := pick_ex hl n (m := (xs.length : Int)) (s := s) (by omega) h0 h1
  have hlt : Int.toNat i < xs.length := by omega
  refine ⟨xs.getD (Int.toNat i) 0, p', s', ?_, q0, q1, fun R k => ?_⟩
  · rw [List.getD_eq_getElem?_getD, List.getElem?_eq_getElem hlt]
    exact List.getElem_mem hlt
  · unfold spec_l1Cur_among
    rw [hi, decide_eq_true i0, decide_eq_true (show i < (xs.length : Int) by omega)]
    rfl
theorem policy_ex {l : List Int} (hl : Bytes l) (n : Nat) : ∃ a b c e, ∀ (R : Type) (k : Int → Int → Int → Int → Option R), spec_DrawWaitsOf n l k = k a b c e := by
  obtain ⟨r1, p1, s1, u1, v1, m1, w1, h1⟩ := pick_ex hl n (m := 20) (p := 0) (s := 0) (by omega) (by omega) (by omega)
  obtain ⟨r2, p2, s2, u2, v2, m2, w2, h2⟩ := pick_ex hl n (m := 4) (p := p1) (s := s1) (by omega) (by omega) (by omega)
  obtain ⟨r3, p3, s3, u3, v3, m3, w3, h3⟩ := pick_ex hl n (m := 12) (p := p2) (s := s2) (by omega) (by omega) (by omega)
  obtain ⟨r4, p4, s4, u4, v4, m4, w4, h4⟩ := pick_ex hl n (m := 2000) (p := p3) (s := s3) (by omega) (by omega) (by omega)
  obtain ⟨r5, p5, s5, u5, v5, m5, w5, h5⟩ := pick_ex hl n (m := 30) (p := p4) (s := s4) (by omega) (by omega) (by omega)
  unfold spec_DrawWaitsOf spec_DrawGoodPolicy spec_l1Cur_policy
  simp only [h1, h2, h3, h4, h5]
  obtain ⟨q1, _, _, _, _, _, g1⟩ := among_ex hl n (xs := [0, 1000, 1001]) (p := p5) (s := s5) (by simp) (by simp) (by omega) (by omega)
  obtain ⟨q2, _, _, _, _, _, g2⟩ := among_ex hl n (xs := [0, 10, 11]) (p := p5) (s := s5) (by simp) (by simp) (by omega) (by omega)
  obtain ⟨q3, _, _, _, _, _, g3⟩ := among_ex hl n (xs := [0, 40, 41]) (p := p5) (s := s5) (by simp) (by simp) (by omega) (by omega)
  obtain ⟨q4, _, _, _, _, _, g4⟩ := among_ex hl n (xs := [0, 1000000, 1000001]) (p := p5) (s := s5) (by simp) (by simp) (by omega) (by omega)
  simp only [g1, g2, g3, g4]
  cases (r5 == 0) with
  | true => exact ⟨_, _, _, _, fun _ _ => rfl⟩
  | false =>
    cases (r5 == 1) with
    | true => exact ⟨_, _, _, _, fun _ _ => rfl⟩
    | false =>
      cases (r5 == 2) with
      | true => exact ⟨_, _, _, _, fun _ _ => rfl⟩
      | false =>
        cases (r5 == 3) with
        | true => exact ⟨_, _, _, _, fun _ _ => rfl⟩
        | false => exact ⟨_, _, _, _, fun _ _ => rfl⟩
theorem waitS_step {t m : Int} (ht : 1 ≤ t) (h10 : t ≤ 10) : ∀ (j : Nat) (c : Int), 1 ≤ c → c ≤ m → waitS t m j c ≤ waitS t m (j + 1) c ∧ waitS t m (j + 1) c ≤ waitS t m j c * t
  | 0, c, h1, h2 => by
    have hb := mul_bounds h1 ht h10
    simp only [waitS]
    split <;> omega
  | j + 1, c, h1, h2 => by
    have hb := mul_bounds h1 ht h10
    have hm := mul_bounds (show 1 ≤ m by omega) ht h10
    by_cases h : c * t > m
    · simp only [waitS, if_pos h]
      omega
    · have ih := waitS_step (m := m) ht h10 j (c * t) (by omega) (by omega)
      have e : ∀ i, waitS t m (i + 1) c = waitS t m i (c * t) := fun i => by simp only [waitS, if_neg h]
      rw [e (j + 1), e j]
      exact ih
theorem waits_get (a b c : Int) : ∀ (j : Nat) (tr : Int) (i : Nat) (h : i < (waits a b c j tr).length), (waits a b c j tr)[i] = waitN a b c (tr + i)
  | 0, _, i, h => by simp [waits] at h
  | j + 1, tr, 0, h => by simp [waits]
  | j + 1, tr, i + 1, h => by
    simp only [waits, List.getElem_cons_succ]
    rw [waits_get a b c j (tr + 1) i]
    congr 1
    omega
theorem law_loop {R : Type} {a b c e : Int} (hg : goodP a b c e = true) (S : Int) {l : List Int} (hl : l = waits a b c (e - 1).toNat 1) (kr : Bool → Option R) (ke : Int → Int → Int → Int → Int → Int → List Int → Option R) : ∀ (n j i : Nat) (acc : Int), j + 150 ≤ n → i + j = l.length → 0 ≤ acc → acc ≤ 1000000 * i →
    laws_FnWaits_l12 n S acc (l.length : Int) (i : Int) a b c e l kr ke = ke S (acc + wsum a b c j (i + 1)) a b c e l
  | 0, _, _, _, h, _, _, _ => by omega
  | n + 1, 0, i, acc, hn, hi, h0, h1 => by
    unfold laws_FnWaits_l12
    rw [dge (by omega)]
    simp [wsum]
  | n + 1, j + 1, i, acc, hn, hi, h0, h1 => by
    have he := of_decide_eq_true hg
    have hlen : l.length = (e - 1).toNat := by rw [hl, waits_length]
    have hi' : i < l.length := by omega
    have hget : ∀ q (h : q < l.length), l[q] = waitN a b c (q + 1) := fun q h => by
      subst hl
      rw [waits_get]
      congr 1
      omega
    have hw := waitS_bounds (t := b) (m := c) (by omega) (by omega) i a (by omega) (by omega)
    have hN : waitN a b c (i + 1) = waitS b c i a := by unfold waitN; congr 1; omega
    have hwo : ∀ kk : Int → Bool → Option R, impl_WaitOf n a b c e (IntKind.wrap .i64 ((i : Int) + 1)) kk = kk (waitN a b c (i + 1)) true := fun kk => by
      unfold impl_WaitOf
      rw [wrap64 (by omega) (by omega), impl_GoodPolicy_eq, hg, impl_in_eq, decide_eq_true (show 1 ≤ (i : Int) + 1 ∧ (i : Int) + 1 ≤ e by omega), impl_Policy_wait_eq hg (by omega) (by omega) (by omega)]
      rfl
    have ih := law_loop hg S hl kr ke n j (i + 1) (acc + waitN a b c (i + 1)) (by omega) (by omega) (by omega) (by omega)
    rw [show (((i + 1 : Nat) : Int)) = (i : Int) + 1 by omega] at ih
    unfold laws_FnWaits_l12
    rw [dlt hi', dnn, hwo, getD_at _ _ hi', hget i hi', bne_self_eq_false, hN, decide_eq_false (show ¬ waitS b c i a < a by omega), decide_eq_false (show ¬ waitS b c i a > c by omega), wrapS hi' (by omega), wrap64 (x := acc + _) (by omega) (by omega)]
    simp only [cond_true, Bool.not_true, cond_false]
    by_cases hz : i = 0
    · subst hz
      rw [decide_eq_false (by omega), cond_false]
      rw [hN] at ih
      rw [show (((0 + 1 : Nat) : Int)) = ((0 : Nat) : Int) + 1 by omega, ih]
      simp only [wsum, hN]
      congr 1
      omega
    · have hp : i - 1 < l.length := by omega
      have hN' : waitN a b c (((i - 1 : Nat) : Int) + 1) = waitS b c (i - 1) a := by unfold waitN; congr 1; omega
      have hw' := waitS_bounds (t := b) (m := c) (by omega) (by omega) (i - 1) a (by omega) (by omega)
      have hst := waitS_step (t := b) (m := c) (by omega) (by omega) (i - 1) a (by omega) (by omega)
      rw [show i - 1 + 1 = i by omega] at hst
      have hmb := mul_bounds (c := waitS b c (i - 1) a) (t := b) (by omega) (by omega) (by omega)
      rw [decide_eq_true (show (i : Int) > 0 by omega), wrap64 (x := (i : Int) - 1) (by omega) (by omega), show (i : Int) - 1 = ((i - 1 : Nat) : Int) by omega, dnn, dlt hp, getD_at _ _ hp, hget _ hp, hN', wrap64 (x := waitS b c (i - 1) a * b) (by omega) (by omega),
        decide_eq_false (show ¬ waitS b c i a < waitS b c (i - 1) a by omega), decide_eq_false (show ¬ waitS b c i a > waitS b c (i - 1) a * b by omega)]
      simp only [cond_true, cond_false]
      rw [hN] at ih
      rw [show (((i + 1 : Nat) : Int)) = (i : Int) + 1 by omega, ih]
      simp only [wsum, hN]
      congr 1
      omega
theorem key {R : Type} {n : Nat} (hn : 1000 ≤ n) {l : List Int} (hl : Bytes l) (k : Bool → Option R) : laws_FnWaits n l k = k true := by
  unfold laws_FnWaits
  cases decide ((l.length : Int) > 1048576) with
  | true => rfl
  | false =>
    obtain ⟨a, b, c, e, hd⟩ := policy_ex hl n
    rw [cond_false, hd]
    simp only [impl_WaitsOf_eq hn, spec_WaitsOf_eq hn]
    have hlen : ∀ j, (waits a b c j 1).length = j := fun j => waits_length _ _ _ _ _
    cases hg : goodP a b c e with
    | false =>
      simp only [Bool.false_eq_true, if_false, beq_self_eq_true, Bool.not_true, cond_false, bne_self_eq_false, impl_GoodPolicy_eq, hg]
      rw [laws_sameInts_eq (by simp) (by simp; omega)]
      simp
    | true =>
      have he := of_decide_eq_true hg
      simp only [if_true, beq_self_eq_true, Bool.not_true, cond_false, bne_self_eq_false, impl_GoodPolicy_eq, hg]
      rw [laws_sameInts_eq (by rw [hlen]; omega) (by rw [hlen]; omega)]
      simp only [decide_true, Bool.not_true, cond_false]
      have := law_loop (R := R) hg (wsum a b c (e - 1).toNat 1) (l := waits a b c (e - 1).toNat 1) rfl (fun r15 => k r15) (fun r16 r17 r18 r19 r20 r21 r22 => (impl_WaitOf n r18 r19 r20 r21 r21 fun r23 r24 => (bif r24 then (bif (decide (r23 ≤ r20)) then (bif (r17 == r16) then k ((r22.length : Int) == (IntKind.wrap .i64 (r21 - 1))) else k false) else k false) else k false)))
        n (e - 1).toNat 0 0 (by omega) (by rw [hlen]; omega) (by omega) (by omega)
      rw [show ((0 : Nat) : Int) = 0 from rfl] at this
      rw [this]
      have hw := waitS_bounds (t := b) (m := c) (by omega) (by omega) (e - 1).toNat a (by omega) (by omega)
      unfold impl_WaitOf
      rw [impl_GoodPolicy_eq, hg, impl_in_eq, decide_eq_true (show 1 ≤ e ∧ e ≤ e by omega)]
      simp only [Bool.not_true, cond_false]
      rw [impl_Policy_wait_eq hg (by omega) (by omega) (by omega), cond_true, decide_eq_true (show waitN a b c e ≤ c from hw.2), hlen, wrap64 (by omega) (by omega), show 0 + wsum a b c (e - 1).toNat (0 + 1) = wsum a b c (e - 1).toNat 1 by rw [Int.zero_add]; rfl]
      have : (((e - 1).toNat : Int) == e - 1) = true := beq_iff_eq.2 (by omega)
      rw [this]
      simp
theorem plain : Plain := fun l hl _ k => ⟨1000, key (Nat.le_refl _) (fun x hx => hl.2 x hx) k⟩
end Go.Am.G
