/- The plain law: what the functions compute answers as the law says, for all arguments. -/
import Derived.Test.YtjijikgjefingaaF7
set_option linter.unusedVariables false
set_option linter.unusedSimpArgs false
namespace Go.Am.G
open Go Go.Am
theorem wrap64 {x : Int} (h1 : -9223372036854775808 ≤ x) (h2 : x ≤ 9223372036854775807) : IntKind.wrap .i64 x = x := by
  simp only [IntKind.wrap, IntKind.signed, IntKind.bits]
  simp
  omega
theorem getD_at {α : Type} (l : List α) (d : α) {j : Nat} (h : j < l.length) : l.getD (Int.toNat (j : Int)) d = l[j] := by
  rw [Int.toNat_natCast, List.getD_eq_getElem?_getD, List.getElem?_eq_getElem h]; rfl
theorem dlt {a b : Nat} (h : a < b) : decide ((a : Int) < (b : Int)) = true := decide_eq_true (by omega)
theorem dge {a b : Nat} (h : b ≤ a) : decide ((a : Int) < (b : Int)) = false := decide_eq_false (by omega)
theorem dnn (a : Nat) : decide (0 ≤ (a : Int)) = true := decide_eq_true (by omega)
theorem wrapS {j m : Nat} (h : j < m) (hm : m ≤ 9223372036854775807) : IntKind.wrap .i64 ((j : Int) + 1) = ((j + 1 : Nat) : Int) := by
  rw [wrap64 (by omega) (by omega)]; rfl
theorem spec_l1In_eq {R : Type} (n : Nat) (x a b : Int) (k : Bool → Option R) : spec_l1In n x a b k = k (decide (a ≤ x ∧ x ≤ b)) := by
  simp only [spec_l1In]
  by_cases h : x ≥ a
  · have : a ≤ x := h
    simp [this]
  · have : ¬ a ≤ x := h
    simp [this]
theorem impl_in_eq {R : Type} (n : Nat) (x a b : Int) (k : Bool → Option R) : impl_in n x a b k = k (decide (a ≤ x ∧ x ≤ b)) := by
  simp only [impl_in]
  by_cases h : x ≥ a
  · have : a ≤ x := h
    simp [this]
  · have : ¬ a ≤ x := h
    simp [this]
theorem loop_all {α R : Type} (l : List α) (q : α → Bool) (B : Nat) (F : Nat → Int → Option R) (ke kr : Option R)
    (step : ∀ (n j : Nat) (h : j < l.length), B ≤ n → F (n + 1) (j : Int) = bif q l[j] then F n ((j + 1 : Nat) : Int) else kr)
    (stop : ∀ n, F (n + 1) (l.length : Int) = ke) : ∀ (n j : Nat), B + (l.length - j) < n → j ≤ l.length → F n (j : Int) = bif (l.drop j).all q then ke else kr
  | 0, _, h, _ => by omega
  | n + 1, j, hn, hj => by
    by_cases h : j < l.length
    · rw [step n j h (by omega), List.drop_eq_getElem_cons h, List.all_cons, loop_all l q B F ke kr step stop n (j + 1) (by omega) (by omega)]
      cases q l[j] <;> rfl
    · have : j = l.length := by omega
      subst this
      rw [stop, List.drop_length]; rfl
theorem loop_all0 {α R : Type} (l : List α) (q : α → Bool) (B : Nat) (F : Nat → Int → Option R) (ke kr : Option R)
    (step : ∀ (n j : Nat) (h : j < l.length), B ≤ n → F (n + 1) (j : Int) = bif q l[j] then F n ((j + 1 : Nat) : Int) else kr)
    (stop : ∀ n, F (n + 1) (l.length : Int) = ke) {n : Nat} (hn : B + l.length < n) : F n 0 = bif l.all q then ke else kr := by
  have := loop_all l q B F ke kr step stop n 0 (by omega) (by omega)
  rw [List.drop_zero] at this
  exact this
theorem laws_eqIntS_loop {R : Type} (xs ys : List Int) (hl : xs.length = ys.length) (hb : xs.length ≤ 9223372036854775807) (kr : Bool → Option R) (ke : Option R) : ∀ (n j : Nat), xs.length - j < n → j ≤ xs.length →
    laws_eqIntS_l4 n xs ys (j : Int) kr ke = if xs.drop j = ys.drop j then ke else kr false
  | 0, _, h, _ => by omega
  | n + 1, j, hn, hj => by
    unfold laws_eqIntS_l4
    by_cases h : j < xs.length
    · have h' : j < ys.length := by omega
      rw [dlt h, dlt h', dnn, getD_at _ _ h, getD_at _ _ h', wrapS h hb, List.drop_eq_getElem_cons h, List.drop_eq_getElem_cons h']
      simp only [cond_true]
      by_cases he : xs[j] = ys[j]
      · have : (xs[j] != ys[j]) = false := by simp [he]
        rw [this, cond_false, laws_eqIntS_loop xs ys hl hb kr ke n (j + 1) (by omega) (by omega)]
        simp only [List.cons.injEq, he, true_and]
      · have : (xs[j] != ys[j]) = true := by simpa using he
        rw [this, cond_true, if_neg fun h => he (List.cons.inj h).1]
    · rw [dge (by omega)]
      have h1 : xs.drop j = [] := List.drop_eq_nil_iff.2 (by omega)
      have h2 : ys.drop j = [] := List.drop_eq_nil_iff.2 (by omega)
      simp [h1, h2]
theorem laws_eqIntS_eq {R : Type} {n : Nat} {xs ys : List Int} (hb : xs.length ≤ 9223372036854775807) (hn : xs.length < n) (k : Bool → Option R) : laws_eqIntS n xs ys k = k (decide (xs = ys)) := by
  unfold laws_eqIntS
  by_cases hl : xs.length = ys.length
  · have : ((xs.length : Int) != (ys.length : Int)) = false := by simp [hl]
    rw [this, cond_false]
    have := laws_eqIntS_loop xs ys hl hb k (k true) n 0 (by omega) (by omega)
    simp only [List.drop_zero] at this
    rw [show ((0 : Nat) : Int) = 0 from rfl] at this
    rw [this]
    split <;> simp_all
  · have : ((xs.length : Int) != (ys.length : Int)) = true := by simp; omega
    rw [this, cond_true, decide_eq_false fun h => hl (by rw [h])]
/-- Numbers one behind the other. -/
def marks : Nat → Int → List Int
  | 0, _ => []
  | m + 1, k => k :: marks m (k + 1)
theorem marks_length : ∀ m k, (marks m k).length = m
  | 0, _ => rfl
  | m + 1, k => by simp [marks, marks_length m]
theorem set_take_drop {α : Type} {l : List α} {j : Nat} (h : j < l.length) (x : α) : (l.set j x).take (j + 1) = l.take j ++ [x] := by
  rw [List.take_set, List.take_succ_eq_append_getElem h, List.set_append_right _ _ (by simp; omega)]
  simp [Nat.min_eq_left (Nat.le_of_lt h)]
theorem laws_markIntS_loop {R : Type} (ke : Int → List Int → Option R) : ∀ (n j : Nat) (l : List Int) (q : Int), l.length - j < n → j ≤ l.length → 0 ≤ q → q + (l.length - j : Nat) ≤ 9223372036854775807 → l.length ≤ 9223372036854775807 →
    laws_markIntS_l2 n q (j : Int) l ke = ke (q + (l.length - j : Nat)) (l.take j ++ marks (l.length - j) q)
  | 0, _, _, _, h, _, _, _, _ => by omega
  | n + 1, j, l, q, hn, hj, h0, h1, h2 => by
    unfold laws_markIntS_l2
    by_cases h : j < l.length
    · rw [dlt h, dnn, wrapS h (by omega), wrap64 (x := q + 1) (by omega) (by omega), Int.toNat_natCast]
      simp only [cond_true]
      rw [laws_markIntS_loop ke n (j + 1) (l.set j q) (q + 1) (by simp; omega) (by simp; omega) (by omega) (by simp; omega) (by simp; omega)]
      rw [List.length_set, set_take_drop h, List.append_assoc, show l.length - j = (l.length - (j + 1)) + 1 by omega]
      congr 1
      omega
    · rw [dge (by omega), cond_false, show l.length - j = 0 by omega, List.take_of_length_le (by omega)]
      simp [marks]
theorem laws_markIntS_eq {R : Type} {n : Nat} {l : List Int} {q : Int} (hn : l.length < n) (h0 : 0 ≤ q) (h1 : q + l.length ≤ 9223372036854775807) (k : Int → List Int → Option R) : laws_markIntS n q l k = k (q + l.length) (marks l.length q) := by
  unfold laws_markIntS
  have := laws_markIntS_loop k n 0 l q (by omega) (by omega) h0 (by omega) (by omega)
  simp only [List.take_zero, List.nil_append, Nat.sub_zero] at this
  exact this
theorem laws_heldIntS_loop {R : Type} (l : List Int) (kr ke : Int → Option R) : ∀ (n j : Nat) (q : Int), l.length - j < n → j ≤ l.length → 0 ≤ q → q + (l.length - j : Nat) ≤ 9223372036854775807 → l.length ≤ 9223372036854775807 → l.drop j = marks (l.length - j) q →
    laws_heldIntS_l2 n l q (j : Int) kr ke = ke (q + (l.length - j : Nat))
  | 0, _, _, h, _, _, _, _, _ => by omega
  | n + 1, j, q, hn, hj, h0, h1, h2, h3 => by
    unfold laws_heldIntS_l2
    by_cases h : j < l.length
    · rw [show l.length - j = (l.length - (j + 1)) + 1 by omega, List.drop_eq_getElem_cons h, marks] at h3
      injection h3 with h4 h5
      rw [dlt h, dnn, getD_at _ _ h, wrapS h h2, wrap64 (by omega) (by omega), h4, bne_self_eq_false]
      simp only [cond_true, cond_false]
      rw [laws_heldIntS_loop l kr ke n (j + 1) (q + 1) (by omega) (by omega) (by omega) (by omega) h2 h5]
      congr 1
      omega
    · rw [dge (by omega), cond_false, show l.length - j = 0 by omega]
      simp
theorem laws_heldIntS_eq {R : Type} {n m : Nat} {q : Int} (hn : m < n) (h0 : 0 ≤ q) (h1 : q + m ≤ 9223372036854775807) (k : Int → Option R) : laws_heldIntS n (marks m q) q k = k (q + m) := by
  unfold laws_heldIntS
  have := laws_heldIntS_loop (marks m q) k k n 0 q (by rw [marks_length]; omega) (by omega) h0 (by rw [marks_length]; omega) (by rw [marks_length]; omega) (by rw [marks_length]; simp)
  rw [marks_length] at this
  simp only [Nat.sub_zero] at this
  exact this
theorem laws_szIntS_eq {R : Type} (n : Nat) (l : List Int) (left : Int) (h0 : 0 ≤ left) (h1 : left ≤ 1048576) (hl : l.length ≤ 9223372036854775807) (k : Int → Option R) :
    laws_szIntS n l left k = if left < l.length then k (-1) else k (left - l.length) := by
  unfold laws_szIntS
  rw [wrap64 (by omega) (by omega)]
  by_cases h : left < l.length
  · rw [decide_eq_true (by omega), if_pos h]; rfl
  · rw [decide_eq_false (by omega), if_neg h]; rfl
theorem set_take_at {α : Type} {out l : List α} {j : Nat} (h : j < l.length) (ho : out.length = l.length) (ht : out.take j = l.take j) : (out.set j l[j]).take (j + 1) = l.take (j + 1) := by
  rw [List.take_set, List.take_succ_eq_append_getElem (by omega), List.take_succ_eq_append_getElem h, ht, List.set_append_right _ _ (by simp; omega)]
  rw [show j - (l.take j).length = 0 by simp; omega]
  rfl
theorem laws_toIntS_loop {R : Type} (l : List Int) (hb : l.length ≤ 9223372036854775807) (ke : List Int → Option R) : ∀ (n j : Nat) (out : List Int), l.length - j < n → j ≤ l.length → out.length = l.length → out.take j = l.take j →
    laws_toIntS_l3 n l (j : Int) out ke = ke l
  | 0, _, _, h, _, _, _ => by omega
  | n + 1, j, out, hn, hj, ho, ht => by
    unfold laws_toIntS_l3
    by_cases h : j < l.length
    · rw [dlt h, dnn, getD_at _ _ h, wrapS h hb, Int.toNat_natCast, ho, dlt h]
      simp only [cond_true]
      exact laws_toIntS_loop l hb ke n (j + 1) _ (by omega) (by omega) (by simpa using ho) (set_take_at h ho ht)
    · rw [dge (by omega), cond_false]
      have h1 : l.take j = l := List.take_of_length_le (by omega)
      rw [List.take_of_length_le (by omega), h1] at ht
      rw [ht]
theorem laws_toIntS_eq {R : Type} {n : Nat} {l : List Int} (hl : l.length ≤ 1048576) (hn : l.length < n) (k : List Int → Option R) : laws_toIntS n l k = k l := by
  unfold laws_toIntS
  rw [decide_eq_true (by omega), decide_eq_true (by omega), decide_eq_true (by omega)]
  simp only [cond_true, Int.toNat_natCast]
  exact laws_toIntS_loop l (by omega) k n 0 _ (by omega) (by omega) (by simp) (by simp)
def accB (l : List Int) : Bool := decide (1 ≤ (l.length : Int) ∧ (l.length : Int) ≤ 8) && l.all fun x => decide (0 ≤ x ∧ x ≤ 1000000)
def mvB (N : Int) (m : Int × Int × Int) : Bool := decide (0 ≤ m.1 ∧ m.1 ≤ N - 1) && (decide (0 ≤ m.2.1 ∧ m.2.1 ≤ N - 1) && ((m.1 != m.2.1) && decide (1 ≤ m.2.2 ∧ m.2.2 ≤ 1000)))
def bkMv (m : Int × Int × Int) : Int × Int × Int := (m.2.1, m.1, m.2.2)
def putMv (l : List Int) (m : Int × Int × Int) : List Int := (l.set m.1.toNat (l.getD m.1.toNat 0 - m.2.2)).set m.2.1.toNat (l.getD m.2.1.toNat 0 + m.2.2)
def okMv (l : List Int) (m : Int × Int × Int) : Bool := decide (0 ≤ l.getD m.1.toNat 0 - m.2.2) && decide (l.getD m.2.1.toNat 0 + m.2.2 ≤ 1000000)
def AccIn (l : List Int) : Prop := ∀ x ∈ l, 0 ≤ x ∧ x ≤ 1000000
def undoB : List (Int × Int × Int) → List Int → Bool
  | [], _ => true
  | m :: r, l => okMv l (bkMv m) && undoB r (putMv l (bkMv m))
def goodSagaB (acc : List Int) (mv : List (Int × Int × Int)) (d : Int) : Bool :=
  accB acc && (decide (mv.length ≤ 20) && (decide (0 ≤ d ∧ d ≤ (mv.length : Int)) && (mv.all (mvB acc.length) && undoB (mv.take d.toNat).reverse acc)))
theorem mvB_in {N : Nat} {m : Int × Int × Int} (h : mvB (N : Int) m = true) : ∃ i j : Nat, m.1 = (i : Int) ∧ m.2.1 = (j : Int) ∧ i < N ∧ j < N ∧ i ≠ j ∧ 1 ≤ m.2.2 ∧ m.2.2 ≤ 1000 := by
  simp only [mvB, Bool.and_eq_true, decide_eq_true_eq, bne_iff_ne, ne_eq] at h
  exact ⟨m.1.toNat, m.2.1.toNat, by omega, by omega, by omega, by omega, by omega, by omega, by omega⟩
theorem mvB_bk {N : Int} {m : Int × Int × Int} (h : mvB N m = true) : mvB N (bkMv m) = true := by
  simp only [mvB, bkMv, Bool.and_eq_true, decide_eq_true_eq, bne_iff_ne, ne_eq] at h ⊢
  exact ⟨decide_eq_true h.2.1, decide_eq_true h.1, fun e => h.2.2.1 e.symm, decide_eq_true h.2.2.2⟩
theorem accIn_getD {l : List Int} (h : AccIn l) (i : Nat) : 0 ≤ l.getD i 0 ∧ l.getD i 0 ≤ 1000000 := by
  rw [List.getD_eq_getElem?_getD]
  cases e : l[i]? with
  | none => simp
  | some x => exact h x (List.mem_of_getElem? e)
theorem putMv_length (l : List Int) (m : Int × Int × Int) : (putMv l m).length = l.length := by simp [putMv]
theorem putMv_in {l : List Int} {m : Int × Int × Int} (h : AccIn l) (hm : mvB (l.length : Int) m = true) (ho : okMv l m = true) : AccIn (putMv l m) := by
  obtain ⟨i, j, e1, e2, hi, hj, hij, c1, c2⟩ := mvB_in hm
  simp only [okMv, Bool.and_eq_true, decide_eq_true_eq] at ho
  have g1 := accIn_getD h m.1.toNat
  have g2 := accIn_getD h m.2.1.toNat
  intro x hx
  rcases List.mem_or_eq_of_mem_set hx with hx | rfl
  · rcases List.mem_or_eq_of_mem_set hx with hx | rfl
    · exact h x hx
    · omega
  · omega
theorem getD_set_ne {l : List Int} {i j : Nat} (v : Int) (h : i ≠ j) : (l.set i v).getD j 0 = l.getD j 0 := by
  rw [List.getD_eq_getElem?_getD, List.getD_eq_getElem?_getD, List.getElem?_set_ne h]
theorem getD_set_eq {l : List Int} {i : Nat} (v : Int) (h : i < l.length) : (l.set i v).getD i 0 = v := by
  rw [List.getD_eq_getElem?_getD, List.getElem?_set_self h]; rfl
theorem impl_moved_eq {R : Type} {n : Nat} {l : List Int} {m : Int × Int × Int} (hl : AccIn l) (hl2 : l.length ≤ 1048576) (hm : mvB (l.length : Int) m = true) (k : Bool → List Int → Option R) : impl_moved n l m.1 m.2.1 m.2.2 k = k (okMv l m) (putMv l m) := by
  obtain ⟨i, j, e1, e2, hi, hj, hij, c1, c2⟩ := mvB_in hm
  have g1 := accIn_getD hl i
  have g2 := accIn_getD hl j
  have w1 : IntKind.wrap .i64 (l.getD i 0 - m.2.2) = l.getD i 0 - m.2.2 := wrap64 (by omega) (by omega)
  have w2 : IntKind.wrap .i64 (l.getD j 0 + m.2.2) = l.getD j 0 + m.2.2 := wrap64 (by omega) (by omega)
  have hj' : j < (l.set i (l.getD i 0 - m.2.2)).length := by simpa using hj
  have hi' : i < (l.set i (l.getD i 0 - m.2.2)).length := by simpa using hi
  unfold impl_moved slices_Clone_int okMv putMv
  rw [e1, e2]
  simp only [Int.toNat_natCast, dnn, cond_true, w1, List.length_set, dlt hi, dlt hj, getD_set_ne _ hij, w2, getD_set_ne _ (Ne.symm hij), getD_set_eq _ hi, getD_set_eq _ hj', impl_accountOk, impl_in_eq, decide_eq_true (show 0 + l.length ≤ LIM by simp [LIM]; omega)]
  by_cases h : 0 ≤ l.getD i 0 - m.2.2
  · rw [decide_eq_true (show 0 ≤ l.getD i 0 - m.2.2 ∧ l.getD i 0 - m.2.2 ≤ 1000000 by omega), decide_eq_true h]
    simp only [cond_true, Bool.true_and]
    congr 1
    exact decide_eq_decide.2 (by omega)
  · rw [decide_eq_false (show ¬ (0 ≤ l.getD i 0 - m.2.2 ∧ l.getD i 0 - m.2.2 ≤ 1000000) by omega), decide_eq_false h]
    rfl
theorem spec_l9Do_eq {R : Type} {n : Nat} {l : List Int} {m : Int × Int × Int} (hl : AccIn l) (hl2 : l.length ≤ 1048576) (hm : mvB (l.length : Int) m = true) (k : Bool → List Int → Option R) : spec_l9Do n l m.1 m.2.1 m.2.2 k = k (okMv l m) (putMv l m) := by
  obtain ⟨i, j, e1, e2, hi, hj, hij, c1, c2⟩ := mvB_in hm
  have g1 := accIn_getD hl i
  have g2 := accIn_getD hl j
  have w1 : IntKind.wrap .i64 (l.getD i 0 - m.2.2) = l.getD i 0 - m.2.2 := wrap64 (by omega) (by omega)
  have w2 : IntKind.wrap .i64 (l.getD j 0 + m.2.2) = l.getD j 0 + m.2.2 := wrap64 (by omega) (by omega)
  have hj' : j < (l.set i (l.getD i 0 - m.2.2)).length := by simpa using hj
  unfold spec_l9Do okMv putMv
  rw [e1, e2]
  simp only [Int.toNat_natCast, dnn, cond_true, List.nil_append, w1, List.length_set, dlt hi, dlt hj, getD_set_ne _ hij, w2, getD_set_ne _ (Ne.symm hij), getD_set_eq _ hi, getD_set_eq _ hj', decide_eq_true (show ([] : List Int).length + l.length ≤ LIM by simp [LIM]; omega)]
  by_cases h : 0 ≤ l.getD i 0 - m.2.2
  · rw [decide_eq_true (show l.getD i 0 - m.2.2 ≥ 0 from h)]
    simp
  · rw [decide_eq_false (show ¬ l.getD i 0 - m.2.2 ≥ 0 from h)]
    simp
theorem impl_moveOk_eq {R : Type} {n : Nat} {N : Int} (h0 : 0 ≤ N) (h1 : N ≤ 9223372036854775807) (m : Int × Int × Int) (k : Bool → Option R) : impl_moveOk n m.1 m.2.1 m.2.2 N k = k (mvB N m) := by
  unfold impl_moveOk mvB
  simp only [impl_in_eq, wrap64 (x := N - 1) (by omega) (by omega)]
  cases decide (0 ≤ m.1 ∧ m.1 ≤ N - 1) <;> cases decide (0 ≤ m.2.1 ∧ m.2.1 ≤ N - 1) <;> cases (m.1 != m.2.1) <;> rfl
theorem spec_l9Move_eq {R : Type} {n : Nat} {N : Int} (h0 : 0 ≤ N) (h1 : N ≤ 9223372036854775807) (m : Int × Int × Int) (k : Bool → Option R) : spec_l9Move n m.1 m.2.1 m.2.2 N k = k (mvB N m) := by
  unfold spec_l9Move mvB
  simp only [spec_l1In_eq, wrap64 (x := N - 1) (by omega) (by omega)]
  cases decide (0 ≤ m.1 ∧ m.1 ≤ N - 1) <;> cases decide (0 ≤ m.2.1 ∧ m.2.1 ≤ N - 1) <;> cases (m.1 != m.2.1) <;> rfl
theorem take_rev {α : Type} (l : List α) {j : Nat} (h : j < l.length) : (l.take (j + 1)).reverse = l[j] :: (l.take j).reverse := by
  rw [List.take_succ_eq_append_getElem h, List.reverse_append]; rfl
theorem impl_undo_loop {R : Type} (mv : List (Int × Int × Int)) (hmv : mv.length ≤ 1048576) (kr : Bool → Option R) (kn : Bool → Option R) : ∀ (n j : Nat) (acc : List Int), j < n → j ≤ mv.length → AccIn acc → acc.length ≤ 1048576 → (∀ m ∈ mv, mvB (acc.length : Int) m = true) →
    impl_GoodSaga_l7 n mv false acc ((j : Int) - 1) kr kn = bif undoB (mv.take j).reverse acc then kn false else kr false
  | 0, _, _, h, _, _, _, _ => by omega
  | n + 1, 0, acc, _, _, _, _, _ => by
    rw [impl_GoodSaga_l7, decide_eq_false (show ¬ ((0 : Nat) : Int) - 1 ≥ 0 by omega)]; rfl
  | n + 1, j + 1, acc, hn, hj, ha, hl, hm => by
    have h : j < mv.length := by omega
    have h1 := hm _ (List.getElem_mem h)
    rw [impl_GoodSaga_l7, show ((j + 1 : Nat) : Int) - 1 = (j : Int) by omega, decide_eq_true (show (j : Int) ≥ 0 by omega), dlt h, getD_at _ _ h, wrap64 (x := (j : Int) - 1) (by omega) (by omega), take_rev mv h]
    simp only [cond_true, impl_back]
    have := impl_moved_eq (R := R) (n := n) (m := bkMv mv[j]) ha hl (mvB_bk h1)
    unfold bkMv at this
    rw [this]
    simp only [undoB, bkMv]
    cases ho : okMv acc (mv[j].2.1, mv[j].1, mv[j].2.2) with
    | false => rfl
    | true =>
      simp only [Bool.not_true, cond_false, Bool.true_and]
      exact impl_undo_loop mv hmv kr kn n j _ (by omega) (by omega) (putMv_in ha (mvB_bk h1) ho) (by rw [putMv_length]; exact hl) (by rw [putMv_length]; exact hm)
theorem spec_undo_loop {R : Type} (mv : List (Int × Int × Int)) (hmv : mv.length ≤ 1048576) (y2 : List Int) (y4 : Int) (y5 : Bool) (kr : Bool → Option R) (ke : Option R) : ∀ (n j : Nat) (acc : List Int), j < n → j ≤ mv.length → AccIn acc → acc.length ≤ 1048576 → (∀ m ∈ mv, mvB (acc.length : Int) m = true) →
    spec_GoodSaga_l11 n acc ((j : Int) - 1) y2 mv y4 y5 kr ke = bif undoB (mv.take j).reverse acc then ke else kr false
  | 0, _, _, h, _, _, _, _ => by omega
  | n + 1, 0, acc, _, _, _, _, _ => by
    rw [spec_GoodSaga_l11, decide_eq_false (show ¬ ((0 : Nat) : Int) - 1 ≥ 0 by omega)]; rfl
  | n + 1, j + 1, acc, hn, hj, ha, hl, hm => by
    have h : j < mv.length := by omega
    have h1 := hm _ (List.getElem_mem h)
    rw [spec_GoodSaga_l11, show ((j + 1 : Nat) : Int) - 1 = (j : Int) by omega, decide_eq_true (show (j : Int) ≥ 0 by omega), dlt h, getD_at _ _ h, wrap64 (x := (j : Int) - 1) (by omega) (by omega), take_rev mv h]
    simp only [cond_true, spec_l9Back]
    have := spec_l9Do_eq (R := R) (n := n) (m := bkMv mv[j]) ha hl (mvB_bk h1)
    unfold bkMv at this
    rw [this]
    simp only [undoB, bkMv]
    cases ho : okMv acc (mv[j].2.1, mv[j].1, mv[j].2.2) with
    | false => rfl
    | true =>
      simp only [Bool.not_true, cond_false, Bool.true_and]
      exact spec_undo_loop mv hmv y2 y4 y5 kr ke n j _ (by omega) (by omega) (putMv_in ha (mvB_bk h1) ho) (by rw [putMv_length]; exact hl) (by rw [putMv_length]; exact hm)
theorem impl_accountsOk_eq {R : Type} {n : Nat} {l : List Int} (hl : l.length ≤ 1048576) (hn : 3000000 ≤ n) (k : Bool → Option R) : impl_accountsOk n l k = k (accB l) := by
  unfold impl_accountsOk accB
  simp only [impl_in_eq]
  cases decide (1 ≤ (l.length : Int) ∧ (l.length : Int) ≤ 8) with
  | false => rfl
  | true =>
    simp only [cond_true, Bool.true_and]
    unfold slices_ContainsFunc_int_impl_accountsOk_c1 slices_IndexFunc_int_impl_accountsOk_c1
    refine (loop_all0 l (fun x => decide (0 ≤ x ∧ x ≤ 1000000)) 0 (fun n i => slices_IndexFunc_int_impl_accountsOk_c1_l2 n l (l.length : Int) i (fun r2 => k (!decide (r2 ≥ 0))) (k (!decide ((-1 : Int) ≥ 0)))) (k true) (k false) (fun n j h hn => ?_) (fun n => ?_) (n := n) (by omega)).trans ?_
    · rw [slices_IndexFunc_int_impl_accountsOk_c1_l2, dlt h, dnn, getD_at _ _ h, wrapS h (by omega)]
      simp only [cond_true, impl_accountsOk_c1, impl_accountOk, impl_in_eq]
      cases decide (0 ≤ l[j] ∧ l[j] ≤ 1000000) with
      | true => rfl
      | false => simp only [Bool.not_false, cond_true, decide_eq_true (show (j : Int) ≥ 0 by omega), Bool.not_true, cond_false]
    · rw [slices_IndexFunc_int_impl_accountsOk_c1_l2, dge (by omega)]; rfl
    · cases l.all fun x => decide (0 ≤ x ∧ x ≤ 1000000) <;> rfl
theorem spec_l9Accounts_eq {R : Type} {n : Nat} {l : List Int} (hl : l.length ≤ 1048576) (hn : 3000000 ≤ n) (k : Bool → Option R) : spec_l9Accounts n l k = k (accB l) := by
  unfold spec_l9Accounts accB
  refine (loop_all0 l (fun x => decide (0 ≤ x ∧ x ≤ 1000000)) 0 (fun n i => spec_l9Accounts_l2 n l l (l.length : Int) i (fun r2 => k r2) (fun r3 => (spec_l1In n (r3.length : Int) 1 8 fun r4 => k r4))) (k (decide (1 ≤ (l.length : Int) ∧ (l.length : Int) ≤ 8))) (k false) (fun n j h hn => ?_) (fun n => ?_) (n := n) (by omega)).trans ?_
  · rw [spec_l9Accounts_l2, dlt h, dnn, getD_at _ _ h, wrapS h (by omega)]
    simp only [cond_true, spec_l1In_eq]
    cases decide (0 ≤ l[j] ∧ l[j] ≤ 1000000) <;> rfl
  · rw [spec_l9Accounts_l2, dge (by omega), cond_false, spec_l1In_eq]
  · cases l.all fun x => decide (0 ≤ x ∧ x ≤ 1000000) <;> cases decide (1 ≤ (l.length : Int) ∧ (l.length : Int) ≤ 8) <;> rfl
theorem impl_allMv {R : Type} {n : Nat} {mv : List (Int × Int × Int)} {acc : List Int} (hl : acc.length ≤ 1048576) (hm : mv.length ≤ 1048576) (hn : 3000000 ≤ n) (y1 : List (Int × Int × Int)) (y2 : Int) (y3 : Bool) (k : Bool → List Int → List (Int × Int × Int) → Int → Bool → Option R) :
    slices_ContainsFunc_impl_Move_impl_GoodSaga_c1 n mv acc y1 y2 y3 k = k (!mv.all (mvB acc.length)) acc y1 y2 y3 := by
  unfold slices_ContainsFunc_impl_Move_impl_GoodSaga_c1 slices_IndexFunc_impl_Move_impl_GoodSaga_c1
  refine (loop_all0 mv (mvB acc.length) 0 (fun n i => slices_IndexFunc_impl_Move_impl_GoodSaga_c1_l2 n mv (mv.length : Int) i acc y1 y2 y3 (fun r6 r7 r8 r9 r10 => k (decide (r6 ≥ 0)) r7 r8 r9 r10) (fun r11 r12 r13 r14 => k (decide ((-1 : Int) ≥ 0)) r11 r12 r13 r14)) (k false acc y1 y2 y3) (k true acc y1 y2 y3) (fun n j h hn => ?_) (fun n => ?_) (n := n) (by omega)).trans ?_
  · rw [slices_IndexFunc_impl_Move_impl_GoodSaga_c1_l2, dlt h, dnn, getD_at _ _ h, wrapS h (by omega)]
    simp only [cond_true, impl_GoodSaga_c1, impl_moveOk_eq (n := n) (N := (acc.length : Int)) (by omega) (by omega) mv[j]]
    cases mvB (acc.length : Int) mv[j] with
    | true => rfl
    | false => simp only [Bool.not_false, cond_true, decide_eq_true (show (j : Int) ≥ 0 by omega), cond_false]
  · rw [slices_IndexFunc_impl_Move_impl_GoodSaga_c1_l2, dge (by omega)]; rfl
  · cases mv.all (mvB acc.length) <;> rfl
theorem spec_allMv {R : Type} {n : Nat} {mv : List (Int × Int × Int)} {acc : List Int} (hl : acc.length ≤ 1048576) (hm : mv.length ≤ 1048576) (hn : 3000000 ≤ n) (y1 : List (Int × Int × Int)) (y2 : Int) (y3 : Bool) (kr : Bool → Option R) (k : List Int → List (Int × Int × Int) → Int → Bool → Option R) :
    spec_GoodSaga_l4 n mv (mv.length : Int) 0 acc y1 y2 y3 kr k = bif mv.all (mvB acc.length) then k acc y1 y2 y3 else kr false := by
  refine loop_all0 mv (mvB acc.length) 0 (fun n i => spec_GoodSaga_l4 n mv (mv.length : Int) i acc y1 y2 y3 kr k) (k acc y1 y2 y3) (kr false) (fun n j h hn => ?_) (fun n => ?_) (n := n) (by omega)
  · rw [spec_GoodSaga_l4, dlt h, dnn, getD_at _ _ h, wrapS h (by omega)]
    simp only [cond_true, spec_l9Move_eq (n := n) (N := (acc.length : Int)) (by omega) (by omega) mv[j]]
    cases mvB (acc.length : Int) mv[j] <;> rfl
  · rw [spec_GoodSaga_l4, dge (by omega)]; rfl
theorem accB_in {l : List Int} (h : accB l = true) : AccIn l := by
  simp only [accB, Bool.and_eq_true, List.all_eq_true, decide_eq_true_eq] at h
  exact fun x hx => h.2 x hx
theorem impl_GoodSaga_eq {R : Type} {n : Nat} {mv : List (Int × Int × Int)} {acc : List Int} (hl : acc.length ≤ 1048576) (hm : mv.length ≤ 1048576) (hn : 3000000 ≤ n) (d : Int) (u : Bool) (k : Bool → Option R) : impl_GoodSaga n acc mv d u k = k (goodSagaB acc mv d) := by
  unfold impl_GoodSaga goodSagaB
  rw [impl_allMv hl hm hn, impl_accountsOk_eq hl hn]
  cases ha : accB acc with
  | false => rfl
  | true =>
    simp only [Bool.not_true, cond_false, Bool.true_and]
    by_cases h20 : mv.length ≤ 20
    · rw [decide_eq_false (show ¬ (mv.length : Int) > 20 by omega), decide_eq_true h20]
      simp only [cond_false, Bool.true_and]
      cases hall : mv.all (mvB acc.length) with
      | false => simp
      | true =>
        simp only [Bool.not_true, cond_false, impl_in_eq, Bool.true_and]
        by_cases hd : 0 ≤ d ∧ d ≤ (mv.length : Int)
        · rw [decide_eq_true hd, decide_eq_true hd.1, decide_eq_true hd.2]
          simp only [Bool.not_true, cond_false, cond_true, slices_Backward_impl_Move, List.drop_zero, Nat.sub_zero, Bool.true_and]
          have hlen : ((mv.take d.toNat).length : Int) = (d.toNat : Int) := by rw [List.length_take]; omega
          have := impl_undo_loop (mv.take d.toNat) (by rw [List.length_take]; omega) (fun r14 => k r14) (fun _ => k true) n d.toNat acc (by omega) (by rw [List.length_take]; omega) (accB_in ha) hl (fun m h => List.all_eq_true.1 hall m (List.mem_of_mem_take h))
          rw [List.take_take, Nat.min_self] at this
          rw [hlen, wrap64 (by omega) (by omega), this]
          cases undoB (mv.take d.toNat).reverse acc <;> rfl
        · rw [decide_eq_false hd]; rfl
    · rw [decide_eq_true (show (mv.length : Int) > 20 by omega), decide_eq_false h20]; rfl
theorem spec_GoodSaga_eq {R : Type} {n : Nat} {mv : List (Int × Int × Int)} {acc : List Int} (hl : acc.length ≤ 1048576) (hm : mv.length ≤ 1048576) (hn : 3000000 ≤ n) (d : Int) (u : Bool) (k : Bool → Option R) : spec_GoodSaga n acc mv d u k = k (goodSagaB acc mv d) := by
  unfold spec_GoodSaga goodSagaB
  rw [spec_l9Accounts_eq hl hn]
  cases ha : accB acc with
  | false => rfl
  | true =>
    simp only [Bool.not_true, cond_false, Bool.true_and]
    by_cases h20 : mv.length ≤ 20
    · rw [decide_eq_false (show ¬ (mv.length : Int) > 20 by omega), decide_eq_true h20]
      simp only [cond_false, Bool.true_and, spec_l1In_eq]
      by_cases hd : 0 ≤ d ∧ d ≤ (mv.length : Int)
      · rw [decide_eq_true hd]
        simp only [Bool.not_true, cond_false, Bool.true_and]
        rw [spec_allMv hl hm hn]
        cases hall : mv.all (mvB acc.length) with
        | false => rfl
        | true =>
          simp only [cond_true, Bool.true_and]
          have := spec_undo_loop mv (by omega) acc d u (fun r14 => k r14) (k true) n d.toNat acc (by omega) (by omega) (accB_in ha) hl (fun m h => List.all_eq_true.1 hall m h)
          rw [wrap64 (by omega) (by omega), show d - 1 = (d.toNat : Int) - 1 by omega, this]
          cases undoB (mv.take d.toNat).reverse acc <;> rfl
      · rw [decide_eq_false hd]; rfl
    · rw [decide_eq_true (show (mv.length : Int) > 20 by omega), decide_eq_false h20]; rfl
theorem laws_szSaga_eq {n : Nat} {acc : List Int} {mv : List (Int × Int × Int)} (ha : acc.length ≤ 9223372036854775807) (hm : mv.length ≤ 9223372036854775807) (d : Int) (u : Bool) :
    ∃ r, (∀ (R : Type) (k : Int → Option R), laws_szSaga n acc mv d u 1048576 k = k r) ∧ (0 ≤ r → acc.length ≤ 1048576 ∧ mv.length ≤ 1048576) := by
  by_cases h : (1048576 : Int) < acc.length
  · refine ⟨-1, fun R k => ?_, fun h => by omega⟩
    unfold laws_szSaga
    rw [laws_szIntS_eq n _ _ (by omega) (by omega) ha, if_pos h]; rfl
  · by_cases h2 : (1048576 : Int) - acc.length - mv.length < 0
    · refine ⟨-1, fun R k => ?_, fun h => by omega⟩
      unfold laws_szSaga
      rw [laws_szIntS_eq n _ _ (by omega) (by omega) ha, if_neg h, decide_eq_false (show ¬ (1048576 : Int) - acc.length < 0 by omega), cond_false]
      unfold laws_szMoveS
      rw [wrap64 (by omega) (by omega), decide_eq_true h2]; rfl
    · refine ⟨1048576 - acc.length - mv.length, fun R k => ?_, fun h => by omega⟩
      unfold laws_szSaga
      rw [laws_szIntS_eq n _ _ (by omega) (by omega) ha, if_neg h, decide_eq_false (show ¬ (1048576 : Int) - acc.length < 0 by omega), cond_false]
      unfold laws_szMoveS
      rw [wrap64 (by omega) (by omega), decide_eq_false h2, cond_false]
      dsimp only
      rw [decide_eq_false h2, cond_false]
theorem laws_toMoveS_loop {R : Type} (l : List (Int × Int × Int)) (hb : l.length ≤ 9223372036854775807) (ke : List (Int × Int × Int) → Option R) : ∀ (n j : Nat) (out : List (Int × Int × Int)), l.length - j < n → j ≤ l.length → out.length = l.length → out.take j = l.take j →
    laws_toMoveS_l3 n l (j : Int) out ke = ke l
  | 0, _, _, h, _, _, _ => by omega
  | n + 1, j, out, hn, hj, ho, ht => by
    unfold laws_toMoveS_l3
    by_cases h : j < l.length
    · rw [dlt h, dnn, getD_at _ _ h, wrapS h hb, Int.toNat_natCast, ho, dlt h]
      simp only [cond_true, laws_toMove]
      exact laws_toMoveS_loop l hb ke n (j + 1) _ (by omega) (by omega) (by simpa using ho) (set_take_at h ho ht)
    · rw [dge (by omega), cond_false]
      have h1 : l.take j = l := List.take_of_length_le (by omega)
      have h2 : out.take j = out := List.take_of_length_le (by omega)
      rw [← h1, ← ht, h2]
theorem laws_toMoveS_eq {R : Type} {n : Nat} {l : List (Int × Int × Int)} (hl : l.length ≤ 1048576) (hn : l.length < n) (k : List (Int × Int × Int) → Option R) : laws_toMoveS n l k = k l := by
  unfold laws_toMoveS
  rw [decide_eq_true (show (0 : Int) ≤ (l.length : Int) by omega), decide_eq_true (show (l.length : Int) ≤ (l.length : Int) by omega), decide_eq_true (show (l.length : Int) ≤ 1099511627776 by omega)]
  simp only [cond_true]
  exact laws_toMoveS_loop l (by omega) k n 0 _ (by omega) (by omega) (by simp) (by simp)
theorem laws_toSaga_eq {R : Type} {n : Nat} {acc : List Int} {mv : List (Int × Int × Int)} (ha : acc.length ≤ 1048576) (hm : mv.length ≤ 1048576) (hn : 3000000 ≤ n) (d : Int) (u : Bool) (k : Int → Bool → List Int → List (Int × Int × Int) → Option R) : laws_toSaga n acc mv d u k = k d u acc mv := by
  unfold laws_toSaga
  rw [laws_toIntS_eq ha (by omega), laws_toMoveS_eq hm (by omega)]
theorem laws_eqMoveS_loop {R : Type} (xs : List (Int × Int × Int)) (hb : xs.length ≤ 9223372036854775807) (kr : Bool → Option R) (ke : Option R) : ∀ (n j : Nat), xs.length - j < n → j ≤ xs.length → laws_eqMoveS_l4 n xs xs (j : Int) kr ke = ke
  | 0, _, h, _ => by omega
  | n + 1, j, hn, hj => by
    rw [laws_eqMoveS_l4]
    by_cases h : j < xs.length
    · rw [dlt h, dnn, getD_at _ _ h, wrapS h hb]
      simp only [cond_true, laws_eqMove, bne_self_eq_false, cond_false, Bool.not_true]
      exact laws_eqMoveS_loop xs hb kr ke n (j + 1) (by omega) (by omega)
    · rw [dge (by omega), cond_false]
theorem laws_eqMoveS_self {R : Type} {n : Nat} {xs : List (Int × Int × Int)} (hb : xs.length ≤ 9223372036854775807) (hn : xs.length < n) (k : Bool → Option R) : laws_eqMoveS n xs xs k = k true := by
  unfold laws_eqMoveS
  rw [bne_self_eq_false, cond_false]
  exact laws_eqMoveS_loop xs hb k (k true) n 0 (by omega) (by omega)
theorem laws_eqSaga_self {R : Type} {n : Nat} {acc : List Int} {mv : List (Int × Int × Int)} (ha : acc.length ≤ 1048576) (hm : mv.length ≤ 1048576) (hn : 3000000 ≤ n) (d : Int) (u : Bool) (k : Bool → Option R) : laws_eqSaga n acc mv d u acc mv d u k = k true := by
  unfold laws_eqSaga
  rw [laws_eqIntS_eq (by omega) (by omega), decide_eq_true rfl]
  simp only [Bool.not_true, cond_false]
  rw [laws_eqMoveS_self (by omega) (by omega)]
  simp
/-- Moves that are numbered through. -/
def marksM : Nat → Int → List (Int × Int × Int)
  | 0, _ => []
  | m + 1, k => (k, k + 1, k + 2) :: marksM m (k + 3)
theorem marksM_length : ∀ m k, (marksM m k).length = m
  | 0, _ => rfl
  | m + 1, k => by simp [marksM, marksM_length m]
theorem set_take_dropM {α : Type} {l : List α} {j : Nat} (h : j < l.length) (x : α) : (l.set j x).take (j + 1) = l.take j ++ [x] := by
  rw [List.take_set, List.take_succ_eq_append_getElem h, List.set_append_right _ _ (by simp; omega)]
  rw [show j - (l.take j).length = 0 by simp; omega]
  rfl
theorem getD_set3 {l : List (Int × Int × Int)} {j : Nat} (h : j < l.length) (x : Int × Int × Int) : (l.set j x).getD j (0, (0, 0)) = x := by
  rw [List.getD_eq_getElem?_getD, List.getElem?_set_self h]; rfl
theorem laws_markMoveS_loop {R : Type} (ke : Int → List (Int × Int × Int) → Option R) : ∀ (n j : Nat) (l : List (Int × Int × Int)) (q : Int), l.length - j < n → j ≤ l.length → 0 ≤ q → q + 3 * (l.length - j : Nat) ≤ 9223372036854775000 → l.length ≤ 9223372036854775000 →
    laws_markMoveS_l2 n q (j : Int) l ke = ke (q + 3 * (l.length - j : Nat)) (l.take j ++ marksM (l.length - j) q)
  | 0, _, _, _, h, _, _, _, _ => by omega
  | n + 1, j, l, q, hn, hj, h0, h1, h2 => by
    unfold laws_markMoveS_l2
    by_cases h : j < l.length
    · rw [wrapS h (by omega), wrap64 (x := q + 1) (by omega) (by omega), wrap64 (x := q + 1 + 1) (by omega) (by omega), wrap64 (x := q + 1 + 1 + 1) (by omega) (by omega), Int.toNat_natCast]
      simp only [List.length_set, dlt h, dnn, cond_true, List.set_set, getD_set3 h]
      rw [laws_markMoveS_loop ke n (j + 1) _ (q + 1 + 1 + 1) (by simp; omega) (by simp; omega) (by omega) (by simp; omega) (by simp; omega)]
      rw [List.length_set, set_take_dropM h, List.append_assoc, show l.length - j = (l.length - (j + 1)) + 1 by omega, marksM, show q + 1 + 1 + 1 = q + 3 by omega, show q + 1 + 1 = q + 2 by omega]
      congr 1
      omega
    · rw [dge (by omega), cond_false, show l.length - j = 0 by omega, List.take_of_length_le (by omega)]
      simp [marksM]
theorem laws_markMoveS_eq {R : Type} {n : Nat} {l : List (Int × Int × Int)} {q : Int} (hn : l.length < n) (h0 : 0 ≤ q) (h1 : q + 3 * l.length ≤ 9223372036854775000) (k : Int → List (Int × Int × Int) → Option R) : laws_markMoveS n q l k = k (q + 3 * l.length) (marksM l.length q) := by
  unfold laws_markMoveS
  have := laws_markMoveS_loop k n 0 l q (by omega) (by omega) h0 (by omega) (by omega)
  simp only [List.take_zero, List.nil_append, Nat.sub_zero] at this
  exact this
theorem laws_heldMoveS_loop {R : Type} (l : List (Int × Int × Int)) (kr ke : Int → Option R) : ∀ (n j : Nat) (q : Int), l.length - j < n → j ≤ l.length → 0 ≤ q → q + 3 * (l.length - j : Nat) ≤ 9223372036854775000 → l.length ≤ 9223372036854775000 → l.drop j = marksM (l.length - j) q →
    laws_heldMoveS_l2 n l q (j : Int) kr ke = ke (q + 3 * (l.length - j : Nat))
  | 0, _, _, h, _, _, _, _, _ => by omega
  | n + 1, j, q, hn, hj, h0, h1, h2, h3 => by
    unfold laws_heldMoveS_l2
    by_cases h : j < l.length
    · rw [show l.length - j = (l.length - (j + 1)) + 1 by omega, List.drop_eq_getElem_cons h, marksM] at h3
      injection h3 with h4 h5
      rw [dlt h, dnn, getD_at _ _ h, wrapS h (by omega), wrap64 (x := q + 1) (by omega) (by omega), wrap64 (x := q + 1 + 1) (by omega) (by omega), wrap64 (x := q + 1 + 1 + 1) (by omega) (by omega), h4, show q + 1 + 1 = q + 2 by omega]
      simp only [cond_true, cond_false, bne_self_eq_false]
      rw [show q + 2 + 1 = q + 3 by omega, laws_heldMoveS_loop l kr ke n (j + 1) (q + 3) (by omega) (by omega) (by omega) (by omega) h2 h5]
      congr 1
      omega
    · rw [dge (by omega), cond_false, show l.length - j = 0 by omega]
      simp
theorem laws_heldMoveS_eq {R : Type} {n m : Nat} {q : Int} (hn : m < n) (h0 : 0 ≤ q) (h1 : q + 3 * m ≤ 9223372036854775000) (k : Int → Option R) : laws_heldMoveS n (marksM m q) q k = k (q + 3 * m) := by
  unfold laws_heldMoveS
  have := laws_heldMoveS_loop (marksM m q) k k n 0 q (by rw [marksM_length]; omega) (by omega) h0 (by rw [marksM_length]; omega) (by rw [marksM_length]; omega) (by rw [marksM_length]; simp)
  rw [marksM_length] at this
  simp only [Nat.sub_zero] at this
  exact this
theorem laws_markSaga_eq {R : Type} {n : Nat} {acc : List Int} {mv : List (Int × Int × Int)} (ha : acc.length ≤ 1048576) (hm : mv.length ≤ 1048576) (hn : 3000000 ≤ n) (d : Int) (u : Bool) (k : Int → Int → Bool → List Int → List (Int × Int × Int) → Option R) :
    laws_markSaga n d u 1 acc mv k = k (1 + acc.length + 3 * mv.length) d u (marks acc.length 1) (marksM mv.length (1 + acc.length)) := by
  unfold laws_markSaga
  rw [laws_markIntS_eq (by omega) (by omega) (by omega), laws_markMoveS_eq (by omega) (by omega) (by omega)]
theorem laws_heldSaga_eq {R : Type} {n a m : Nat} (ha : a ≤ 1048576) (hm : m ≤ 1048576) (hn : 3000000 ≤ n) (d : Int) (u : Bool) (k : Int → Option R) :
    laws_heldSaga n (marks a 1) (marksM m (1 + a)) d u 1 k = k (1 + a + 3 * m) := by
  unfold laws_heldSaga
  rw [laws_heldIntS_eq (by omega) (by omega) (by omega), decide_eq_false (show ¬ (1 : Int) + a < 0 by omega), cond_false, laws_heldMoveS_eq (by omega) (by omega) (by omega), decide_eq_false (show ¬ (1 : Int) + a + 3 * m < 0 by omega), cond_false]
theorem fail_ex {n : Nat} {acc : List Int} {mv : List (Int × Int × Int)} (ha : acc.length ≤ 1048576) (hm : mv.length ≤ 1048576) (hn : 3000000 ≤ n) (d : Int) (u : Bool) : ∃ d' u' ok a' m', a'.length ≤ 1048576 ∧ m'.length ≤ 1048576 ∧
    (∀ (R : Type) (k : Int → Bool → Bool → List Int → List (Int × Int × Int) → Option R), spec_FailSaga n acc mv d u k = k d' u' ok a' m') ∧ ∀ (R : Type) (k : Int → Bool → Bool → List Int → List (Int × Int × Int) → Option R), impl_FailSaga n acc mv d u k = k d' u' ok a' m' := by
  have c1 := decide_eq_true (show ([] : List Int).length + acc.length ≤ LIM by simp [LIM]; omega)
  have c2 := decide_eq_true (show ([] : List (Int × Int × Int)).length + mv.length ≤ LIM by simp [LIM]; omega)
  have c3 := decide_eq_true (show 0 + acc.length ≤ LIM by simp [LIM]; omega)
  have c4 := decide_eq_true (show 0 + mv.length ≤ LIM by simp [LIM]; omega)
  have hS : ∀ (R : Type) (k : Bool → Option R), spec_GoodSaga n acc mv d u k = k (goodSagaB acc mv d) := fun R k => spec_GoodSaga_eq ha hm hn d u k
  have hI : ∀ (R : Type) (k : Bool → Option R), impl_GoodSaga n acc mv d u k = k (goodSagaB acc mv d) := fun R k => impl_GoodSaga_eq ha hm hn d u k
  unfold spec_FailSaga impl_FailSaga impl_changedSaga_impl_Saga_fail impl_cloneSaga slices_Clone_int slices_Clone_impl_Move impl_Saga_fail spec_l9Own
  simp only [hS, hI, c1, c2, c3, c4, cond_true, List.nil_append]
  cases goodSagaB acc mv d with
  | false => exact ⟨0, false, false, [], [], by simp, by simp, fun R k => rfl, fun R k => rfl⟩
  | true =>
    simp only [Bool.not_true, cond_false]
    cases u with
    | true => exact ⟨0, false, false, [], [], by simp, by simp, fun R k => rfl, fun R k => rfl⟩
    | false =>
      simp only [cond_false]
      cases d == (mv.length : Int) with
      | true => exact ⟨0, false, false, [], [], by simp, by simp, fun R k => rfl, fun R k => rfl⟩
      | false => exact ⟨d, true, true, acc, mv, ha, hm, fun R k => rfl, fun R k => rfl⟩
theorem plain : Plain := fun x h R k => by
  refine ⟨3000000, ?_⟩
  obtain ⟨acc, mv, d, u⟩ := x
  obtain ⟨r, h1, h2⟩ := laws_szSaga_eq (n := 3000000) (acc := acc) (mv := mv) h.1.1 h.2.1.1 d u
  unfold laws_FnExactFailSaga
  rw [h1]
  by_cases c : r < 0
  · rw [decide_eq_true c]; rfl
  · obtain ⟨a, b⟩ := h2 (by omega)
    rw [decide_eq_false c]
    obtain ⟨d', u', ok, a', m', l1, l2, e1, e2⟩ := fail_ex a b (Nat.le_refl 3000000) d u
    simp only [cond_false, laws_toSaga_eq a b (Nat.le_refl _), e1, e2, laws_eqSaga_self l1 l2 (Nat.le_refl _), laws_eqSaga_self a b (Nat.le_refl _), Bool.not_true, beq_self_eq_true, laws_markSaga_eq a b (Nat.le_refl _),
      decide_eq_false (show ¬ (1 : Int) + acc.length + 3 * mv.length < 0 by omega), laws_markSaga_eq l1 l2 (Nat.le_refl _), laws_heldSaga_eq l1 l2 (Nat.le_refl _), decide_eq_false (show ¬ (1 : Int) + a'.length + 3 * m'.length < 0 by omega), bne_self_eq_false]
end Go.Am.G
