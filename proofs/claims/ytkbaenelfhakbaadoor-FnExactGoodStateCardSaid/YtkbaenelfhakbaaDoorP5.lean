/- The plain law: what the functions compute answers as the law says, for all arguments. -/
import Derived.Test.YtkbaenelfhakbaaDoorF5
set_option linter.unusedVariables false
set_option linter.unusedSimpArgs false
namespace Go.Am.G
open Go Go.Am
theorem wrap64 {x : Int} (h1 : -9223372036854775808 ≤ x) (h2 : x ≤ 9223372036854775807) : IntKind.wrap .i64 x = x := by
  simp only [IntKind.wrap, IntKind.signed, IntKind.bits]
  simp
  omega
theorem getD_at {α : Type} (l : List α) (d : α) {j : Nat} (h : j < l.length) : l.getD (Int.toNat (j : Int)) d = l[j] := by
  rw [Int.toNat_natCast, List.getD_eq_getElem?_getD, List.getElem?_eq_getElem h]; rfl
theorem dlt {a b : Nat} (h : a < b) : decide ((a : Int) < (b : Int)) = true := decide_eq_true (by omega)
theorem dge {a b : Nat} (h : b ≤ a) : decide ((a : Int) < (b : Int)) = false := decide_eq_false (by omega)
theorem dnn (a : Nat) : decide (0 ≤ (a : Int)) = true := decide_eq_true (by omega)
theorem wrapS {j m : Nat} (h : j < m) (hm : m ≤ 9223372036854775807) : IntKind.wrap .i64 ((j : Int) + 1) = ((j + 1 : Nat) : Int) := by
  rw [wrap64 (by omega) (by omega)]; rfl
theorem spec_l1In_eq {R : Type} (n : Nat) (x a b : Int) (k : Bool → Option R) : spec_l1In n x a b k = k (decide (a ≤ x ∧ x ≤ b)) := by
  simp only [spec_l1In]
  by_cases h : x ≥ a
  · have : a ≤ x := h
    simp [this]
  · have : ¬ a ≤ x := h
    simp [this]
theorem impl_in_eq {R : Type} (n : Nat) (x a b : Int) (k : Bool → Option R) : impl_in n x a b k = k (decide (a ≤ x ∧ x ≤ b)) := by
  simp only [impl_in]
  by_cases h : x ≥ a
  · have : a ≤ x := h
    simp [this]
  · have : ¬ a ≤ x := h
    simp [this]
theorem bl_loop (b : ByteArray) : ∀ (m i : Nat) (r : List UInt8), b.size - i ≤ m → ByteArray.toList.loop b i r = r.reverse ++ (b.data.toList.drop i) := by
  intro m
  induction m with
  | zero =>
    intro i r h
    unfold ByteArray.toList.loop
    have hl : b.data.toList.length = b.size := rfl
    rw [if_neg (by omega), List.drop_eq_nil_iff.2 (by omega), List.append_nil]
  | succ m ih =>
    intro i r h
    unfold ByteArray.toList.loop
    have hl : b.data.toList.length = b.size := rfl
    by_cases c : i < b.size
    · rw [if_pos c, ih _ _ (by omega), List.reverse_cons, List.append_assoc, List.drop_eq_getElem_cons (show i < b.data.toList.length by omega)]
      have : b.get! i = b.data.toList[i] := by
        show b.data[i]! = _
        rw [getElem!_pos b.data i c]; rfl
      rw [this]; rfl
    · rw [if_neg c, List.drop_eq_nil_iff.2 (by omega), List.append_nil]
theorem bl_data (b : ByteArray) : ByteArray.toList b = b.data.toList := by
  unfold ByteArray.toList
  rw [bl_loop b b.size 0 [] (by omega)]; rfl
def okB (b : UInt8) : Bool := (decide (97 ≤ (b.toNat : Int)) && decide ((b.toNat : Int) ≤ 122)) || (decide (48 ≤ (b.toNat : Int)) && decide ((b.toNat : Int) ≤ 57))
def goodN (s : ByteArray) : Bool := s.data.toList.all okB && decide ((s.size : Int) ≤ 12)
theorem byte_at (s : ByteArray) {j : Nat} (h : j < s.data.toList.length) : s.data.getD (Int.toNat (j : Int)) 0 = s.data.toList[j] := by
  rw [Int.toNat_natCast]
  have h' : j < s.size := h
  simp [Array.getD, h']
theorem spec_l1Name_loop {R : Type} (s : ByteArray) (hl : s.size ≤ 9223372036854775807) (kr : Bool → Option R) (ke : ByteArray → Option R) : ∀ (n j : Nat), s.size - j < n → j ≤ s.size → spec_l1Name_l2 n s (j : Int) kr ke = bif (s.data.toList.drop j).all okB then ke s else kr false
  | 0, _, h, _ => by omega
  | n + 1, j, hn, hj => by
    have hsz : s.data.toList.length = s.size := rfl
    rw [spec_l1Name_l2]
    by_cases h : j < s.size
    · have h' : j < s.data.toList.length := by omega
      have go := spec_l1Name_loop s hl kr ke n (j + 1) (by omega) (by omega)
      rw [dlt h, dnn, byte_at s h', wrapS h hl, List.drop_eq_getElem_cons h', List.all_cons, okB]
      simp only [cond_true, ge_iff_le]
      cases decide (97 ≤ (s.data.toList[j].toNat : Int)) with
      | true =>
        cases decide ((s.data.toList[j].toNat : Int) ≤ 122) with
        | true => exact go
        | false =>
          cases decide (48 ≤ (s.data.toList[j].toNat : Int)) with
          | false => rfl
          | true =>
            cases decide ((s.data.toList[j].toNat : Int) ≤ 57) with
            | false => rfl
            | true => exact go
      | false =>
        cases decide (48 ≤ (s.data.toList[j].toNat : Int)) with
        | false => rfl
        | true =>
          cases decide ((s.data.toList[j].toNat : Int) ≤ 57) with
          | false => rfl
          | true => exact go
    · rw [dge (by omega), List.drop_eq_nil_iff.2 (by omega)]; rfl
theorem spec_l1Name_eq {R : Type} {n : Nat} {s : ByteArray} (hl : s.size ≤ 9223372036854775807) (hn : s.size < n) (k : Bool → Option R) : spec_l1Name n s k = k (goodN s) := by
  unfold spec_l1Name goodN
  have := spec_l1Name_loop s hl (fun r1 => k r1) (fun r2 => k (decide ((r2.size : Int) ≤ 12))) n 0 (by omega) (by omega)
  rw [show ((0 : Nat) : Int) = 0 from rfl, List.drop_zero] at this
  rw [this]
  cases s.data.toList.all okB <;> rfl
def signs : List UInt8 := [97, 98, 99, 100, 101, 102, 103, 104, 105, 106, 107, 108, 109, 110, 111, 112, 113, 114, 115, 116, 117, 118, 119, 120, 121, 122, 48, 49, 50, 51, 52, 53, 54, 55, 56, 57]
theorem signs_ok : ∀ b : UInt8, signs.contains b = okB b := by
  have h : ∀ n : Nat, n < 256 → signs.contains (UInt8.ofNat n) = okB (UInt8.ofNat n) := by decide +kernel
  intro b
  have := h b.toNat b.toNat_lt
  rw [UInt8.ofNat_toNat] at this
  exact this
theorem dropW_nil {p : UInt8 → Bool} : ∀ {l : List UInt8}, l.dropWhile p = [] ↔ l.all p = true
  | [] => by simp
  | a :: l => by
    rw [List.dropWhile_cons, List.all_cons]
    cases p a with
    | true => simp only [if_true, Bool.true_and]; exact dropW_nil
    | false => simp
theorem dropW_all {p : UInt8 → Bool} : ∀ {l : List UInt8}, (l.dropWhile p).all p = l.all p
  | [] => rfl
  | a :: l => by
    rw [List.dropWhile_cons, List.all_cons]
    cases h : p a with
    | true => simp only [if_true, Bool.true_and]; exact dropW_all
    | false => simp [h]
theorem trimF_nil (l cs : List UInt8) : (trimF l cs = []) ↔ l.all (cs.contains ·) = true := by
  unfold trimF
  rw [dropW_nil, List.all_reverse, dropW_all, List.all_reverse]
theorem impl_goodName_eq {R : Type} {n : Nat} (s : ByteArray) (k : Bool → Option R) : impl_goodName n s k = k (goodN s) := by
  unfold impl_goodName goodN strings_Trim
  by_cases h : (s.size : Int) ≤ 12
  · rw [decide_eq_true h, cond_true, decide_eq_true (show s.size ≤ 9223372036854775807 by omega)]
    simp only [cond_true, Bool.and_true]
    rw [decide_eq_true (show (ByteArray.mk #[97, 98, 99, 100, 101, 102, 103, 104, 105, 106, 107, 108, 109, 110, 111, 112, 113, 114, 115, 116, 117, 118, 119, 120, 121, 122, 48, 49, 50, 51, 52, 53, 54, 55, 56, 57]).size < 4294967281 by decide)]
    change (bif signs.all (fun b => decide (b.toNat < 128)) then k (ByteArray.toList ⟨(trimF s.data.toList signs).toArray⟩ == ByteArray.toList ⟨#[]⟩) else none) = _
    rw [show signs.all (fun b => decide (b.toNat < 128)) = true by decide, cond_true]
    rw [bl_data, bl_data]
    congr 1
    have e : (ByteArray.mk (trimF s.data.toList signs).toArray).data.toList = trimF s.data.toList signs := by simp
    rw [e]
    have e2 : s.data.toList.all okB = s.data.toList.all (signs.contains ·) := by
      congr 1; funext b; exact (signs_ok b).symm
    rw [e2]
    have := trimF_nil s.data.toList signs
    cases h1 : s.data.toList.all (signs.contains ·) with
    | true => rw [this.2 h1]; rfl
    | false =>
      cases h2 : trimF s.data.toList signs with
      | nil => rw [this.1 h2] at h1; cases h1
      | cons a l => rfl
  · rw [decide_eq_false h, Bool.and_false]; rfl
def eqS (a b : ByteArray) : Bool := ByteArray.toList a == ByteArray.toList b
theorem eqS_comm (a b : ByteArray) : eqS a b = eqS b a := Bool.beq_comm
def ltS (a b : ByteArray) : Bool := Op.bytesLess (ByteArray.toList a) (ByteArray.toList b)
theorem bytesLess_tot : ∀ a b : List UInt8, Op.bytesLess b a = !(Op.bytesLess a b || a == b)
  | [], [] => rfl
  | [], _ :: _ => rfl
  | _ :: _, [] => rfl
  | x :: a, y :: b => by
    have ih := bytesLess_tot a b
    show (decide (y < x) || (y == x && Op.bytesLess b a)) = !((decide (x < y) || (x == y && Op.bytesLess a b)) || (x :: a == y :: b))
    rw [show (x :: a == y :: b) = (x == y && a == b) from rfl]
    rcases Nat.lt_trichotomy x.toNat y.toNat with h | h | h
    · have h1 : x < y := h
      have h2 : ¬ y < x := fun h' => Nat.lt_asymm h h'
      have h3 : (y == x) = false := by
        rw [beq_eq_false_iff_ne]; intro e; rw [e] at h; exact Nat.lt_irrefl _ h
      rw [decide_eq_true h1, decide_eq_false h2, h3]; rfl
    · have e : x = y := UInt8.toNat_inj.1 h
      subst e
      have h1 : ¬ x < x := Nat.lt_irrefl _
      rw [decide_eq_false h1, beq_self_eq_true, ih]; simp
    · have h1 : y < x := h
      have h2 : ¬ x < y := fun h' => Nat.lt_asymm h h'
      have h3 : (x == y) = false := by
        rw [beq_eq_false_iff_ne]; intro e; rw [e] at h; exact Nat.lt_irrefl _ h
      rw [decide_eq_true h1, decide_eq_false h2, h3]; rfl
theorem ltS_tot (a b : ByteArray) : ltS b a = !(ltS a b || eqS a b) := bytesLess_tot _ _
def nthS (l : List ByteArray) (j : Nat) : ByteArray := l.getD j ByteArray.empty
theorem nthS_at (l : List ByteArray) {j : Nat} (h : j < l.length) : nthS l j = l[j] := by
  unfold nthS; rw [List.getD_eq_getElem?_getD, List.getElem?_eq_getElem h]; rfl
def disF (l : List ByteArray) : Nat → Nat → Bool
  | 0, _ => true
  | c + 1, j => !((l.take j).any fun o => eqS o (nthS l j)) && disF l c (j + 1)
def srtF (l : List ByteArray) : Nat → Nat → Bool
  | 0, _ => true
  | c + 1, j => (decide (j = 0) || !ltS (nthS l j) (nthS l (j - 1))) && srtF l c (j + 1)
def srtU (l : List ByteArray) : Nat → Bool
  | 0 => true
  | i + 1 => !ltS (nthS l (i + 1)) (nthS l i) && srtU l i
theorem srtU_add (l : List ByteArray) : ∀ (c j : Nat), srtU l (j + c) = (srtF l c (j + 1) && srtU l j)
  | 0, j => by simp [srtF]
  | c + 1, j => by
    have := srtU_add l c (j + 1)
    rw [show j + (c + 1) = j + 1 + c by omega, this, srtF, srtU, decide_eq_false (show ¬ j + 1 = 0 by omega), Bool.false_or, show j + 1 - 1 = j by omega]
    cases srtF l c (j + 1 + 1) <;> cases ltS (nthS l (j + 1)) (nthS l j) <;> cases srtU l j <;> rfl
theorem srtU_all (l : List ByteArray) (c : Nat) : srtU l c = srtF l (c + 1) 0 := by
  have := srtU_add l c 0
  rw [Nat.zero_add] at this
  rw [this, srtF]
  simp [srtU]
def namesF (l : List ByteArray) (r : Bool) : Bool := (l.all goodN && disF l l.length 0 && (!r || srtF l l.length 0)) && decide ((l.length : Int) ≤ 30)
structure StrsIn (l : List ByteArray) : Prop where
  len : l.length ≤ 1048576
  size : ∀ x ∈ l, x.size ≤ 1048576
theorem spec_names_in {R : Type} (l p : List ByteArray) (r : Bool) (i : Nat) (s : ByteArray) (a b : Int) (q0 : List ByteArray) (hi : i ≤ 1048576) (hp : p.length = i) (kr : Bool → Option R) (ke : List ByteArray → Bool → List ByteArray → Int → Int → Option R) : ∀ (n q : Nat), p.length - q < n → q ≤ p.length →
    spec_l12Names_l7 n l r (i : Int) s q0 a b p (p.length : Int) (q : Int) kr ke = bif ((p.drop q).any fun o => eqS o s) || (r && (decide (q < i) && ltS s (nthS p (i - 1)))) then kr false else ke l r q0 a b
  | 0, _, h, _ => by omega
  | n + 1, q, hn, hq => by
    rw [spec_l12Names_l7]
    by_cases h : q < p.length
    · have go := spec_names_in l p r i s a b q0 hi hp kr ke n (q + 1) (by omega) (by omega)
      rw [dlt h, dnn, getD_at _ _ h, wrapS h (by omega), List.drop_eq_getElem_cons h, List.any_cons, decide_eq_true (show q < i by omega), Bool.true_and]
      simp only [cond_true]
      rw [show (ByteArray.toList p[q] == ByteArray.toList s) = eqS p[q] s from rfl]
      cases he : eqS p[q] s with
      | true => rfl
      | false =>
        rw [cond_false, Bool.false_or]
        cases r with
        | false =>
          rw [cond_false, go]
          simp only [Bool.false_and, Bool.or_false]
        | true =>
          rw [cond_true, wrap64 (x := (i : Int) - 1) (by omega) (by omega)]
          by_cases hl : q = i - 1
          · rw [show ((q : Int) == (i : Int) - 1) = true by simp; omega, cond_true]
            rw [show (!(Op.bytesLess (ByteArray.toList p[q]) (ByteArray.toList s) || false)) = ltS s p[q] from by rw [ltS_tot p[q] s, he]; rfl]
            have e1 : nthS p (i - 1) = p[q] := by rw [← hl]; exact nthS_at p h
            rw [e1]
            cases hlt : ltS s p[q] with
            | true => rw [cond_true]; simp
            | false =>
              rw [cond_false, go, decide_eq_false (show ¬ q + 1 < i by omega)]
              simp
          · rw [show ((q : Int) == (i : Int) - 1) = false by simp; omega, cond_false, go, decide_eq_true (show q + 1 < i by omega)]
            simp
    · rw [dge (by omega), List.drop_eq_nil_iff.2 (by omega), decide_eq_false (show ¬ q < i by omega)]
      simp
theorem spec_names_loop {R : Type} {l : List ByteArray} (hl : StrsIn l) (r : Bool) (kr : Bool → Option R) (ke : List ByteArray → Option R) : ∀ (c n j : Nat), c + 1048600 < n → j + c = l.length → spec_l12Names_l2 n l r l (l.length : Int) (j : Int) kr ke = bif (((l.drop j).all goodN && disF l c j) && (!r || srtF l c j)) then ke l else kr false
  | c, 0, _, h, _ => by omega
  | 0, n + 1, j, hn, hj => by
    have e : l.drop j = [] := List.drop_eq_nil_iff.2 (by omega)
    rw [spec_l12Names_l2, dge (by omega), e]
    cases r <;> rfl
  | c + 1, n + 1, j, hn, hj => by
    have h : j < l.length := by omega
    have hlen := hl.len
    have hsz := hl.size _ (List.getElem_mem h)
    have go := spec_names_loop hl r kr ke c n (j + 1) (by omega) (by omega)
    have hpl : (l.take j).length = j := by simp; omega
    have hin := spec_names_in l (l.take j) r j l[j] (l.length : Int) (j : Int) l (by omega) hpl (fun r2 => kr r2) (fun r3 r4 r5 r6 r7 => spec_l12Names_l2 n r3 r4 r5 r6 (IntKind.wrap .i64 (r7 + 1)) kr ke) n 0 (by omega) (by omega)
    rw [show ((0 : Nat) : Int) = 0 from rfl, List.drop_zero] at hin
    have e5 : ((l.drop 0).take (Int.toNat (j : Int) - 0)) = l.take j := by rw [List.drop_zero, Int.toNat_natCast, Nat.sub_zero]
    rw [spec_l12Names_l2, dlt h, dnn, getD_at _ _ h, decide_eq_true (show (j : Int) ≤ (l.length : Int) by omega), e5, spec_l1Name_eq (by omega) (by omega)]
    simp only [cond_true]
    rw [hin, wrapS h (by omega), go, List.drop_eq_getElem_cons h, List.all_cons, disF, srtF, nthS_at l h]
    have e6 : 0 < j → nthS (l.take j) (j - 1) = nthS l (j - 1) := fun h0 => by
      rw [nthS_at _ (show j - 1 < (l.take j).length by omega), nthS_at _ (show j - 1 < l.length by omega), List.getElem_take]
    by_cases h0 : 0 < j
    · rw [e6 h0, decide_eq_true h0, decide_eq_false (show ¬ j = 0 by omega)]
      cases goodN l[j] <;> cases (l.take j).any (fun o => eqS o l[j]) <;> cases r <;> cases ltS l[j] (nthS l (j - 1)) <;> cases (l.drop (j + 1)).all goodN <;> cases disF l c (j + 1) <;> cases srtF l c (j + 1) <;> rfl
    · rw [decide_eq_false h0, decide_eq_true (show j = 0 by omega)]
      cases goodN l[j] <;> cases (l.take j).any (fun o => eqS o l[j]) <;> cases r <;> cases (l.drop (j + 1)).all goodN <;> cases disF l c (j + 1) <;> cases srtF l c (j + 1) <;> rfl
theorem spec_names_eq {R : Type} {n : Nat} {l : List ByteArray} (hl : StrsIn l) (r : Bool) (hn : 3000000 ≤ n) (k : Bool → Option R) : spec_l12Names n l r k = k (namesF l r) := by
  unfold spec_l12Names namesF
  have hlen := hl.len
  have := spec_names_loop hl r (fun r8 => k r8) (fun r9 => k (decide ((r9.length : Int) ≤ 30))) l.length n 0 (by omega) (by omega)
  rw [show ((0 : Nat) : Int) = 0 from rfl, List.drop_zero] at this
  rw [this]
  cases (l.all goodN && disF l l.length 0 && (!r || srtF l l.length 0)) <;> rfl
theorem impl_namesC {R : Type} (l : List ByteArray) (hl : l.length ≤ 1048576) (k : Bool → Option R) : ∀ (n j : Nat), l.length - j < n → j ≤ l.length → slices_IndexFunc_string_impl_namesOk_c1_l2 n l (l.length : Int) (j : Int) (fun r => k (decide (r ≥ 0))) (k (decide ((-1 : Int) ≥ 0))) = k (!(l.drop j).all goodN)
  | 0, _, h, _ => by omega
  | n + 1, j, hn, hj => by
    rw [slices_IndexFunc_string_impl_namesOk_c1_l2]
    by_cases h : j < l.length
    · rw [dlt h, dnn, getD_at _ _ h, wrapS h (by omega), List.drop_eq_getElem_cons h, List.all_cons]
      simp only [cond_true, impl_namesOk_c1, impl_goodName_eq]
      cases goodN l[j] with
      | true => exact impl_namesC l hl k n (j + 1) (by omega) (by omega)
      | false => simp only [Bool.not_false, cond_true, decide_eq_true (show (j : Int) ≥ 0 by omega), Bool.false_and]
    · rw [dge (by omega), List.drop_eq_nil_iff.2 (by omega)]; rfl
theorem impl_namesOk_eq {R : Type} {n : Nat} {l : List ByteArray} (hl : StrsIn l) (hn : 3000000 ≤ n) (k : Bool → Option R) : impl_namesOk n l 30 k = k (decide ((l.length : Int) ≤ 30) && l.all goodN) := by
  unfold impl_namesOk slices_ContainsFunc_string_impl_namesOk_c1 slices_IndexFunc_string_impl_namesOk_c1
  have hlen := hl.len
  have := impl_namesC l hl.len (fun r1 => k (!r1)) n 0 (by omega) (by omega)
  rw [show ((0 : Nat) : Int) = 0 from rfl, List.drop_zero] at this
  rw [this, Bool.not_not]
  cases decide ((l.length : Int) ≤ 30) <;> rfl
theorem impl_indexS {R : Type} (l : List ByteArray) (s : ByteArray) (hl : l.length ≤ 1048576) (k : Bool → Option R) : ∀ (n j : Nat), l.length - j < n → j ≤ l.length → slices_Index_string_l2 n l s (l.length : Int) (j : Int) (fun r => k (decide (r ≥ 0))) (k (decide ((-1 : Int) ≥ 0))) = k ((l.drop j).any fun o => eqS o s)
  | 0, _, h, _ => by omega
  | n + 1, j, hn, hj => by
    rw [slices_Index_string_l2]
    by_cases h : j < l.length
    · rw [dlt h, dnn, getD_at _ _ h, wrapS h (by omega), List.drop_eq_getElem_cons h, List.any_cons, show (ByteArray.toList s == ByteArray.toList l[j]) = eqS s l[j] from rfl, eqS_comm s]
      simp only [cond_true]
      cases eqS l[j] s with
      | false => exact impl_indexS l s hl k n (j + 1) (by omega) (by omega)
      | true => simp only [cond_true, decide_eq_true (show (j : Int) ≥ 0 by omega), Bool.true_or]
    · rw [dge (by omega), List.drop_eq_nil_iff.2 (by omega)]; rfl
theorem impl_containsS {R : Type} {n : Nat} {l : List ByteArray} (s : ByteArray) (hl : l.length ≤ 1048576) (hn : l.length < n) (k : Bool → Option R) : slices_Contains_string n l s k = k (l.any fun o => eqS o s) := by
  unfold slices_Contains_string slices_Index_string
  have := impl_indexS l s hl k n 0 (by omega) (by omega)
  rw [show ((0 : Nat) : Int) = 0 from rfl, List.drop_zero] at this
  exact this
theorem impl_distinct_loop {R : Type} (l : List ByteArray) (hl : l.length ≤ 1048576) (kr : Bool → Option R) (ke : Option R) : ∀ (c n j : Nat), c + 1048600 < n → j + c = l.length → impl_distinct_l2 n l l (l.length : Int) (j : Int) kr ke = bif disF l c j then ke else kr false
  | c, 0, _, h, _ => by omega
  | 0, n + 1, j, hn, hj => by rw [impl_distinct_l2, dge (by omega)]; rfl
  | c + 1, n + 1, j, hn, hj => by
    have h : j < l.length := by omega
    have e5 : ((l.drop 0).take (Int.toNat (j : Int) - 0)) = l.take j := by rw [List.drop_zero, Int.toNat_natCast, Nat.sub_zero]
    rw [impl_distinct_l2, dlt h, dnn, getD_at _ _ h, wrapS h (by omega), decide_eq_true (show (j : Int) ≤ (l.length : Int) by omega), e5, disF, nthS_at l h]
    simp only [cond_true]
    rw [impl_containsS _ (by simp; omega) (by simp; omega)]
    cases (l.take j).any (fun o => eqS o l[j]) with
    | true => rfl
    | false => exact impl_distinct_loop l hl kr ke c n (j + 1) (by omega) (by omega)
theorem impl_distinct_eq {R : Type} {n : Nat} {l : List ByteArray} (hl : StrsIn l) (hn : 3000000 ≤ n) (k : Bool → Option R) : impl_distinct n l k = k (disF l l.length 0) := by
  unfold impl_distinct
  have hlen := hl.len
  have := impl_distinct_loop l hl.len (fun r2 => k r2) (k true) l.length n 0 (by omega) (by omega)
  rw [show ((0 : Nat) : Int) = 0 from rfl] at this
  rw [this]
  cases disF l l.length 0 <;> rfl
theorem cmp_Less_eq {R : Type} (n : Nat) (a b : ByteArray) (k : Bool → Option R) : cmp_Less_string n a b k = k (ltS a b) := by
  unfold cmp_Less_string cmp_isNaN_string
  simp only [beq_self_eq_true, Bool.not_true, cond_false]
  rfl
theorem impl_sorted_loop {R : Type} (l : List ByteArray) (hl : l.length ≤ 1048576) (kr : Bool → Option R) (ke : Option R) : ∀ (i n : Nat), i < n → i < l.length → slices_IsSorted_string_l2 n l (i : Int) kr ke = bif srtU l i then ke else kr false
  | i, 0, h, _ => by omega
  | 0, n + 1, hn, hi => by rw [slices_IsSorted_string_l2]; rfl
  | i + 1, n + 1, hn, hi => by
    have hi' : i < l.length := by omega
    have e : ((i + 1 : Nat) : Int) - 1 = (i : Int) := by omega
    rw [slices_IsSorted_string_l2, decide_eq_true (show ((i + 1 : Nat) : Int) > 0 by omega), dnn, dlt hi, wrap64 (x := ((i + 1 : Nat) : Int) - 1) (by omega) (by omega), e, dnn, dlt hi', getD_at _ _ hi, getD_at _ _ hi', cmp_Less_eq, srtU, nthS_at l hi, nthS_at l hi']
    simp only [cond_true]
    cases ltS l[i + 1] l[i] with
    | true => rfl
    | false => exact impl_sorted_loop l hl kr ke i n (by omega) hi'
theorem impl_sorted_eq {R : Type} {n : Nat} {l : List ByteArray} (hl : StrsIn l) (hn : 3000000 ≤ n) (k : Bool → Option R) : slices_IsSorted_string n l k = k (srtF l l.length 0) := by
  unfold slices_IsSorted_string
  have hlen := hl.len
  cases hc : l.length with
  | zero =>
    cases n with
    | zero => omega
    | succ n => rfl
  | succ c =>
    rw [show ((c + 1 : Nat) : Int) - 1 = (c : Int) by omega, wrap64 (x := (c : Int)) (by omega) (by omega), impl_sorted_loop l hl.len (fun r2 => k r2) (k true) c n (by omega) (by omega), srtU_all]
    cases srtF l (c + 1) 0 <;> rfl
structure StateIn (s t : List ByteArray) : Prop where
  s : StrsIn s
  t : StrsIn t
def goodSt (st nx : Int) (ca : Bool) (dn : Int) (sg tm : List ByteArray) : Bool :=
  (decide (1 ≤ nx ∧ nx ≤ 1001) && decide (0 ≤ dn ∧ dn ≤ 1000) && decide (0 ≤ st ∧ st ≤ 2) && namesF sg false && namesF tm true) && (if st = 0 then (nx == 1) && (!ca && ((dn == 0) && (((sg.length : Int) == 0) && ((tm.length : Int) == 0)))) else decide (nx > 1))
theorem spec_GoodState_eq {R : Type} {n : Nat} {sg tm : List ByteArray} (h : StateIn sg tm) (st nx : Int) (ca : Bool) (dn : Int) (hn : 3000000 ≤ n) (k : Bool → Option R) : spec_GoodState n st nx ca dn sg tm k = k (goodSt st nx ca dn sg tm) := by
  unfold spec_GoodState goodSt
  simp only [spec_l1In_eq, spec_names_eq h.s false hn, spec_names_eq h.t true hn]
  cases decide (1 ≤ nx ∧ nx ≤ 1001) with
  | false => rfl
  | true =>
  cases decide (0 ≤ dn ∧ dn ≤ 1000) with
  | false => rfl
  | true =>
  cases namesF sg false with
  | false => simp
  | true =>
  cases namesF tm true with
  | false => simp
  | true =>
  cases decide (0 ≤ st ∧ st ≤ 2) with
  | false => rfl
  | true =>
  by_cases h0 : st = 0
  · rw [if_pos h0, show (st == 0) = true by simp [h0]]
    simp only [Bool.not_true, cond_false, cond_true, Bool.true_and]
    cases (nx == 1) <;> cases ca <;> cases (dn == 0) <;> cases ((sg.length : Int) == 0) <;> rfl
  · rw [if_neg h0, show (st == 0) = false by simp [h0]]
    simp only [Bool.not_true, cond_false, Bool.true_and]
theorem impl_GoodState_eq {R : Type} {n : Nat} {sg tm : List ByteArray} (h : StateIn sg tm) (st nx : Int) (ca : Bool) (dn : Int) (hn : 3000000 ≤ n) (k : Bool → Option R) : impl_GoodState n st nx ca dn sg tm k = k (goodSt st nx ca dn sg tm) := by
  unfold impl_GoodState goodSt namesF
  simp only [impl_in_eq, impl_namesOk_eq h.s hn, impl_namesOk_eq h.t hn, impl_distinct_eq h.s hn, impl_distinct_eq h.t hn, impl_sorted_eq h.t hn]
  cases decide (1 ≤ nx ∧ nx ≤ 1001) with
  | false => rfl
  | true =>
  cases decide (0 ≤ dn ∧ dn ≤ 1000) with
  | false => rfl
  | true =>
  cases decide (0 ≤ st ∧ st ≤ 2) with
  | false => rfl
  | true =>
  cases decide ((sg.length : Int) ≤ 30) with
  | false => simp
  | true =>
  cases sg.all goodN with
  | false => simp
  | true =>
  cases disF sg sg.length 0 with
  | false => simp
  | true =>
  cases decide ((tm.length : Int) ≤ 30) with
  | false => simp
  | true =>
  cases tm.all goodN with
  | false => simp
  | true =>
  cases srtF tm tm.length 0 with
  | false => simp
  | true =>
  cases disF tm tm.length 0 with
  | false => simp
  | true =>
  by_cases h0 : st = 0
  · rw [if_pos h0, show (st != 0) = false by simp [h0]]
    simp only [Bool.not_true, cond_false, cond_true, Bool.true_and, Bool.and_self, Bool.not_false, Bool.true_or, Bool.or_true]
    cases (nx == 1) <;> cases ca <;> cases (dn == 0) <;> cases ((sg.length : Int) == 0) <;> rfl
  · rw [if_neg h0, show (st != 0) = true by simpa using h0]
    simp only [Bool.not_true, cond_false, cond_true, Bool.true_and, Bool.and_self, Bool.not_false, Bool.true_or, Bool.or_true]
theorem laws_szS_loop {R : Type} (l : List ByteArray) (hl : l.length ≤ 1048576) (hs : ∀ x ∈ l, x.size ≤ 9223372036854775807) (kr ke : Int → Option R) : ∀ (c n j : Nat) (q : Int), c < n → j + c = l.length → 0 ≤ q → q ≤ 1048576 →
    (laws_szStringS_l5 n l q (j : Int) kr ke = kr (-1)) ∨ ((∀ x ∈ l.drop j, x.size ≤ 1048576) ∧ ∃ q', 0 ≤ q' ∧ q' ≤ 1048576 ∧ laws_szStringS_l5 n l q (j : Int) kr ke = ke q')
  | c, 0, _, _, h, _, _, _ => by omega
  | 0, n + 1, j, q, hn, hj, q0, q1 => .inr ⟨by rw [List.drop_eq_nil_iff.2 (by omega)]; simp, q, q0, q1, by rw [laws_szStringS_l5, dge (by omega)]; rfl⟩
  | c + 1, n + 1, j, q, hn, hj, q0, q1 => by
    have h : j < l.length := by omega
    have h1 := hs _ (List.getElem_mem h)
    rw [laws_szStringS_l5, dlt h, dnn, getD_at _ _ h, wrapS h (by omega), wrap64 (x := q - (l[j].size : Int)) (by omega) (by omega)]
    simp only [cond_true]
    by_cases h2 : q - (l[j].size : Int) < 0
    · rw [decide_eq_true h2]; exact .inl rfl
    · rw [decide_eq_false h2, cond_false]
      rcases laws_szS_loop l hl hs kr ke c n (j + 1) (q - (l[j].size : Int)) (by omega) (by omega) (by omega) (by omega) with h3 | ⟨h3, q', a, b, e⟩
      · exact .inl h3
      · refine .inr ⟨fun x hx => ?_, q', a, b, e⟩
        rw [List.drop_eq_getElem_cons h] at hx
        rcases List.mem_cons.1 hx with rfl | hx
        · omega
        · exact h3 x hx
theorem laws_szS_eq {R : Type} {n : Nat} {l : List ByteArray} (hl : l.length ≤ 9223372036854775807) (hs : ∀ x ∈ l, x.size ≤ 9223372036854775807) {q : Int} (q0 : 0 ≤ q) (q1 : q ≤ 1048576) (hn : 3000000 ≤ n) (k : Int → Option R) :
    laws_szStringS n l q k = k (-1) ∨ (StrsIn l ∧ ∃ q', 0 ≤ q' ∧ q' ≤ 1048576 ∧ laws_szStringS n l q k = k q') := by
  unfold laws_szStringS
  rw [wrap64 (x := q - (l.length : Int)) (by omega) (by omega)]
  by_cases h : q - (l.length : Int) < 0
  · rw [decide_eq_true h]; exact .inl rfl
  · rw [decide_eq_false h, cond_false]
    rcases laws_szS_loop l (by omega) hs (fun r1 => k r1) (fun r2 => k r2) l.length n 0 (q - (l.length : Int)) (by omega) (by omega) (by omega) (by omega) with h3 | ⟨h3, q', a, b, e⟩
    · exact .inl h3
    · rw [List.drop_zero] at h3
      exact .inr ⟨⟨by omega, h3⟩, q', a, b, e⟩
theorem laws_toS_loop {R : Type} (l : List ByteArray) (hb : l.length ≤ 9223372036854775807) (ke : List ByteArray → Option R) : ∀ (n j : Nat) (out : List ByteArray), l.length - j < n → j ≤ l.length → out.length = l.length → out.take j = l.take j →
    laws_toStringS_l3 n l (j : Int) out ke = ke l
  | 0, _, _, h, _, _, _ => by omega
  | n + 1, j, out, hn, hj, ho, ht => by
    unfold laws_toStringS_l3
    by_cases h : j < l.length
    · rw [dlt h, dnn, getD_at _ _ h, wrapS h hb, Int.toNat_natCast, ho, dlt h]
      simp only [cond_true]
      refine laws_toS_loop l hb ke n (j + 1) _ (by omega) (by omega) (by simpa using ho) ?_
      rw [List.take_set, List.take_succ_eq_append_getElem (by omega), List.take_succ_eq_append_getElem h, ht, List.set_append_right _ _ (by simp; omega)]
      rw [show j - (l.take j).length = 0 by simp; omega]
      rfl
    · rw [dge (by omega), cond_false]
      have h1 : l.take j = l := List.take_of_length_le (by omega)
      rw [List.take_of_length_le (by omega), h1] at ht
      rw [ht]
theorem laws_toS_eq {R : Type} {n : Nat} {l : List ByteArray} (hl : l.length ≤ 1048576) (hn : l.length < n) (k : List ByteArray → Option R) : laws_toStringS n l k = k l := by
  unfold laws_toStringS
  rw [decide_eq_true (by omega), decide_eq_true (by omega), decide_eq_true (by omega)]
  simp only [cond_true, Int.toNat_natCast]
  exact laws_toS_loop l (by omega) k n 0 _ (by omega) (by omega) (by simp) (by simp)
theorem laws_eqS_loop {R : Type} (l : List ByteArray) (hb : l.length ≤ 9223372036854775807) (kr : Bool → Option R) (ke : Option R) : ∀ (c n j : Nat), c < n → j + c = l.length → laws_eqStringS_l4 n l l (j : Int) kr ke = ke
  | c, 0, _, h, _ => by omega
  | 0, n + 1, j, hn, hj => by rw [laws_eqStringS_l4, dge (by omega)]; rfl
  | c + 1, n + 1, j, hn, hj => by
    have h : j < l.length := by omega
    rw [laws_eqStringS_l4, dlt h, dnn, wrapS h hb, beq_self_eq_true]
    simp only [cond_true, Bool.not_true, cond_false]
    exact laws_eqS_loop l hb kr ke c n (j + 1) (by omega) (by omega)
theorem laws_eqS_eq {R : Type} {n : Nat} {l : List ByteArray} (hb : l.length ≤ 9223372036854775807) (hn : l.length < n) (k : Bool → Option R) : laws_eqStringS n l l k = k true := by
  unfold laws_eqStringS
  rw [bne_self_eq_false, cond_false]
  exact laws_eqS_loop l hb _ _ l.length n 0 hn (by omega)
theorem key {R : Type} {n : Nat} (hn : 3000000 ≤ n) (st nx : Int) (ca : Bool) (dn : Int) (sg tm : List ByteArray) (h1 : sg.length ≤ 9223372036854775807) (h2 : ∀ x ∈ sg, x.size ≤ 9223372036854775807) (h3 : tm.length ≤ 9223372036854775807) (h4 : ∀ x ∈ tm, x.size ≤ 9223372036854775807) (k : Bool → Option R) : laws_FnExactGoodState n st nx ca dn sg tm k = k true := by
  unfold laws_FnExactGoodState laws_szState
  rcases laws_szS_eq (R := R) h1 h2 (q := 1048576) (by omega) (by omega) hn (fun r1 => (bif (decide (r1 < 0)) then (fun r1 => (bif (decide (r1 < 0)) then k true else (laws_toState n st nx ca dn sg tm fun r2 r3 r4 r5 r6 r7 => (spec_GoodState n r2 r3 r4 r5 r6 r7 fun r8 => (laws_toState n st nx ca dn sg tm fun r9 r10 r11 r12 r13 r14 => (impl_GoodState n r9 r10 r11 r12 r13 r14 fun r15 => (bif (!(r15 == r8)) then k false else (laws_toState n st nx ca dn sg tm fun r16 r17 r18 r19 r20 r21 => (laws_eqState n r9 r10 r11 r12 r13 r14 r16 r17 r18 r19 r20 r21 fun r22 => (bif (!r22) then k false else k true)))))))))) (-1) else (laws_szStringS n tm r1 fun r2 => (bif (decide (r2 < 0)) then (fun r1 => (bif (decide (r1 < 0)) then k true else (laws_toState n st nx ca dn sg tm fun r2 r3 r4 r5 r6 r7 => (spec_GoodState n r2 r3 r4 r5 r6 r7 fun r8 => (laws_toState n st nx ca dn sg tm fun r9 r10 r11 r12 r13 r14 => (impl_GoodState n r9 r10 r11 r12 r13 r14 fun r15 => (bif (!(r15 == r8)) then k false else (laws_toState n st nx ca dn sg tm fun r16 r17 r18 r19 r20 r21 => (laws_eqState n r9 r10 r11 r12 r13 r14 r16 r17 r18 r19 r20 r21 fun r22 => (bif (!r22) then k false else k true)))))))))) (-1) else (fun r1 => (bif (decide (r1 < 0)) then k true else (laws_toState n st nx ca dn sg tm fun r2 r3 r4 r5 r6 r7 => (spec_GoodState n r2 r3 r4 r5 r6 r7 fun r8 => (laws_toState n st nx ca dn sg tm fun r9 r10 r11 r12 r13 r14 => (impl_GoodState n r9 r10 r11 r12 r13 r14 fun r15 => (bif (!(r15 == r8)) then k false else (laws_toState n st nx ca dn sg tm fun r16 r17 r18 r19 r20 r21 => (laws_eqState n r9 r10 r11 r12 r13 r14 r16 r17 r18 r19 r20 r21 fun r22 => (bif (!r22) then k false else k true)))))))))) r2)))) with e | ⟨hs, q, q0, q1, e⟩
  · exact e.trans rfl
  · refine e.trans ?_
    show (bif (decide (q < 0)) then _ else _) = _
    rw [decide_eq_false (show ¬ q < 0 by omega), cond_false]
    rcases laws_szS_eq (R := R) h3 h4 q0 q1 hn (fun r2 => (bif (decide (r2 < 0)) then (fun r1 => (bif (decide (r1 < 0)) then k true else (laws_toState n st nx ca dn sg tm fun r2 r3 r4 r5 r6 r7 => (spec_GoodState n r2 r3 r4 r5 r6 r7 fun r8 => (laws_toState n st nx ca dn sg tm fun r9 r10 r11 r12 r13 r14 => (impl_GoodState n r9 r10 r11 r12 r13 r14 fun r15 => (bif (!(r15 == r8)) then k false else (laws_toState n st nx ca dn sg tm fun r16 r17 r18 r19 r20 r21 => (laws_eqState n r9 r10 r11 r12 r13 r14 r16 r17 r18 r19 r20 r21 fun r22 => (bif (!r22) then k false else k true)))))))))) (-1) else (fun r1 => (bif (decide (r1 < 0)) then k true else (laws_toState n st nx ca dn sg tm fun r2 r3 r4 r5 r6 r7 => (spec_GoodState n r2 r3 r4 r5 r6 r7 fun r8 => (laws_toState n st nx ca dn sg tm fun r9 r10 r11 r12 r13 r14 => (impl_GoodState n r9 r10 r11 r12 r13 r14 fun r15 => (bif (!(r15 == r8)) then k false else (laws_toState n st nx ca dn sg tm fun r16 r17 r18 r19 r20 r21 => (laws_eqState n r9 r10 r11 r12 r13 r14 r16 r17 r18 r19 r20 r21 fun r22 => (bif (!r22) then k false else k true)))))))))) r2)) with e2 | ⟨ht, q', q2, q3, e2⟩
    · exact e2.trans rfl
    · refine e2.trans ?_
      show (bif (decide (q' < 0)) then _ else (bif (decide (q' < 0)) then _ else _)) = _
      rw [decide_eq_false (show ¬ q' < 0 by omega), cond_false, cond_false]
      have hl1 := hs.len
      have hl2 := ht.len
      simp only [laws_toState, laws_toS_eq hs.len (show sg.length < n by omega), laws_toS_eq ht.len (show tm.length < n by omega), spec_GoodState_eq ⟨hs, ht⟩ st nx ca dn hn, impl_GoodState_eq ⟨hs, ht⟩ st nx ca dn hn, laws_eqState, beq_self_eq_true, bne_self_eq_false, Bool.not_true, cond_false, laws_eqS_eq (show sg.length ≤ 9223372036854775807 by omega) (show sg.length < n by omega), laws_eqS_eq (show tm.length ≤ 9223372036854775807 by omega) (show tm.length < n by omega)]
theorem plain : Plain := fun d0 h R k => ⟨_, key (Nat.le_refl _) d0.1 d0.2.1 d0.2.2.1 d0.2.2.2.1 d0.2.2.2.2.1 d0.2.2.2.2.2 h.2.2.2.2.1.1 h.2.2.2.2.1.2 h.2.2.2.2.2.1 h.2.2.2.2.2.2 k⟩
end Go.Am.G
