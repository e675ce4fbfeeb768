/- The plain law: what the functions compute answers as the law says, for all arguments. -/
import Derived.Test.YtkbaenelfhakbaaDoorF8
set_option linter.unusedVariables false
set_option linter.unusedSimpArgs false
namespace Go.Am.G
open Go Go.Am
theorem wrap64 {x : Int} (h1 : -9223372036854775808 ≤ x) (h2 : x ≤ 9223372036854775807) : IntKind.wrap .i64 x = x := by
  simp only [IntKind.wrap, IntKind.signed, IntKind.bits]
  simp
  omega
theorem getD_at {α : Type} (l : List α) (d : α) {j : Nat} (h : j < l.length) : l.getD (Int.toNat (j : Int)) d = l[j] := by
  rw [Int.toNat_natCast, List.getD_eq_getElem?_getD, List.getElem?_eq_getElem h]; rfl
theorem dlt {a b : Nat} (h : a < b) : decide ((a : Int) < (b : Int)) = true := decide_eq_true (by omega)
theorem dge {a b : Nat} (h : b ≤ a) : decide ((a : Int) < (b : Int)) = false := decide_eq_false (by omega)
theorem dnn (a : Nat) : decide (0 ≤ (a : Int)) = true := decide_eq_true (by omega)
theorem wrapS {j m : Nat} (h : j < m) (hm : m ≤ 9223372036854775807) : IntKind.wrap .i64 ((j : Int) + 1) = ((j + 1 : Nat) : Int) := by
  rw [wrap64 (by omega) (by omega)]; rfl
theorem spec_l1In_eq {R : Type} (n : Nat) (x a b : Int) (k : Bool → Option R) : spec_l1In n x a b k = k (decide (a ≤ x ∧ x ≤ b)) := by
  simp only [spec_l1In]
  by_cases h : x ≥ a
  · have : a ≤ x := h
    simp [this]
  · have : ¬ a ≤ x := h
    simp [this]
theorem impl_in_eq {R : Type} (n : Nat) (x a b : Int) (k : Bool → Option R) : impl_in n x a b k = k (decide (a ≤ x ∧ x ≤ b)) := by
  simp only [impl_in]
  by_cases h : x ≥ a
  · have : a ≤ x := h
    simp [this]
  · have : ¬ a ≤ x := h
    simp [this]
theorem bl_loop (b : ByteArray) : ∀ (m i : Nat) (r : List UInt8), b.size - i ≤ m → ByteArray.toList.loop b i r = r.reverse ++ (b.data.toList.drop i) := by
  intro m
  induction m with
  | zero =>
    intro i r h
    unfold ByteArray.toList.loop
    have hl : b.data.toList.length = b.size := rfl
    rw [if_neg (by omega), List.drop_eq_nil_iff.2 (by omega), List.append_nil]
  | succ m ih =>
    intro i r h
    unfold ByteArray.toList.loop
    have hl : b.data.toList.length = b.size := rfl
    by_cases c : i < b.size
    · rw [if_pos c, ih _ _ (by omega), List.reverse_cons, List.append_assoc, List.drop_eq_getElem_cons (show i < b.data.toList.length by omega)]
      have : b.get! i = b.data.toList[i] := by
        show b.data[i]! = _
        rw [getElem!_pos b.data i c]; rfl
      rw [this]; rfl
    · rw [if_neg c, List.drop_eq_nil_iff.2 (by omega), List.append_nil]
theorem bl_data (b : ByteArray) : ByteArray.toList b = b.data.toList := by
  unfold ByteArray.toList
  rw [bl_loop b b.size 0 [] (by omega)]; rfl
def okB (b : UInt8) : Bool := (decide (97 ≤ (b.toNat : Int)) && decide ((b.toNat : Int) ≤ 122)) || (decide (48 ≤ (b.toNat : Int)) && decide ((b.toNat : Int) ≤ 57))
def goodN (s : ByteArray) : Bool := s.data.toList.all okB && decide ((s.size : Int) ≤ 12)
theorem byte_at (s : ByteArray) {j : Nat} (h : j < s.data.toList.length) : s.data.getD (Int.toNat (j : Int)) 0 = s.data.toList[j] := by
  rw [Int.toNat_natCast]
  have h' : j < s.size := h
  simp [Array.getD, h']
theorem spec_l1Name_loop {R : Type} (s : ByteArray) (hl : s.size ≤ 9223372036854775807) (kr : Bool → Option R) (ke : ByteArray → Option R) : ∀ (n j : Nat), s.size - j < n → j ≤ s.size → spec_l1Name_l2 n s (j : Int) kr ke = bif (s.data.toList.drop j).all okB then ke s else kr false
  | 0, _, h, _ => by omega
  | n + 1, j, hn, hj => by
    have hsz : s.data.toList.length = s.size := rfl
    rw [spec_l1Name_l2]
    by_cases h : j < s.size
    · have h' : j < s.data.toList.length := by omega
      have go := spec_l1Name_loop s hl kr ke n (j + 1) (by omega) (by omega)
      rw [dlt h, dnn, byte_at s h', wrapS h hl, List.drop_eq_getElem_cons h', List.all_cons, okB]
      simp only [cond_true, ge_iff_le]
      cases decide (97 ≤ (s.data.toList[j].toNat : Int)) with
      | true =>
        cases decide ((s.data.toList[j].toNat : Int) ≤ 122) with
        | true => exact go
        | false =>
          cases decide (48 ≤ (s.data.toList[j].toNat : Int)) with
          | false => rfl
          | true =>
            cases decide ((s.data.toList[j].toNat : Int) ≤ 57) with
            | false => rfl
            | true => exact go
      | false =>
        cases decide (48 ≤ (s.data.toList[j].toNat : Int)) with
        | false => rfl
        | true =>
          cases decide ((s.data.toList[j].toNat : Int) ≤ 57) with
          | false => rfl
          | true => exact go
    · rw [dge (by omega), List.drop_eq_nil_iff.2 (by omega)]; rfl
theorem spec_l1Name_eq {R : Type} {n : Nat} {s : ByteArray} (hl : s.size ≤ 9223372036854775807) (hn : s.size < n) (k : Bool → Option R) : spec_l1Name n s k = k (goodN s) := by
  unfold spec_l1Name goodN
  have := spec_l1Name_loop s hl (fun r1 => k r1) (fun r2 => k (decide ((r2.size : Int) ≤ 12))) n 0 (by omega) (by omega)
  rw [show ((0 : Nat) : Int) = 0 from rfl, List.drop_zero] at this
  rw [this]
  cases s.data.toList.all okB <;> rfl
def signs : List UInt8 := [97, 98, 99, 100, 101, 102, 103, 104, 105, 106, 107, 108, 109, 110, 111, 112, 113, 114, 115, 116, 117, 118, 119, 120, 121, 122, 48, 49, 50, 51, 52, 53, 54, 55, 56, 57]
theorem signs_ok : ∀ b : UInt8, signs.contains b = okB b := by
  have h : ∀ n : Nat, n < 256 → signs.contains (UInt8.ofNat n) = okB (UInt8.ofNat n) := by decide +kernel
  intro b
  have := h b.toNat b.toNat_lt
  rw [UInt8.ofNat_toNat] at this
  exact this
theorem dropW_nil {p : UInt8 → Bool} : ∀ {l : List UInt8}, l.dropWhile p = [] ↔ l.all p = true
  | [] => by simp
  | a :: l => by
    rw [List.dropWhile_cons, List.all_cons]
    cases p a with
    | true => simp only [if_true, Bool.true_and]; exact dropW_nil
    | false => simp
theorem dropW_all {p : UInt8 → Bool} : ∀ {l : List UInt8}, (l.dropWhile p).all p = l.all p
  | [] => rfl
  | a :: l => by
    rw [List.dropWhile_cons, List.all_cons]
    cases h : p a with
    | true => simp only [if_true, Bool.true_and]; exact dropW_all
    | false => simp [h]
theorem trimF_nil (l cs : List UInt8) : (trimF l cs = []) ↔ l.all (cs.contains ·) = true := by
  unfold trimF
  rw [dropW_nil, List.all_reverse, dropW_all, List.all_reverse]
theorem impl_goodName_eq {R : Type} {n : Nat} (s : ByteArray) (k : Bool → Option R) : impl_goodName n s k = k (goodN s) := by
  unfold impl_goodName goodN strings_Trim
  by_cases h : (s.size : Int) ≤ 12
  · rw [decide_eq_true h, cond_true, decide_eq_true (show s.size ≤ 9223372036854775807 by omega)]
    simp only [cond_true, Bool.and_true]
    rw [decide_eq_true (show (ByteArray.mk #[97, 98, 99, 100, 101, 102, 103, 104, 105, 106, 107, 108, 109, 110, 111, 112, 113, 114, 115, 116, 117, 118, 119, 120, 121, 122, 48, 49, 50, 51, 52, 53, 54, 55, 56, 57]).size < 4294967281 by decide)]
    change (bif signs.all (fun b => decide (b.toNat < 128)) then k (ByteArray.toList ⟨(trimF s.data.toList signs).toArray⟩ == ByteArray.toList ⟨#[]⟩) else none) = _
    rw [show signs.all (fun b => decide (b.toNat < 128)) = true by decide, cond_true]
    rw [bl_data, bl_data]
    congr 1
    have e : (ByteArray.mk (trimF s.data.toList signs).toArray).data.toList = trimF s.data.toList signs := by simp
    rw [e]
    have e2 : s.data.toList.all okB = s.data.toList.all (signs.contains ·) := by
      congr 1; funext b; exact (signs_ok b).symm
    rw [e2]
    have := trimF_nil s.data.toList signs
    cases h1 : s.data.toList.all (signs.contains ·) with
    | true => rw [this.2 h1]; rfl
    | false =>
      cases h2 : trimF s.data.toList signs with
      | nil => rw [this.1 h2] at h1; cases h1
      | cons a l => rfl
  · rw [decide_eq_false h, Bool.and_false]; rfl
def eqS (a b : ByteArray) : Bool := ByteArray.toList a == ByteArray.toList b
theorem eqS_comm (a b : ByteArray) : eqS a b = eqS b a := Bool.beq_comm
theorem eqS_refl (a : ByteArray) : eqS a a = true := by simp [eqS]
def ltS (a b : ByteArray) : Bool := Op.bytesLess (ByteArray.toList a) (ByteArray.toList b)
theorem bytesLess_tot : ∀ a b : List UInt8, Op.bytesLess b a = !(Op.bytesLess a b || a == b)
  | [], [] => rfl
  | [], _ :: _ => rfl
  | _ :: _, [] => rfl
  | x :: a, y :: b => by
    have ih := bytesLess_tot a b
    show (decide (y < x) || (y == x && Op.bytesLess b a)) = !((decide (x < y) || (x == y && Op.bytesLess a b)) || (x :: a == y :: b))
    rw [show (x :: a == y :: b) = (x == y && a == b) from rfl]
    rcases Nat.lt_trichotomy x.toNat y.toNat with h | h | h
    · have h1 : x < y := h
      have h2 : ¬ y < x := fun h' => Nat.lt_asymm h h'
      have h3 : (y == x) = false := by
        rw [beq_eq_false_iff_ne]; intro e; rw [e] at h; exact Nat.lt_irrefl _ h
      rw [decide_eq_true h1, decide_eq_false h2, h3]; rfl
    · have e : x = y := UInt8.toNat_inj.1 h
      subst e
      have h1 : ¬ x < x := Nat.lt_irrefl _
      rw [decide_eq_false h1, beq_self_eq_true, ih]; simp
    · have h1 : y < x := h
      have h2 : ¬ x < y := fun h' => Nat.lt_asymm h h'
      have h3 : (x == y) = false := by
        rw [beq_eq_false_iff_ne]; intro e; rw [e] at h; exact Nat.lt_irrefl _ h
      rw [decide_eq_true h1, decide_eq_false h2, h3]; rfl
theorem ltS_tot (a b : ByteArray) : ltS b a = !(ltS a b || eqS a b) := bytesLess_tot _ _
theorem impl_isVersion_eq {R : Type} (n : Nat) (x : Int) (k : Bool → Option R) : impl_isVersion n x k = k (decide (0 ≤ x ∧ x ≤ 1000000)) := by
  unfold impl_isVersion
  rw [impl_in_eq]
abbrev Ev := Int × Int × Int × ByteArray
def goodEv (e : Ev) : Bool := decide (1 ≤ e.1 ∧ e.1 ≤ 1000) && (decide (0 ≤ e.2.1 ∧ e.2.1 ≤ 1000000) && (decide (1 ≤ e.2.2.1 ∧ e.2.2.1 ≤ 6) && goodN e.2.2.2))
theorem spec_GoodEvent_eq {R : Type} {n : Nat} (a b c : Int) (s : ByteArray) (hs : s.size ≤ 1048576) (hn : 2000000 ≤ n) (k : Bool → Option R) : spec_GoodEvent n a b c s k = k (goodEv (a, b, c, s)) := by
  unfold spec_GoodEvent goodEv
  simp only [spec_l1In_eq, spec_l1Name_eq (show s.size ≤ 9223372036854775807 by omega) (show s.size < n by omega)]
  cases decide (1 ≤ a ∧ a ≤ 1000) <;> cases decide (0 ≤ b ∧ b ≤ 1000000) <;> cases decide (1 ≤ c ∧ c ≤ 6) <;> rfl
theorem impl_GoodEvent_eq {R : Type} (n : Nat) (a b c : Int) (s : ByteArray) (k : Bool → Option R) : impl_GoodEvent n a b c s k = k (goodEv (a, b, c, s)) := by
  unfold impl_GoodEvent goodEv impl_goodKind
  simp only [impl_in_eq, impl_isVersion_eq, impl_goodName_eq]
  cases decide (1 ≤ a ∧ a ≤ 1000) <;> cases decide (0 ≤ b ∧ b ≤ 1000000) <;> cases decide (1 ≤ c ∧ c ≤ 6) <;> rfl
def nthS (l : List ByteArray) (j : Nat) : ByteArray := l.getD j ByteArray.empty
theorem nthS_at (l : List ByteArray) {j : Nat} (h : j < l.length) : nthS l j = l[j] := by
  unfold nthS; rw [List.getD_eq_getElem?_getD, List.getElem?_eq_getElem h]; rfl
def disF (l : List ByteArray) : Nat → Nat → Bool
  | 0, _ => true
  | c + 1, j => !((l.take j).any fun o => eqS o (nthS l j)) && disF l c (j + 1)
def srtF (l : List ByteArray) : Nat → Nat → Bool
  | 0, _ => true
  | c + 1, j => (decide (j = 0) || !ltS (nthS l j) (nthS l (j - 1))) && srtF l c (j + 1)
def srtU (l : List ByteArray) : Nat → Bool
  | 0 => true
  | i + 1 => !ltS (nthS l (i + 1)) (nthS l i) && srtU l i
theorem srtU_add (l : List ByteArray) : ∀ (c j : Nat), srtU l (j + c) = (srtF l c (j + 1) && srtU l j)
  | 0, j => by simp [srtF]
  | c + 1, j => by
    have := srtU_add l c (j + 1)
    rw [show j + (c + 1) = j + 1 + c by omega, this, srtF, srtU, decide_eq_false (show ¬ j + 1 = 0 by omega), Bool.false_or, show j + 1 - 1 = j by omega]
    cases srtF l c (j + 1 + 1) <;> cases ltS (nthS l (j + 1)) (nthS l j) <;> cases srtU l j <;> rfl
theorem srtU_all (l : List ByteArray) (c : Nat) : srtU l c = srtF l (c + 1) 0 := by
  have := srtU_add l c 0
  rw [Nat.zero_add] at this
  rw [this, srtF]
  simp [srtU]
def namesF (l : List ByteArray) (r : Bool) : Bool := (l.all goodN && disF l l.length 0 && (!r || srtF l l.length 0)) && decide ((l.length : Int) ≤ 30)
structure StrsIn (l : List ByteArray) : Prop where
  len : l.length ≤ 1048576
  size : ∀ x ∈ l, x.size ≤ 1048576
theorem spec_names_in {R : Type} (l p : List ByteArray) (r : Bool) (i : Nat) (s : ByteArray) (a b : Int) (q0 : List ByteArray) (hi : i ≤ 1048576) (hp : p.length = i) (kr : Bool → Option R) (ke : List ByteArray → Bool → List ByteArray → Int → Int → Option R) : ∀ (n q : Nat), p.length - q < n → q ≤ p.length →
    spec_l12Names_l7 n l r (i : Int) s q0 a b p (p.length : Int) (q : Int) kr ke = bif ((p.drop q).any fun o => eqS o s) || (r && (decide (q < i) && ltS s (nthS p (i - 1)))) then kr false else ke l r q0 a b
  | 0, _, h, _ => by omega
  | n + 1, q, hn, hq => by
    rw [spec_l12Names_l7]
    by_cases h : q < p.length
    · have go := spec_names_in l p r i s a b q0 hi hp kr ke n (q + 1) (by omega) (by omega)
      rw [dlt h, dnn, getD_at _ _ h, wrapS h (by omega), List.drop_eq_getElem_cons h, List.any_cons, decide_eq_true (show q < i by omega), Bool.true_and]
      simp only [cond_true]
      rw [show (ByteArray.toList p[q] == ByteArray.toList s) = eqS p[q] s from rfl]
      cases he : eqS p[q] s with
      | true => rfl
      | false =>
        rw [cond_false, Bool.false_or]
        cases r with
        | false =>
          rw [cond_false, go]
          simp only [Bool.false_and, Bool.or_false]
        | true =>
          rw [cond_true, wrap64 (x := (i : Int) - 1) (by omega) (by omega)]
          by_cases hl : q = i - 1
          · rw [show ((q : Int) == (i : Int) - 1) = true by simp; omega, cond_true]
            rw [show (!(Op.bytesLess (ByteArray.toList p[q]) (ByteArray.toList s) || false)) = ltS s p[q] from by rw [ltS_tot p[q] s, he]; rfl]
            have e1 : nthS p (i - 1) = p[q] := by rw [← hl]; exact nthS_at p h
            rw [e1]
            cases hlt : ltS s p[q] with
            | true => rw [cond_true]; simp
            | false =>
              rw [cond_false, go, decide_eq_false (show ¬ q + 1 < i by omega)]
              simp
          · rw [show ((q : Int) == (i : Int) - 1) = false by simp; omega, cond_false, go, decide_eq_true (show q + 1 < i by omega)]
            simp
    · rw [dge (by omega), List.drop_eq_nil_iff.2 (by omega), decide_eq_false (show ¬ q < i by omega)]
      simp
theorem spec_names_loop {R : Type} {l : List ByteArray} (hl : StrsIn l) (r : Bool) (kr : Bool → Option R) (ke : List ByteArray → Option R) : ∀ (c n j : Nat), c + 1048600 < n → j + c = l.length → spec_l12Names_l2 n l r l (l.length : Int) (j : Int) kr ke = bif (((l.drop j).all goodN && disF l c j) && (!r || srtF l c j)) then ke l else kr false
  | c, 0, _, h, _ => by omega
  | 0, n + 1, j, hn, hj => by
    have e : l.drop j = [] := List.drop_eq_nil_iff.2 (by omega)
    rw [spec_l12Names_l2, dge (by omega), e]
    cases r <;> rfl
  | c + 1, n + 1, j, hn, hj => by
    have h : j < l.length := by omega
    have hlen := hl.len
    have hsz := hl.size _ (List.getElem_mem h)
    have go := spec_names_loop hl r kr ke c n (j + 1) (by omega) (by omega)
    have hpl : (l.take j).length = j := by simp; omega
    have hin := spec_names_in l (l.take j) r j l[j] (l.length : Int) (j : Int) l (by omega) hpl (fun r2 => kr r2) (fun r3 r4 r5 r6 r7 => spec_l12Names_l2 n r3 r4 r5 r6 (IntKind.wrap .i64 (r7 + 1)) kr ke) n 0 (by omega) (by omega)
    rw [show ((0 : Nat) : Int) = 0 from rfl, List.drop_zero] at hin
    have e5 : ((l.drop 0).take (Int.toNat (j : Int) - 0)) = l.take j := by rw [List.drop_zero, Int.toNat_natCast, Nat.sub_zero]
    rw [spec_l12Names_l2, dlt h, dnn, getD_at _ _ h, decide_eq_true (show (j : Int) ≤ (l.length : Int) by omega), e5, spec_l1Name_eq (by omega) (by omega)]
    simp only [cond_true]
    rw [hin, wrapS h (by omega), go, List.drop_eq_getElem_cons h, List.all_cons, disF, srtF, nthS_at l h]
    have e6 : 0 < j → nthS (l.take j) (j - 1) = nthS l (j - 1) := fun h0 => by
      rw [nthS_at _ (show j - 1 < (l.take j).length by omega), nthS_at _ (show j - 1 < l.length by omega), List.getElem_take]
    by_cases h0 : 0 < j
    · rw [e6 h0, decide_eq_true h0, decide_eq_false (show ¬ j = 0 by omega)]
      cases goodN l[j] <;> cases (l.take j).any (fun o => eqS o l[j]) <;> cases r <;> cases ltS l[j] (nthS l (j - 1)) <;> cases (l.drop (j + 1)).all goodN <;> cases disF l c (j + 1) <;> cases srtF l c (j + 1) <;> rfl
    · rw [decide_eq_false h0, decide_eq_true (show j = 0 by omega)]
      cases goodN l[j] <;> cases (l.take j).any (fun o => eqS o l[j]) <;> cases r <;> cases (l.drop (j + 1)).all goodN <;> cases disF l c (j + 1) <;> cases srtF l c (j + 1) <;> rfl
theorem spec_names_eq {R : Type} {n : Nat} {l : List ByteArray} (hl : StrsIn l) (r : Bool) (hn : 3000000 ≤ n) (k : Bool → Option R) : spec_l12Names n l r k = k (namesF l r) := by
  unfold spec_l12Names namesF
  have hlen := hl.len
  have := spec_names_loop hl r (fun r8 => k r8) (fun r9 => k (decide ((r9.length : Int) ≤ 30))) l.length n 0 (by omega) (by omega)
  rw [show ((0 : Nat) : Int) = 0 from rfl, List.drop_zero] at this
  rw [this]
  cases (l.all goodN && disF l l.length 0 && (!r || srtF l l.length 0)) <;> rfl
theorem impl_namesC {R : Type} (l : List ByteArray) (hl : l.length ≤ 1048576) (k : Bool → Option R) : ∀ (n j : Nat), l.length - j < n → j ≤ l.length → slices_IndexFunc_string_impl_namesOk_c1_l2 n l (l.length : Int) (j : Int) (fun r => k (decide (r ≥ 0))) (k (decide ((-1 : Int) ≥ 0))) = k (!(l.drop j).all goodN)
  | 0, _, h, _ => by omega
  | n + 1, j, hn, hj => by
    rw [slices_IndexFunc_string_impl_namesOk_c1_l2]
    by_cases h : j < l.length
    · rw [dlt h, dnn, getD_at _ _ h, wrapS h (by omega), List.drop_eq_getElem_cons h, List.all_cons]
      simp only [cond_true, impl_namesOk_c1, impl_goodName_eq]
      cases goodN l[j] with
      | true => exact impl_namesC l hl k n (j + 1) (by omega) (by omega)
      | false => simp only [Bool.not_false, cond_true, decide_eq_true (show (j : Int) ≥ 0 by omega), Bool.false_and]
    · rw [dge (by omega), List.drop_eq_nil_iff.2 (by omega)]; rfl
theorem impl_namesOk_eq {R : Type} {n : Nat} {l : List ByteArray} (hl : StrsIn l) (hn : 3000000 ≤ n) (k : Bool → Option R) : impl_namesOk n l 30 k = k (decide ((l.length : Int) ≤ 30) && l.all goodN) := by
  unfold impl_namesOk slices_ContainsFunc_string_impl_namesOk_c1 slices_IndexFunc_string_impl_namesOk_c1
  have hlen := hl.len
  have := impl_namesC l hl.len (fun r1 => k (!r1)) n 0 (by omega) (by omega)
  rw [show ((0 : Nat) : Int) = 0 from rfl, List.drop_zero] at this
  rw [this, Bool.not_not]
  cases decide ((l.length : Int) ≤ 30) <;> rfl
theorem impl_indexS {R : Type} (l : List ByteArray) (s : ByteArray) (hl : l.length ≤ 1048576) (k : Bool → Option R) : ∀ (n j : Nat), l.length - j < n → j ≤ l.length → slices_Index_string_l2 n l s (l.length : Int) (j : Int) (fun r => k (decide (r ≥ 0))) (k (decide ((-1 : Int) ≥ 0))) = k ((l.drop j).any fun o => eqS o s)
  | 0, _, h, _ => by omega
  | n + 1, j, hn, hj => by
    rw [slices_Index_string_l2]
    by_cases h : j < l.length
    · rw [dlt h, dnn, getD_at _ _ h, wrapS h (by omega), List.drop_eq_getElem_cons h, List.any_cons, show (ByteArray.toList s == ByteArray.toList l[j]) = eqS s l[j] from rfl, eqS_comm s]
      simp only [cond_true]
      cases eqS l[j] s with
      | false => exact impl_indexS l s hl k n (j + 1) (by omega) (by omega)
      | true => simp only [cond_true, decide_eq_true (show (j : Int) ≥ 0 by omega), Bool.true_or]
    · rw [dge (by omega), List.drop_eq_nil_iff.2 (by omega)]; rfl
theorem impl_containsS {R : Type} {n : Nat} {l : List ByteArray} (s : ByteArray) (hl : l.length ≤ 1048576) (hn : l.length < n) (k : Bool → Option R) : slices_Contains_string n l s k = k (l.any fun o => eqS o s) := by
  unfold slices_Contains_string slices_Index_string
  have := impl_indexS l s hl k n 0 (by omega) (by omega)
  rw [show ((0 : Nat) : Int) = 0 from rfl, List.drop_zero] at this
  exact this
theorem impl_distinct_loop {R : Type} (l : List ByteArray) (hl : l.length ≤ 1048576) (kr : Bool → Option R) (ke : Option R) : ∀ (c n j : Nat), c + 1048600 < n → j + c = l.length → impl_distinct_l2 n l l (l.length : Int) (j : Int) kr ke = bif disF l c j then ke else kr false
  | c, 0, _, h, _ => by omega
  | 0, n + 1, j, hn, hj => by rw [impl_distinct_l2, dge (by omega)]; rfl
  | c + 1, n + 1, j, hn, hj => by
    have h : j < l.length := by omega
    have e5 : ((l.drop 0).take (Int.toNat (j : Int) - 0)) = l.take j := by rw [List.drop_zero, Int.toNat_natCast, Nat.sub_zero]
    rw [impl_distinct_l2, dlt h, dnn, getD_at _ _ h, wrapS h (by omega), decide_eq_true (show (j : Int) ≤ (l.length : Int) by omega), e5, disF, nthS_at l h]
    simp only [cond_true]
    rw [impl_containsS _ (by simp; omega) (by simp; omega)]
    cases (l.take j).any (fun o => eqS o l[j]) with
    | true => rfl
    | false => exact impl_distinct_loop l hl kr ke c n (j + 1) (by omega) (by omega)
theorem impl_distinct_eq {R : Type} {n : Nat} {l : List ByteArray} (hl : StrsIn l) (hn : 3000000 ≤ n) (k : Bool → Option R) : impl_distinct n l k = k (disF l l.length 0) := by
  unfold impl_distinct
  have hlen := hl.len
  have := impl_distinct_loop l hl.len (fun r2 => k r2) (k true) l.length n 0 (by omega) (by omega)
  rw [show ((0 : Nat) : Int) = 0 from rfl] at this
  rw [this]
  cases disF l l.length 0 <;> rfl
theorem cmp_Less_eq {R : Type} (n : Nat) (a b : ByteArray) (k : Bool → Option R) : cmp_Less_string n a b k = k (ltS a b) := by
  unfold cmp_Less_string cmp_isNaN_string
  simp only [beq_self_eq_true, Bool.not_true, cond_false]
  rfl
theorem impl_sorted_loop {R : Type} (l : List ByteArray) (hl : l.length ≤ 1048576) (kr : Bool → Option R) (ke : Option R) : ∀ (i n : Nat), i < n → i < l.length → slices_IsSorted_string_l2 n l (i : Int) kr ke = bif srtU l i then ke else kr false
  | i, 0, h, _ => by omega
  | 0, n + 1, hn, hi => by rw [slices_IsSorted_string_l2]; rfl
  | i + 1, n + 1, hn, hi => by
    have hi' : i < l.length := by omega
    have e : ((i + 1 : Nat) : Int) - 1 = (i : Int) := by omega
    rw [slices_IsSorted_string_l2, decide_eq_true (show ((i + 1 : Nat) : Int) > 0 by omega), dnn, dlt hi, wrap64 (x := ((i + 1 : Nat) : Int) - 1) (by omega) (by omega), e, dnn, dlt hi', getD_at _ _ hi, getD_at _ _ hi', cmp_Less_eq, srtU, nthS_at l hi, nthS_at l hi']
    simp only [cond_true]
    cases ltS l[i + 1] l[i] with
    | true => rfl
    | false => exact impl_sorted_loop l hl kr ke i n (by omega) hi'
theorem impl_sorted_eq {R : Type} {n : Nat} {l : List ByteArray} (hl : StrsIn l) (hn : 3000000 ≤ n) (k : Bool → Option R) : slices_IsSorted_string n l k = k (srtF l l.length 0) := by
  unfold slices_IsSorted_string
  have hlen := hl.len
  cases hc : l.length with
  | zero =>
    cases n with
    | zero => omega
    | succ n => rfl
  | succ c =>
    rw [show ((c + 1 : Nat) : Int) - 1 = (c : Int) by omega, wrap64 (x := (c : Int)) (by omega) (by omega), impl_sorted_loop l hl.len (fun r2 => k r2) (k true) c n (by omega) (by omega), srtU_all]
    cases srtF l (c + 1) 0 <;> rfl
structure StateIn (s t : List ByteArray) : Prop where
  s : StrsIn s
  t : StrsIn t
def goodSt (st nx : Int) (ca : Bool) (dn : Int) (sg tm : List ByteArray) : Bool :=
  (decide (1 ≤ nx ∧ nx ≤ 1001) && decide (0 ≤ dn ∧ dn ≤ 1000) && decide (0 ≤ st ∧ st ≤ 2) && namesF sg false && namesF tm true) && (if st = 0 then (nx == 1) && (!ca && ((dn == 0) && (((sg.length : Int) == 0) && ((tm.length : Int) == 0)))) else decide (nx > 1))
theorem spec_GoodState_eq {R : Type} {n : Nat} {sg tm : List ByteArray} (h : StateIn sg tm) (st nx : Int) (ca : Bool) (dn : Int) (hn : 3000000 ≤ n) (k : Bool → Option R) : spec_GoodState n st nx ca dn sg tm k = k (goodSt st nx ca dn sg tm) := by
  unfold spec_GoodState goodSt
  simp only [spec_l1In_eq, spec_names_eq h.s false hn, spec_names_eq h.t true hn]
  cases decide (1 ≤ nx ∧ nx ≤ 1001) with
  | false => rfl
  | true =>
  cases decide (0 ≤ dn ∧ dn ≤ 1000) with
  | false => rfl
  | true =>
  cases namesF sg false with
  | false => simp
  | true =>
  cases namesF tm true with
  | false => simp
  | true =>
  cases decide (0 ≤ st ∧ st ≤ 2) with
  | false => rfl
  | true =>
  by_cases h0 : st = 0
  · rw [if_pos h0, show (st == 0) = true by simp [h0]]
    simp only [Bool.not_true, cond_false, cond_true, Bool.true_and]
    cases (nx == 1) <;> cases ca <;> cases (dn == 0) <;> cases ((sg.length : Int) == 0) <;> rfl
  · rw [if_neg h0, show (st == 0) = false by simp [h0]]
    simp only [Bool.not_true, cond_false, Bool.true_and]
theorem impl_GoodState_eq {R : Type} {n : Nat} {sg tm : List ByteArray} (h : StateIn sg tm) (st nx : Int) (ca : Bool) (dn : Int) (hn : 3000000 ≤ n) (k : Bool → Option R) : impl_GoodState n st nx ca dn sg tm k = k (goodSt st nx ca dn sg tm) := by
  unfold impl_GoodState goodSt namesF
  simp only [impl_in_eq, impl_namesOk_eq h.s hn, impl_namesOk_eq h.t hn, impl_distinct_eq h.s hn, impl_distinct_eq h.t hn, impl_sorted_eq h.t hn]
  cases decide (1 ≤ nx ∧ nx ≤ 1001) with
  | false => rfl
  | true =>
  cases decide (0 ≤ dn ∧ dn ≤ 1000) with
  | false => rfl
  | true =>
  cases decide (0 ≤ st ∧ st ≤ 2) with
  | false => rfl
  | true =>
  cases decide ((sg.length : Int) ≤ 30) with
  | false => simp
  | true =>
  cases sg.all goodN with
  | false => simp
  | true =>
  cases disF sg sg.length 0 with
  | false => simp
  | true =>
  cases decide ((tm.length : Int) ≤ 30) with
  | false => simp
  | true =>
  cases tm.all goodN with
  | false => simp
  | true =>
  cases srtF tm tm.length 0 with
  | false => simp
  | true =>
  cases disF tm tm.length 0 with
  | false => simp
  | true =>
  by_cases h0 : st = 0
  · rw [if_pos h0, show (st != 0) = false by simp [h0]]
    simp only [Bool.not_true, cond_false, cond_true, Bool.true_and, Bool.and_self, Bool.not_false, Bool.true_or, Bool.or_true]
    cases (nx == 1) <;> cases ca <;> cases (dn == 0) <;> cases ((sg.length : Int) == 0) <;> rfl
  · rw [if_neg h0, show (st != 0) = true by simpa using h0]
    simp only [Bool.not_true, cond_false, cond_true, Bool.true_and, Bool.and_self, Bool.not_false, Bool.true_or, Bool.or_true]
theorem laws_szS_loop {R : Type} (l : List ByteArray) (hl : l.length ≤ 1048576) (hs : ∀ x ∈ l, x.size ≤ 9223372036854775807) (kr ke : Int → Option R) : ∀ (c n j : Nat) (q : Int), c < n → j + c = l.length → 0 ≤ q → q ≤ 1048576 →
    (laws_szStringS_l5 n l q (j : Int) kr ke = kr (-1)) ∨ ((∀ x ∈ l.drop j, x.size ≤ 1048576) ∧ ∃ q', 0 ≤ q' ∧ q' ≤ 1048576 ∧ laws_szStringS_l5 n l q (j : Int) kr ke = ke q')
  | c, 0, _, _, h, _, _, _ => by omega
  | 0, n + 1, j, q, hn, hj, q0, q1 => .inr ⟨by rw [List.drop_eq_nil_iff.2 (by omega)]; simp, q, q0, q1, by rw [laws_szStringS_l5, dge (by omega)]; rfl⟩
  | c + 1, n + 1, j, q, hn, hj, q0, q1 => by
    have h : j < l.length := by omega
    have h1 := hs _ (List.getElem_mem h)
    rw [laws_szStringS_l5, dlt h, dnn, getD_at _ _ h, wrapS h (by omega), wrap64 (x := q - (l[j].size : Int)) (by omega) (by omega)]
    simp only [cond_true]
    by_cases h2 : q - (l[j].size : Int) < 0
    · rw [decide_eq_true h2]; exact .inl rfl
    · rw [decide_eq_false h2, cond_false]
      rcases laws_szS_loop l hl hs kr ke c n (j + 1) (q - (l[j].size : Int)) (by omega) (by omega) (by omega) (by omega) with h3 | ⟨h3, q', a, b, e⟩
      · exact .inl h3
      · refine .inr ⟨fun x hx => ?_, q', a, b, e⟩
        rw [List.drop_eq_getElem_cons h] at hx
        rcases List.mem_cons.1 hx with rfl | hx
        · omega
        · exact h3 x hx
theorem laws_szS_eq {R : Type} {n : Nat} {l : List ByteArray} (hl : l.length ≤ 9223372036854775807) (hs : ∀ x ∈ l, x.size ≤ 9223372036854775807) {q : Int} (q0 : 0 ≤ q) (q1 : q ≤ 1048576) (hn : 3000000 ≤ n) (k : Int → Option R) :
    laws_szStringS n l q k = k (-1) ∨ (StrsIn l ∧ ∃ q', 0 ≤ q' ∧ q' ≤ 1048576 ∧ laws_szStringS n l q k = k q') := by
  unfold laws_szStringS
  rw [wrap64 (x := q - (l.length : Int)) (by omega) (by omega)]
  by_cases h : q - (l.length : Int) < 0
  · rw [decide_eq_true h]; exact .inl rfl
  · rw [decide_eq_false h, cond_false]
    rcases laws_szS_loop l (by omega) hs (fun r1 => k r1) (fun r2 => k r2) l.length n 0 (q - (l.length : Int)) (by omega) (by omega) (by omega) (by omega) with h3 | ⟨h3, q', a, b, e⟩
    · exact .inl h3
    · rw [List.drop_zero] at h3
      exact .inr ⟨⟨by omega, h3⟩, q', a, b, e⟩
theorem laws_toS_loop {R : Type} (l : List ByteArray) (hb : l.length ≤ 9223372036854775807) (ke : List ByteArray → Option R) : ∀ (n j : Nat) (out : List ByteArray), l.length - j < n → j ≤ l.length → out.length = l.length → out.take j = l.take j →
    laws_toStringS_l3 n l (j : Int) out ke = ke l
  | 0, _, _, h, _, _, _ => by omega
  | n + 1, j, out, hn, hj, ho, ht => by
    unfold laws_toStringS_l3
    by_cases h : j < l.length
    · rw [dlt h, dnn, getD_at _ _ h, wrapS h hb, Int.toNat_natCast, ho, dlt h]
      simp only [cond_true]
      refine laws_toS_loop l hb ke n (j + 1) _ (by omega) (by omega) (by simpa using ho) ?_
      rw [List.take_set, List.take_succ_eq_append_getElem (by omega), List.take_succ_eq_append_getElem h, ht, List.set_append_right _ _ (by simp; omega)]
      rw [show j - (l.take j).length = 0 by simp; omega]
      rfl
    · rw [dge (by omega), cond_false]
      have h1 : l.take j = l := List.take_of_length_le (by omega)
      rw [List.take_of_length_le (by omega), h1] at ht
      rw [ht]
theorem laws_toS_eq {R : Type} {n : Nat} {l : List ByteArray} (hl : l.length ≤ 1048576) (hn : l.length < n) (k : List ByteArray → Option R) : laws_toStringS n l k = k l := by
  unfold laws_toStringS
  rw [decide_eq_true (by omega), decide_eq_true (by omega), decide_eq_true (by omega)]
  simp only [cond_true, Int.toNat_natCast]
  exact laws_toS_loop l (by omega) k n 0 _ (by omega) (by omega) (by simp) (by simp)
theorem laws_eqS_loop {R : Type} (l : List ByteArray) (hb : l.length ≤ 9223372036854775807) (kr : Bool → Option R) (ke : Option R) : ∀ (c n j : Nat), c < n → j + c = l.length → laws_eqStringS_l4 n l l (j : Int) kr ke = ke
  | c, 0, _, h, _ => by omega
  | 0, n + 1, j, hn, hj => by rw [laws_eqStringS_l4, dge (by omega)]; rfl
  | c + 1, n + 1, j, hn, hj => by
    have h : j < l.length := by omega
    rw [laws_eqStringS_l4, dlt h, dnn, wrapS h hb, beq_self_eq_true]
    simp only [cond_true, Bool.not_true, cond_false]
    exact laws_eqS_loop l hb kr ke c n (j + 1) (by omega) (by omega)
theorem laws_eqS_eq {R : Type} {n : Nat} {l : List ByteArray} (hb : l.length ≤ 9223372036854775807) (hn : l.length < n) (k : Bool → Option R) : laws_eqStringS n l l k = k true := by
  unfold laws_eqStringS
  rw [bne_self_eq_false, cond_false]
  exact laws_eqS_loop l hb _ _ l.length n 0 hn (by omega)
theorem wrap_u8 {x : Int} (h0 : 0 ≤ x) (h1 : x < 18446744073709551616) : IntKind.wrap .u64 x = x := by
  simp only [IntKind.wrap, IntKind.signed, IntKind.bits]
  simp
  omega
theorem eqS_iff {a b : ByteArray} : eqS a b = true ↔ a = b := by
  constructor
  · intro h
    have h1 : ByteArray.toList a = ByteArray.toList b := by simpa [eqS] using h
    rw [bl_data, bl_data] at h1
    exact ByteArray.ext (Array.toList_inj.1 h1)
  · rintro rfl; exact eqS_refl a
theorem eqS_ne {a b : ByteArray} (h : a ≠ b) : eqS a b = false := by
  cases h1 : eqS a b with
  | false => rfl
  | true => exact absurd (eqS_iff.1 h1) h
theorem any_mem {l : List ByteArray} {s : ByteArray} : (l.any fun o => eqS o s) = true ↔ s ∈ l := by
  rw [List.any_eq_true]
  constructor
  · rintro ⟨x, h1, h2⟩; rw [← eqS_iff.1 h2]; exact h1
  · intro h; exact ⟨s, h, eqS_refl s⟩
theorem any_nmem {l : List ByteArray} {s : ByteArray} (h : (l.any fun o => eqS o s) = false) : s ∉ l := fun h1 => by
  rw [any_mem.2 h1] at h; cases h
theorem bytesLess_trans : ∀ a b c : List UInt8, Op.bytesLess a b = true → Op.bytesLess b c = true → Op.bytesLess a c = true
  | [], [], _, h, _ => by cases h
  | _ :: _, [], _, h, _ => by cases h
  | [], _ :: _, [], _, h => by cases h
  | [], _ :: _, _ :: _, _, _ => rfl
  | _ :: _, _ :: _, [], _, h => by cases h
  | x :: a, y :: b, z :: c, h1, h2 => by
    have e1 : (decide (x < y) || (x == y && Op.bytesLess a b)) = true := h1
    have e2 : (decide (y < z) || (y == z && Op.bytesLess b c)) = true := h2
    show (decide (x < z) || (x == z && Op.bytesLess a c)) = true
    simp only [Bool.or_eq_true, Bool.and_eq_true, decide_eq_true_eq, beq_iff_eq] at e1 e2 ⊢
    rcases e1 with h | ⟨rfl, h⟩
    · rcases e2 with g | ⟨rfl, g⟩
      · exact .inl (UInt8.lt_trans h g)
      · exact .inl h
    · rcases e2 with g | ⟨rfl, g⟩
      · exact .inl g
      · exact .inr ⟨rfl, bytesLess_trans a b c h g⟩
theorem ltS_trans {a b c : ByteArray} (h1 : ltS a b = true) (h2 : ltS b c = true) : ltS a c = true := bytesLess_trans _ _ _ h1 h2
theorem ltS_irrefl (a : ByteArray) : ltS a a = false := by
  have := ltS_tot a a
  rw [eqS_refl, Bool.or_true] at this
  exact this
theorem ltS_ne {a b : ByteArray} (h : ltS a b = true) : a ≠ b := fun e => by rw [e, ltS_irrefl] at h; cases h
abbrev SortedS (l : List ByteArray) : Prop := l.Pairwise fun a b => ltS a b = true
theorem srtF_at {l : List ByteArray} : ∀ {c j : Nat}, srtF l c j = true → ∀ i, j ≤ i → i < j + c → 0 < i → ltS (nthS l i) (nthS l (i - 1)) = false
  | 0, _, _, _, _, h, _ => by omega
  | c + 1, j, h, i, h1, h2, h3 => by
    rw [srtF, Bool.and_eq_true] at h
    by_cases e : i = j
    · subst e
      have := h.1
      rw [decide_eq_false (by omega), Bool.false_or, Bool.not_eq_true'] at this
      exact this
    · exact srtF_at h.2 i (by omega) (by omega) h3
theorem disF_at {l : List ByteArray} : ∀ {c j : Nat}, disF l c j = true → ∀ i, j ≤ i → i < j + c → ((l.take i).any fun o => eqS o (nthS l i)) = false
  | 0, _, _, _, _, h => by omega
  | c + 1, j, h, i, h1, h2 => by
    rw [disF, Bool.and_eq_true] at h
    by_cases e : i = j
    · subst e
      simpa using h.1
    · exact disF_at h.2 i (by omega) (by omega)
theorem sortedS_of {l : List ByteArray} (h1 : srtF l l.length 0 = true) (h2 : disF l l.length 0 = true) : SortedS l := by
  have step : ∀ i, 0 < i → i < l.length → ltS (nthS l (i - 1)) (nthS l i) = true := fun i h3 h4 => by
    have a := srtF_at h1 i (by omega) (by omega) h3
    have b := disF_at h2 i (by omega) (by omega)
    have c : eqS (nthS l (i - 1)) (nthS l i) = false := by
      cases hc : eqS (nthS l (i - 1)) (nthS l i) with
      | false => rfl
      | true =>
        have hm : nthS l (i - 1) ∈ l.take i := by
          rw [nthS_at l (by omega)]
          rw [List.mem_take_iff_getElem]
          exact ⟨i - 1, by omega, rfl⟩
        rw [List.any_eq_true.2 ⟨_, hm, hc⟩] at b
        cases b
    have d := ltS_tot (nthS l (i - 1)) (nthS l i)
    rw [a, c, Bool.or_false] at d
    simpa using d.symm
  rw [SortedS, List.pairwise_iff_getElem]
  intro i j hi hj hij
  have main : ∀ d i, i + d + 1 < l.length → ltS (nthS l i) (nthS l (i + d + 1)) = true := by
    intro d
    induction d with
    | zero => intro i h; exact step (i + 1) (by omega) h
    | succ d ih => intro i h; exact ltS_trans (ih i (by omega)) (step (i + (d + 1) + 1) (by omega) h)
  have := main (j - i - 1) i (by omega)
  rw [show i + (j - i - 1) + 1 = j by omega, nthS_at l hi, nthS_at l hj] at this
  exact this
def posF (s : ByteArray) : List ByteArray → Nat
  | [] => 0
  | e :: l => if ltS e s = true then posF s l + 1 else 0
theorem posF_le (s : ByteArray) : ∀ l, posF s l ≤ l.length
  | [] => Nat.le_refl 0
  | e :: l => by
    have := posF_le s l
    unfold posF
    split <;> simp <;> omega
theorem posF_lt (s : ByteArray) : ∀ l i, i < posF s l → ltS (nthS l i) s = true
  | [], i, h => by simp [posF] at h
  | e :: l, i, h => by
    unfold posF at h
    split at h
    · rename_i he
      cases i with
      | zero => exact he
      | succ i => exact posF_lt s l i (by omega)
    · omega
theorem posF_ge (s : ByteArray) : ∀ l, SortedS l → ∀ i, posF s l ≤ i → i < l.length → ltS (nthS l i) s = false
  | [], _, i, _, h => by simp at h
  | e :: l, hp, i, h, hi => by
    obtain ⟨h1, h2⟩ := List.pairwise_cons.1 hp
    unfold posF at h
    split at h
    · cases i with
      | zero => omega
      | succ i => exact posF_ge s l h2 i (by omega) (by simp at hi; omega)
    · rename_i he
      cases i with
      | zero => exact Bool.not_eq_true _ ▸ he
      | succ i =>
        have hi' : i < l.length := by simp at hi; omega
        have h3 := h1 _ (List.getElem_mem hi')
        show ltS (nthS l i) s = false
        rw [nthS_at l hi']
        cases hc : ltS l[i] s with
        | false => rfl
        | true => exact absurd (ltS_trans h3 hc) he
theorem half_eq {i j : Nat} (h : i + j ≤ 4000000) : IntKind.wrap .i64 (Int.fdiv (IntKind.wrap .u64 (IntKind.wrap .i64 ((i : Int) + (j : Int)))) (2 ^ (min (Int.toNat 1) (IntKind.bits .u64)))) = (((i + j) / 2 : Nat) : Int) := by
  rw [wrap64 (x := (i : Int) + (j : Int)) (by omega) (by omega), wrap_u8 (by omega) (by omega)]
  have e : (2 : Int) ^ (min (Int.toNat 1) (IntKind.bits .u64)) = 2 := rfl
  rw [e, Int.fdiv_eq_ediv_of_nonneg _ (by omega), wrap64 (by omega) (by omega)]
  omega
theorem bin_loop {R : Type} {l : List ByteArray} {s : ByteArray} (hl : l.length ≤ 1048576) {p : Nat} (h1 : ∀ i, i < p → ltS (nthS l i) s = true) (h2 : ∀ i, p ≤ i → i < l.length → ltS (nthS l i) s = false) (z : Int) (ke : List ByteArray → ByteArray → Int → Int → Option R) : ∀ (c n i j : Nat), c < n → j - i ≤ c → i ≤ p → p ≤ j → j ≤ l.length →
    slices_BinarySearch_string_l3 n l s z (i : Int) (j : Int) ke = ke l s z (p : Int)
  | c, 0, _, _, h, _, _, _, _ => by omega
  | c, n + 1, i, j, hn, hc, hi, hj, hjl => by
    rw [slices_BinarySearch_string_l3]
    by_cases h : i < j
    · have hm : (i + j) / 2 < l.length := by omega
      rw [decide_eq_true (show (i : Int) < (j : Int) by omega), half_eq (by omega), dnn, dlt hm, getD_at _ _ hm, cmp_Less_eq]
      simp only [cond_true]
      cases c with
      | zero => omega
      | succ c =>
      cases hlt : ltS l[(i + j) / 2] s with
      | true =>
        have hp : (i + j) / 2 < p := by
          rcases Nat.lt_or_ge ((i + j) / 2) p with h3 | h3
          · exact h3
          · have := h2 _ h3 hm
            rw [nthS_at l hm, hlt] at this; cases this
        rw [cond_true, wrapS hm (by omega)]
        exact bin_loop hl h1 h2 z ke c n _ _ (by omega) (by omega) (by omega) hj hjl
      | false =>
        have hp : p ≤ (i + j) / 2 := by
          rcases Nat.lt_or_ge ((i + j) / 2) p with h3 | h3
          · have := h1 _ h3
            rw [nthS_at l hm, hlt] at this; cases this
          · exact h3
        rw [cond_false]
        exact bin_loop hl h1 h2 z ke c n _ _ (by omega) (by omega) hi hp (by omega)
    · rw [decide_eq_false (show ¬ (i : Int) < (j : Int) by omega), cond_false, show i = p by omega]
theorem mem_of_pos {l : List ByteArray} {s : ByteArray} (hp : SortedS l) (h : s ∈ l) : posF s l < l.length ∧ nthS l (posF s l) = s := by
  induction l with
  | nil => cases h
  | cons e l ih =>
    obtain ⟨h1, h2⟩ := List.pairwise_cons.1 hp
    unfold posF
    by_cases he : ltS e s = true
    · rw [if_pos he]
      rcases List.mem_cons.1 h with rfl | hm
      · rw [ltS_irrefl] at he; cases he
      · have := ih h2 hm
        exact ⟨by simp; omega, this.2⟩
    · rw [if_neg he]
      rcases List.mem_cons.1 h with rfl | hm
      · exact ⟨by simp, rfl⟩
      · exact absurd (h1 s hm) he
theorem impl_BinarySearch_eq {R : Type} {n : Nat} {l : List ByteArray} (s : ByteArray) (hp : SortedS l) (hl : l.length ≤ 1048576) (hn : l.length < n) (k : Int → Bool → Option R) : slices_BinarySearch_string n l s k = k (posF s l : Int) (l.any fun o => eqS o s) := by
  unfold slices_BinarySearch_string
  have hle := posF_le s l
  have := bin_loop hl (posF_lt s l) (posF_ge s l hp) (l.length : Int) (fun r2 r3 r4 r5 => (bif (decide (r5 < r4)) then (bif decide (0 ≤ r5) then (bif decide (r5 < (r2.length : Int)) then (bif ((ByteArray.toList (r2.getD (Int.toNat r5) ByteArray.empty)) == (ByteArray.toList r3)) then k r5 true else (bif decide (0 ≤ r5) then (bif decide (r5 < (r2.length : Int)) then (slices_isNaN_string n (r2.getD (Int.toNat r5) ByteArray.empty) fun r6 => (bif r6 then (slices_isNaN_string n r3 fun r7 => k r5 r7) else k r5 false)) else none) else none)) else none) else none) else k r5 false)) l.length n 0 l.length (by omega) (by omega) (by omega) hle (by omega)
  rw [show ((0 : Nat) : Int) = 0 from rfl] at this
  rw [this]
  cases ha : l.any fun o => eqS o s with
  | true =>
    obtain ⟨h1, h2⟩ := mem_of_pos hp (any_mem.1 ha)
    rw [nthS_at l h1] at h2
    rw [dlt h1, dnn, getD_at _ _ h1, h2, beq_self_eq_true]; rfl
  | false =>
    by_cases h1 : posF s l < l.length
    · have hne : l[posF s l] ≠ s := fun e => any_nmem ha (e ▸ List.getElem_mem h1)
      have := eqS_ne hne
      rw [dlt h1, dnn, getD_at _ _ h1, show (ByteArray.toList l[posF s l] == ByteArray.toList s) = eqS l[posF s l] s from rfl, this]
      simp only [cond_true, cond_false, slices_isNaN_string, beq_self_eq_true, Bool.not_true]
    · rw [decide_eq_false (show ¬ (posF s l : Int) < (l.length : Int) by omega)]; rfl
def tmG (s : ByteArray) : Bool → List ByteArray → List ByteArray
  | b, [] => if b = true then [] else [s]
  | b, e :: l => if eqS e s = true then tmG s b l else if b = false ∧ (ltS e s || eqS e s) = false then s :: e :: tmG s true l else e :: tmG s b l
def timF (l : List ByteArray) (s : ByteArray) : List ByteArray := tmG s (l.any fun o => eqS o s) l
theorem tmG_none {s : ByteArray} : ∀ {l : List ByteArray}, s ∉ l → tmG s true l = l
  | [], _ => rfl
  | e :: l, h => by
    rw [tmG, if_neg (fun h1 => h (by rw [eqS_iff.1 h1]; exact List.mem_cons_self)), if_neg (by simp), tmG_none (fun h1 => h (List.mem_cons_of_mem _ h1))]
theorem tmG_found {s : ByteArray} : ∀ {l : List ByteArray}, SortedS l → s ∈ l → tmG s true l = l.take (posF s l) ++ l.drop (posF s l + 1)
  | [], _, h => by cases h
  | e :: l, hp, h => by
    obtain ⟨h1, h2⟩ := List.pairwise_cons.1 hp
    by_cases he : ltS e s = true
    · rcases List.mem_cons.1 h with rfl | hm
      · rw [ltS_irrefl] at he; cases he
      · rw [tmG, if_neg (by rw [eqS_ne (ltS_ne he)]; simp), if_neg (by simp), tmG_found h2 hm, posF, if_pos he]
        rfl
    · rcases List.mem_cons.1 h with rfl | hm
      · have hn : s ∉ l := fun h3 => by have := h1 s h3; rw [ltS_irrefl] at this; cases this
        rw [tmG, if_pos (eqS_refl s), tmG_none hn, posF, if_neg he]
        rfl
      · exact absurd (h1 s hm) he
theorem tmG_not {s : ByteArray} : ∀ {l : List ByteArray}, s ∉ l → tmG s false l = l.take (posF s l) ++ [s] ++ l.drop (posF s l)
  | [], _ => rfl
  | e :: l, h => by
    have hne : e ≠ s := fun h1 => h (by rw [h1]; exact List.mem_cons_self)
    have hl : s ∉ l := fun h1 => h (List.mem_cons_of_mem _ h1)
    rw [tmG, if_neg (by rw [eqS_ne hne]; simp)]
    by_cases he : ltS e s = true
    · rw [if_neg (by rw [he]; simp), tmG_not hl, posF, if_pos he]
      rfl
    · rw [if_pos ⟨rfl, by rw [eqS_ne hne, Bool.or_false]; simpa using he⟩, tmG_none hl, posF, if_neg he]
      rfl
theorem tmG_mem {s : ByteArray} : ∀ {l : List ByteArray} {b : Bool}, (∀ x ∈ tmG s b l, x = s ∨ x ∈ l) ∧ (tmG s b l).length ≤ l.length + 1
  | [], b => by cases b <;> simp [tmG]
  | e :: l, b => by
    have i1 := tmG_mem (s := s) (l := l) (b := b)
    have i2 := tmG_mem (s := s) (l := l) (b := true)
    have i3 : (tmG s true l).length ≤ l.length := by
      clear i1 i2
      induction l with
      | nil => simp [tmG]
      | cons a l ih =>
        rw [tmG]
        split
        · simp; omega
        · rw [if_neg (by simp)]; simp; omega
    rw [tmG]
    split
    · refine ⟨fun x hx => ?_, by simp; omega⟩
      rcases i1.1 x hx with h | h
      · exact .inl h
      · exact .inr (List.mem_cons_of_mem _ h)
    · split
      · refine ⟨fun x hx => ?_, by simp; omega⟩
        rcases List.mem_cons.1 hx with h | hx
        · exact .inl h
        · rcases List.mem_cons.1 hx with h | hx
          · rw [h]; exact .inr List.mem_cons_self
          · rcases i2.1 x hx with h | h
            · exact .inl h
            · exact .inr (List.mem_cons_of_mem _ h)
      · refine ⟨fun x hx => ?_, by simp; omega⟩
        rcases List.mem_cons.1 hx with h | hx
        · rw [h]; exact .inr List.mem_cons_self
        · rcases i1.1 x hx with h | h
          · exact .inl h
          · exact .inr (List.mem_cons_of_mem _ h)
theorem spec_At_ex {R : Type} (l : List ByteArray) (s : ByteArray) (hl : l.length ≤ 1048576) (kk : Bool → Option R) : ∀ (c n j : Nat), c < n → j + c = l.length → spec_l12At_l2 n s l (l.length : Int) (j : Int) (fun r => kk (decide (r ≥ 0))) (kk (decide ((-1 : Int) ≥ 0))) = kk ((l.drop j).any fun o => eqS o s)
  | c, 0, _, h, _ => by omega
  | 0, n + 1, j, hn, hj => by rw [spec_l12At_l2, dge (by omega), List.drop_eq_nil_iff.2 (by omega)]; rfl
  | c + 1, n + 1, j, hn, hj => by
    have h : j < l.length := by omega
    rw [spec_l12At_l2, dlt h, dnn, getD_at _ _ h, wrapS h (by omega), List.drop_eq_getElem_cons h, List.any_cons, show (ByteArray.toList l[j] == ByteArray.toList s) = eqS l[j] s from rfl]
    simp only [cond_true]
    cases eqS l[j] s with
    | false => exact spec_At_ex l s hl kk c n (j + 1) (by omega) (by omega)
    | true => simp only [cond_true, decide_eq_true (show (j : Int) ≥ 0 by omega), Bool.true_or]
theorem spec_At_eq {R : Type} {n : Nat} {l : List ByteArray} (s : ByteArray) (hl : l.length ≤ 1048576) (hn : l.length < n) (kk : Bool → Option R) : (spec_l12At n l s fun r => kk (decide (r ≥ 0))) = kk (l.any fun o => eqS o s) := by
  unfold spec_l12At
  have := spec_At_ex l s hl kk l.length n 0 (by omega) (by omega)
  rw [show ((0 : Nat) : Int) = 0 from rfl, List.drop_zero] at this
  exact this
theorem timer_loop {R : Type} (l : List ByteArray) (s : ByteArray) (hl : l.length ≤ 1048576) (k : List ByteArray → Option R) : ∀ (c n j : Nat) (b : Bool) (out : List ByteArray), c < n → j + c = l.length → out.length + (if b = true then 0 else 1) ≤ j + 1 →
    spec_l12Timer_l4 n s b l (l.length : Int) (j : Int) out (fun r2 r3 r4 => (bif (!r3) then (bif decide (r4.length + [r2].length ≤ LIM) then k (r4 ++ [r2]) else none) else k r4)) = k (out ++ tmG s b (l.drop j))
  | c, 0, _, _, _, h, _, _ => by omega
  | 0, n + 1, j, b, out, hn, hj, ho => by
    have ho' : out.length ≤ j + 1 := by omega
    rw [spec_l12Timer_l4, dge (by omega), List.drop_eq_nil_iff.2 (by omega), cond_false, tmG, decide_eq_true (show out.length + [s].length ≤ LIM by simp [LIM]; omega)]
    cases b <;> simp
  | c + 1, n + 1, j, b, out, hn, hj, ho => by
    have h : j < l.length := by omega
    have ho' : out.length ≤ j + 1 := by omega
    rw [spec_l12Timer_l4, dlt h, dnn, getD_at _ _ h, wrapS h (by omega), List.drop_eq_getElem_cons h, tmG, show (ByteArray.toList l[j] == ByteArray.toList s) = eqS l[j] s from rfl, show Op.bytesLess (ByteArray.toList l[j]) (ByteArray.toList s) = ltS l[j] s from rfl,
      decide_eq_true (show out.length + [s].length ≤ LIM by simp [LIM]; omega), decide_eq_true (show (out ++ [s]).length + [l[j]].length ≤ LIM by simp [LIM]; omega), decide_eq_true (show out.length + [l[j]].length ≤ LIM by simp [LIM]; omega)]
    simp only [cond_true]
    cases he : eqS l[j] s with
    | true =>
      rw [cond_true, if_pos rfl]
      exact timer_loop l s hl k c n (j + 1) b out (by omega) (by omega) (by omega)
    | false =>
      rw [cond_false, if_neg (by simp)]
      cases b with
      | true =>
        rw [if_neg (by simp)]
        simp only [Bool.not_true, cond_false]
        rw [timer_loop l s hl k c n (j + 1) true (out ++ [l[j]]) (by omega) (by omega) (by simp at ho ⊢; omega)]
        simp
      | false =>
        cases hb : ltS l[j] s with
        | true =>
          rw [if_neg (by simp)]
          simp only [Bool.not_false, cond_true, Bool.or_false, Bool.not_true, cond_false]
          rw [timer_loop l s hl k c n (j + 1) false (out ++ [l[j]]) (by omega) (by omega) (by simp at ho ⊢; omega)]
          simp
        | false =>
          rw [if_pos (by simp)]
          simp only [Bool.not_false, cond_true, Bool.or_false, Bool.or_self]
          rw [timer_loop l s hl k c n (j + 1) true ((out ++ [s]) ++ [l[j]]) (by omega) (by omega) (by simp at ho ⊢; omega)]
          simp
theorem spec_Timer_eq {R : Type} {n : Nat} {l : List ByteArray} (s : ByteArray) (hl : l.length ≤ 1048576) (hn : l.length < n) (k : List ByteArray → Option R) : spec_l12Timer n l s k = k (timF l s) := by
  unfold spec_l12Timer timF
  rw [spec_At_eq s hl hn fun b => spec_l12Timer_l4 n s b l (l.length : Int) 0 ([] : List ByteArray) (fun r2 r3 r4 => (bif (!r3) then (bif decide (r4.length + [r2].length ≤ LIM) then k (r4 ++ [r2]) else none) else k r4))]
  have := timer_loop l s hl k l.length n 0 (l.any fun o => eqS o s) [] (by omega) (by omega) (by simp; split <;> omega)
  rw [show ((0 : Nat) : Int) = 0 from rfl, List.drop_zero, List.nil_append] at this
  exact this
abbrev St := Int × Int × Bool × Int × List ByteArray × List ByteArray
def goodS (q : St) : Bool := goodSt q.1 q.2.1 q.2.2.1 q.2.2.2.1 q.2.2.2.2.1 q.2.2.2.2.2
abbrev InS (q : St) : Prop := StateIn q.2.2.2.2.1 q.2.2.2.2.2
/-- What an event of a kind makes of a state. -/
def evF (q : St) (kd : Int) (s : ByteArray) : Option St :=
  if kd = 1 then some (1, q.2.1 + 1, q.2.2.1, q.2.2.2.1, q.2.2.2.2.1, q.2.2.2.2.2)
  else if kd = 2 then (if (q.2.2.2.2.1.any fun o => eqS o s) = true ∨ q.2.2.2.2.1.length = 30 then none else some (q.1, q.2.1 + 1, q.2.2.1, q.2.2.2.1, q.2.2.2.2.1 ++ [s], q.2.2.2.2.2))
  else if kd = 3 then some (q.1, q.2.1 + 1, q.2.2.1, q.2.2.2.1 + 1, q.2.2.2.2.1, q.2.2.2.2.2)
  else if kd = 4 then some (q.1, q.2.1 + 1, q.2.2.1, q.2.2.2.1, q.2.2.2.2.1, timF q.2.2.2.2.2 s)
  else if kd = 5 then (if q.2.2.1 = true then none else some (q.1, q.2.1 + 1, true, q.2.2.2.1, q.2.2.2.2.1, q.2.2.2.2.2))
  else some (2, q.2.1 + 1, q.2.2.1, q.2.2.2.1, q.2.2.2.2.1, [])
def apF (q : St) (kd : Int) (s : ByteArray) : Option St :=
  if q.2.1 ≤ 1000 ∧ (kd = 1 ↔ q.1 = 0) ∧ q.1 ≠ 2 then (evF q kd s).filter goodS else none
theorem goodS_in {q : St} (h : goodS q = true) : InS q ∧ (1 ≤ q.2.1 ∧ q.2.1 ≤ 1001) ∧ (0 ≤ q.2.2.2.1 ∧ q.2.2.2.1 ≤ 1000) ∧ (0 ≤ q.1 ∧ q.1 ≤ 2) ∧ SortedS q.2.2.2.2.2 ∧ q.2.2.2.2.1.length ≤ 30 ∧ q.2.2.2.2.2.length ≤ 30 := by
  unfold goodS goodSt namesF at h
  simp only [Bool.and_eq_true, decide_eq_true_eq, Bool.not_true, Bool.false_or] at h
  obtain ⟨⟨⟨⟨⟨h1, h2⟩, h3⟩, ⟨⟨⟨h4, h5⟩, h6⟩, h7⟩⟩, ⟨⟨h8, h9⟩, h10⟩, h11⟩, _⟩ := h
  have sz : ∀ {l : List ByteArray}, l.all goodN = true → ∀ x ∈ l, x.size ≤ 1048576 := fun h x hx => by
    have := List.all_eq_true.1 h x hx
    simp only [goodN, Bool.and_eq_true, decide_eq_true_eq] at this
    omega
  exact ⟨⟨⟨by omega, sz h4⟩, ⟨by omega, sz h8⟩⟩, h1, h2, h3, sortedS_of h10 h9, by omega, by omega⟩
theorem goodS_len {q : St} (h : 30 < q.2.2.2.2.2.length) : goodS q = false := by
  cases h1 : goodS q with
  | false => rfl
  | true => have := (goodS_in h1).2.2.2.2.2.2; omega
theorem timF_in {l : List ByteArray} {s : ByteArray} (h : StrsIn l) (hl : l.length ≤ 30) (hs : s.size ≤ 1048576) : StrsIn (timF l s) := by
  have := tmG_mem (s := s) (l := l) (b := l.any fun o => eqS o s)
  refine ⟨by unfold timF; omega, fun x hx => ?_⟩
  rcases this.1 x hx with h1 | h1
  · rw [h1]; exact hs
  · exact h.size x h1
theorem app_in {l : List ByteArray} {s : ByteArray} (h : StrsIn l) (hl : l.length ≤ 30) (hs : s.size ≤ 1048576) : StrsIn (l ++ [s]) := by
  refine ⟨by simp; omega, fun x hx => ?_⟩
  rcases List.mem_append.1 hx with h1 | h1
  · exact h.size x h1
  · rw [List.mem_singleton.1 h1]; exact hs
theorem evF_in {q q' : St} {kd : Int} {s : ByteArray} (hg : goodS q = true) (hs : s.size ≤ 1048576) (h : evF q kd s = some q') : InS q' := by
  obtain ⟨hi, _, _, _, _, h5, h6⟩ := goodS_in hg
  have h0 : StrsIn [] := ⟨by simp, by simp⟩
  unfold evF at h
  repeat' split at h
  all_goals first
    | cases h; exact hi
    | (cases h; exact ⟨app_in hi.s h5 hs, hi.t⟩)
    | (cases h; exact ⟨hi.s, timF_in hi.t h6 hs⟩)
    | (cases h; exact ⟨hi.s, h0⟩)
    | cases h
theorem spec_Own_eq {R : Type} {n : Nat} {sg tm : List ByteArray} (h : StateIn sg tm) (st nx : Int) (ca : Bool) (dn : Int) (k : Int → Int → Bool → Int → List ByteArray → List ByteArray → Option R) : spec_l12Own n st nx ca dn sg tm k = k st nx ca dn sg tm := by
  have h1 := h.s.len; have h2 := h.t.len
  unfold spec_l12Own
  rw [decide_eq_true (show ([] : List ByteArray).length + sg.length ≤ LIM by simp [LIM]; omega), decide_eq_true (show ([] : List ByteArray).length + tm.length ≤ LIM by simp [LIM]; omega), List.nil_append, List.nil_append]
  rfl
abbrev KS (R : Type) := Int → Int → Bool → Int → List ByteArray → List ByteArray → Bool → Option R
def putS {R : Type} (k : KS R) (q : St) (b : Bool) : Option R := k q.1 q.2.1 q.2.2.1 q.2.2.2.1 q.2.2.2.2.1 q.2.2.2.2.2 b
theorem told_good (n : Nat) (hn : 3000000 ≤ n) (q : St) (h : InS q) : ∃ t : St, ∀ (R : Type) (k : KS R), (spec_GoodState n q.1 q.2.1 q.2.2.1 q.2.2.2.1 q.2.2.2.2.1 q.2.2.2.2.2 fun r => putS k q r) = match (some q : Option St).filter goodS with
  | some q => putS k q true
  | none => putS k t false := by
  refine ⟨q, fun R k => ?_⟩
  rw [spec_GoodState_eq h _ _ _ _ hn, Option.filter_some]
  show putS k q (goodS q) = _
  cases goodS q <;> rfl
theorem spec_Apply_ex {n : Nat} (hn : 3000000 ≤ n) {q : St} (hg : goodS q = true) (id ver kd : Int) {s : ByteArray} (hs : s.size ≤ 1048576) :
    ∃ t : St, ∀ (R : Type) (k : KS R), spec_l12Apply n q.1 q.2.1 q.2.2.1 q.2.2.2.1 q.2.2.2.2.1 q.2.2.2.2.2 id ver kd s k = match (if goodEv (id, ver, kd, s) = true ∧ id = q.2.1 then apF q kd s else none) with
      | some q => putS k q true
      | none => putS k t false := by
  obtain ⟨hi, h1, h2, h3, h4, h5, h6⟩ := goodS_in hg
  unfold spec_l12Apply
  simp only [spec_GoodEvent_eq id ver kd s hs (show 2000000 ≤ n by omega)]
  cases hev : goodEv (id, ver, kd, s) with
  | false => exact ⟨q, fun R k => by rw [if_neg (by simp)]; rfl⟩
  | true =>
  have hev' := hev
  simp only [goodEv, Bool.and_eq_true, decide_eq_true_eq] at hev'
  by_cases hid : id = q.2.1
  case neg => exact ⟨q, fun R k => by rw [if_neg (fun h => hid h.2), show (id != q.2.1) = true by simpa using hid]; rfl⟩
  have c0 : (id != q.2.1) = false := by simpa using hid
  rw [if_pos ⟨rfl, hid⟩]
  by_cases hk : (kd = 1 ↔ q.1 = 0)
  case neg => exact ⟨q, fun R k => by
      rw [show apF q kd s = none by unfold apF; rw [if_neg (fun h => hk h.2.1)], c0, show ((kd == 1) == (q.1 == 0)) = false by
        rw [beq_eq_false_iff_ne]; intro e
        apply hk
        rw [← beq_iff_eq (a := kd), ← beq_iff_eq (a := q.1), e]]
      rfl⟩
  have c1 : ((kd == 1) == (q.1 == 0)) = true := by
    rw [beq_iff_eq, Bool.eq_iff_iff, beq_iff_eq, beq_iff_eq]; exact hk
  by_cases h20 : q.1 = 2
  · exact ⟨q, fun R k => by rw [show apF q kd s = none by unfold apF; rw [if_neg (fun h => h.2.2 h20)], c0, c1, show (q.1 == 2) = true by simp [h20]]; rfl⟩
  have c2 : (q.1 == 2) = false := by simpa using h20
  have hap : apF q kd s = (evF q kd s).filter goodS := by unfold apF; rw [if_pos ⟨by omega, hk, h20⟩]
  have hin : ∀ q', evF q kd s = some q' → InS q' := fun q' h => evF_in hg hs h
  have wnx : IntKind.wrap .i64 (q.2.1 + 1) = q.2.1 + 1 := wrap64 (by omega) (by omega)
  have wdn : IntKind.wrap .i64 (q.2.2.2.1 + 1) = q.2.2.2.1 + 1 := wrap64 (by omega) (by omega)
  simp only [c0, c1, c2, Bool.not_true, cond_false, spec_Own_eq hi, wnx, wdn, hap]
  unfold evF at hin ⊢
  by_cases k1 : kd = 1
  · rw [if_pos k1] at hin ⊢
    simp only [show (kd == 1) = true by simp [k1], cond_true]
    exact told_good n hn _ (hin _ rfl)
  rw [if_neg k1] at hin ⊢
  simp only [show (kd == 1) = false by simpa using k1, cond_false]
  by_cases k2 : kd = 2
  · rw [if_pos k2] at hin ⊢
    simp only [show (kd == 2) = true by simp [k2], cond_true]
    have hat := fun (R : Type) (k : KS R) => spec_At_eq (R := R) (n := n) (l := q.2.2.2.2.1) s (by omega) (by omega) fun b => (bif b then k q.1 q.2.1 q.2.2.1 q.2.2.2.1 q.2.2.2.2.1 q.2.2.2.2.2 false else (bif ((q.2.2.2.2.1.length : Int) == 30) then k q.1 q.2.1 q.2.2.1 q.2.2.2.1 q.2.2.2.2.1 q.2.2.2.2.2 false else (bif decide (q.2.2.2.2.1.length + [s].length ≤ LIM) then (spec_GoodState n q.1 (q.2.1 + 1) q.2.2.1 q.2.2.2.1 (q.2.2.2.2.1 ++ [s]) q.2.2.2.2.2 fun r10 => k q.1 (q.2.1 + 1) q.2.2.1 q.2.2.2.1 (q.2.2.2.2.1 ++ [s]) q.2.2.2.2.2 r10) else none)))
    simp only [hat]
    by_cases hm : s ∈ q.2.2.2.2.1
    · rw [if_pos (.inl (any_mem.2 hm))]
      exact ⟨q, fun R k => by rw [any_mem.2 hm]; rfl⟩
    · have ha : (q.2.2.2.2.1.any fun o => eqS o s) = false := by
        cases h : q.2.2.2.2.1.any fun o => eqS o s with
        | false => rfl
        | true => exact absurd (any_mem.1 h) hm
      rw [ha]
      by_cases h30 : q.2.2.2.2.1.length = 30
      · rw [if_pos (.inr h30)]
        exact ⟨q, fun R k => by rw [show ((q.2.2.2.2.1.length : Int) == 30) = true by simp [h30]]; rfl⟩
      · rw [ha, if_neg (fun h => h.elim (fun h => by cases h) h30)] at hin
        rw [if_neg (fun h => h.elim (fun h => by cases h) h30)]
        simp only [show ((q.2.2.2.2.1.length : Int) == 30) = false by simp; omega, cond_false, decide_eq_true (show q.2.2.2.2.1.length + [s].length ≤ LIM by simp [LIM]; omega), cond_true]
        exact told_good n hn _ (hin _ rfl)
  rw [if_neg k2] at hin ⊢
  simp only [show (kd == 2) = false by simpa using k2, cond_false]
  by_cases k3 : kd = 3
  · rw [if_pos k3] at hin ⊢
    simp only [show (kd == 3) = true by simp [k3], cond_true]
    exact told_good n hn _ (hin _ rfl)
  rw [if_neg k3] at hin ⊢
  simp only [show (kd == 3) = false by simpa using k3, cond_false]
  by_cases k4 : kd = 4
  · rw [if_pos k4] at hin ⊢
    simp only [show (kd == 4) = true by simp [k4], cond_true, spec_Timer_eq s (show q.2.2.2.2.2.length ≤ 1048576 by omega) (show q.2.2.2.2.2.length < n by omega)]
    exact told_good n hn _ (hin _ rfl)
  rw [if_neg k4] at hin ⊢
  simp only [show (kd == 4) = false by simpa using k4, cond_false]
  by_cases k5 : kd = 5
  · rw [if_pos k5] at hin ⊢
    simp only [show (kd == 5) = true by simp [k5], cond_true]
    cases hca : q.2.2.1 with
    | true =>
      rw [if_pos rfl]
      exact ⟨q, fun R k => by simp only [cond_true, putS, hca]; rfl⟩
    | false =>
      rw [hca, if_neg (by simp)] at hin
      rw [if_neg (by simp)]
      exact told_good n hn _ (hin _ rfl)
  rw [if_neg k5] at hin ⊢
  simp only [show (kd == 5) = false by simpa using k5, cond_false]
  exact told_good n hn _ (hin _ rfl)
theorem clone_eq {R : Type} {n : Nat} {sg tm : List ByteArray} (h : StateIn sg tm) (st nx : Int) (ca : Bool) (dn : Int) (k : Int → Int → Bool → Int → List ByteArray → List ByteArray → Option R) : impl_cloneState n st nx ca dn sg tm k = k st nx ca dn sg tm := by
  have h1 := h.s.len; have h2 := h.t.len
  unfold impl_cloneState slices_Clone_string
  rw [decide_eq_true (show 0 + sg.length ≤ LIM by simp [LIM]; omega), decide_eq_true (show 0 + tm.length ≤ LIM by simp [LIM]; omega)]
  rfl
theorem impl_turnTimer_eq2 {R : Type} {n : Nat} {tm : List ByteArray} (s : ByteArray) (hp : SortedS tm) (hl : tm.length ≤ 1048576) (hn : tm.length < n) (sg : List ByteArray) (st nx : Int) (ca : Bool) (dn : Int) (k : Bool → List ByteArray → List ByteArray → Int → Int → Bool → Int → Option R) :
    impl_State_turnTimer n s sg tm st nx ca dn k = if (tm.any fun o => eqS o s) = false ∧ tm.length = 30 then k false sg tm st nx ca dn else k true sg (timF tm s) st nx ca dn := by
  unfold impl_State_turnTimer
  rw [impl_BinarySearch_eq s hp hl hn]
  have hle := posF_le s tm
  by_cases hm : s ∈ tm
  · obtain ⟨h1, h2⟩ := mem_of_pos hp hm
    rw [any_mem.2 hm, cond_true, if_neg (fun h => by cases h.1), timF, any_mem.2 hm, tmG_found hp hm]
    unfold slices_Delete_string
    rw [wrapS h1 (by omega), dnn, decide_eq_true (show (posF s tm : Int) < ((posF s tm + 1 : Nat) : Int) by omega), decide_eq_true (show ((posF s tm + 1 : Nat) : Int) ≤ (tm.length : Int) by omega), Int.toNat_natCast, Int.toNat_natCast]
    rfl
  · have ha : (tm.any fun o => eqS o s) = false := by
      cases h : tm.any fun o => eqS o s with
      | false => rfl
      | true => exact absurd (any_mem.1 h) hm
    rw [ha, cond_false]
    by_cases h30 : tm.length = 30
    · rw [if_pos ⟨rfl, h30⟩, show ((tm.length : Int) == 30) = true by simp [h30]]; rfl
    · rw [if_neg (fun h => h30 h.2), show ((tm.length : Int) == 30) = false by simp; omega, timF, ha, tmG_not hm]
      unfold slices_Insert_string
      rw [dnn, decide_eq_true (show (posF s tm : Int) ≤ (tm.length : Int) by omega), decide_eq_true (show 0 < [s].length by simp), decide_eq_true (show tm.length + [s].length ≤ LIM by simp [LIM]; omega), Int.toNat_natCast]
      rfl
abbrev KI2 (R : Type) := Bool → List ByteArray → List ByteArray → Int → Int → Bool → Int → Option R
def putI2 {R : Type} (k : KI2 R) (q : St) (b : Bool) : Option R := k b q.2.2.2.2.1 q.2.2.2.2.2 q.1 q.2.1 q.2.2.1 q.2.2.2.1
theorem impl_apply_ex2 {n : Nat} (hn : 3000000 ≤ n) {q : St} (hg : goodS q = true) {kd : Int} (hkd : 1 ≤ kd ∧ kd ≤ 6) {s : ByteArray} (hs : s.size ≤ 1048576) :
    (∃ q', (∀ (R : Type) (k : KI2 R), impl_State_apply n kd s q.2.2.2.2.1 q.2.2.2.2.2 q.1 q.2.1 q.2.2.1 q.2.2.2.1 k = putI2 k q' true) ∧ InS q' ∧ apF q kd s = (some q' : Option St).filter goodS) ∨
    (apF q kd s = none ∧ ∃ t, ∀ (R : Type) (k : KI2 R), impl_State_apply n kd s q.2.2.2.2.1 q.2.2.2.2.2 q.1 q.2.1 q.2.2.1 q.2.2.2.1 k = putI2 k t false) := by
  obtain ⟨hi, h1, h2, h3, h4, h5, h6⟩ := goodS_in hg
  unfold impl_State_apply
  by_cases hnx : q.2.1 ≤ 1000
  case neg => exact .inr ⟨by unfold apF; rw [if_neg (fun h => hnx h.1)], q, fun R k => by rw [decide_eq_true (show q.2.1 > 1000 by omega)]; rfl⟩
  simp only [decide_eq_false (show ¬ q.2.1 > 1000 by omega), cond_false]
  by_cases hk : (kd = 1 ↔ q.1 = 0)
  case neg => exact .inr ⟨by unfold apF; rw [if_neg (fun h => hk h.2.1)], q, fun R k => by
      rw [show ((kd == 1) == (q.1 == 0)) = false by
        rw [beq_eq_false_iff_ne]; intro e
        apply hk
        rw [← beq_iff_eq (a := kd), ← beq_iff_eq (a := q.1), e]]
      rfl⟩
  have c1 : ((kd == 1) == (q.1 == 0)) = true := by
    rw [beq_iff_eq, Bool.eq_iff_iff, beq_iff_eq, beq_iff_eq]; exact hk
  simp only [c1, Bool.not_true, cond_false]
  have wnx : IntKind.wrap .i64 (q.2.1 + 1) = q.2.1 + 1 := wrap64 (by omega) (by omega)
  have wdn : IntKind.wrap .i64 (q.2.2.2.1 + 1) = q.2.2.2.1 + 1 := wrap64 (by omega) (by omega)
  by_cases k1 : kd = 1
  · have hap : apF q kd s = (evF q kd s).filter goodS := by unfold apF; rw [if_pos ⟨hnx, hk, by have := hk.1 k1; omega⟩]
    refine .inl ⟨_, fun R k => ?_, evF_in (kd := kd) hg hs (by unfold evF; rw [if_pos k1]), by rw [hap, evF, if_pos k1]⟩
    rw [show (kd != 1) = false by simpa using k1, show (kd == 1) = true by simpa using k1, wnx]
    rfl
  have hst0 : q.1 ≠ 0 := fun h => k1 (hk.2 h)
  by_cases h20 : q.1 = 2
  · exact .inr ⟨by unfold apF; rw [if_neg (fun h => h.2.2 h20)], q, fun R k => by rw [show (kd != 1) = true by simpa using k1, show (q.1 != 1) = true by simp [h20]]; rfl⟩
  have hap : apF q kd s = (evF q kd s).filter goodS := by unfold apF; rw [if_pos ⟨hnx, hk, h20⟩]
  have hin : ∀ q', evF q kd s = some q' → InS q' := fun q' h => evF_in hg hs h
  simp only [show (kd != 1) = true by simpa using k1, show (q.1 != 1) = false by simp; omega, cond_true, cond_false, show (kd == 1) = false by simpa using k1, hap, wnx, wdn]
  unfold evF at hin ⊢
  rw [if_neg k1] at hin ⊢
  by_cases k2 : kd = 2
  · rw [if_pos k2] at hin ⊢
    simp only [show (kd == 2) = true by simp [k2], cond_true, impl_containsS s (show q.2.2.2.2.1.length ≤ 1048576 by omega) (show q.2.2.2.2.1.length < n by omega)]
    by_cases hm : s ∈ q.2.2.2.2.1
    · rw [if_pos (.inl (any_mem.2 hm))]
      exact .inr ⟨rfl, q, fun R k => by rw [any_mem.2 hm]; rfl⟩
    · have ha : (q.2.2.2.2.1.any fun o => eqS o s) = false := by
        cases h : q.2.2.2.2.1.any fun o => eqS o s with
        | false => rfl
        | true => exact absurd (any_mem.1 h) hm
      rw [ha]
      by_cases h30 : q.2.2.2.2.1.length = 30
      · rw [if_pos (.inr h30)]
        exact .inr ⟨rfl, q, fun R k => by rw [show ((q.2.2.2.2.1.length : Int) == 30) = true by simp [h30]]; rfl⟩
      · rw [ha, if_neg (fun h => h.elim (fun h => by cases h) h30)] at hin
        rw [if_neg (fun h => h.elim (fun h => by cases h) h30)]
        simp only [show ((q.2.2.2.2.1.length : Int) == 30) = false by simp; omega, cond_false, decide_eq_true (show q.2.2.2.2.1.length + [s].length ≤ LIM by simp [LIM]; omega), cond_true]
        exact .inl ⟨_, fun R k => rfl, hin _ rfl, rfl⟩
  rw [if_neg k2] at hin ⊢
  simp only [show (kd == 2) = false by simpa using k2, cond_false]
  by_cases k3 : kd = 3
  · rw [if_pos k3] at hin ⊢
    simp only [show (kd == 3) = true by simp [k3], cond_true]
    exact .inl ⟨_, fun R k => rfl, hin _ rfl, rfl⟩
  rw [if_neg k3] at hin ⊢
  simp only [show (kd == 3) = false by simpa using k3, cond_false]
  by_cases k4 : kd = 4
  · rw [if_pos k4] at hin ⊢
    simp only [show (kd == 4) = true by simp [k4], cond_true, impl_turnTimer_eq2 s h4 (show q.2.2.2.2.2.length ≤ 1048576 by omega) (show q.2.2.2.2.2.length < n by omega)]
    by_cases c : (q.2.2.2.2.2.any fun o => eqS o s) = false ∧ q.2.2.2.2.2.length = 30
    · have ha := c.1
      refine .inr ⟨?_, q, fun R k => by rw [if_pos c]; rfl⟩
      rw [Option.filter_some, goodS_len (q := (q.1, q.2.1 + 1, q.2.2.1, q.2.2.2.1, q.2.2.2.2.1, timF q.2.2.2.2.2 s)) (by
        show 30 < (timF q.2.2.2.2.2 s).length
        rw [timF, ha, tmG_not (any_nmem ha)]
        have := posF_le s q.2.2.2.2.2
        simp; omega)]
      rfl
    · exact .inl ⟨_, fun R k => by rw [if_neg c, Bool.not_true, cond_false, wnx]; rfl, hin _ rfl, rfl⟩
  rw [if_neg k4] at hin ⊢
  simp only [show (kd == 4) = false by simpa using k4, cond_false]
  by_cases k5 : kd = 5
  · rw [if_pos k5] at hin ⊢
    simp only [show (kd == 5) = true by simp [k5], cond_true]
    cases hca : q.2.2.1 with
    | true =>
      rw [if_pos rfl]
      exact .inr ⟨rfl, q, fun R k => by simp only [cond_true, putI2, hca]⟩
    | false =>
      rw [hca, if_neg (by simp)] at hin
      rw [if_neg (by simp)]
      exact .inl ⟨_, fun R k => rfl, hin _ rfl, rfl⟩
  rw [if_neg k5] at hin ⊢
  simp only [show (kd == 5) = false by simpa using k5, cond_false, show (kd == 6) = true by simp; omega, cond_true]
  exact .inl ⟨_, fun R k => rfl, hin _ rfl, rfl⟩
theorem laws_szState_eq {R : Type} {n : Nat} (hn : 3000000 ≤ n) (st nx : Int) (ca : Bool) (dn : Int) {sg tm : List ByteArray} (h1 : sg.length ≤ 9223372036854775807) (h2 : ∀ x ∈ sg, x.size ≤ 9223372036854775807) (h3 : tm.length ≤ 9223372036854775807) (h4 : ∀ x ∈ tm, x.size ≤ 9223372036854775807) (k : Int → Option R) :
    laws_szState n st nx ca dn sg tm 1048576 k = k (-1) ∨ (StateIn sg tm ∧ ∃ q, 0 ≤ q ∧ q ≤ 1048576 ∧ laws_szState n st nx ca dn sg tm 1048576 k = k q) := by
  unfold laws_szState
  rcases laws_szS_eq (R := R) h1 h2 (q := 1048576) (by omega) (by omega) hn (fun r1 => (bif (decide (r1 < 0)) then k (-1) else (laws_szStringS n tm r1 fun r2 => (bif (decide (r2 < 0)) then k (-1) else k r2)))) with e | ⟨hs, q, q0, q1, e⟩
  · exact .inl (e.trans rfl)
  · rw [e, decide_eq_false (show ¬ q < 0 by omega), cond_false]
    rcases laws_szS_eq (R := R) h3 h4 q0 q1 hn (fun r2 => (bif (decide (r2 < 0)) then k (-1) else k r2)) with e2 | ⟨ht, q', q2, q3, e2⟩
    · exact .inl (e2.trans rfl)
    · rw [e2, decide_eq_false (show ¬ q' < 0 by omega), cond_false]
      exact .inr ⟨⟨hs, ht⟩, q', q2, q3, rfl⟩
theorem laws_toState_eq {R : Type} {n : Nat} (hn : 3000000 ≤ n) {sg tm : List ByteArray} (h : StateIn sg tm) (st nx : Int) (ca : Bool) (dn : Int) (k : Int → Int → Bool → Int → List ByteArray → List ByteArray → Option R) : laws_toState n st nx ca dn sg tm k = k st nx ca dn sg tm := by
  have h1 := h.s.len; have h2 := h.t.len
  unfold laws_toState
  rw [laws_toS_eq h1 (by omega), laws_toS_eq h2 (by omega)]
theorem laws_eqState_eq {R : Type} {n : Nat} (hn : 3000000 ≤ n) {sg tm : List ByteArray} (h : StateIn sg tm) (st nx : Int) (ca : Bool) (dn : Int) (k : Bool → Option R) : laws_eqState n st nx ca dn sg tm st nx ca dn sg tm k = k true := by
  have h1 := h.s.len; have h2 := h.t.len
  unfold laws_eqState
  simp only [beq_self_eq_true, bne_self_eq_false, Bool.not_true, cond_false, laws_eqS_eq (show sg.length ≤ 9223372036854775807 by omega) (show sg.length < n by omega), laws_eqS_eq (show tm.length ≤ 9223372036854775807 by omega) (show tm.length < n by omega)]
def mtF : Nat → Int → ByteArray → ByteArray
  | 0, _, t => t
  | c + 1, q, t => if q > 0 then mtF c (q / 10) (bytesOf [IntKind.wrap .u8 (IntKind.wrap .i64 (48 + Int.tmod q 10))] ++ t) else t
def mText (q : Int) : ByteArray := if q ≤ 0 then ByteArray.mk #[109, 48] else ByteArray.mk #[109] ++ mtF 9 q (ByteArray.mk #[])
theorem one_size (b : Int) : (bytesOf [b]).size = 1 := rfl
theorem mtF_size : ∀ (c : Nat) (q : Int) (t : ByteArray), (mtF c q t).size ≤ t.size + c
  | 0, _, _ => Nat.le_refl _
  | c + 1, q, t => by
    unfold mtF
    split
    · have := mtF_size c (q / 10) (bytesOf [IntKind.wrap .u8 (IntKind.wrap .i64 (48 + Int.tmod q 10))] ++ t)
      rw [ByteArray.size_append, one_size] at this
      omega
    · omega
theorem mark_text_loop : ∀ (c n : Nat) (q : Int) (t : ByteArray), c < n → 0 ≤ q → q < 10 ^ c → q ≤ 1000000000 → t.size + c ≤ 1000 → ∀ (R : Type) (k : ByteArray → Option R), laws_markText_l4 n q t k = k (mtF c q t)
  | c, 0, _, _, h, _, _, _, _, _, _ => by omega
  | 0, n + 1, q, t, hn, q0, q1, q2, ht, R, k => by rw [laws_markText_l4, decide_eq_false (show ¬ q > 0 by simp at q1; omega)]; rfl
  | c + 1, n + 1, q, t, hn, q0, q1, q2, ht, R, k => by
    unfold mtF
    by_cases h : q > 0
    · have hq : q / 10 < 10 ^ c := by
        have : (10 : Int) ^ (c + 1) = 10 ^ c * 10 := Int.pow_succ ..
        omega
      have ed : Int.tdiv q 10 = q / 10 := Int.tdiv_eq_ediv_of_nonneg q0
      have hs : ∀ b : Int, (bytesOf [b] ++ t).size = t.size + 1 := fun b => by rw [ByteArray.size_append, one_size]; omega
      rw [if_pos h, laws_markText_l4, decide_eq_true h, cond_true, one_size, decide_eq_true (show 1 + t.size ≤ STR by simp [STR]; omega), cond_true, ed, wrap64 (x := q / 10) (by omega) (by omega)]
      exact mark_text_loop c n (q / 10) _ (by omega) (by omega) hq (by omega) (by rw [hs]; omega) R k
    · rw [if_neg h, laws_markText_l4, decide_eq_false h]; rfl
theorem mark_text_eq {R : Type} {n : Nat} (hn : 100 ≤ n) {q : Int} (q1 : q ≤ 900000000) (k : ByteArray → Option R) : laws_markText n q k = k (mText q) := by
  unfold laws_markText mText
  by_cases h : q ≤ 0
  · rw [decide_eq_true h, cond_true, if_pos h]
  · have hsz := mtF_size 9 q (ByteArray.mk #[])
    have h0 : (ByteArray.mk #[]).size = 0 := rfl
    rw [decide_eq_false h, cond_false, if_neg h, mark_text_loop 9 n q (ByteArray.mk #[]) (by omega) (by omega) (by omega) (by omega) (by decide), decide_eq_true (show (ByteArray.mk #[109]).size + (mtF 9 q (ByteArray.mk #[])).size ≤ STR by
      have : (ByteArray.mk #[109]).size = 1 := rfl
      simp [STR]; omega)]
    rfl
def marksS : Nat → Int → List ByteArray
  | 0, _ => []
  | m + 1, q => mText q :: marksS m (q + 1)
theorem marksS_length : ∀ m q, (marksS m q).length = m
  | 0, _ => rfl
  | m + 1, q => by simp [marksS, marksS_length m]
theorem set_take_dropS {α : Type} {l : List α} {j : Nat} (h : j < l.length) (x : α) : (l.set j x).take (j + 1) = l.take j ++ [x] := by
  rw [List.take_set, List.take_succ_eq_append_getElem h, List.set_append_right _ _ (by simp; omega)]
  rw [show j - (l.take j).length = 0 by simp; omega]
  rfl
theorem markS_loop {R : Type} (ke : Int → List ByteArray → Option R) : ∀ (c n j : Nat) (l : List ByteArray) (q : Int), c + 200 < n → j + c = l.length → l.length ≤ 1048576 → 0 ≤ q → q + c ≤ 800000000 →
    laws_markStringS_l2 n q (j : Int) l ke = ke (q + c) (l.take j ++ marksS c q)
  | c, 0, _, _, _, h, _, _, _, _ => by omega
  | 0, n + 1, j, l, q, hn, hj, hl, q0, q1 => by
    rw [laws_markStringS_l2, dge (by omega), marksS, List.append_nil, List.take_of_length_le (by omega)]
    simp
  | c + 1, n + 1, j, l, q, hn, hj, hl, q0, q1 => by
    have h : j < l.length := by omega
    rw [laws_markStringS_l2, dlt h, cond_true, mark_text_eq (by omega) (by omega), dnn, wrapS h (by omega), Int.toNat_natCast, wrap64 (x := q + 1) (by omega) (by omega)]
    simp only [cond_true]
    rw [markS_loop ke c n (j + 1) _ (q + 1) (by omega) (by simp; omega) (by simp; omega) (by omega) (by omega), set_take_dropS h, marksS, List.append_assoc, show q + 1 + (c : Int) = q + ((c + 1 : Nat) : Int) by omega]
    rfl
theorem markS_eq {R : Type} {n : Nat} {l : List ByteArray} {q : Int} (hl : l.length ≤ 1048576) (hn : 2000000 ≤ n) (q0 : 0 ≤ q) (q1 : q ≤ 100000000) (k : Int → List ByteArray → Option R) : laws_markStringS n q l k = k (q + l.length) (marksS l.length q) := by
  unfold laws_markStringS
  have := markS_loop (R := R) (fun r2 r3 => k r2 r3) l.length n 0 l q (by omega) (by omega) hl q0 (by omega)
  rw [show ((0 : Nat) : Int) = 0 from rfl, List.take_zero, List.nil_append] at this
  exact this
theorem heldS_loop {R : Type} (l : List ByteArray) (hl : l.length ≤ 1048576) (kr ke : Int → Option R) : ∀ (c n j : Nat) (q : Int), c + 200 < n → j + c = l.length → 0 ≤ q → q + c ≤ 800000000 → l.drop j = marksS c q →
    laws_heldStringS_l2 n l q (j : Int) kr ke = ke (q + c)
  | c, 0, _, _, h, _, _, _, _ => by omega
  | 0, n + 1, j, q, hn, hj, q0, q1, hd => by
    rw [laws_heldStringS_l2, dge (by omega)]; simp
  | c + 1, n + 1, j, q, hn, hj, q0, q1, hd => by
    have h : j < l.length := by omega
    rw [List.drop_eq_getElem_cons h, marksS] at hd
    obtain ⟨h1, h2⟩ := List.cons.inj hd
    rw [laws_heldStringS_l2, dlt h, cond_true, mark_text_eq (by omega) (by omega), dnn, getD_at _ _ h, h1, beq_self_eq_true, wrapS h (by omega), wrap64 (x := q + 1) (by omega) (by omega)]
    simp only [cond_true, Bool.not_true, cond_false]
    rw [heldS_loop l hl kr ke c n (j + 1) (q + 1) (by omega) (by omega) (by omega) (by omega) h2, show q + 1 + (c : Int) = q + ((c + 1 : Nat) : Int) by omega]
theorem heldS_eq {R : Type} {n m : Nat} {q : Int} (hm : m ≤ 1048576) (hn : 2000000 ≤ n) (q0 : 0 ≤ q) (q1 : q ≤ 100000000) (k : Int → Option R) : laws_heldStringS n (marksS m q) q k = k (q + m) := by
  unfold laws_heldStringS
  have := heldS_loop (R := R) (marksS m q) (by rw [marksS_length]; exact hm) (fun r2 => k r2) (fun r3 => k r3) m n 0 q (by omega) (by rw [marksS_length]; omega) q0 (by omega) rfl
  rw [show ((0 : Nat) : Int) = 0 from rfl] at this
  exact this
/-- What an event makes of a state, where it may come. -/
def evR (q : St) (id ver kd : Int) (s : ByteArray) : Option St := if goodS q = true ∧ (goodEv (id, ver, kd, s) = true ∧ id = q.2.1) then apF q kd s else none
def stZ : St := (0, 0, false, 0, [], [])
theorem impl_Event_eq {R : Type} {n : Nat} (hn : 3000000 ≤ n) {q : St} (hi : InS q) (id ver kd : Int) {s : ByteArray} (hs : s.size ≤ 1048576) (k : Int → Int → Bool → Int → Bool → List ByteArray → List ByteArray → Option R) :
    impl_ApplyEvent n q.1 q.2.1 q.2.2.1 q.2.2.2.1 q.2.2.2.2.1 q.2.2.2.2.2 id ver kd s k = match evR q id ver kd s with
      | some q' => k q'.1 q'.2.1 q'.2.2.1 q'.2.2.2.1 true q'.2.2.2.2.1 q'.2.2.2.2.2
      | none => k 0 0 false 0 false [] [] := by
  unfold impl_ApplyEvent evR
  rw [impl_GoodState_eq hi _ _ _ _ hn, show goodSt q.1 q.2.1 q.2.2.1 q.2.2.2.1 q.2.2.2.2.1 q.2.2.2.2.2 = goodS q from rfl, impl_GoodEvent_eq, clone_eq hi]
  cases hg : goodS q with
  | false => rw [if_neg (by simp)]; rfl
  | true =>
  simp only [Bool.not_true, cond_false, true_and]
  cases hev : goodEv (id, ver, kd, s) with
  | false => rw [if_neg (by simp)]; rfl
  | true =>
  have hev' := hev
  simp only [goodEv, Bool.and_eq_true, decide_eq_true_eq] at hev'
  by_cases hid : id = q.2.1
  case neg => rw [if_neg (fun h => hid h.2), show (id != q.2.1) = true by simpa using hid]; rfl
  rw [if_pos ⟨rfl, hid⟩, show (id != q.2.1) = false by simpa using hid]
  simp only [Bool.not_true, cond_false]
  rcases impl_apply_ex2 hn hg hev'.2.2.1 hs with ⟨q', e, hi', ha⟩ | ⟨ha, t, e⟩
  · rw [e, ha, Option.filter_some]
    simp only [putI2, Bool.not_true, cond_false]
    rw [impl_GoodState_eq hi' _ _ _ _ hn, show goodSt q'.1 q'.2.1 q'.2.2.1 q'.2.2.2.1 q'.2.2.2.2.1 q'.2.2.2.2.2 = goodS q' from rfl]
    cases goodS q' <;> rfl
  · rw [e, ha]; rfl
theorem spec_Event_eq {R : Type} {n : Nat} (hn : 3000000 ≤ n) {q : St} (hi : InS q) (id ver kd : Int) {s : ByteArray} (hs : s.size ≤ 1048576) (k : Int → Int → Bool → Int → List ByteArray → List ByteArray → Bool → Option R) :
    spec_ApplyEvent n q.1 q.2.1 q.2.2.1 q.2.2.2.1 q.2.2.2.2.1 q.2.2.2.2.2 id ver kd s k = match evR q id ver kd s with
      | some q' => k q'.1 q'.2.1 q'.2.2.1 q'.2.2.2.1 q'.2.2.2.2.1 q'.2.2.2.2.2 true
      | none => k 0 0 false 0 [] [] false := by
  unfold spec_ApplyEvent evR
  rw [spec_GoodState_eq hi _ _ _ _ hn, show goodSt q.1 q.2.1 q.2.2.1 q.2.2.2.1 q.2.2.2.2.1 q.2.2.2.2.2 = goodS q from rfl]
  cases hg : goodS q with
  | false => rw [if_neg (by simp)]; rfl
  | true =>
  obtain ⟨t, ht⟩ := spec_Apply_ex hn hg id ver kd hs
  simp only [Bool.not_true, cond_false, true_and]
  rw [ht]
  cases (if goodEv (id, ver, kd, s) = true ∧ id = q.2.1 then apF q kd s else none) <;> rfl
theorem apF_good {q q' : St} {kd : Int} {s : ByteArray} (h : apF q kd s = some q') : goodS q' = true := by
  unfold apF at h
  split at h
  · exact (Option.filter_eq_some_iff.1 h).2
  · cases h
/-- One answer of both sides, whatever it is. -/
theorem told {n : Nat} (hn : 3000000 ≤ n) {q : St} (hi : InS q) (id ver kd : Int) {s : ByteArray} (hs : s.size ≤ 1048576) : ∃ (q' : St) (b : Bool), InS q' ∧ (∀ (R : Type) (k : Int → Int → Bool → Int → Bool → List ByteArray → List ByteArray → Option R), impl_ApplyEvent n q.1 q.2.1 q.2.2.1 q.2.2.2.1 q.2.2.2.2.1 q.2.2.2.2.2 id ver kd s k = k q'.1 q'.2.1 q'.2.2.1 q'.2.2.2.1 b q'.2.2.2.2.1 q'.2.2.2.2.2) ∧
    ∀ (R : Type) (k : Int → Int → Bool → Int → List ByteArray → List ByteArray → Bool → Option R), spec_ApplyEvent n q.1 q.2.1 q.2.2.1 q.2.2.2.1 q.2.2.2.2.1 q.2.2.2.2.2 id ver kd s k = k q'.1 q'.2.1 q'.2.2.1 q'.2.2.2.1 q'.2.2.2.2.1 q'.2.2.2.2.2 b := by
  cases h : evR q id ver kd s with
  | none => exact ⟨stZ, false, ⟨⟨by simp [stZ], by simp [stZ]⟩, ⟨by simp [stZ], by simp [stZ]⟩⟩, fun R k => by rw [impl_Event_eq hn hi id ver kd hs, h]; rfl, fun R k => by rw [spec_Event_eq hn hi id ver kd hs, h]; rfl⟩
  | some q' =>
    have hg : goodS q' = true := by
      unfold evR at h
      split at h
      · exact apF_good h
      · cases h
    exact ⟨q', true, (goodS_in hg).1, fun R k => by rw [impl_Event_eq hn hi id ver kd hs, h], fun R k => by rw [spec_Event_eq hn hi id ver kd hs, h]⟩
theorem markState_eq {R : Type} {n : Nat} (hn : 3000000 ≤ n) {sg tm : List ByteArray} (h : StateIn sg tm) (st nx : Int) (ca : Bool) (dn : Int) (k : Int → Int → Int → Bool → Int → List ByteArray → List ByteArray → Option R) : laws_markState n st nx ca dn 1 sg tm k = k (1 + sg.length + tm.length) st nx ca dn (marksS sg.length 1) (marksS tm.length (1 + sg.length)) := by
  have h1 := h.s.len; have h2 := h.t.len
  unfold laws_markState
  rw [markS_eq h1 (by omega) (by omega) (by omega), markS_eq h2 (by omega) (by omega) (by omega)]
theorem heldState_eq {R : Type} {n : Nat} (hn : 3000000 ≤ n) {sg tm : List ByteArray} (h : StateIn sg tm) (st nx : Int) (ca : Bool) (dn : Int) (k : Int → Option R) : laws_heldState n st nx ca dn (marksS sg.length 1) (marksS tm.length (1 + sg.length)) 1 k = k (1 + sg.length + tm.length) := by
  have h1 := h.s.len; have h2 := h.t.len
  unfold laws_heldState
  rw [heldS_eq h1 (by omega) (by omega) (by omega), decide_eq_false (by omega), cond_false, heldS_eq h2 (by omega) (by omega) (by omega), decide_eq_false (by omega), cond_false]
theorem key {R : Type} {n : Nat} (hn : 3000000 ≤ n) (q : St) (id ver kd : Int) (s : ByteArray) (h1 : q.2.2.2.2.1.length ≤ 9223372036854775807) (h2 : ∀ x ∈ q.2.2.2.2.1, x.size ≤ 9223372036854775807) (h3 : q.2.2.2.2.2.length ≤ 9223372036854775807) (h4 : ∀ x ∈ q.2.2.2.2.2, x.size ≤ 9223372036854775807) (h5 : s.size ≤ 9223372036854775807) (k : Bool → Option R) : laws_FnExactApplyEvent n q.1 q.2.1 q.2.2.1 q.2.2.2.1 q.2.2.2.2.1 q.2.2.2.2.2 id ver kd s k = k true := by
  unfold laws_FnExactApplyEvent
  rcases laws_szState_eq hn q.1 q.2.1 q.2.2.1 q.2.2.2.1 h1 h2 h3 h4 (fun r1 => (bif (decide (r1 < 0)) then k true else (laws_szEvent n id ver kd s r1 fun r2 => (bif (decide (r2 < 0)) then k true else (laws_toState n q.1 q.2.1 q.2.2.1 q.2.2.2.1 q.2.2.2.2.1 q.2.2.2.2.2 fun r3 r4 r5 r6 r7 r8 => (laws_toEvent n id ver kd s fun r9 r10 r11 r12 => (spec_ApplyEvent n r3 r4 r5 r6 r7 r8 r9 r10 r11 r12 fun r13 r14 r15 r16 r17 r18 r19 => (laws_toState n q.1 q.2.1 q.2.2.1 q.2.2.2.1 q.2.2.2.2.1 q.2.2.2.2.2 fun r20 r21 r22 r23 r24 r25 => (laws_toEvent n id ver kd s fun r26 r27 r28 r29 => (impl_ApplyEvent n r20 r21 r22 r23 r24 r25 r26 r27 r28 r29 fun r30 r31 r32 r33 r34 r35 r36 => (laws_eqState n r30 r31 r32 r33 r35 r36 r13 r14 r15 r16 r17 r18 fun r37 => (bif (!r37) then k false else (bif (!(r34 == r19)) then k false else (laws_toState n q.1 q.2.1 q.2.2.1 q.2.2.2.1 q.2.2.2.2.1 q.2.2.2.2.2 fun r38 r39 r40 r41 r42 r43 => (laws_eqState n r20 r21 r22 r23 r24 r25 r38 r39 r40 r41 r42 r43 fun r44 => (bif (!r44) then k false else (laws_markState n r20 r21 r22 r23 1 r24 r25 fun r45 r46 r47 r48 r49 r50 r51 => (bif (decide (r45 < 0)) then k false else (laws_eqState n r30 r31 r32 r33 r35 r36 r13 r14 r15 r16 r17 r18 fun r52 => (bif (!r52) then k false else (bif (!(r34 == r19)) then k false else (laws_markState n r30 r31 r32 r33 1 r35 r36 fun r53 r54 r55 r56 r57 r58 r59 => (laws_heldState n r30 r31 r32 r33 r58 r59 1 fun r60 => (bif (decide (r60 < 0)) then k false else (bif (r60 != r53) then k false else (laws_toState n q.1 q.2.1 q.2.2.1 q.2.2.2.1 q.2.2.2.2.1 q.2.2.2.2.2 fun r61 r62 r63 r64 r65 r66 => (laws_toEvent n id ver kd s fun r67 r68 r69 r70 => (impl_ApplyEvent n r61 r62 r63 r64 r65 r66 r67 r68 r69 r70 fun r71 r72 r73 r74 r75 r76 r77 => (laws_eqState n r71 r72 r73 r74 r76 r77 r13 r14 r15 r16 r17 r18 fun r78 => (bif (!r78) then k false else (bif (!(r75 == r19)) then k false else (laws_heldState n r30 r31 r32 r33 r58 r59 1 fun r79 => (bif (decide (r79 < 0)) then k false else (bif (r79 != r53) then k false else k true)))))))))))))))))))))))))))))))))) with e | ⟨hi, z, z0, z1, e⟩
  · exact e.trans rfl
  · refine e.trans ?_
    simp only [decide_eq_false (show ¬ z < 0 by omega), cond_false, laws_szEvent, laws_toEvent]
    by_cases hz : IntKind.wrap .i64 (z - (s.size : Int)) < 0
    · simp only [decide_eq_true hz, cond_true]; rfl
    rw [wrap64 (by omega) (by omega)] at hz
    have hs : s.size ≤ 1048576 := by omega
    obtain ⟨q', b, hi', e1, e2⟩ := told hn hi id ver kd hs
    have hh := fun (k : Int → Option R) => heldState_eq hn hi' q'.1 q'.2.1 q'.2.2.1 q'.2.2.2.1 k
    have hp1 := hi.s.len; have hp2 := hi.t.len
    rw [wrap64 (x := z - (s.size : Int)) (by omega) (by omega)]
    simp only [decide_eq_false hz, cond_false, laws_toState_eq hn hi, e1, e2, laws_eqState_eq hn hi, laws_eqState_eq hn hi', markState_eq hn hi, markState_eq hn hi', hh, beq_self_eq_true, bne_self_eq_false, Bool.not_true, decide_eq_false (show ¬ (1 + (q'.2.2.2.2.1.length : Int) + q'.2.2.2.2.2.length) < 0 by omega), decide_eq_false (show ¬ (1 + (q.2.2.2.2.1.length : Int) + q.2.2.2.2.2.length) < 0 by omega)]
theorem plain : Plain := fun d0 d1 h h1 R k => ⟨_, key (Nat.le_refl _) d0 d1.1 d1.2.1 d1.2.2.1 d1.2.2.2 h.2.2.2.2.1.1 h.2.2.2.2.1.2 h.2.2.2.2.2.1 h.2.2.2.2.2.2 h1.2.2.2 k⟩
end Go.Am.G
