/- The plain law: what the functions compute answers as the law says, for all arguments. -/
import Derived.Test.YtfodnlonkningaaGreatDoorF3
set_option linter.unusedVariables false
set_option linter.unusedSimpArgs false
namespace Go.Am.G
open Go Go.Am
theorem wrap64 {x : Int} (h1 : -9223372036854775808 ≤ x) (h2 : x ≤ 9223372036854775807) : IntKind.wrap .i64 x = x := by
  simp only [IntKind.wrap, IntKind.signed, IntKind.bits]
  simp
  omega
theorem getD_at {α : Type} (l : List α) (d : α) {j : Nat} (h : j < l.length) : l.getD (Int.toNat (j : Int)) d = l[j] := by
  rw [Int.toNat_natCast, List.getD_eq_getElem?_getD, List.getElem?_eq_getElem h]; rfl
theorem dlt {a b : Nat} (h : a < b) : decide ((a : Int) < (b : Int)) = true := decide_eq_true (by omega)
theorem dge {a b : Nat} (h : b ≤ a) : decide ((a : Int) < (b : Int)) = false := decide_eq_false (by omega)
theorem dnn (a : Nat) : decide (0 ≤ (a : Int)) = true := decide_eq_true (by omega)
theorem wrapS {j m : Nat} (h : j < m) (hm : m ≤ 9223372036854775807) : IntKind.wrap .i64 ((j : Int) + 1) = ((j + 1 : Nat) : Int) := by
  rw [wrap64 (by omega) (by omega)]; rfl
theorem spec_l1In_eq {R : Type} (n : Nat) (x a b : Int) (k : Bool → Option R) : spec_l1In n x a b k = k (decide (a ≤ x ∧ x ≤ b)) := by
  simp only [spec_l1In]
  by_cases h : x ≥ a
  · have : a ≤ x := h
    simp [this]
  · have : ¬ a ≤ x := h
    simp [this]
theorem impl_in_eq {R : Type} (n : Nat) (x a b : Int) (k : Bool → Option R) : impl_in n x a b k = k (decide (a ≤ x ∧ x ≤ b)) := by
  simp only [impl_in]
  by_cases h : x ≥ a
  · have : a ≤ x := h
    simp [this]
  · have : ¬ a ≤ x := h
    simp [this]
theorem bl_loop (b : ByteArray) : ∀ (m i : Nat) (r : List UInt8), b.size - i ≤ m → ByteArray.toList.loop b i r = r.reverse ++ (b.data.toList.drop i) := by
  intro m
  induction m with
  | zero =>
    intro i r h
    unfold ByteArray.toList.loop
    have hl : b.data.toList.length = b.size := rfl
    rw [if_neg (by omega), List.drop_eq_nil_iff.2 (by omega), List.append_nil]
  | succ m ih =>
    intro i r h
    unfold ByteArray.toList.loop
    have hl : b.data.toList.length = b.size := rfl
    by_cases c : i < b.size
    · rw [if_pos c, ih _ _ (by omega), List.reverse_cons, List.append_assoc, List.drop_eq_getElem_cons (show i < b.data.toList.length by omega)]
      have : b.get! i = b.data.toList[i] := by
        show b.data[i]! = _
        rw [getElem!_pos b.data i c]; rfl
      rw [this]; rfl
    · rw [if_neg c, List.drop_eq_nil_iff.2 (by omega), List.append_nil]
theorem bl_data (b : ByteArray) : ByteArray.toList b = b.data.toList := by
  unfold ByteArray.toList
  rw [bl_loop b b.size 0 [] (by omega)]; rfl
theorem byte_at (s : ByteArray) {j : Nat} (h : j < s.data.toList.length) : s.data.getD (Int.toNat (j : Int)) 0 = s.data.toList[j] := by
  rw [Int.toNat_natCast]
  have h' : j < s.size := h
  simp [Array.getD, h']
theorem ba_ext {a b : ByteArray} (h : a.data.toList = b.data.toList) : a = b := ByteArray.ext (Array.toList_inj.1 h)
theorem ba_app (a b : ByteArray) : (a ++ b).data.toList = a.data.toList ++ b.data.toList := by
  rw [ByteArray.data_append, Array.toList_append]
theorem ba_size (a : ByteArray) : a.size = a.data.toList.length := rfl
theorem wrap_8 {x : Int} (h0 : 0 ≤ x) (h1 : x < 256) : IntKind.wrap .u8 x = x := by
  simp only [IntKind.wrap, IntKind.signed, IntKind.bits]
  simp
  omega
abbrev dig (n : Nat) : List UInt8 := Go.Lib.decDigits n
theorem dig_small {n : Nat} (h : n < 10) : dig n = [UInt8.ofNat (48 + n)] := by unfold dig; rw [Go.Lib.decDigits, dif_pos h]
theorem dig_big {n : Nat} (h : ¬ n < 10) : dig n = dig (n / 10) ++ [UInt8.ofNat (48 + n % 10)] := by
  unfold dig; rw [Go.Lib.decDigits, dif_neg h]
theorem ofNat_toNat {n : Nat} (h : n < 256) : (UInt8.ofNat n).toNat = n := by
  rw [UInt8.toNat_ofNat']; omega
theorem dig_len : ∀ (k n : Nat), n < 10 ^ (k + 1) → 1 ≤ (dig n).length ∧ (dig n).length ≤ k + 1
  | 0, n, h => by rw [dig_small (by simpa using h)]; simp
  | k + 1, n, h => by
    by_cases c : n < 10
    · rw [dig_small c]; simp
    · have h2 : n / 10 < 10 ^ (k + 1) := by
        have : 10 ^ (k + 1 + 1) = 10 ^ (k + 1) * 10 := Nat.pow_succ ..
        omega
      have := dig_len k (n / 10) h2
      rw [dig_big c]; simp; omega
theorem dig_chars : ∀ (k n : Nat), n < 10 ^ (k + 1) → ∀ b ∈ dig n, 48 ≤ b.toNat ∧ b.toNat ≤ 57
  | 0, n, h, b, hb => by
    have h : n < 10 := by simpa using h
    rw [dig_small h, List.mem_singleton] at hb
    rw [hb, ofNat_toNat (by omega)]; omega
  | k + 1, n, h, b, hb => by
    by_cases c : n < 10
    · rw [dig_small c, List.mem_singleton] at hb
      rw [hb, ofNat_toNat (by omega)]; omega
    · have h2 : n / 10 < 10 ^ (k + 1) := by
        have : 10 ^ (k + 1 + 1) = 10 ^ (k + 1) * 10 := Nat.pow_succ ..
        omega
      rw [dig_big c] at hb
      rcases List.mem_append.1 hb with hb | hb
      · exact dig_chars k _ h2 b hb
      · rw [List.mem_singleton.1 hb, ofNat_toNat (by omega)]; omega
theorem digitVal_dig {d : Nat} (h : d < 10) : Go.Lib.digitVal (UInt8.ofNat (48 + d)) = some d := by
  unfold Go.Lib.digitVal
  rw [ofNat_toNat (by omega), if_pos (by omega)]
  congr 1; omega
theorem decFrom_snoc {b : UInt8} {d : Nat} (hb : Go.Lib.digitVal b = some d) : ∀ (l : List UInt8) (acc m : Nat), Go.Lib.decFrom acc l = some m → Go.Lib.decFrom acc (l ++ [b]) = some (m * 10 + d)
  | [], acc, m, h => by
    cases h
    simp only [List.nil_append, Go.Lib.decFrom, hb]
  | x :: l, acc, m, h => by
    rw [List.cons_append]
    unfold Go.Lib.decFrom at h ⊢
    cases hx : Go.Lib.digitVal x with
    | none => rw [hx] at h; cases h
    | some y =>
      rw [hx] at h
      exact decFrom_snoc hb l _ m h
theorem decFrom_dig : ∀ (k n : Nat), n < 10 ^ (k + 1) → Go.Lib.decFrom 0 (dig n) = some n
  | 0, n, h => by
    have h : n < 10 := by simpa using h
    rw [dig_small h]
    simp only [Go.Lib.decFrom, digitVal_dig h]
    simp
  | k + 1, n, h => by
    by_cases c : n < 10
    · rw [dig_small c]
      simp only [Go.Lib.decFrom, digitVal_dig c]
      simp
    · have h2 : n / 10 < 10 ^ (k + 1) := by
        have : 10 ^ (k + 1 + 1) = 10 ^ (k + 1) * 10 := Nat.pow_succ ..
        omega
      rw [dig_big c, decFrom_snoc (digitVal_dig (by omega)) _ _ _ (decFrom_dig k _ h2)]
      congr 1; omega
theorem atoi_dig {n : Nat} (h : n < 10 ^ 9) : Go.Lib.atoi (dig n) = some (n : Int) := by
  have h1 := dig_len 8 n h
  have h2 := dig_chars 8 n h
  have h3 := decFrom_dig 8 n h
  generalize dig n = l at h1 h2 h3
  cases l with
  | nil => simp at h1
  | cons b r =>
    have hb := h2 b List.mem_cons_self
    unfold Go.Lib.atoi
    simp only
    rw [if_neg (fun e => by have := (beq_iff_eq.1 e); rw [this] at hb; simp at hb), if_neg (fun e => by have := (beq_iff_eq.1 e); rw [this] at hb; simp at hb)]
    unfold Go.Lib.decNat
    rw [h3]; rfl
theorem itoa_dig {x : Int} (h : 0 ≤ x) : Go.Lib.itoa x = dig x.toNat := by
  unfold Go.Lib.itoa
  rw [if_neg (by omega)]
theorem spec_l1Num_eq : ∀ (c n x : Nat), x < 10 ^ (c + 1) → x ≤ 1000000 → c < n → ∀ (R : Type) (k : ByteArray → Option R), spec_l1Num n (x : Int) k = k ⟨(dig x).toArray⟩
  | c, 0, _, _, _, h, _, _ => by omega
  | c, n + 1, x, hx, hb, hn, R, k => by
    rw [spec_l1Num]
    by_cases h : x < 10
    · rw [decide_eq_true (show (x : Int) < 10 by omega), cond_true, wrap64 (x := 48 + (x : Int)) (by omega) (by omega), wrap_8 (by omega) (by omega)]
      congr 1
      refine ba_ext ?_
      show [UInt8.ofNat ((48 + (x : Int)).toNat)] = dig x
      rw [dig_small h, show (48 + (x : Int)).toNat = 48 + x by omega]
    · cases c with
      | zero => simp at hx; omega
      | succ c =>
        have h2 : x / 10 < 10 ^ (c + 1) := by
          have : 10 ^ (c + 1 + 1) = 10 ^ (c + 1) * 10 := Nat.pow_succ ..
          omega
        have hl := dig_len c (x / 10) h2
        have hlb := dig_len 6 (x / 10) (by omega)
        have e1 : Int.tdiv (x : Int) 10 = ((x / 10 : Nat) : Int) := by rw [Int.tdiv_eq_ediv_of_nonneg (by omega)]; omega
        have e2 : Int.tmod (x : Int) 10 = ((x % 10 : Nat) : Int) := by rw [Int.tmod_eq_emod_of_nonneg (by omega)]; omega
        rw [decide_eq_false (show ¬ (x : Int) < 10 by omega), cond_false, e1, e2, wrap64 (x := ((x / 10 : Nat) : Int)) (by omega) (by omega), spec_l1Num_eq c n (x / 10) h2 (by omega) (by omega), wrap64 (x := 48 + ((x % 10 : Nat) : Int)) (by omega) (by omega), wrap_8 (by omega) (by omega)]
        rw [decide_eq_true (by
          show (dig (x / 10)).length + 1 ≤ STR
          simp only [STR]; omega), cond_true]
        congr 1
        refine ba_ext ?_
        rw [ba_app]
        show dig (x / 10) ++ [UInt8.ofNat ((48 + ((x % 10 : Nat) : Int)).toNat)] = dig x
        rw [dig_big h, show (48 + ((x % 10 : Nat) : Int)).toNat = 48 + x % 10 by omega]
theorem spec_num {R : Type} {n : Nat} {x : Int} (h0 : 0 ≤ x) (h1 : x ≤ 1000000) (hn : 100 ≤ n) (k : ByteArray → Option R) : spec_l1Num n x k = k ⟨(dig x.toNat).toArray⟩ := by
  have := spec_l1Num_eq 6 n x.toNat (by omega) (by omega) (by omega) R k
  rw [show ((x.toNat : Nat) : Int) = x by omega] at this
  exact this
def cutAt (b : UInt8) : List UInt8 → List UInt8 × List UInt8 × Bool
  | [] => ([], [], false)
  | x :: l => if x = b then ([], l, true) else (x :: (cutAt b l).1, (cutAt b l).2.1, (cutAt b l).2.2)
theorem index_one (b x : UInt8) (l : List UInt8) : Go.Lib.index (x :: l) [b] = if x = b then 0 else if Go.Lib.index l [b] = -1 then -1 else Go.Lib.index l [b] + 1 := by
  conv => lhs; unfold Go.Lib.index
  by_cases h : x = b
  · subst h; simp [List.isPrefixOf]
  · rw [if_neg h]
    have hne : (b == x) = false := by rw [beq_eq_false_iff_ne]; exact fun e => h e.symm
    rw [show ([b] : List UInt8).isPrefixOf (x :: l) = false by simp [List.isPrefixOf, hne]]
    simp
theorem index_cut (b : UInt8) : ∀ l, (Go.Lib.index l [b] = -1 ∧ (cutAt b l).2.2 = false ∧ (cutAt b l).1 = l ∧ (cutAt b l).2.1 = []) ∨ (∃ i : Nat, Go.Lib.index l [b] = i ∧ (cutAt b l).2.2 = true ∧ (cutAt b l).1 = l.take i ∧ (cutAt b l).2.1 = l.drop (i + 1))
  | [] => .inl ⟨rfl, rfl, rfl, rfl⟩
  | x :: l => by
    rw [index_one, cutAt]
    by_cases h : x = b
    · rw [if_pos h, if_pos h]
      exact .inr ⟨0, rfl, rfl, rfl, rfl⟩
    · rw [if_neg h, if_neg h]
      rcases index_cut b l with ⟨h1, h2, h3, h4⟩ | ⟨i, h1, h2, h3, h4⟩
      · rw [if_pos h1]
        exact .inl ⟨rfl, h2, by rw [h3], h4⟩
      · rw [if_neg (by omega), h1]
        exact .inr ⟨i + 1, rfl, h2, by simp only [h3]; rfl, by simp only [h4]; rfl⟩
theorem cutAt_lib (b : UInt8) (l : List UInt8) : Go.Lib.cut l [b] = cutAt b l := by
  unfold Go.Lib.cut
  rcases index_cut b l with ⟨h1, h2, h3, h4⟩ | ⟨i, h1, h2, h3, h4⟩
  · rw [if_neg (by omega), ← h2, ← h4]
    conv => lhs; rw [← h3]
    rw [h3]
    refine Prod.ext h3.symm (Prod.ext rfl rfl)
  · rw [if_pos (by omega), h1]
    refine Prod.ext ?_ (Prod.ext ?_ h2.symm)
    · rw [h3]; simp
    · rw [h4]; simp
theorem cutAt_no {b : UInt8} : ∀ {l : List UInt8}, b ∉ l → cutAt b l = (l, [], false)
  | [], _ => rfl
  | x :: l, h => by
    have hx : x ≠ b := fun e => h (by rw [e]; exact List.mem_cons_self)
    rw [cutAt, if_neg hx, cutAt_no fun e => h (List.mem_cons_of_mem _ e)]
theorem cutAt_yes {b : UInt8} : ∀ {p : List UInt8} (q : List UInt8), b ∉ p → cutAt b (p ++ b :: q) = (p, q, true)
  | [], q, _ => by rw [List.nil_append, cutAt, if_pos rfl]
  | x :: p, q, h => by
    have hx : x ≠ b := fun e => h (by rw [e]; exact List.mem_cons_self)
    rw [List.cons_append, cutAt, if_neg hx, cutAt_yes q fun e => h (List.mem_cons_of_mem _ e)]
theorem cutAt_spec (b : UInt8) : ∀ l : List UInt8, (b ∉ (cutAt b l).1) ∧ ((cutAt b l).2.2 = true → l = (cutAt b l).1 ++ b :: (cutAt b l).2.1) ∧ ((cutAt b l).2.2 = false → l = (cutAt b l).1 ∧ (cutAt b l).2.1 = [])
  | [] => ⟨by simp [cutAt], by simp [cutAt], by simp [cutAt]⟩
  | x :: l => by
    obtain ⟨h1, h2, h3⟩ := cutAt_spec b l
    rw [cutAt]
    by_cases h : x = b
    · rw [if_pos h]; simp [h]
    · rw [if_neg h]
      refine ⟨?_, fun e => ?_, fun e => ?_⟩
      · intro hm
        rcases List.mem_cons.1 hm with hm | hm
        · exact h hm.symm
        · exact h1 hm
      · rw [List.cons_append, ← h2 e]
      · exact ⟨by rw [← (h3 e).1], (h3 e).2⟩
def splitAll (b : UInt8) : List UInt8 → List (List UInt8)
  | [] => [[]]
  | x :: l => if x = b then [] :: splitAll b l else ((x :: (splitAll b l).headD []) :: (splitAll b l).tail)
theorem splitAll_cut (b : UInt8) : ∀ l : List UInt8, splitAll b l = (cutAt b l).1 :: (if (cutAt b l).2.2 then splitAll b (cutAt b l).2.1 else [])
  | [] => rfl
  | x :: l => by
    rw [splitAll, cutAt]
    by_cases h : x = b
    · rw [if_pos h, if_pos h]; rfl
    · rw [if_neg h, if_neg h, splitAll_cut b l]; rfl
theorem splitAll_len (b : UInt8) : ∀ l : List UInt8, (splitAll b l).length = l.count b + 1
  | [] => rfl
  | x :: l => by
    have ih := splitAll_len b l
    rw [splitAll]
    by_cases h : x = b
    · rw [if_pos h, h, List.count_cons_self, List.length_cons, ih]
    · rw [if_neg h, List.count_cons_of_ne h, List.length_cons, List.length_tail, ih]; omega
theorem splitAll_mem (b : UInt8) : ∀ (l : List UInt8) (p : List UInt8), p ∈ splitAll b l → b ∉ p ∧ p.length + l.count b ≤ l.length
  | [], p, h => by
    rw [splitAll, List.mem_singleton] at h
    subst h; simp
  | x :: l, p, h => by
    have ih := splitAll_mem b l
    have hl := splitAll_len b l
    rw [splitAll] at h
    by_cases c : x = b
    · rw [if_pos c] at h
      rw [c, List.count_cons_self, List.length_cons]
      rcases List.mem_cons.1 h with h | h
      · subst h
        have : l.count b ≤ l.length := List.count_le_length
        simp; exact this
      · have := ih p h
        exact ⟨this.1, by omega⟩
    · rw [if_neg c] at h
      rw [List.count_cons_of_ne c, List.length_cons]
      cases hs : splitAll b l with
      | nil => rw [hs] at hl; simp at hl
      | cons y t =>
        rw [hs] at h ih
        rcases List.mem_cons.1 h with h | h
        · have := ih y List.mem_cons_self
          subst h
          refine ⟨?_, by simp only [List.headD_cons, List.length_cons]; omega⟩
          intro hm
          rcases List.mem_cons.1 hm with hm | hm
          · exact c hm.symm
          · exact this.1 hm
        · have := ih p (List.mem_cons_of_mem _ h)
          exact ⟨this.1, by omega⟩
theorem splitAll_has (b c : UInt8) (hbc : c ≠ b) : ∀ l : List UInt8, c ∈ l → ∃ p ∈ splitAll b l, c ∈ p
  | [], h => by cases h
  | x :: l, h => by
    have ih := splitAll_has b c hbc l
    rw [splitAll]
    by_cases e : x = b
    · rw [if_pos e]
      rcases List.mem_cons.1 h with h | h
      · exact absurd (h.trans e) hbc
      · obtain ⟨p, h1, h2⟩ := ih h
        exact ⟨p, List.mem_cons_of_mem _ h1, h2⟩
    · rw [if_neg e]
      rcases List.mem_cons.1 h with h | h
      · exact ⟨_, List.mem_cons_self, by rw [h]; exact List.mem_cons_self⟩
      · obtain ⟨p, h1, h2⟩ := ih h
        cases hs : splitAll b l with
        | nil => rw [hs] at h1; cases h1
        | cons y t =>
          rw [hs] at h1
          rcases List.mem_cons.1 h1 with h1 | h1
          · exact ⟨_, List.mem_cons_self, by rw [← h1]; exact List.mem_cons_of_mem _ h2⟩
          · exact ⟨p, List.mem_cons_of_mem _ h1, h2⟩
theorem splitK_cut (b : UInt8) (k : Nat) (l : List UInt8) : Go.Lib.splitK [b] 0 (k + 1) l = (cutAt b l).1 :: (if (cutAt b l).2.2 then Go.Lib.splitK [b] 0 k (cutAt b l).2.1 else []) := by
  conv => lhs; unfold Go.Lib.splitK
  rcases index_cut b l with ⟨h1, h2, h3, h4⟩ | ⟨i, h1, h2, h3, h4⟩
  · rw [if_pos (by rw [h1]; rfl), h2, h3]; rfl
  · rw [if_neg (by rw [h1]; intro e; have := beq_iff_eq.1 e; omega), h1, h2, h3, h4]; simp
theorem splitK_all (b : UInt8) : ∀ (k : Nat) (l : List UInt8), l.count b ≤ k → Go.Lib.splitK [b] 0 k l = splitAll b l
  | 0, l, h => by
    have hb : b ∉ l := fun e => by have := List.count_pos_iff.2 e; omega
    rw [splitAll_cut, cutAt_no hb]; rfl
  | k + 1, l, h => by
    rw [splitK_cut, splitAll_cut]
    cases hc : (cutAt b l).2.2 with
    | false => rfl
    | true =>
      have hl := (cutAt_spec b l).2.1 hc
      have : (cutAt b l).2.1.count b ≤ k := by
        have e := congrArg (List.count b) hl
        rw [List.count_append, List.count_cons_self] at e
        omega
      rw [if_pos rfl, if_pos rfl, splitK_all b k _ this]
theorem splitK_len (b : UInt8) : ∀ (k : Nat) (l : List UInt8), k < l.count b → (Go.Lib.splitK [b] 0 k l).length = k + 1
  | 0, l, _ => rfl
  | k + 1, l, h => by
    rw [splitK_cut]
    have hs := cutAt_spec b l
    cases hc : (cutAt b l).2.2 with
    | false =>
      have := hs.2.2 hc
      rw [← this.1] at hs
      have := List.count_eq_zero.2 hs.1
      omega
    | true =>
      have e := congrArg (List.count b) (hs.2.1 hc)
      rw [List.count_append, List.count_cons_self, List.count_eq_zero.2 hs.1] at e
      rw [if_pos rfl, List.length_cons, splitK_len b k _ (by omega)]
def intS (l : List UInt8) : Int := if l.length = 0 ∨ 9 < l.length ∨ (l.headD 0 = 48 ∧ 1 < l.length) then -1 else match Go.Lib.decFrom 0 l with
  | some n => (n : Int)
  | none => -1
theorem decFrom_bad {b : UInt8} (hb : Go.Lib.digitVal b = none) : ∀ (l : List UInt8) (acc : Nat), b ∈ l → Go.Lib.decFrom acc l = none
  | [], _, h => by cases h
  | x :: l, acc, h => by
    unfold Go.Lib.decFrom
    cases hx : Go.Lib.digitVal x with
    | none => rfl
    | some d =>
      rcases List.mem_cons.1 h with h | h
      · rw [← h, hb] at hx; cases hx
      · exact decFrom_bad hb l _ h
theorem intS_bad {b : UInt8} (hb : Go.Lib.digitVal b = none) {l : List UInt8} (h : b ∈ l) : intS l = -1 := by
  unfold intS
  rw [decFrom_bad hb l 0 h]
  split <;> rfl
theorem decFrom_lt : ∀ (l : List UInt8) (acc m : Nat), Go.Lib.decFrom acc l = some m → m < (acc + 1) * 10 ^ l.length
  | [], acc, m, h => by cases h; simp
  | x :: l, acc, m, h => by
    unfold Go.Lib.decFrom at h
    cases hx : Go.Lib.digitVal x with
    | none => rw [hx] at h; cases h
    | some d =>
      rw [hx] at h
      have hd : d < 10 := by
        unfold Go.Lib.digitVal at hx
        split at hx
        · cases hx; omega
        · cases hx
      have := decFrom_lt l _ m h
      rw [List.length_cons, Nat.pow_succ]
      have e : (acc * 10 + d + 1) * 10 ^ l.length ≤ ((acc + 1) * 10) * 10 ^ l.length := Nat.mul_le_mul_right _ (by omega)
      rw [Nat.mul_assoc, Nat.mul_comm 10] at e
      omega
theorem intS_lt (l : List UInt8) : intS l < 1000000000 := by
  unfold intS
  split
  · omega
  · rename_i h
    cases hd : Go.Lib.decFrom 0 l with
    | none => simp
    | some n =>
      have := decFrom_lt l 0 n hd
      have h9 : 10 ^ l.length ≤ 10 ^ 9 := Nat.pow_le_pow_right (by decide) (by omega)
      simp only
      omega
theorem decFrom_app : ∀ (l : List UInt8) (acc m : Nat) (r : List UInt8), Go.Lib.decFrom acc l = some m → Go.Lib.decFrom acc (l ++ r) = Go.Lib.decFrom m r
  | [], acc, m, r, h => by cases h; rfl
  | x :: l, acc, m, r, h => by
    rw [List.cons_append]
    unfold Go.Lib.decFrom at h
    conv => lhs; unfold Go.Lib.decFrom
    cases hx : Go.Lib.digitVal x with
    | none => rw [hx] at h; cases h
    | some d =>
      rw [hx] at h
      exact decFrom_app l _ m r h
theorem decFrom_ge : ∀ (l : List UInt8) (acc m : Nat), Go.Lib.decFrom acc l = some m → acc ≤ m
  | [], acc, m, h => by cases h; omega
  | x :: l, acc, m, h => by
    unfold Go.Lib.decFrom at h
    cases hx : Go.Lib.digitVal x with
    | none => rw [hx] at h; cases h
    | some d =>
      rw [hx] at h
      have := decFrom_ge l _ m h
      omega
theorem digitVal_inv {x : UInt8} {d : Nat} (h : Go.Lib.digitVal x = some d) : d < 10 ∧ x = UInt8.ofNat (48 + d) := by
  unfold Go.Lib.digitVal at h
  split at h
  · rename_i c
    cases h
    refine ⟨by omega, ?_⟩
    apply UInt8.toNat_inj.1
    rw [ofNat_toNat (by omega)]; omega
  · cases h
/-- A text of digits without a leading naught is the text of its number. -/
theorem dig_of : ∀ (k : Nat) (l : List UInt8) (n : Nat), l.length = k + 1 → (l.headD 0 = 48 → k = 0) → Go.Lib.decFrom 0 l = some n → dig n = l
  | 0, l, n, hl, _, h => by
    match l, hl with
    | [x], _ =>
      unfold Go.Lib.decFrom at h
      cases hx : Go.Lib.digitVal x with
      | none => rw [hx] at h; cases h
      | some d =>
        rw [hx] at h
        have := digitVal_inv hx
        have hn : n = d := by
          have h' : Go.Lib.decFrom (0 * 10 + d) [] = some n := h
          unfold Go.Lib.decFrom at h'
          have := Option.some.inj h'
          omega
        rw [hn, dig_small this.1, this.2]
  | k + 1, l, n, hl, h0, h => by
    obtain ⟨r, x, rfl⟩ : ∃ r x, l = r ++ [x] := ⟨l.dropLast, l.getLast (by intro e; rw [e] at hl; simp at hl), (List.dropLast_concat_getLast _).symm⟩
    have hr : r.length = k + 1 := by rw [List.length_append] at hl; simpa using hl
    obtain ⟨y, t, rfl⟩ : ∃ y t, r = y :: t := by
      cases r with
      | nil => simp at hr
      | cons y t => exact ⟨y, t, rfl⟩
    have hy : y ≠ 48 := fun e => by have := h0 (by rw [List.cons_append, List.headD_cons, e]); omega
    cases hm : Go.Lib.decFrom 0 (y :: t) with
    | none =>
      exfalso
      have : ∀ (l r : List UInt8) (a : Nat), Go.Lib.decFrom a l = none → Go.Lib.decFrom a (l ++ r) = none := by
        intro l
        induction l with
        | nil => intro r a h; cases h
        | cons z l ih =>
          intro r a h
          rw [List.cons_append]
          unfold Go.Lib.decFrom at h ⊢
          cases hz : Go.Lib.digitVal z with
          | none => rfl
          | some d => rw [hz] at h; exact ih r _ h
      rw [this _ _ _ hm] at h
      cases h
    | some m =>
      have ih := dig_of k (y :: t) m hr (fun e => absurd e (by rw [List.headD_cons]; exact hy)) hm
      rw [decFrom_app _ _ _ _ hm] at h
      unfold Go.Lib.decFrom at h
      cases hx : Go.Lib.digitVal x with
      | none => rw [hx] at h; cases h
      | some d =>
        rw [hx] at h
        have hn : n = m * 10 + d := by
          have h' : Go.Lib.decFrom (m * 10 + d) [] = some n := h
          unfold Go.Lib.decFrom at h'
          have := Option.some.inj h'
          omega
        have hd := digitVal_inv hx
        have h1 : 1 ≤ m := by
          unfold Go.Lib.decFrom at hm
          cases hyv : Go.Lib.digitVal y with
          | none => rw [hyv] at hm; cases hm
          | some e =>
            rw [hyv] at hm
            have he := digitVal_inv hyv
            have hge := decFrom_ge t _ m hm
            have : e ≠ 0 := fun z => hy (by rw [he.2, z]; rfl)
            omega
        rw [dig_big (by omega), show n / 10 = m by omega, ih, show n % 10 = d by omega, ← hd.2]
theorem dig_head : ∀ (k n : Nat), n < 10 ^ (k + 1) → (dig n).headD 0 = 48 → (dig n).length = 1
  | 0, n, h, _ => by rw [dig_small (by simpa using h)]; rfl
  | k + 1, n, h, e => by
    by_cases c : n < 10
    · rw [dig_small c]; rfl
    · exfalso
      have h2 : n / 10 < 10 ^ (k + 1) := by
        have : 10 ^ (k + 1 + 1) = 10 ^ (k + 1) * 10 := Nat.pow_succ ..
        omega
      have hl := dig_len k (n / 10) h2
      have ih := dig_head k (n / 10) h2
      rw [dig_big c] at e
      cases hd : dig (n / 10) with
      | nil => rw [hd] at hl; simp at hl
      | cons y t =>
        rw [hd] at e ih
        have hy : y = 48 := by simpa using e
        have h1 := ih (by rw [hy]; rfl)
        have ht : t = [] := by
          cases t with
          | nil => rfl
          | cons z t => simp at h1
        have hq : n / 10 < 10 := by
          rcases Nat.lt_or_ge (n / 10) 10 with h | h
          · exact h
          · have hl2 : (dig (n / 10)).length = 1 := by rw [hd, ht]; rfl
            rw [dig_big (by omega), List.length_append] at hl2
            have := dig_len (k + 1) (n / 10 / 10) (by
              have : 10 ^ (k + 1 + 1) = 10 ^ (k + 1) * 10 := Nat.pow_succ ..
              omega)
            simp at hl2
            rw [hl2] at this
            simp at this
        rw [dig_small hq, hy, ht] at hd
        have h3 : UInt8.ofNat (48 + n / 10) = 48 := by simpa using hd
        have := congrArg UInt8.toNat h3
        rw [ofNat_toNat (by omega)] at this
        have : n / 10 = 0 := by
          have e48 : (48 : UInt8).toNat = 48 := rfl
          omega
        omega
theorem intS_dig {n : Nat} (h : n < 10 ^ 9) : intS (dig n) = n := by
  have hl := dig_len 8 n h
  unfold intS
  rw [if_neg, decFrom_dig 8 n h]
  intro c
  rcases c with c | c | c
  · omega
  · omega
  · have := dig_head 8 n h c.1; omega
theorem intS_inv {l : List UInt8} (h : 0 ≤ intS l) : dig (intS l).toNat = l ∧ l.length ≤ 9 := by
  unfold intS at h ⊢
  split at h
  · omega
  · rename_i c
    rw [if_neg c]
    cases hd : Go.Lib.decFrom 0 l with
    | none => rw [hd] at h; simp at h
    | some n =>
      refine ⟨?_, by omega⟩
      obtain ⟨k, hk⟩ : ∃ k, l.length = k + 1 := ⟨l.length - 1, by omega⟩
      exact dig_of k l n hk (fun e => by have : ¬ 1 < l.length := (fun x => c (.inr (.inr ⟨e, x⟩))); omega) hd
def itA (s : List UInt8) : Int := intS (cutAt 45 (cutAt 47 s).1).1
def itB (most : Int) (s : List UInt8) : Int := if (cutAt 45 (cutAt 47 s).1).2.2 then intS (cutAt 45 (cutAt 47 s).1).2.1 else if (cutAt 47 s).2.2 then most else itA s
def itS (s : List UInt8) : Int := if (cutAt 47 s).2.2 then intS (cutAt 47 s).2.1 else 1
def itemR (most : Int) (s : List UInt8) : Option (Int × Int × Int) :=
  if (cutAt 47 s).2.2 = true ∧ intS (cutAt 47 s).2.1 < 1 then none
  else if (cutAt 47 s).1 = [42] then some (0, most, itS s)
  else if 0 ≤ itA s ∧ itA s ≤ most ∧ itA s ≤ itB most s ∧ itB most s ≤ most then some (itA s, itB most s, itS s) else none
theorem itemR_in {most : Int} (hm : 0 ≤ most) {s : List UInt8} {a b st : Int} (h : itemR most s = some (a, b, st)) : 0 ≤ a ∧ a ≤ b ∧ b ≤ most ∧ 1 ≤ st ∧ st < 1000000000 := by
  have h1 := intS_lt (cutAt 47 s).2.1
  unfold itemR at h
  split at h
  · cases h
  · rename_i c1
    have hst : 1 ≤ itS s ∧ itS s < 1000000000 := by
      unfold itS
      split
      · rename_i c2
        have : ¬ intS (cutAt 47 s).2.1 < 1 := fun e => c1 ⟨c2, e⟩
        omega
      · omega
    split at h
    · cases h; exact ⟨by omega, by omega, by omega, hst⟩
    · split at h
      · rename_i c3
        cases h
        exact ⟨c3.1, c3.2.2.1, c3.2.2.2, hst⟩
      · cases h
theorem itemR_space {most : Int} {s : List UInt8} (h : (32 : UInt8) ∈ s) : itemR most s = none := by
  have hb : Go.Lib.digitVal 32 = none := rfl
  obtain ⟨h1, h2, h3⟩ := cutAt_spec 47 s
  have key : (32 : UInt8) ∈ (cutAt 47 s).1 ∨ ((cutAt 47 s).2.2 = true ∧ (32 : UInt8) ∈ (cutAt 47 s).2.1) := by
    cases hc : (cutAt 47 s).2.2 with
    | false => left; rw [← (h3 hc).1]; exact h
    | true =>
      rw [h2 hc] at h
      rcases List.mem_append.1 h with h | h
      · exact .inl h
      · rcases List.mem_cons.1 h with h | h
        · exact absurd h (by decide)
        · exact .inr ⟨rfl, h⟩
  unfold itemR
  rcases key with h | ⟨hc, h⟩
  · split
    · rfl
    · rw [if_neg (fun e => by rw [e] at h; exact absurd h (by decide)), if_neg]
      intro c
      unfold itB itA at c
      obtain ⟨g1, g2, g3⟩ := cutAt_spec 45 (cutAt 47 s).1
      cases hd : (cutAt 45 (cutAt 47 s).1).2.2 with
      | false =>
        rw [← (g3 hd).1, intS_bad hb h] at c
        omega
      | true =>
        have h' := h
        rw [g2 hd] at h'
        rcases List.mem_append.1 h' with h' | h'
        · rw [intS_bad hb h'] at c; omega
        · rcases List.mem_cons.1 h' with h' | h'
          · exact absurd h' (by decide)
          · rw [hd, if_pos rfl, intS_bad hb h'] at c; omega
  · rw [if_pos ⟨hc, by rw [intS_bad hb h]; omega⟩]
def stepsV : Nat → Int → Int → Int → List Bool → List Bool
  | 0, _, _, _, v => v
  | c + 1, n, to, st, v => if n ≤ to then stepsV c (n + st) to st (v.set n.toNat true) else v
theorem stepsV_len : ∀ (c : Nat) (n to st : Int) (v : List Bool), (stepsV c n to st v).length = v.length
  | 0, _, _, _, _ => rfl
  | c + 1, n, to, st, v => by
    rw [stepsV]; split
    · rw [stepsV_len c, List.length_set]
    · rfl
theorem set_keep {v : List Bool} {i j : Nat} (h : v[i]? = some true) : (v.set j true)[i]? = some true := by
  rw [List.getElem?_set]
  split
  · rename_i e
    have : i < v.length := by
      rcases Nat.lt_or_ge i v.length with c | c
      · exact c
      · rw [List.getElem?_eq_none c] at h; cases h
    rw [if_pos (by omega)]
  · exact h
theorem stepsV_keep : ∀ (c : Nat) (n to st : Int) (v : List Bool) (i : Nat), v[i]? = some true → (stepsV c n to st v)[i]? = some true
  | 0, _, _, _, _, _, h => h
  | c + 1, n, to, st, v, i, h => by
    rw [stepsV]; split
    · exact stepsV_keep c _ _ _ _ i (set_keep h)
    · exact h
theorem stepsV_from (c : Nat) {n to : Int} (st : Int) {v : List Bool} (h : n ≤ to) (hl : n.toNat < v.length) : (stepsV (c + 1) n to st v)[n.toNat]? = some true := by
  rw [stepsV, if_pos h]
  refine stepsV_keep c _ _ _ _ _ ?_
  rw [List.getElem?_set, if_pos rfl, if_pos hl]
theorem stepsV_single (c : Nat) (x : Int) (v : List Bool) : stepsV (c + 1) x x 1 v = v.set x.toNat true := by
  rw [stepsV, if_pos (by omega)]
  cases c with
  | zero => rfl
  | succ c => rw [stepsV, if_neg (by omega)]
theorem stepsV_all : ∀ (c : Nat) (n to : Int) (v : List Bool) (i : Nat), 0 ≤ n → to < v.length → to + 1 - n ≤ c → n ≤ i → (i : Int) ≤ to → (stepsV c n to 1 v)[i]? = some true
  | 0, n, to, v, i, _, _, h3, h4, h5 => by omega
  | c + 1, n, to, v, i, h1, h2, h3, h4, h5 => by
    by_cases e : n = i
    · have := stepsV_from c (n := n) (to := to) 1 (v := v) (by omega) (by omega)
      rw [show n.toNat = i by omega] at this
      exact this
    · rw [stepsV, if_pos (by omega)]
      exact stepsV_all c (n + 1) to _ i (by omega) (by rw [List.length_set]; exact h2) (by omega) (by omega) h5
def fieldGo (most : Int) : List (List UInt8) → List Bool → Option (List Bool)
  | [], v => some v
  | s :: r, v => match itemR most s with
    | some x => fieldGo most r (stepsV 60 x.1 x.2.1 x.2.2 v)
    | none => none
def trues : Nat → List Bool → List Int
  | _, [] => []
  | j, x :: v => if x then (j : Int) :: trues (j + 1) v else trues (j + 1) v
def fieldV (most : Int) (s : List UInt8) : Option (List Int) := (fieldGo most (splitAll 44 s) (List.replicate (most + 1).toNat false)).map (trues 0)
theorem fieldGo_len (most : Int) : ∀ (l : List (List UInt8)) (v w : List Bool), fieldGo most l v = some w → w.length = v.length
  | [], v, w, h => by cases h; rfl
  | s :: l, v, w, h => by
    unfold fieldGo at h
    cases hi : itemR most s with
    | none => rw [hi] at h; cases h
    | some x =>
      rw [hi] at h
      rw [fieldGo_len most l _ w h, stepsV_len]
theorem fieldGo_keep (most : Int) : ∀ (l : List (List UInt8)) (v w : List Bool) (i : Nat), fieldGo most l v = some w → v[i]? = some true → w[i]? = some true
  | [], v, w, i, h, e => by cases h; exact e
  | s :: l, v, w, i, h, e => by
    unfold fieldGo at h
    cases hi : itemR most s with
    | none => rw [hi] at h; cases h
    | some x =>
      rw [hi] at h
      exact fieldGo_keep most l _ w i h (stepsV_keep _ _ _ _ _ _ e)
theorem fieldGo_some {most : Int} (hm : 0 ≤ most) : ∀ (l : List (List UInt8)) (v w : List Bool), l ≠ [] → most < v.length → fieldGo most l v = some w → ∃ i : Nat, w[i]? = some true
  | [], v, w, h, _, _ => absurd rfl h
  | s :: l, v, w, _, hv, h => by
    unfold fieldGo at h
    cases hi : itemR most s with
    | none => rw [hi] at h; cases h
    | some x =>
      rw [hi] at h
      have hx := itemR_in hm hi
      exact ⟨x.1.toNat, fieldGo_keep most l _ w _ h (stepsV_from 59 x.2.2 hx.2.1 (by omega))⟩
theorem fieldGo_none {most : Int} : ∀ (l : List (List UInt8)) (v : List Bool), (∃ s ∈ l, itemR most s = none) → fieldGo most l v = none
  | [], v, ⟨s, hs, _⟩ => by cases hs
  | s :: l, v, ⟨t, ht, hn⟩ => by
    unfold fieldGo
    cases hi : itemR most s with
    | none => rfl
    | some x =>
      rcases List.mem_cons.1 ht with ht | ht
      · rw [← ht, hn] at hi; cases hi
      · exact fieldGo_none l _ ⟨t, ht, hn⟩
theorem fieldV_space {most : Int} {s : List UInt8} (h : (32 : UInt8) ∈ s) : fieldV most s = none := by
  obtain ⟨p, h1, h2⟩ := splitAll_has 44 32 (by decide) s h
  unfold fieldV
  rw [fieldGo_none _ _ ⟨p, h1, itemR_space h2⟩]; rfl
def Rise (most : Int) : Int → List Int → Prop
  | _, [] => True
  | lo, x :: l => lo ≤ x ∧ x ≤ most ∧ Rise most (x + 1) l
theorem rise_mem {most : Int} : ∀ {lo : Int} {l : List Int}, Rise most lo l → ∀ x ∈ l, lo ≤ x ∧ x ≤ most
  | lo, [], _, x, hx => by cases hx
  | lo, y :: l, h, x, hx => by
    rcases List.mem_cons.1 hx with e | e
    · subst e; exact ⟨h.1, h.2.1⟩
    · have := rise_mem h.2.2 x e
      have := h.1
      omega
theorem rise_ext {m m' : Int} : ∀ {l l' : List Int} {lo lo' : Int}, Rise m lo l → Rise m' lo' l' → (∀ x, x ∈ l ↔ x ∈ l') → l = l'
  | [], [], _, _, _, _, _ => rfl
  | [], y :: l', _, _, _, _, h => by have := (h y).2 List.mem_cons_self; cases this
  | x :: l, [], _, _, _, _, h => by have := (h x).1 List.mem_cons_self; cases this
  | x :: l, y :: l', lo, lo', h1, h2, h => by
    have e : x = y := by
      have a := (h x).1 List.mem_cons_self
      have b := (h y).2 List.mem_cons_self
      rcases List.mem_cons.1 a with a | a
      · exact a
      · rcases List.mem_cons.1 b with b | b
        · exact b.symm
        · have := rise_mem h2.2.2 x a
          have := rise_mem h1.2.2 y b
          omega
    subst e
    congr 1
    refine rise_ext h1.2.2 h2.2.2 fun z => ⟨fun hz => ?_, fun hz => ?_⟩
    · have := rise_mem h1.2.2 z hz
      rcases List.mem_cons.1 ((h z).1 (List.mem_cons_of_mem _ hz)) with e | e
      · omega
      · exact e
    · have := rise_mem h2.2.2 z hz
      rcases List.mem_cons.1 ((h z).2 (List.mem_cons_of_mem _ hz)) with e | e
      · omega
      · exact e
theorem rise_full {most : Int} : ∀ {l : List Int} {lo : Int}, Rise most lo l → (l.length : Int) ≤ max 0 (most + 1 - lo) ∧ ((l.length : Int) = most + 1 - lo → ∀ x, lo ≤ x → x ≤ most → x ∈ l)
  | [], lo, _ => ⟨by simp; omega, fun e x h1 h2 => by simp at e; omega⟩
  | y :: l, lo, h => by
    have ih := rise_full h.2.2
    have h1 := h.1
    have h2 := h.2.1
    refine ⟨by rw [List.length_cons]; omega, fun e x a b => ?_⟩
    rw [List.length_cons] at e
    have : y = lo := by omega
    by_cases c : x = y
    · rw [c]; exact List.mem_cons_self
    · exact List.mem_cons_of_mem _ (ih.2 (by omega) x (by omega) b)
theorem trues_rise : ∀ (v : List Bool) (j : Nat) (m lo : Int), (j : Int) + v.length ≤ m + 1 → lo ≤ j → Rise m lo (trues j v)
  | [], _, _, _, _, _ => trivial
  | x :: v, j, m, lo, h, hl => by
    rw [List.length_cons] at h
    rw [trues]
    cases x with
    | false => exact trues_rise v (j + 1) m lo (by omega) (by omega)
    | true => exact ⟨hl, by omega, trues_rise v (j + 1) m (j + 1) (by omega) (by omega)⟩
theorem trues_mem : ∀ (v : List Bool) (j : Nat) (x : Int), x ∈ trues j v ↔ ∃ i : Nat, v[i]? = some true ∧ x = (j : Int) + i
  | [], j, x => by simp [trues]
  | b :: v, j, x => by
    have ih := trues_mem v (j + 1) x
    rw [trues]
    constructor
    · intro h
      cases b with
      | false =>
        obtain ⟨i, h1, h2⟩ := ih.1 h
        exact ⟨i + 1, h1, by omega⟩
      | true =>
        rcases List.mem_cons.1 h with e | e
        · exact ⟨0, rfl, by omega⟩
        · obtain ⟨i, h1, h2⟩ := ih.1 e
          exact ⟨i + 1, h1, by omega⟩
    · rintro ⟨i, h1, h2⟩
      cases i with
      | zero =>
        have : b = true := by simpa using h1
        subst this
        rw [if_pos rfl]
        rw [show x = (j : Int) by omega]; exact List.mem_cons_self
      | succ i =>
        have h3 := ih.2 ⟨i, h1, by omega⟩
        cases b with
        | false => exact h3
        | true => exact List.mem_cons_of_mem _ h3
theorem fieldV_good {most : Int} (hm : 0 ≤ most) {s : List UInt8} {l : List Int} (h : fieldV most s = some l) : l ≠ [] ∧ Rise most 0 l := by
  unfold fieldV at h
  cases hg : fieldGo most (splitAll 44 s) (List.replicate (most + 1).toNat false) with
  | none => rw [hg] at h; cases h
  | some w =>
    rw [hg] at h
    cases h
    have hl := fieldGo_len most _ _ _ hg
    rw [List.length_replicate] at hl
    obtain ⟨i, hi⟩ := fieldGo_some hm _ _ _ (by rw [splitAll_cut]; exact List.cons_ne_nil _ _) (by rw [List.length_replicate]; omega) hg
    exact ⟨List.ne_nil_of_mem ((trues_mem w 0 _).2 ⟨i, hi, rfl⟩), trues_rise w 0 most 0 (by omega) (by omega)⟩
def joinC : List Int → List UInt8
  | [] => []
  | [x] => dig x.toNat
  | x :: y :: r => dig x.toNat ++ 44 :: joinC (y :: r)
def textC (most : Int) (l : List Int) : List UInt8 := if (l.length : Int) = most + 1 then [42] else joinC l
theorem dig_no {n : Nat} (h : n < 100) (b : UInt8) (hb : b.toNat < 48) : b ∉ dig n := fun e => by
  have := dig_chars 1 n (by omega) b e
  omega
theorem splitAll_join : ∀ (l : List Int), l ≠ [] → (∀ x ∈ l, 0 ≤ x ∧ x < 100) → splitAll 44 (joinC l) = l.map fun x => dig x.toNat
  | [], h, _ => absurd rfl h
  | [x], _, h => by
    have := h x List.mem_cons_self
    rw [splitAll_cut, joinC, cutAt_no (dig_no (by omega) 44 (by decide))]; rfl
  | x :: y :: r, _, h => by
    have := h x List.mem_cons_self
    rw [splitAll_cut, joinC, cutAt_yes _ (dig_no (by omega) 44 (by decide))]
    simp only [if_true]
    rw [splitAll_join (y :: r) (List.cons_ne_nil _ _) fun z hz => h z (List.mem_cons_of_mem _ hz)]
    rfl
theorem itemR_dig {most x : Int} (h0 : 0 ≤ x) (h1 : x ≤ most) (h2 : most < 100) : itemR most (dig x.toNat) = some (x, x, 1) := by
  unfold itemR itB itS itA
  rw [cutAt_no (dig_no (by omega) 47 (by decide))]
  simp only
  rw [if_neg (fun e => by cases e.1), if_neg (fun e => by
    have := dig_no (n := x.toNat) (by omega) 42 (by decide)
    rw [e] at this; exact this List.mem_cons_self), cutAt_no (dig_no (by omega) 45 (by decide))]
  simp only
  rw [intS_dig (by omega)]
  have : ((x.toNat : Nat) : Int) = x := by omega
  rw [this]
  simp [h0, h1]
theorem fieldGo_join {most : Int} (h2 : most < 100) : ∀ (l : List Int) (v : List Bool), (∀ x ∈ l, 0 ≤ x ∧ x ≤ most) → fieldGo most (l.map fun x => dig x.toNat) v = some (l.foldl (fun v x => v.set x.toNat true) v)
  | [], v, _ => rfl
  | x :: l, v, h => by
    have hx := h x List.mem_cons_self
    rw [List.map_cons, fieldGo, itemR_dig hx.1 hx.2 h2]
    simp only
    rw [stepsV_single, fieldGo_join h2 l _ fun z hz => h z (List.mem_cons_of_mem _ hz)]
    rfl
theorem sets_mem : ∀ (l : List Int) (v : List Bool) (i : Nat), (∀ x ∈ l, 0 ≤ x ∧ x < v.length) → ((l.foldl (fun v x => v.set x.toNat true) v)[i]? = some true ↔ (v[i]? = some true ∨ (i : Int) ∈ l))
  | [], v, i, _ => by simp
  | x :: l, v, i, h => by
    have hx := h x List.mem_cons_self
    rw [List.foldl_cons, sets_mem l _ i fun z hz => by rw [List.length_set]; exact h z (List.mem_cons_of_mem _ hz), List.mem_cons, List.getElem?_set]
    by_cases e : x.toNat = i
    · have hi : (i : Int) = x := by omega
      rw [if_pos e, if_pos (by omega)]
      simp [hi]
    · have hi : ¬ (i : Int) = x := by omega
      rw [if_neg e]
      simp [hi]
theorem fieldV_text {most : Int} (hm : 0 ≤ most) (h2 : most < 60) {l : List Int} (hl : l ≠ []) (hr : Rise most 0 l) : fieldV most (textC most l) = some l := by
  have hb := rise_mem hr
  unfold fieldV textC
  by_cases c : (l.length : Int) = most + 1
  · rw [if_pos c]
    have e1 : splitAll 44 [42] = [[42]] := rfl
    have e2 : itemR most [42] = some (0, most, 1) := by
      unfold itemR itS
      rw [show cutAt 47 [42] = ([42], [], false) from rfl]
      simp
    have e3 : fieldGo most [[42]] (List.replicate (most + 1).toNat false) = some (stepsV 60 0 most 1 (List.replicate (most + 1).toNat false)) := by
      rw [fieldGo, e2]; rfl
    rw [e1, e3]
    simp only [Option.map_some]
    congr 1
    refine rise_ext (trues_rise _ 0 most 0 (by rw [stepsV_len, List.length_replicate]; omega) (by omega)) hr fun x => ?_
    rw [trues_mem]
    constructor
    · rintro ⟨i, h3, h4⟩
      have hi : i < (stepsV 60 0 most 1 (List.replicate (most + 1).toNat false)).length := by
        rcases Nat.lt_or_ge i (stepsV 60 0 most 1 (List.replicate (most + 1).toNat false)).length with c | c
        · exact c
        · rw [List.getElem?_eq_none c] at h3; cases h3
      rw [stepsV_len, List.length_replicate] at hi
      exact (rise_full hr).2 (by omega) x (by omega) (by omega)
    · intro hx
      have := hb x hx
      exact ⟨x.toNat, stepsV_all 60 0 most _ _ (by omega) (by rw [List.length_replicate]; omega) (by omega) (by omega) (by omega), by omega⟩
  · rw [if_neg c, splitAll_join l hl fun x hx => by have := hb x hx; omega, fieldGo_join (by omega) l _ hb]
    simp only [Option.map_some]
    congr 1
    have hlen : ∀ (l : List Int) (v : List Bool), (l.foldl (fun v x => v.set x.toNat true) v).length = v.length := by
      intro l
      induction l with
      | nil => intro v; rfl
      | cons x l ih => intro v; rw [List.foldl_cons, ih, List.length_set]
    refine rise_ext (trues_rise _ 0 most 0 (by rw [hlen, List.length_replicate]; omega) (by omega)) hr fun x => ?_
    rw [trues_mem]
    constructor
    · rintro ⟨i, h3, h4⟩
      rcases (sets_mem l _ i fun x hx => by have := hb x hx; rw [List.length_replicate]; omega).1 h3 with h | h
      · rw [List.getElem?_replicate] at h
        split at h <;> cases h
      · rw [show x = (i : Int) by omega]; exact h
    · intro hx
      have := hb x hx
      refine ⟨x.toNat, (sets_mem l _ _ fun x hx => by have := hb x hx; rw [List.length_replicate]; omega).2 (.inr ?_), by omega⟩
      rw [show ((x.toNat : Nat) : Int) = x by omega]; exact hx
theorem textC_no {most : Int} (h2 : most < 60) : ∀ {l : List Int}, (∀ x ∈ l, 0 ≤ x ∧ x ≤ most) → (32 : UInt8) ∉ textC most l := by
  intro l h
  unfold textC
  split
  · decide
  · rename_i c
    clear c
    intro hm
    induction l with
    | nil => cases hm
    | cons x l ih =>
      have hx := h x List.mem_cons_self
      cases l with
      | nil => exact dig_no (n := x.toNat) (by omega) 32 (by decide) hm
      | cons y r =>
        rw [joinC] at hm
        rcases List.mem_append.1 hm with hm | hm
        · exact dig_no (n := x.toNat) (by omega) 32 (by decide) hm
        · rcases List.mem_cons.1 hm with hm | hm
          · exact absurd hm (by decide)
          · exact ih (fun z hz => h z (List.mem_cons_of_mem _ hz)) hm
theorem joinC_len : ∀ {l : List Int}, (∀ x ∈ l, 0 ≤ x ∧ x < 100) → (joinC l).length ≤ 3 * l.length
  | [], _ => by simp [joinC]
  | [x], h => by
    have hx := h x List.mem_cons_self
    have := dig_len 1 x.toNat (by omega)
    simp [joinC]; omega
  | x :: y :: r, h => by
    have hx := h x List.mem_cons_self
    have := dig_len 1 x.toNat (by omega)
    have ih := joinC_len (l := y :: r) fun z hz => h z (List.mem_cons_of_mem _ hz)
    rw [joinC, List.length_append, List.length_cons]
    simp only [List.length_cons] at ih ⊢
    omega
abbrev Tri := List Int × List Int × List Int
def goodV (c : Tri) : Prop := (c.1 ≠ [] ∧ Rise 59 0 c.1) ∧ (c.2.1 ≠ [] ∧ Rise 23 0 c.2.1) ∧ c.2.2 ≠ [] ∧ Rise 6 0 c.2.2
def textV (c : Tri) : List UInt8 := textC 59 c.1 ++ 32 :: (textC 23 c.2.1 ++ 32 :: textC 6 c.2.2)
def readV3 (a b c : List UInt8) : Option Tri := match fieldV 59 a with
  | some x => match fieldV 23 b with
    | some y => match fieldV 6 c with
      | some z => some (x, y, z)
      | none => none
    | none => none
  | none => none
def readV (s : List UInt8) : Option Tri := match splitAll 32 s with
  | [a, b, c] => readV3 a b c
  | _ => none
theorem readV_text {c : Tri} (h : goodV c) : readV (textV c) = some c := by
  obtain ⟨⟨h1, h2⟩, ⟨h3, h4⟩, h5, h6⟩ := h
  have e : splitAll 32 (textV c) = [textC 59 c.1, textC 23 c.2.1, textC 6 c.2.2] := by
    unfold textV
    rw [splitAll_cut, cutAt_yes _ (textC_no (by omega) (rise_mem h2))]
    simp only [if_true]
    rw [splitAll_cut, cutAt_yes _ (textC_no (by omega) (rise_mem h4))]
    simp only [if_true]
    rw [splitAll_cut, cutAt_no (textC_no (by omega) (rise_mem h6))]
    rfl
  unfold readV
  rw [e]
  simp only [readV3]
  rw [fieldV_text (by omega) (by omega) h1 h2, fieldV_text (by omega) (by omega) h3 h4, fieldV_text (by omega) (by omega) h5 h6]
theorem readV3_good {a b d : List UInt8} {c : Tri} (h : readV3 a b d = some c) : goodV c := by
  unfold readV3 at h
  cases h1 : fieldV 59 a with
  | none => rw [h1] at h; cases h
  | some x =>
    rw [h1] at h
    cases h2 : fieldV 23 b with
    | none => rw [h2] at h; cases h
    | some y =>
      rw [h2] at h
      cases h3 : fieldV 6 d with
      | none => rw [h3] at h; cases h
      | some z =>
        rw [h3] at h
        cases h
        exact ⟨fieldV_good (by omega) h1, fieldV_good (by omega) h2, fieldV_good (by omega) h3⟩
theorem readV_good {s : List UInt8} {c : Tri} (h : readV s = some c) : goodV c := by
  unfold readV at h
  split at h
  · exact readV3_good h
  · cases h
/-- The reference cuts twice; what is left of the third field may hold spaces, and is then none. -/
theorem readV_cut (s : List UInt8) : readV s = if (cutAt 32 s).2.2 = true ∧ (cutAt 32 (cutAt 32 s).2.1).2.2 = true then readV3 (cutAt 32 s).1 (cutAt 32 (cutAt 32 s).2.1).1 (cutAt 32 (cutAt 32 s).2.1).2.1 else none := by
  unfold readV
  rw [splitAll_cut]
  cases h1 : (cutAt 32 s).2.2 with
  | false => simp
  | true =>
    simp only [if_true, true_and]
    rw [splitAll_cut]
    cases h2 : (cutAt 32 (cutAt 32 s).2.1).2.2 with
    | false => simp
    | true =>
      simp only [if_true]
      rw [splitAll_cut]
      generalize (cutAt 32 (cutAt 32 s).2.1).2.1 = q
      cases h3 : (cutAt 32 q).2.2 with
      | false =>
        have := ((cutAt_spec 32 q).2.2 h3).1
        simp [← this]
      | true =>
        have hs : (32 : UInt8) ∈ q := by
          rw [(cutAt_spec 32 q).2.1 h3]
          exact List.mem_append_right _ List.mem_cons_self
        have e : readV3 (cutAt 32 s).1 (cutAt 32 (cutAt 32 s).2.1).1 q = none := by
          unfold readV3
          rw [fieldV_space hs]
          cases fieldV 59 (cutAt 32 s).1 with
          | none => rfl
          | some x => cases fieldV 23 (cutAt 32 (cutAt 32 s).2.1).1 <;> rfl
        rw [e]
        simp only [if_true]
        rw [splitAll_cut]
def isDig (b : UInt8) : Bool := decide (48 ≤ b.toNat) && decide (b.toNat ≤ 57)
def runD : Nat → List UInt8 → Nat
  | _, [] => 0
  | 0, c :: t => if isDig c then 1 + runD 0 t else 0
  | e + 1, c :: t => if isDig c then 1 + runD (e + 1) t else runD e t
def mrun (e : Nat) : List UInt8 → Nat
  | [] => 0
  | c :: t => max (runD e (c :: t)) (mrun e t)
theorem runD_dig {e : Nat} {c : UInt8} {t : List UInt8} (h : isDig c = true) : runD e (c :: t) = 1 + runD e t := by
  cases e <;> (rw [runD, if_pos h])
theorem runD_not {e : Nat} {c : UInt8} {t : List UInt8} (h : isDig c = false) : runD e (c :: t) = match e with | 0 => 0 | e + 1 => runD e t := by
  cases e <;> (rw [runD, if_neg (by rw [h]; simp)])
theorem runD_mono : ∀ (t : List UInt8) (e : Nat), runD e t ≤ runD (e + 1) t
  | [], e => by cases e <;> simp [runD]
  | c :: t, e => by
    cases h : isDig c with
    | true => rw [runD_dig h, runD_dig h]; have := runD_mono t e; omega
    | false =>
      rw [runD_not h, runD_not h]
      cases e with
      | zero => exact Nat.zero_le _
      | succ e => exact runD_mono t e
theorem runD_drop1 (e : Nat) (x : UInt8) (t : List UInt8) : runD e t ≤ runD (e + 1) (x :: t) := by
  cases h : isDig x with
  | true => rw [runD_dig h]; have := runD_mono t e; omega
  | false => rw [runD_not h]; exact Nat.le_refl _
theorem runD_cons (e : Nat) (c : UInt8) (t : List UInt8) : runD e (c :: t) ≤ 1 + runD e t := by
  cases h : isDig c with
  | true => rw [runD_dig h]; exact Nat.le_refl _
  | false =>
    rw [runD_not h]
    cases e with
    | zero => exact Nat.zero_le _
    | succ e => have := runD_mono t e; simp only; omega
/-- An edit behind a common beginning. -/
theorem runD_edit : ∀ (p : List UInt8) (e : Nat) (t t' : List UInt8), (∀ e, runD e t' ≤ 1 + runD (e + 1) t) → runD e (p ++ t') ≤ 1 + runD (e + 1) (p ++ t)
  | [], e, t, t', h => h e
  | x :: p, e, t, t', h => by
    rw [List.cons_append, List.cons_append]
    cases hx : isDig x with
    | true => rw [runD_dig hx, runD_dig hx]; have := runD_edit p e t t' h; omega
    | false =>
      rw [runD_not hx, runD_not hx]
      cases e with
      | zero => exact Nat.zero_le _
      | succ e => exact runD_edit p e t t' h
theorem mrun_run (e : Nat) (t : List UInt8) : runD e t ≤ mrun e t := by
  cases t with
  | nil => cases e <;> simp [runD]
  | cons c t => exact Nat.le_max_left _ _
theorem mrun_mono : ∀ (t : List UInt8) (e : Nat), mrun e t ≤ mrun (e + 1) t
  | [], _ => Nat.le_refl _
  | c :: t, e => by
    have := mrun_mono t e
    have := runD_mono (c :: t) e
    rw [mrun, mrun]; omega
theorem mrun_edit : ∀ (p : List UInt8) (e : Nat) (t t' : List UInt8), (∀ e, runD e t' ≤ 1 + runD (e + 1) t) → mrun e t' ≤ 1 + mrun (e + 1) t → mrun e (p ++ t') ≤ 1 + mrun (e + 1) (p ++ t)
  | [], e, t, t', _, h => h
  | x :: p, e, t, t', h, h2 => by
    have a := runD_edit (x :: p) e t t' h
    have b := mrun_edit p e t t' h h2
    rw [List.cons_append] at a ⊢
    rw [List.cons_append] at a ⊢
    rw [mrun, mrun]; omega
theorem mrun_ins (p : List UInt8) (c : UInt8) (t : List UInt8) (e : Nat) : mrun e (p ++ c :: t) ≤ 1 + mrun (e + 1) (p ++ t) := by
  have k : ∀ e, runD e (c :: t) ≤ 1 + runD (e + 1) t := fun e => by
    have := runD_cons e c t
    have := runD_mono t e
    omega
  refine mrun_edit p e t (c :: t) k ?_
  have a := k e
  have b := mrun_run (e + 1) t
  have d := mrun_mono t e
  rw [mrun]; omega
theorem mrun_rep (p : List UInt8) (c x : UInt8) (t : List UInt8) (e : Nat) : mrun e (p ++ c :: t) ≤ 1 + mrun (e + 1) (p ++ x :: t) := by
  have k : ∀ e, runD e (c :: t) ≤ 1 + runD (e + 1) (x :: t) := fun e => by
    have := runD_cons e c t
    have := runD_drop1 e x t
    omega
  refine mrun_edit p e (x :: t) (c :: t) k ?_
  have a := k e
  have d := mrun_mono t e
  rw [mrun, mrun]; omega
theorem mrun_del (p : List UInt8) (x : UInt8) (t : List UInt8) (e : Nat) : mrun e (p ++ t) ≤ 1 + mrun (e + 1) (p ++ x :: t) := by
  have k : ∀ e, runD e t ≤ 1 + runD (e + 1) (x :: t) := fun e => by
    have := runD_drop1 e x t
    omega
  refine mrun_edit p e (x :: t) t k ?_
  have d := mrun_mono t e
  rw [mrun]; omega
theorem runD_all : ∀ (v w : List UInt8) (e : Nat), (∀ b ∈ v, isDig b = true) → v.length ≤ runD e (v ++ w)
  | [], _, _, _ => Nat.zero_le _
  | c :: v, w, e, h => by
    rw [List.cons_append, runD_dig (h c List.mem_cons_self), List.length_cons]
    have := runD_all v w e fun b hb => h b (List.mem_cons_of_mem _ hb)
    omega
theorem mrun_app : ∀ (u t : List UInt8) (e : Nat), mrun e t ≤ mrun e (u ++ t)
  | [], _, _ => Nat.le_refl _
  | x :: u, t, e => by
    have := mrun_app u t e
    rw [List.cons_append, mrun]; omega
theorem runD_pre : ∀ (t w : List UInt8) (e : Nat), runD e t ≤ runD e (t ++ w)
  | [], w, e => by cases e <;> simp [runD]
  | c :: t, w, e => by
    rw [List.cons_append]
    cases h : isDig c with
    | true => rw [runD_dig h, runD_dig h]; have := runD_pre t w e; omega
    | false =>
      rw [runD_not h, runD_not h]
      cases e with
      | zero => exact Nat.zero_le _
      | succ e => exact runD_pre t w e
theorem mrun_pre : ∀ (t w : List UInt8) (e : Nat), mrun e t ≤ mrun e (t ++ w)
  | [], _, _ => Nat.zero_le _
  | c :: t, w, e => by
    have := mrun_pre t w e
    have := runD_pre (c :: t) w e
    rw [List.cons_append] at this ⊢
    rw [mrun, mrun]; omega
/-- No ten digits in a row. -/
def Short (s : List UInt8) : Prop := mrun 0 s ≤ 9 ∧ s.length ≤ 18
theorem short_dig {s : List UInt8} (h : Short s) (hd : ∀ b ∈ s, isDig b = true) : s.length ≤ 9 := by
  have a := runD_all s [] 0 hd
  rw [List.append_nil] at a
  have b := mrun_run 0 s
  have := h.1
  omega
theorem short_mid {u s w : List UInt8} (h : Short (u ++ (s ++ w))) : Short s := by
  have a := mrun_app u (s ++ w) 0
  have b := mrun_pre s w 0
  obtain ⟨h1, h2⟩ := h
  simp only [List.length_append] at h2
  exact ⟨by omega, by omega⟩
theorem short_cut {s : List UInt8} (b : UInt8) (h : Short s) : Short (cutAt b s).1 ∧ Short (cutAt b s).2.1 := by
  have hs := cutAt_spec b s
  cases hc : (cutAt b s).2.2 with
  | false =>
    have := hs.2.2 hc
    rw [← this.1, this.2]
    exact ⟨h, by simp [Short, mrun]⟩
  | true =>
    have e := hs.2.1 hc
    rw [e] at h
    refine ⟨short_mid (u := []) h, ?_⟩
    have h' : Short (((cutAt b s).1 ++ [b]) ++ ((cutAt b s).2.1 ++ [])) := by
      rw [List.append_nil, List.append_assoc]; exact h
    exact short_mid h'
theorem short_split (b : UInt8) : ∀ (n : Nat) (s : List UInt8), s.length ≤ n → Short s → ∀ p ∈ splitAll b s, Short p
  | n, s, hn, h, p, hp => by
    have hc := short_cut b h
    have hs := cutAt_spec b s
    rw [splitAll_cut] at hp
    rcases List.mem_cons.1 hp with e | e
    · rw [e]; exact hc.1
    · cases hx : (cutAt b s).2.2 with
      | false => rw [hx] at e; cases e
      | true =>
        rw [hx, if_pos rfl] at e
        cases n with
        | zero =>
          have := congrArg List.length (hs.2.1 hx)
          rw [List.length_append, List.length_cons] at this
          omega
        | succ n =>
          have := congrArg List.length (hs.2.1 hx)
          rw [List.length_append, List.length_cons] at this
          exact short_split b n _ (by omega) hc.2 p e
theorem and255 (x : Int) : 0 ≤ IntKind.wrap .i64 (IntKind.wrap .u64 (Int.ofNat (BitVec.toNat (BitVec.ofInt (IntKind.bits .u64) x &&& BitVec.ofInt (IntKind.bits .u64) 255)))) ∧ IntKind.wrap .i64 (IntKind.wrap .u64 (Int.ofNat (BitVec.toNat (BitVec.ofInt (IntKind.bits .u64) x &&& BitVec.ofInt (IntKind.bits .u64) 255)))) ≤ 255 := by
  have h : BitVec.toNat (BitVec.ofInt (IntKind.bits .u64) x &&& BitVec.ofInt (IntKind.bits .u64) 255) ≤ 255 := by
    rw [BitVec.toNat_and]
    exact Nat.le_trans Nat.and_le_right (by decide)
  generalize BitVec.toNat (BitVec.ofInt (IntKind.bits .u64) x &&& BitVec.ofInt (IntKind.bits .u64) 255) = y at h
  have h1 : IntKind.wrap .u64 (Int.ofNat y) = (y : Int) := by
    simp only [IntKind.wrap, IntKind.signed, IntKind.bits]
    simp
    omega
  rw [h1, wrap64 (by omega) (by omega)]
  omega
/-- Bytes. -/
def Bytes (l : List Int) : Prop := ∀ x ∈ l, 0 ≤ x ∧ x ≤ 255
theorem bytes_getD {l : List Int} (hl : Bytes l) {i : Nat} (h : i < l.length) : 0 ≤ l.getD i 0 ∧ l.getD i 0 ≤ 255 := by
  rw [List.getD_eq_getElem?_getD, List.getElem?_eq_getElem h]
  exact hl _ (List.getElem_mem h)
def seedN (s b : Int) : Int := IntKind.wrap .u64 ((IntKind.wrap .u64 ((IntKind.wrap .u64 (s * 6364136223846793005)) + b)) + 1442695040888963407)
theorem next_ex {l : List Int} (hl : Bytes l) (n : Nat) {p s : Int} (h0 : 0 ≤ p) (h1 : p ≤ 4611686018427387904) : ∃ r s', 0 ≤ r ∧ r ≤ 255 ∧ ∀ (R : Type) (k : Int → List Int → Int → Int → Option R), spec_l1Cur_next n l p s k = k r l (p + 1) s' := by
  have hw : IntKind.wrap .i64 (p + 1) = p + 1 := wrap64 (by omega) (by omega)
  by_cases c : p < (l.length : Int)
  · obtain ⟨b1, b2⟩ := bytes_getD hl (i := Int.toNat p) (by omega)
    have hg : IntKind.wrap .i64 (l.getD (Int.toNat p) 0) = l.getD (Int.toNat p) 0 := wrap64 (by omega) (by omega)
    refine ⟨l.getD (Int.toNat p) 0, seedN s (IntKind.wrap .u64 (l.getD (Int.toNat p) 0)), b1, b2, fun R k => ?_⟩
    unfold spec_l1Cur_next
    rw [decide_eq_true c, decide_eq_true h0, hw, decide_eq_true (show p + 1 ≤ (l.length : Int) by omega), hg]
    rfl
  · have hn := and255 (Int.fdiv (seedN s 0) (2 ^ (min (Int.toNat 40) (IntKind.bits .u64))))
    refine ⟨_, seedN s 0, hn.1, hn.2, fun R k => ?_⟩
    unfold spec_l1Cur_next
    rw [decide_eq_false c, hw, decide_eq_false (show ¬ p + 1 ≤ (l.length : Int) by omega)]
    rfl
theorem pick_ex {l : List Int} (hl : Bytes l) (n : Nat) {m p s : Int} (hm : m ≤ 60000) (h0 : 0 ≤ p) (h1 : p ≤ 4611686018427387000) : ∃ r p' s', 0 ≤ r ∧ (r < m ∨ (m ≤ 1 ∧ r = 0)) ∧ p ≤ p' ∧ p' ≤ p + 2 ∧ ∀ (R : Type) (k : Int → List Int → Int → Int → Option R), spec_l1Cur_pick n m l p s k = k r l p' s' := by
  by_cases c : m ≤ 1
  · exact ⟨0, p, s, by omega, .inr ⟨c, rfl⟩, by omega, by omega, fun R k => by unfold spec_l1Cur_pick; rw [decide_eq_true c]; rfl⟩
  · obtain ⟨r, s1, r0, r1, hr⟩ := next_ex hl n (s := s) h0 (by omega)
    by_cases c2 : m > 200
    · obtain ⟨q, s2, q0, q1, hq⟩ := next_ex hl n (p := p + 1) (s := s1) (by omega) (by omega)
      have e : IntKind.wrap .i64 (IntKind.wrap .i64 (r * 256) + q) = r * 256 + q := by rw [wrap64 (x := r * 256) (by omega) (by omega), wrap64 (by omega) (by omega)]
      have t0 := Int.tmod_nonneg m (show 0 ≤ r * 256 + q by omega)
      have t1 := Int.tmod_lt_of_pos (r * 256 + q) (show 0 < m by omega)
      refine ⟨Int.tmod (r * 256 + q) m, p + 1 + 1, s2, t0, .inl t1, by omega, by omega, fun R k => ?_⟩
      unfold spec_l1Cur_pick
      rw [decide_eq_false c, hr, decide_eq_true c2, hq, decide_eq_true (show m ≠ 0 by omega), e]
      rfl
    · have t0 := Int.tmod_nonneg m (show 0 ≤ r by omega)
      have t1 := Int.tmod_lt_of_pos r (show 0 < m by omega)
      refine ⟨Int.tmod r m, p + 1, s1, t0, .inl t1, by omega, by omega, fun R k => ?_⟩
      unfold spec_l1Cur_pick
      rw [decide_eq_false c, hr, decide_eq_false c2, decide_eq_true (show m ≠ 0 by omega)]
      rfl
theorem ba_extract (s : ByteArray) (a b : Nat) : (ByteArray.extract s a b).data.toList = (s.data.toList.drop a).take (b - a) := by
  rw [ByteArray.data_extract, Array.toList_extract, List.extract_eq_take_drop]
theorem laws_sameInts_loop {R : Type} (xs ys : List Int) (hl : xs.length = ys.length) (hb : xs.length ≤ 9223372036854775807) (kr : Bool → Option R) (ke : Option R) : ∀ (n j : Nat), xs.length - j < n → j ≤ xs.length →
    laws_sameInts_l4 n xs ys (xs.length : Int) (j : Int) kr ke = if xs.drop j = ys.drop j then ke else kr false
  | 0, _, h, _ => by omega
  | n + 1, j, hn, hj => by
    unfold laws_sameInts_l4
    by_cases h : j < xs.length
    · have h' : j < ys.length := by omega
      rw [dlt h, dlt h', dnn, getD_at _ _ h, getD_at _ _ h', wrapS h hb, List.drop_eq_getElem_cons h, List.drop_eq_getElem_cons h']
      simp only [cond_true]
      by_cases he : xs[j] = ys[j]
      · have : (xs[j] != ys[j]) = false := by simp [he]
        rw [this, cond_false, laws_sameInts_loop xs ys hl hb kr ke n (j + 1) (by omega) (by omega)]
        simp only [List.cons.injEq, he, true_and]
      · have : (xs[j] != ys[j]) = true := by simpa using he
        rw [this, cond_true, if_neg fun h => he (List.cons.inj h).1]
    · rw [dge (by omega)]
      have h1 : xs.drop j = [] := List.drop_eq_nil_iff.2 (by omega)
      have h2 : ys.drop j = [] := List.drop_eq_nil_iff.2 (by omega)
      simp [h1, h2]
theorem laws_sameInts_eq {R : Type} {n : Nat} {xs ys : List Int} (hb : xs.length ≤ 9223372036854775807) (hn : xs.length < n) (k : Bool → Option R) : laws_sameInts n xs ys k = k (decide (xs = ys)) := by
  unfold laws_sameInts
  by_cases hl : xs.length = ys.length
  · have : ((xs.length : Int) != (ys.length : Int)) = false := by simp [hl]
    rw [this, cond_false]
    have := laws_sameInts_loop xs ys hl hb k (k true) n 0 (by omega) (by omega)
    simp only [List.drop_zero] at this
    rw [show ((0 : Nat) : Int) = 0 from rfl] at this
    rw [this]
    split <;> simp_all
  · have : ((xs.length : Int) != (ys.length : Int)) = true := by simp; omega
    rw [this, cond_true, decide_eq_false fun h => hl (by rw [h])]
theorem str_eq (a : List UInt8) (b : Array UInt8) : (ByteArray.toList ⟨a.toArray⟩ == ByteArray.toList (ByteArray.mk b)) = decide (a = b.toList) := by
  rw [bl_data, bl_data]
  by_cases h : a = b.toList
  · simp [h]
  · rw [decide_eq_false h]
    exact beq_eq_false_iff_ne.2 h
theorem spec_l1Cut_loop {R : Type} (s : ByteArray) (c : UInt8) (hl : s.size ≤ 9223372036854775806) (kr : ByteArray → ByteArray → Bool → Option R) (ke : ByteArray → Option R) : ∀ (n j : Nat), s.size - j < n → j ≤ s.size →
    spec_l1Cut_l2 n s (c.toNat : Int) (j : Int) kr ke = if (cutAt c (s.data.toList.drop j)).2.2 then kr ⟨(s.data.toList.take j ++ (cutAt c (s.data.toList.drop j)).1).toArray⟩ ⟨(cutAt c (s.data.toList.drop j)).2.1.toArray⟩ true else ke s
  | 0, _, h, _ => by omega
  | n + 1, j, hn, hj => by
    have hsz : s.data.toList.length = s.size := rfl
    rw [spec_l1Cut_l2]
    by_cases h : j < s.size
    · have h' : j < s.data.toList.length := h
      rw [dlt h, dnn, byte_at s h', wrapS h (by omega), List.drop_eq_getElem_cons h', cutAt]
      simp only [cond_true]
      by_cases e : s.data.toList[j] = c
      · rw [if_pos e, e, show ((c.toNat : Int) == (c.toNat : Int)) = true from beq_self_eq_true _, decide_eq_true (show (j : Int) ≤ (s.size : Int) by omega), dnn, decide_eq_true (show ((j + 1 : Nat) : Int) ≤ (s.size : Int) by omega), decide_eq_true (show (s.size : Int) ≤ (s.size : Int) by omega)]
        simp only [cond_true, if_true, List.append_nil]
        congr 1
        · refine ba_ext ?_
          rw [ba_extract, Int.toNat_natCast, Nat.sub_zero, List.drop_zero]
        · refine ba_ext ?_
          rw [ba_extract, Int.toNat_natCast, Int.toNat_natCast, List.take_of_length_le (by rw [List.length_drop]; omega)]
      · have hne : (((s.data.toList[j]).toNat : Int) == (c.toNat : Int)) = false := by
          rw [beq_eq_false_iff_ne]
          intro x
          exact e (UInt8.toNat_inj.1 (by omega))
        rw [if_neg e, hne, cond_false, spec_l1Cut_loop s c hl kr ke n (j + 1) (by omega) (by omega), List.take_succ_eq_append_getElem h', List.append_assoc, List.singleton_append]
    · rw [decide_eq_false (show ¬ (j : Int) < (s.size : Int) by omega), List.drop_eq_nil_iff.2 (by omega)]
      rfl
theorem spec_l1Cut_eq {R : Type} {n : Nat} (l : List UInt8) (c : UInt8) (hl : l.length ≤ 1048576) (hn : l.length < n) (k : ByteArray → ByteArray → Bool → Option R) : spec_l1Cut n ⟨l.toArray⟩ (c.toNat : Int) k = k ⟨(cutAt c l).1.toArray⟩ ⟨(cutAt c l).2.1.toArray⟩ (cutAt c l).2.2 := by
  have hs : (ByteArray.mk l.toArray).size = l.length := rfl
  unfold spec_l1Cut
  have := spec_l1Cut_loop ⟨l.toArray⟩ c (by omega) (fun r1 r2 r3 => k r1 r2 r3) (fun r4 => k r4 (ByteArray.mk #[]) false) n 0 (by omega) (by omega)
  rw [show ((0 : Nat) : Int) = 0 from rfl, List.drop_zero] at this
  rw [this]
  have hc := cutAt_spec c l
  show (if (cutAt c l).2.2 then _ else _) = _
  cases h : (cutAt c l).2.2 with
  | true => simp
  | false =>
    have := hc.2.2 h
    rw [if_neg (by simp), this.2, ← this.1]
theorem spec_l1Int_loop {R : Type} (s : ByteArray) (hl : s.size ≤ 9) (kr ke : Int → Option R) : ∀ (n j acc : Nat), s.size - j < n → j ≤ s.size → acc < 10 ^ j →
    spec_l1Int_l5 n s (acc : Int) (j : Int) kr ke = match Go.Lib.decFrom acc (s.data.toList.drop j) with | some m => ke m | none => kr (-1)
  | 0, _, _, h, _, _ => by omega
  | n + 1, j, acc, hn, hj, ha => by
    have hsz : s.data.toList.length = s.size := rfl
    rw [spec_l1Int_l5]
    by_cases h : j < s.size
    · have h' : j < s.data.toList.length := h
      have hp : 10 ^ j ≤ 10 ^ 9 := Nat.pow_le_pow_right (by decide) (by omega)
      have hp2 : 10 ^ (j + 1) = 10 ^ j * 10 := Nat.pow_succ ..
      rw [dlt h, dnn, byte_at s h', wrapS h (by omega), List.drop_eq_getElem_cons h', Go.Lib.decFrom]
      simp only [cond_true]
      generalize s.data.toList[j] = b
      have hb := b.toNat_lt
      unfold Go.Lib.digitVal
      by_cases c1 : b.toNat < 48
      · rw [decide_eq_true (show (b.toNat : Int) < 48 by omega), if_neg (by omega)]; rfl
      · rw [decide_eq_false (show ¬ (b.toNat : Int) < 48 by omega)]
        by_cases c2 : b.toNat > 57
        · rw [decide_eq_true (show (b.toNat : Int) > 57 by omega), if_neg (by omega)]; rfl
        · rw [decide_eq_false (show ¬ (b.toNat : Int) > 57 by omega), if_pos (by omega)]
          simp only [cond_false]
          have e : IntKind.wrap .i64 (IntKind.wrap .i64 (10 * (acc : Int)) + IntKind.wrap .i64 (IntKind.wrap .u8 ((b.toNat : Int) - 48))) = ((acc * 10 + (b.toNat - 48) : Nat) : Int) := by
            rw [wrap_8 (x := (b.toNat : Int) - 48) (by omega) (by omega), wrap64 (x := 10 * (acc : Int)) (by omega) (by omega), wrap64 (x := (b.toNat : Int) - 48) (by omega) (by omega), wrap64 (by omega) (by omega)]
            omega
          rw [e]
          exact spec_l1Int_loop s hl kr ke n (j + 1) _ (by omega) (by omega) (by omega)
    · rw [decide_eq_false (show ¬ (j : Int) < (s.size : Int) by omega), List.drop_eq_nil_iff.2 (by omega)]
      rfl
theorem spec_l1Int_eq {R : Type} {n : Nat} (l : List UInt8) (hn : 20 ≤ n) (k : Int → Option R) : spec_l1Int n ⟨l.toArray⟩ k = k (intS l) := by
  have hs : (ByteArray.mk l.toArray).size = l.length := rfl
  unfold spec_l1Int
  rw [spec_l1In_eq, hs]
  unfold intS
  by_cases h : 1 ≤ l.length ∧ l.length ≤ 9
  · rw [decide_eq_true (show (1 : Int) ≤ (l.length : Int) ∧ (l.length : Int) ≤ 9 by omega), decide_eq_true (show (0 : Int) < (l.length : Int) by omega)]
    simp only [Bool.not_true, cond_false, cond_true]
    have loop := spec_l1Int_loop ⟨l.toArray⟩ (by omega) k k n 0 0 (by omega) (by omega) (by decide)
    rw [show ((0 : Nat) : Int) = 0 from rfl, List.drop_zero] at loop
    have loop' : spec_l1Int_l5 n ⟨l.toArray⟩ 0 0 k k = match Go.Lib.decFrom 0 l with | some m => k m | none => k (-1) := loop
    cases l with
    | nil => simp at h
    | cons b r =>
      have e0 : (ByteArray.mk (b :: r).toArray).data.getD 0 0 = b := rfl
      rw [e0]
      by_cases hb : b = 48
      · rw [hb]
        simp only [show (((48 : UInt8).toNat : Int) == 48) = true from rfl, cond_true]
        by_cases hl : 1 < (48 :: r : List UInt8).length
        · rw [decide_eq_true (show ((48 :: r : List UInt8).length : Int) > 1 by omega), cond_true, if_pos (.inr (.inr ⟨rfl, hl⟩))]
        · rw [decide_eq_false (show ¬ ((48 :: r : List UInt8).length : Int) > 1 by omega), cond_false, if_neg (by
            intro c
            rcases c with c | c | c
            · simp at c
            · rw [hb] at h; omega
            · exact hl c.2)]
          rw [hb] at loop'
          rw [loop']
          cases Go.Lib.decFrom 0 (48 :: r) <;> rfl
      · have hne : ((b.toNat : Int) == 48) = false := by
          rw [beq_eq_false_iff_ne]
          intro x
          exact hb (UInt8.toNat_inj.1 (show b.toNat = 48 by omega))
        rw [hne, cond_false, if_neg (by
            intro c
            rcases c with c | c | c
            · simp at c
            · omega
            · exact hb c.1)]
        rw [loop']
        cases Go.Lib.decFrom 0 (b :: r) <;> rfl
  · rw [decide_eq_false (show ¬ ((1 : Int) ≤ (l.length : Int) ∧ (l.length : Int) ≤ 9) by omega), if_pos (by omega)]
    rfl
theorem spec_item {R : Type} {n : Nat} {most : Int} (hm : 0 ≤ most) (l : List UInt8) (hl : l.length ≤ 1048576) (hn : l.length + 100 ≤ n) (k : Int → Int → Int → Bool → Option R) :
    (∀ x, itemR most l = some x → spec_l6Item n ⟨l.toArray⟩ most k = k x.1 x.2.1 x.2.2 true) ∧ (itemR most l = none → ∃ a b st, spec_l6Item n ⟨l.toArray⟩ most k = k a b st false) := by
  have hc := cutAt_spec 47 l
  have hA : (cutAt 47 l).1.length ≤ l.length := by
    cases h : (cutAt 47 l).2.2 with
    | false => rw [← (hc.2.2 h).1]; exact Nat.le_refl _
    | true =>
      have := congrArg List.length (hc.2.1 h)
      rw [List.length_append] at this; omega
  have e1 := spec_l1Cut_eq (R := R) (n := n) l 47 hl (by omega)
  have e2 := spec_l1Cut_eq (R := R) (n := n) (cutAt 47 l).1 45 (by omega) (by omega)
  unfold spec_l6Item
  rw [show (47 : Int) = (((47 : UInt8).toNat : Nat) : Int) from rfl, e1]
  simp only [spec_l1Int_eq _ (show 20 ≤ n by omega), show (45 : Int) = (((45 : UInt8).toNat : Nat) : Int) from rfl, e2, spec_l1In_eq, str_eq]
  unfold itemR itS itB itA
  generalize cutAt 47 l = A at *
  generalize cutAt 45 A.1 = D at *
  generalize intS A.2.1 = st at *
  generalize intS D.1 = a at *
  generalize intS D.2.1 = b at *
  cases h1 : A.2.2 with
  | true =>
    simp only [cond_true, true_and, if_true]
    by_cases c1 : st < 1
    · simp only [if_pos c1, decide_eq_true c1, cond_true]
      exact ⟨fun x h => (by cases h), fun _ => ⟨_, _, _, rfl⟩⟩
    · simp only [if_neg c1, decide_eq_false c1, cond_false]
      by_cases c2 : A.1 = [42]
      · simp only [if_pos c2, decide_eq_true c2, cond_true]
        exact ⟨fun x h => by cases h; rfl, fun h => (by cases h)⟩
      · simp only [if_neg c2, decide_eq_false c2, cond_false]
        cases h2 : D.2.2 with
        | true =>
          simp only [cond_true, if_true]
          by_cases c3 : 0 ≤ a ∧ a ≤ most
          · simp only [decide_eq_true c3, cond_true]
            by_cases c4 : a ≤ b ∧ b ≤ most
            · rw [if_pos ⟨c3.1, c3.2, c4⟩, decide_eq_true c4]
              exact ⟨fun x h => by cases h; rfl, fun h => (by cases h)⟩
            · rw [if_neg (fun h => c4 h.2.2), decide_eq_false c4]
              exact ⟨fun x h => (by cases h), fun _ => ⟨_, _, _, rfl⟩⟩
          · rw [if_neg (fun h => c3 ⟨h.1, h.2.1⟩), decide_eq_false c3]
            exact ⟨fun x h => (by cases h), fun _ => ⟨_, _, _, rfl⟩⟩
        | false =>
          simp only [cond_false, cond_true, if_true, Bool.false_eq_true, if_false]
          by_cases c3 : 0 ≤ a ∧ a ≤ most
          · simp only [decide_eq_true c3, cond_true]
            rw [if_pos ⟨c3.1, c3.2, c3.2, Int.le_refl _⟩, decide_eq_true (show a ≤ most ∧ most ≤ most from ⟨c3.2, Int.le_refl _⟩)]
            exact ⟨fun x h => by cases h; rfl, fun h => (by cases h)⟩
          · rw [if_neg (fun h => c3 ⟨h.1, h.2.1⟩), decide_eq_false c3]
            exact ⟨fun x h => (by cases h), fun _ => ⟨_, _, _, rfl⟩⟩
  | false =>
    simp only [cond_false, false_and, if_false, Bool.false_eq_true]
    by_cases c2 : A.1 = [42]
    · simp only [if_pos c2, decide_eq_true c2, cond_true]
      exact ⟨fun x h => by cases h; rfl, fun h => (by cases h)⟩
    · simp only [if_neg c2, decide_eq_false c2, cond_false]
      cases h2 : D.2.2 with
      | true =>
        simp only [cond_true, if_true]
        by_cases c3 : 0 ≤ a ∧ a ≤ most
        · simp only [decide_eq_true c3, cond_true]
          by_cases c4 : a ≤ b ∧ b ≤ most
          · rw [if_pos ⟨c3.1, c3.2, c4⟩, decide_eq_true c4]
            exact ⟨fun x h => by cases h; rfl, fun h => (by cases h)⟩
          · rw [if_neg (fun h => c4 h.2.2), decide_eq_false c4]
            exact ⟨fun x h => (by cases h), fun _ => ⟨_, _, _, rfl⟩⟩
        · rw [if_neg (fun h => c3 ⟨h.1, h.2.1⟩), decide_eq_false c3]
          exact ⟨fun x h => (by cases h), fun _ => ⟨_, _, _, rfl⟩⟩
      | false =>
        simp only [cond_false, Bool.false_eq_true, if_false]
        by_cases c3 : 0 ≤ a ∧ a ≤ most
        · simp only [decide_eq_true c3, cond_true]
          rw [if_pos ⟨c3.1, c3.2, Int.le_refl _, c3.2⟩, decide_eq_true (show a ≤ a ∧ a ≤ most from ⟨Int.le_refl _, c3.2⟩)]
          exact ⟨fun x h => by cases h; rfl, fun h => (by cases h)⟩
        · rw [if_neg (fun h => c3 ⟨h.1, h.2.1⟩), decide_eq_false c3]
          exact ⟨fun x h => (by cases h), fun _ => ⟨_, _, _, rfl⟩⟩
theorem spec_marks {R : Type} (s : ByteArray) (most : Int) (fl : Bool) {b st : Int} (h1 : 1 ≤ st) (h2 : st ≤ 1000000000) (hb : b ≤ 1000000) (ke : ByteArray → Int → Bool → List Bool → Option R) : ∀ (c n : Nat) (a : Int) (v : List Bool), c < n → b + 1 - a ≤ c → 0 ≤ a → a ≤ 1001000000 → b < v.length →
    spec_l6Field_l11 n s most fl b st a v ke = ke s most fl (stepsV c a b st v)
  | c, 0, _, _, h, _, _, _, _ => by omega
  | 0, n + 1, a, v, hn, hc, h0, ha, hl => by
    rw [spec_l6Field_l11, decide_eq_false (show ¬ a ≤ b by omega)]; rfl
  | c + 1, n + 1, a, v, hn, hc, h0, ha, hl => by
    rw [spec_l6Field_l11, stepsV]
    by_cases h : a ≤ b
    · rw [decide_eq_true h, if_pos h, decide_eq_true h0, decide_eq_true (show a < (v.length : Int) by omega), wrap64 (x := a + st) (by omega) (by omega)]
      simp only [cond_true]
      exact spec_marks s most fl h1 h2 hb ke c n (a + st) _ (by omega) (by omega) (by omega) (by omega) (by rw [List.length_set]; exact hl)
    · rw [decide_eq_false h, if_neg h]; rfl
theorem spec_field_loop {R : Type} {most : Int} (hm : 0 ≤ most) (hm2 : most < 60) (kr : List Int → Bool → Option R) (ke : List Bool → Option R) : ∀ (n : Nat) (l : List UInt8) (v : List Bool), l.length ≤ 1048576 → l.length + 200 ≤ n → (v.length : Int) = most + 1 →
    spec_l6Field_l3 n ⟨l.toArray⟩ most true v kr ke = match fieldGo most (splitAll 44 l) v with | some w => ke w | none => kr [] false
  | 0, _, _, _, h, _ => by omega
  | n + 1, l, v, hl, hn, hv => by
    have hc := cutAt_spec 44 l
    have hA : (cutAt 44 l).1.length ≤ l.length := by
      cases h : (cutAt 44 l).2.2 with
      | false => rw [← (hc.2.2 h).1]; exact Nat.le_refl _
      | true =>
        have := congrArg List.length (hc.2.1 h)
        rw [List.length_append] at this; omega
    have hB : (cutAt 44 l).2.2 = true → (cutAt 44 l).2.1.length + 1 ≤ l.length := fun h => by
      have := congrArg List.length (hc.2.1 h)
      rw [List.length_append, List.length_cons] at this; omega
    rw [spec_l6Field_l3, splitAll_cut, fieldGo]
    simp only [cond_true]
    rw [show (44 : Int) = (((44 : UInt8).toNat : Nat) : Int) from rfl, spec_l1Cut_eq l 44 hl (by omega)]
    generalize hK : (fun (r4 r5 r6 : Int) (r7 : Bool) => _) = K
    have hi := spec_item hm (cutAt 44 l).1 (by omega) (show (cutAt 44 l).1.length + 100 ≤ n by omega) K
    cases hr : itemR most (cutAt 44 l).1 with
    | none =>
      obtain ⟨a, b, st, e⟩ := hi.2 hr
      rw [e, ← hK]; rfl
    | some x =>
      obtain ⟨xa, xb, xs⟩ := x
      have hx := itemR_in hm hr
      rw [hi.1 _ hr, ← hK]
      simp only [Bool.not_true, cond_false]
      rw [spec_marks (b := xb) (st := xs) _ most _ (by omega) (by omega) (by omega) _ 60 n xa v (by omega) (by omega) (by omega) (by omega) (by omega)]
      have hv' : ((stepsV 60 xa xb xs v).length : Int) = most + 1 := by rw [stepsV_len]; exact hv
      cases hh : (cutAt 44 l).2.2 with
      | true =>
        rw [if_pos rfl]
        exact spec_field_loop hm hm2 kr ke n _ _ (by have := hB hh; omega) (by have := hB hh; omega) hv'
      | false =>
        rw [if_neg (by simp)]
        obtain ⟨m, rfl⟩ : ∃ m, n = m + 1 := ⟨n - 1, by omega⟩
        rw [spec_l6Field_l3]; rfl
theorem spec_trues {R : Type} (v : List Bool) (hv : v.length ≤ 1000) (ke : List Int → Option R) : ∀ (n j : Nat) (acc : List Int), v.length - j < n → j ≤ v.length → acc.length ≤ j →
    spec_l6Field_l16 n (v.length : Int) (j : Int) acc v ke = ke (acc ++ trues j (v.drop j))
  | 0, _, _, h, _, _ => by omega
  | n + 1, j, acc, hn, hj, ha => by
    rw [spec_l6Field_l16]
    by_cases h : j < v.length
    · rw [dlt h, dnn, getD_at _ _ h, wrapS h (by omega), List.drop_eq_getElem_cons h, trues]
      simp only [cond_true]
      cases hb : v[j] with
      | false =>
        simp only [cond_false, Bool.false_eq_true, if_false]
        exact spec_trues v hv ke n (j + 1) acc (by omega) (by omega) (by omega)
      | true =>
        rw [decide_eq_true (show acc.length + [(j : Int)].length ≤ LIM by simp only [List.length_cons, List.length_nil, LIM]; omega)]
        simp only [cond_true, if_true]
        rw [spec_trues v hv ke n (j + 1) (acc ++ [(j : Int)]) (by omega) (by omega) (by rw [List.length_append]; simp; omega), List.append_assoc, List.singleton_append]
    · rw [dge (by omega), List.drop_eq_nil_iff.2 (by omega)]
      simp [trues]
theorem spec_field {R : Type} {n : Nat} {most : Int} (hm : 0 ≤ most) (hm2 : most < 60) (l : List UInt8) (hl : l.length ≤ 1048576) (hn : l.length + 300 ≤ n) (k : List Int → Bool → Option R) :
    spec_l6Field n ⟨l.toArray⟩ most k = match fieldV most l with | some x => k x true | none => k [] false := by
  unfold spec_l6Field fieldV
  rw [wrap64 (x := most + 1) (by omega) (by omega), decide_eq_true (show 0 ≤ most + 1 by omega), decide_eq_true (Int.le_refl _), decide_eq_true (show most + 1 ≤ 1099511627776 by omega)]
  simp only [cond_true]
  rw [spec_field_loop hm hm2 _ _ n l _ hl (by omega) (by rw [List.length_replicate]; omega)]
  cases hg : fieldGo most (splitAll 44 l) (List.replicate (most + 1).toNat false) with
  | none => rfl
  | some w =>
    have hw := fieldGo_len most _ _ _ hg
    rw [List.length_replicate] at hw
    simp only [Option.map_some]
    have := spec_trues w (by omega) (fun r15 => k r15 true) n 0 [] (by omega) (by omega) (by simp)
    rw [show ((0 : Nat) : Int) = 0 from rfl, List.drop_zero, List.nil_append] at this
    exact this
theorem cut_len (b : UInt8) (l : List UInt8) : (cutAt b l).1.length ≤ l.length ∧ (cutAt b l).2.1.length ≤ l.length := by
  have hc := cutAt_spec b l
  cases h : (cutAt b l).2.2 with
  | false =>
    have := hc.2.2 h
    rw [← this.1, this.2]; exact ⟨Nat.le_refl _, Nat.zero_le _⟩
  | true =>
    have := congrArg List.length (hc.2.1 h)
    rw [List.length_append, List.length_cons] at this; omega
theorem spec_Read {R : Type} {n : Nat} (l : List UInt8) (hl : l.length ≤ 1048576) (hn : l.length + 300 ≤ n) (k : List Int → List Int → List Int → Bool → Option R) :
    spec_ReadCron n ⟨l.toArray⟩ k = match readV l with | some c => k c.1 c.2.1 c.2.2 true | none => k [] [] [] false := by
  unfold spec_ReadCron
  have a1 := cut_len 32 l
  have a2 := cut_len 32 (cutAt 32 l).2.1
  rw [show (32 : Int) = (((32 : UInt8).toNat : Nat) : Int) from rfl, spec_l1Cut_eq l 32 hl (by omega), readV_cut]
  rw [spec_l1Cut_eq (cutAt 32 l).2.1 32 (by omega) (by omega), spec_field (by omega) (by omega) _ (by omega) (by omega)]
  unfold readV3
  cases f1 : fieldV 59 (cutAt 32 l).1 with
  | none =>
    simp only
    rw [spec_field (by omega) (by omega) _ (by omega) (by omega)]
    cases f2 : fieldV 23 (cutAt 32 (cutAt 32 l).2.1).1 with
    | none =>
      simp only
      rw [spec_field (by omega) (by omega) _ (by omega) (by omega)]
      cases f3 : fieldV 6 (cutAt 32 (cutAt 32 l).2.1).2.1 <;> cases h1 : (cutAt 32 l).2.2 <;> cases h2 : (cutAt 32 (cutAt 32 l).2.1).2.2 <;> rfl
    | some y =>
      simp only
      rw [spec_field (by omega) (by omega) _ (by omega) (by omega)]
      cases f3 : fieldV 6 (cutAt 32 (cutAt 32 l).2.1).2.1 <;> cases h1 : (cutAt 32 l).2.2 <;> cases h2 : (cutAt 32 (cutAt 32 l).2.1).2.2 <;> rfl
  | some x =>
    simp only
    rw [spec_field (by omega) (by omega) _ (by omega) (by omega)]
    cases f2 : fieldV 23 (cutAt 32 (cutAt 32 l).2.1).1 with
    | none =>
      simp only
      rw [spec_field (by omega) (by omega) _ (by omega) (by omega)]
      cases f3 : fieldV 6 (cutAt 32 (cutAt 32 l).2.1).2.1 <;> cases h1 : (cutAt 32 l).2.2 <;> cases h2 : (cutAt 32 (cutAt 32 l).2.1).2.2 <;> rfl
    | some y =>
      simp only
      rw [spec_field (by omega) (by omega) _ (by omega) (by omega)]
      cases f3 : fieldV 6 (cutAt 32 (cutAt 32 l).2.1).2.1 <;> cases h1 : (cutAt 32 l).2.2 <;> cases h2 : (cutAt 32 (cutAt 32 l).2.1).2.2 <;> rfl
def riseB (most : Int) : Int → List Int → Bool
  | _, [] => true
  | v, x :: r => decide (v < x ∧ x ≤ most) && riseB most x r
theorem riseB_rise {most : Int} : ∀ (l : List Int) (v : Int), riseB most v l = true ↔ Rise most (v + 1) l
  | [], v => by simp [riseB, Rise]
  | x :: l, v => by
    rw [riseB, Rise, Bool.and_eq_true, decide_eq_true_eq, riseB_rise l x]
    constructor
    · rintro ⟨⟨a, b⟩, c⟩; exact ⟨by omega, b, c⟩
    · rintro ⟨a, b, c⟩; exact ⟨⟨by omega, b⟩, c⟩
def goodL (most : Int) (l : List Int) : Bool := riseB most (-1) l && decide (0 < l.length)
theorem goodL_iff {most : Int} {l : List Int} : goodL most l = true ↔ l ≠ [] ∧ Rise most 0 l := by
  unfold goodL
  rw [Bool.and_eq_true, decide_eq_true_eq, riseB_rise, List.length_pos_iff]
  exact ⟨fun h => ⟨h.2, h.1⟩, fun h => ⟨h.2, h.1⟩⟩
theorem spec_list_loop {R : Type} (most : Int) (l : List Int) (hb : l.length ≤ 9223372036854775807) (kr : Bool → Option R) (ke : List Int → Option R) : ∀ (n j : Nat) (v : Int), l.length - j < n → j ≤ l.length → -1 ≤ v →
    (j = 0 → v = -1) → (∀ (h : j - 1 < l.length), 0 < j → l[j - 1] = v) →
    spec_l6List_l2 n l most l (l.length : Int) (j : Int) kr ke = bif riseB most v (l.drop j) then ke l else kr false
  | 0, _, _, h, _, _, _, _ => by omega
  | n + 1, j, v, hn, hj, hv, h0, h1 => by
    unfold spec_l6List_l2
    by_cases h : j < l.length
    · rw [dlt h, dnn, getD_at _ _ h, wrapS h hb, List.drop_eq_getElem_cons h]
      simp only [cond_true, spec_l1In_eq, riseB]
      have ih := fun (h2 : -1 ≤ l[j]) => spec_list_loop most l hb kr ke n (j + 1) l[j] (by omega) (by omega) h2 (by omega) (fun _ _ => rfl)
      by_cases hz : j = 0
      · have hv := h0 hz
        subst hv
        rw [decide_eq_false (show ¬ ((j : Int) > 0) by omega)]
        by_cases c1 : 0 ≤ l[j] ∧ l[j] ≤ most
        · rw [decide_eq_true c1, decide_eq_true (show -1 < l[j] ∧ l[j] ≤ most by omega)]
          simp only [Bool.not_true, cond_false, Bool.true_and]
          exact ih (by omega)
        · rw [decide_eq_false c1, decide_eq_false (show ¬ (-1 < l[j] ∧ l[j] ≤ most) by omega)]; rfl
      · have hp : j - 1 < l.length := by omega
        have hq := h1 hp (by omega)
        rw [decide_eq_true (show ((j : Int) > 0) by omega), wrap64 (x := (j : Int) - 1) (by omega) (by omega), show (j : Int) - 1 = ((j - 1 : Nat) : Int) by omega, dnn, dlt hp, getD_at _ _ hp, hq]
        simp only [cond_true]
        by_cases c1 : 0 ≤ l[j] ∧ l[j] ≤ most
        · rw [decide_eq_true c1]
          simp only [Bool.not_true, cond_false]
          by_cases c3 : v < l[j]
          · rw [decide_eq_false (show ¬ (v ≥ l[j]) by omega), decide_eq_true (show v < l[j] ∧ l[j] ≤ most by omega)]
            simp only [cond_false, Bool.true_and]
            exact ih (by omega)
          · rw [decide_eq_true (show (v ≥ l[j]) by omega), decide_eq_false (show ¬ (v < l[j] ∧ l[j] ≤ most) by omega)]; rfl
        · rw [decide_eq_false c1, decide_eq_false (show ¬ (v < l[j] ∧ l[j] ≤ most) by omega)]; rfl
    · rw [dge (by omega), List.drop_eq_nil_iff.2 (by omega)]; rfl
theorem spec_list {R : Type} {n : Nat} (most : Int) {l : List Int} (hb : l.length ≤ 1048576) (hn : l.length < n) (k : Bool → Option R) : spec_l6List n l most k = k (goodL most l) := by
  unfold spec_l6List
  have := spec_list_loop most l (by omega) (fun r2 => k r2) (fun r3 => k (decide ((r3.length : Int) > 0))) n 0 (-1) (by omega) (by omega) (by omega) (fun _ => rfl) (fun _ h => by omega)
  rw [show ((0 : Nat) : Int) = 0 from rfl, List.drop_zero] at this
  rw [this]
  unfold goodL
  cases riseB most (-1) l with
  | false => rfl
  | true =>
    simp only [cond_true, Bool.true_and]
    congr 1
    exact decide_eq_decide.2 (by omega)
def goodT (c : Tri) : Bool := goodL 59 c.1 && (goodL 23 c.2.1 && goodL 6 c.2.2)
theorem goodT_iff {c : Tri} : goodT c = true ↔ goodV c := by
  unfold goodT goodV
  rw [Bool.and_eq_true, Bool.and_eq_true, goodL_iff, goodL_iff, goodL_iff]
theorem spec_Good {R : Type} {n : Nat} {c : Tri} (h1 : c.1.length ≤ 1048576) (h2 : c.2.1.length ≤ 1048576) (h3 : c.2.2.length ≤ 1048576) (hn : 1048577 ≤ n) (k : Bool → Option R) : spec_GoodCron n c.1 c.2.1 c.2.2 k = k (goodT c) := by
  unfold spec_GoodCron goodT
  rw [spec_list 59 h1 (by omega), spec_list 23 h2 (by omega), spec_list 6 h3 (by omega)]
  cases goodL 59 c.1 <;> cases goodL 23 c.2.1 <;> rfl
theorem rise_len {most : Int} {l : List Int} (h : Rise most 0 l) (hm : 0 ≤ most) : (l.length : Int) ≤ most + 1 := by
  have := (rise_full h).1
  omega
/-- What is told of the first numbers of a list. -/
def joinS : Nat → List Int → List UInt8
  | _, [] => []
  | 0, x :: l => dig x.toNat ++ joinS 1 l
  | j + 1, x :: l => 44 :: (dig x.toNat ++ joinS (j + 2) l)
theorem joinS_joinC : ∀ (l : List Int) (x : Int) , dig x.toNat ++ joinS 1 l = joinC (x :: l)
  | [], x => by simp [joinS, joinC]
  | y :: l, x => by
    have e : ∀ (l : List Int) (a b : Nat), joinS (a + 1) l = joinS (b + 1) l := by
      intro l
      induction l with
      | nil => intro a b; rfl
      | cons z l ih => intro a b; rw [joinS, joinS, ih (a + 1) (b + 1)]
    rw [joinS, joinC, ← joinS_joinC l y, e l 1 0]
theorem spec_text_loop {R : Type} {l : List Int} (hl : l.length ≤ 100) (hb : ∀ x ∈ l, 0 ≤ x ∧ x < 100) (ke : ByteArray → Option R) : ∀ (n j : Nat) (acc : List UInt8), l.length - j + 200 < n → j ≤ l.length → acc.length ≤ 3 * j →
    spec_l6Text_l5 n ⟨acc.toArray⟩ l (l.length : Int) (j : Int) ke = ke ⟨(acc ++ joinS j (l.drop j)).toArray⟩
  | 0, _, _, h, _, _ => by omega
  | n + 1, j, acc, hn, hj, ha => by
    rw [spec_l6Text_l5]
    by_cases h : j < l.length
    · have hx := hb _ (List.getElem_mem h)
      have hd := dig_len 1 l[j].toNat (by omega)
      have sd : (ByteArray.mk (dig l[j].toNat).toArray).size = (dig l[j].toNat).length := rfl
      have sa : (ByteArray.mk acc.toArray).size = acc.length := rfl
      have s1 : (ByteArray.mk #[44]).size = 1 := rfl
      rw [dlt h, dnn, getD_at _ _ h, wrapS h (by omega), List.drop_eq_getElem_cons h]
      simp only [cond_true, spec_num hx.1 (show l[j] ≤ 1000000 by omega) (show 100 ≤ n by omega)]
      cases j with
      | zero =>
        rw [decide_eq_false (show ¬ (((0 : Nat) : Int) > 0) by omega), cond_false, decide_eq_true (by rw [sa, sd]; simp only [STR]; omega)]
        simp only [cond_true]
        have e : (ByteArray.mk acc.toArray ++ ByteArray.mk (dig l[0].toNat).toArray) = ByteArray.mk (acc ++ dig l[0].toNat).toArray := ba_ext (by rw [ba_app])
        rw [e, spec_text_loop hl hb ke n 1 (acc ++ dig l[0].toNat) (by omega) (by omega) (by rw [List.length_append]; omega), joinS, List.append_assoc]
      | succ j =>
        rw [decide_eq_true (show (((j + 1 : Nat) : Int) > 0) by omega), decide_eq_true (by rw [sa, s1]; simp only [STR]; omega), decide_eq_true (by rw [ByteArray.size_append, sa, s1, sd]; simp only [STR]; omega)]
        simp only [cond_true]
        have e : (ByteArray.mk acc.toArray ++ ByteArray.mk #[44] ++ ByteArray.mk (dig l[j + 1].toNat).toArray) = ByteArray.mk (acc ++ 44 :: dig l[j + 1].toNat).toArray := ba_ext (by
          rw [ba_app, ba_app]
          show (acc ++ [44]) ++ dig l[j + 1].toNat = acc ++ 44 :: dig l[j + 1].toNat
          simp)
        rw [e, spec_text_loop hl hb ke n (j + 1 + 1) (acc ++ 44 :: dig l[j + 1].toNat) (by omega) (by omega) (by rw [List.length_append, List.length_cons]; omega), joinS, List.append_assoc, List.cons_append]
    · rw [dge (by omega), List.drop_eq_nil_iff.2 (by omega)]
      simp [joinS]
theorem spec_text {R : Type} {n : Nat} {most : Int} (hm : 0 ≤ most) (hm2 : most < 60) {l : List Int} (h0 : l ≠ []) (hr : Rise most 0 l) (hn : 1000 ≤ n) (k : ByteArray → Option R) : spec_l6Text n l most k = k ⟨(textC most l).toArray⟩ := by
  have hl := rise_len hr hm
  have hb := rise_mem hr
  unfold spec_l6Text textC
  rw [wrap64 (x := most + 1) (by omega) (by omega)]
  by_cases c : (l.length : Int) = most + 1
  · rw [if_pos c, show ((l.length : Int) == most + 1) = true from beq_iff_eq.2 c]; rfl
  · rw [if_neg c, show ((l.length : Int) == most + 1) = false from beq_eq_false_iff_ne.2 c, cond_false]
    have := spec_text_loop (l := l) (by omega) (fun x hx => by have := hb x hx; omega) (fun r3 => k r3) n 0 [] (by omega) (by omega) (by simp)
    rw [show ((0 : Nat) : Int) = 0 from rfl, List.drop_zero, List.nil_append] at this
    refine this.trans ?_
    congr 2
    cases l with
    | nil => exact absurd rfl h0
    | cons x l => rw [joinS, joinS_joinC]
theorem textC_len {most : Int} (hm : 0 ≤ most) (hm2 : most < 60) {l : List Int} (hr : Rise most 0 l) : (textC most l).length ≤ 200 := by
  have hl := rise_len hr hm
  have hb := rise_mem hr
  unfold textC
  split
  · simp
  · have := joinC_len (l := l) fun x hx => by have := hb x hx; omega
    omega
theorem textV_len {c : Tri} (h : goodV c) : (textV c).length ≤ 700 := by
  have a := textC_len (by omega) (by omega) h.1.2
  have b := textC_len (by omega) (by omega) h.2.1.2
  have d := textC_len (by omega) (by omega) h.2.2.2
  unfold textV
  simp only [List.length_append, List.length_cons]; omega
theorem spec_Text {R : Type} {n : Nat} {c : Tri} (h1 : c.1.length ≤ 1048576) (h2 : c.2.1.length ≤ 1048576) (h3 : c.2.2.length ≤ 1048576) (hn : 1048577 ≤ n) (k : ByteArray → Bool → Option R) : spec_CronText n c.1 c.2.1 c.2.2 k = if goodT c = true then k ⟨(textV c).toArray⟩ true else k (ByteArray.mk #[]) false := by
  unfold spec_CronText
  rw [spec_Good h1 h2 h3 hn]
  cases hg : goodT c with
  | false => rfl
  | true =>
    have h := goodT_iff.1 hg
    have a := textC_len (by omega) (by omega) h.1.2
    have b := textC_len (by omega) (by omega) h.2.1.2
    have d := textC_len (by omega) (by omega) h.2.2.2
    have sa : (ByteArray.mk (textC 59 c.1).toArray).size = (textC 59 c.1).length := rfl
    have sb : (ByteArray.mk (textC 23 c.2.1).toArray).size = (textC 23 c.2.1).length := rfl
    have sd : (ByteArray.mk (textC 6 c.2.2).toArray).size = (textC 6 c.2.2).length := rfl
    have s1 : (ByteArray.mk #[32]).size = 1 := rfl
    rw [spec_text (by omega) (by omega) h.1.1 h.1.2 (by omega), spec_text (by omega) (by omega) h.2.1.1 h.2.1.2 (by omega), spec_text (by omega) (by omega) h.2.2.1 h.2.2.2 (by omega)]
    simp only [ByteArray.size_append, sa, sb, sd, s1]
    rw [decide_eq_true (by simp only [STR]; omega), decide_eq_true (by simp only [STR]; omega), decide_eq_true (by simp only [STR]; omega), decide_eq_true (by simp only [STR]; omega)]
    simp only [Bool.not_true, cond_true, cond_false, if_true]
    congr 1
    refine ba_ext ?_
    simp only [ba_app]
    show ((textC 59 c.1 ++ [32]) ++ textC 23 c.2.1 ++ [32]) ++ textC 6 c.2.2 = textV c
    simp [textV]
theorem decFrom_dig_all (n : Nat) : Go.Lib.decFrom 0 (dig n) = some n := decFrom_dig n n (Nat.lt_trans (Nat.lt_succ_self n) (Nat.lt_pow_self (by decide)))
theorem number_val (l : List UInt8) : (0 ≤ intS l → numB ⟨l.toArray⟩ = true ∧ numV ⟨l.toArray⟩ = intS l) ∧ (¬ 0 ≤ intS l → numB ⟨l.toArray⟩ = false) := by
  have hsz : (ByteArray.mk l.toArray).size = l.length := rfl
  constructor
  · intro h
    obtain ⟨h1, h2⟩ := intS_inv h
    have h3 := intS_lt l
    have e : Go.Lib.atoi l = some (intS l) := by
      have := atoi_dig (n := (intS l).toNat) (by omega)
      rw [h1] at this
      rw [this]; congr 1; omega
    have e2 : Go.Lib.itoa (intS l) = l := by rw [itoa_dig h, h1]
    unfold numB numV
    show (match Go.Lib.atoi l with | some v => _ | none => false) = true ∧ (Go.Lib.atoi l).getD 0 = _
    rw [e]
    simp only [Option.getD_some, and_true]
    show (decide (0 ≤ intS l) && (decide (l.length ≤ 9) && decide (Go.Lib.itoa (intS l) = l))) = true
    rw [e2, decide_eq_true h, decide_eq_true h2, decide_eq_true rfl]; rfl
  · intro h
    unfold numB
    show (match Go.Lib.atoi l with | some v => (decide (0 ≤ v) && (decide (l.length ≤ 9) && decide (Go.Lib.itoa v = l))) | none => false) = false
    cases ha : Go.Lib.atoi l with
    | none => rfl
    | some v =>
      simp only
      by_cases c1 : 0 ≤ v
      · by_cases c2 : l.length ≤ 9
        · by_cases c3 : Go.Lib.itoa v = l
          · exfalso
            rw [itoa_dig c1] at c3
            have h3 := decFrom_dig_all v.toNat
            have h4 := decFrom_lt _ _ _ h3
            rw [c3] at h4
            have h9 : 10 ^ l.length ≤ 10 ^ 9 := Nat.pow_le_pow_right (by decide) c2
            have := intS_dig (n := v.toNat) (by omega)
            rw [c3] at this
            omega
          · rw [decide_eq_false c3]; simp
        · rw [decide_eq_false c2]; simp
      · rw [decide_eq_false c1]; simp
theorem impl_num {R : Type} {n : Nat} (l : List UInt8) (h : l.length ≤ 18) (k : Int → Bool → Option R) : impl_number n ⟨l.toArray⟩ k = if 0 ≤ intS l then k (intS l) true else k (numV ⟨l.toArray⟩) false := by
  have hv := number_val l
  unfold impl_number
  rw [decide_eq_true (show (ByteArray.mk l.toArray).size ≤ 18 from h), cond_true]
  by_cases c : 0 ≤ intS l
  · rw [if_pos c, (hv.1 c).1, (hv.1 c).2]
  · rw [if_neg c, hv.2 c]
theorem dropW_nil2 (p : UInt8 → Bool) : ∀ l : List UInt8, l.dropWhile p = [] → ∀ b ∈ l, p b = true
  | [], _, b, hb => by cases hb
  | x :: l, h, b, hb => by
    rw [List.dropWhile_cons] at h
    split at h
    · rename_i hx
      rcases List.mem_cons.1 hb with e | e
      · rw [e]; exact hx
      · exact dropW_nil2 p l h b e
    · cases h
theorem trimF_nil2 {l cs : List UInt8} (h : trimF l cs = []) : ∀ b ∈ l, cs.contains b = true := by
  unfold trimF at h
  have h := dropW_nil2 _ _ h
  have h2 : l.reverse.dropWhile (cs.contains ·) = [] := by
    cases hd : l.reverse.dropWhile (cs.contains ·) with
    | nil => rfl
    | cons x r =>
      exfalso
      have a := h x (by rw [hd]; simp)
      have b := List.head?_dropWhile_not (cs.contains ·) l.reverse
      rw [hd] at b
      simp at b
      simp [b] at a
  have h2 := dropW_nil2 _ _ h2
  exact fun b hb => h2 b (List.mem_reverse.2 hb)
theorem impl_step {R : Type} {n : Nat} (l : List UInt8) (h : Short l) (k : Int → Bool → Option R) : (1 ≤ intS l → impl_stepOf n ⟨l.toArray⟩ k = k (intS l) true) ∧ (¬ 1 ≤ intS l → ∃ m, impl_stepOf n ⟨l.toArray⟩ k = k m false) := by
  have hsz : (ByteArray.mk l.toArray).size = l.length := rfl
  have fin : (1 ≤ intS l → (impl_number n ⟨l.toArray⟩ fun r6 r7 => (bif r7 then k r6 (decide (r6 > 0)) else k r6 false)) = k (intS l) true) ∧ (¬ 1 ≤ intS l → ∃ m, (impl_number n ⟨l.toArray⟩ fun r6 r7 => (bif r7 then k r6 (decide (r6 > 0)) else k r6 false)) = k m false) := by
    rw [impl_num l h.2]
    by_cases c : 0 ≤ intS l
    · rw [if_pos c]
      simp only [cond_true]
      by_cases d : 1 ≤ intS l
      · rw [decide_eq_true (show intS l > 0 by omega)]
        exact ⟨fun _ => rfl, fun x => absurd d x⟩
      · rw [decide_eq_false (show ¬ intS l > 0 by omega)]
        exact ⟨fun x => absurd x d, fun _ => ⟨_, rfl⟩⟩
    · rw [if_neg c]
      exact ⟨fun x => by omega, fun _ => ⟨_, rfl⟩⟩
  unfold impl_stepOf
  rw [hsz]
  by_cases c : (l.length : Int) > 9
  · rw [decide_eq_true c, cond_true]
    unfold strings_Trim
    rw [decide_eq_true (show (ByteArray.mk l.toArray).size ≤ 9223372036854775807 by have := h.2; omega), decide_eq_true (show (ByteArray.mk #[48, 49, 50, 51, 52, 53, 54, 55, 56, 57]).size < 4294967281 by decide), show ((ByteArray.mk #[48, 49, 50, 51, 52, 53, 54, 55, 56, 57]).data.toList.all fun b => decide (b.toNat < 128)) = true by decide]
    simp only [cond_true]
    rw [str_eq]
    have hne : ¬ trimF l [48, 49, 50, 51, 52, 53, 54, 55, 56, 57] = [] := fun e => by
      have h1 := trimF_nil2 e
      have h2 := short_dig h fun b hb => by
        have := h1 b hb
        simp only [List.contains_eq_mem, decide_eq_true_eq, List.mem_cons, List.not_mem_nil, or_false] at this
        rcases this with rfl | rfl | rfl | rfl | rfl | rfl | rfl | rfl | rfl | rfl <;> rfl
      omega
    show (1 ≤ intS l → (bif decide (trimF l [48, 49, 50, 51, 52, 53, 54, 55, 56, 57] = []) then _ else _) = _) ∧ (¬ 1 ≤ intS l → ∃ m, (bif decide (trimF l [48, 49, 50, 51, 52, 53, 54, 55, 56, 57] = []) then _ else _) = _)
    rw [decide_eq_false hne, cond_false]
    exact fin
  · rw [decide_eq_false c, cond_false]
    exact fin
theorem impl_cut {R : Type} {n : Nat} (c : UInt8) (l : List UInt8) (hl : l.length ≤ 1048576) (k : ByteArray → ByteArray → Bool → Option R) : strings_Cut n ⟨l.toArray⟩ (ByteArray.mk #[c]) k = k ⟨(cutAt c l).1.toArray⟩ ⟨(cutAt c l).2.1.toArray⟩ (cutAt c l).2.2 := by
  unfold strings_Cut
  rw [decide_eq_true (show (ByteArray.mk l.toArray).size < 4294967281 by show l.length < 4294967281; omega), cond_true]
  show k ⟨(Go.Lib.cut l [c]).1.toArray⟩ ⟨(Go.Lib.cut l [c]).2.1.toArray⟩ (Go.Lib.cut l [c]).2.2 = _
  rw [cutAt_lib]
theorem impl_itemE {R : Type} {n : Nat} {most : Int} (hm : 0 ≤ most) (hm2 : most < 60) (l : List UInt8) (h : Short l) (k : Int → Int → Int → Bool → Option R) :
    (∀ x, itemR most l = some x → impl_item n ⟨l.toArray⟩ (most + 1) k = k x.1 x.2.1 x.2.2 true) ∧ (itemR most l = none → ∃ a b st, impl_item n ⟨l.toArray⟩ (most + 1) k = k a b st false) := by
  have hA := short_cut 47 h
  have hD := short_cut 45 hA.1
  have hst := fun k => impl_step (R := R) (n := n) (cutAt 47 l).2.1 hA.2 k
  unfold impl_item
  rw [impl_cut 47 l (by have := h.2; omega)]
  simp only [impl_cut 45 (cutAt 47 l).1 (by have := hA.1.2; omega), impl_num _ hD.1.2, impl_num _ hD.2.2, str_eq, show most + 1 - 1 = most by omega, wrap64 (x := most) (by omega) (by omega)]
  unfold itemR itS itB itA
  generalize cutAt 47 l = A at *
  generalize cutAt 45 A.1 = D at *
  generalize hsv : intS A.2.1 = st at *
  generalize intS D.1 = a at *
  generalize intS D.2.1 = b at *
  cases h1 : A.2.2 with
  | true =>
    simp only [cond_true, true_and, if_true]
    generalize hK : (fun (r4 : Int) (r5 : Bool) => (bif (!r5) then k 0 0 0 false else _)) = K
    by_cases c1 : st < 1
    · obtain ⟨m, e⟩ := (hst K).2 (by omega)
      rw [e, ← hK]
      simp only [if_pos c1, Bool.not_false, cond_true]
      exact ⟨fun x h => (by cases h), fun _ => ⟨_, _, _, rfl⟩⟩
    · rw [(hst K).1 (by omega), ← hK]
      simp only [if_neg c1, Bool.not_true, cond_false]
      by_cases c2 : A.1 = [42]
      · simp only [if_pos c2, decide_eq_true c2, cond_true]
        exact ⟨fun x h => by cases h; rfl, fun h => (by cases h)⟩
      · simp only [if_neg c2, decide_eq_false c2, cond_false]
        cases h2 : D.2.2 with
        | true =>
          simp only [cond_true, if_true]
          by_cases c3 : 0 ≤ a
          · by_cases c5 : 0 ≤ b
            · simp only [if_pos c3, if_pos c5, cond_true]
              by_cases c4 : a ≤ b
              · rw [decide_eq_true c4, cond_true]
                by_cases c6 : b ≤ most
                · rw [if_pos ⟨c3, by omega, c4, c6⟩, decide_eq_true (show b < most + 1 by omega)]
                  exact ⟨fun x h => by cases h; rfl, fun h => (by cases h)⟩
                · rw [if_neg (fun h => c6 h.2.2.2), decide_eq_false (show ¬ b < most + 1 by omega)]
                  exact ⟨fun x h => (by cases h), fun _ => ⟨_, _, _, rfl⟩⟩
              · rw [decide_eq_false c4, cond_false, if_neg (fun h => c4 h.2.2.1)]
                exact ⟨fun x h => (by cases h), fun _ => ⟨_, _, _, rfl⟩⟩
            · simp only [if_pos c3, if_neg c5, cond_true, cond_false]
              rw [if_neg (fun h => by omega)]
              exact ⟨fun x h => (by cases h), fun _ => ⟨_, _, _, rfl⟩⟩
          · rw [if_neg (fun h => c3 h.1)]
            refine ⟨fun x h => (by cases h), fun _ => ?_⟩
            by_cases c5 : 0 ≤ b
            · simp only [if_neg c3, if_pos c5, cond_false]
              exact ⟨_, _, _, rfl⟩
            · simp only [if_neg c3, if_neg c5, cond_false]
              exact ⟨_, _, _, rfl⟩
        | false =>
          simp only [cond_false, cond_true, if_true, Bool.false_eq_true, if_false]
          by_cases c3 : 0 ≤ a
          · simp only [if_pos c3, cond_true]
            by_cases c4 : a ≤ most
            · rw [decide_eq_true c4, if_pos ⟨c3, c4, c4, Int.le_refl _⟩, decide_eq_true (show most < most + 1 by omega)]
              exact ⟨fun x h => by cases h; rfl, fun h => (by cases h)⟩
            · rw [decide_eq_false c4, if_neg (fun h => c4 h.2.1)]
              exact ⟨fun x h => (by cases h), fun _ => ⟨_, _, _, rfl⟩⟩
          · simp only [if_neg c3, cond_false]
            rw [if_neg (fun h => c3 h.1)]
            exact ⟨fun x h => (by cases h), fun _ => ⟨_, _, _, rfl⟩⟩
  | false =>
    simp only [cond_false, false_and, if_false, Bool.false_eq_true]
    by_cases c2 : A.1 = [42]
    · simp only [if_pos c2, decide_eq_true c2, cond_true]
      exact ⟨fun x h => by cases h; rfl, fun h => (by cases h)⟩
    · simp only [if_neg c2, decide_eq_false c2, cond_false]
      cases h2 : D.2.2 with
      | true =>
        simp only [cond_true, if_true]
        by_cases c3 : 0 ≤ a
        · by_cases c5 : 0 ≤ b
          · simp only [if_pos c3, if_pos c5, cond_true]
            by_cases c4 : a ≤ b
            · rw [decide_eq_true c4, cond_true]
              by_cases c6 : b ≤ most
              · rw [if_pos ⟨c3, by omega, c4, c6⟩, decide_eq_true (show b < most + 1 by omega)]
                exact ⟨fun x h => by cases h; rfl, fun h => (by cases h)⟩
              · rw [if_neg (fun h => c6 h.2.2.2), decide_eq_false (show ¬ b < most + 1 by omega)]
                exact ⟨fun x h => (by cases h), fun _ => ⟨_, _, _, rfl⟩⟩
            · rw [decide_eq_false c4, cond_false, if_neg (fun h => c4 h.2.2.1)]
              exact ⟨fun x h => (by cases h), fun _ => ⟨_, _, _, rfl⟩⟩
          · simp only [if_pos c3, if_neg c5, cond_true, cond_false]
            rw [if_neg (fun h => by omega)]
            exact ⟨fun x h => (by cases h), fun _ => ⟨_, _, _, rfl⟩⟩
        · rw [if_neg (fun h => c3 h.1)]
          refine ⟨fun x h => (by cases h), fun _ => ?_⟩
          by_cases c5 : 0 ≤ b
          · simp only [if_neg c3, if_pos c5, cond_false]
            exact ⟨_, _, _, rfl⟩
          · simp only [if_neg c3, if_neg c5, cond_false]
            exact ⟨_, _, _, rfl⟩
      | false =>
        simp only [cond_false, Bool.false_eq_true, if_false]
        by_cases c3 : 0 ≤ a
        · simp only [if_pos c3, cond_true]
          rw [decide_eq_true (Int.le_refl a), cond_true]
          by_cases c4 : a ≤ most
          · rw [if_pos ⟨c3, c4, Int.le_refl _, c4⟩, decide_eq_true (show a < most + 1 by omega)]
            exact ⟨fun x h => by cases h; rfl, fun h => (by cases h)⟩
          · rw [if_neg (fun h => c4 h.2.1), decide_eq_false (show ¬ a < most + 1 by omega)]
            exact ⟨fun x h => (by cases h), fun _ => ⟨_, _, _, rfl⟩⟩
        · simp only [if_neg c3, cond_false]
          rw [if_neg (fun h => c3 h.1)]
          exact ⟨fun x h => (by cases h), fun _ => ⟨_, _, _, rfl⟩⟩
theorem splitB_eq (c : UInt8) (k : Nat) (l : List UInt8) : Go.Lib.splitB (ByteArray.mk #[c]) 0 k ⟨l.toArray⟩ = (Go.Lib.splitK [c] 0 k l).map fun x => (⟨x.toArray⟩ : ByteArray) := by
  have hd := Go.Lib.splitB_data (ByteArray.mk #[c]) 0 k ⟨l.toArray⟩
  have := congrArg (List.map fun l : List UInt8 => (⟨l.toArray⟩ : ByteArray)) hd
  rw [List.map_map] at this
  have idm : ∀ fs : List ByteArray, fs.map ((fun l : List UInt8 => (⟨l.toArray⟩ : ByteArray)) ∘ fun x : ByteArray => x.data.toList) = fs := fun fs => by
    conv => rhs; rw [← List.map_id fs]
    exact List.map_congr_left fun x _ => rfl
  rw [idm] at this
  exact this
theorem impl_marks {R : Type} (bound i ln : Int) (out : List Int) (ps : List ByteArray) {b st : Int} (h1 : 1 ≤ st) (h2 : st ≤ 1000000000) (hb : b ≤ 1000000) (ke : Int → Int → Int → List Bool → List Int → List ByteArray → Option R) : ∀ (c n : Nat) (a : Int) (v : List Bool), c < n → b + 1 - a ≤ c → 0 ≤ a → a ≤ 1001000000 → b < v.length →
    impl_field_l9 n bound b st a ln i v out ps ke = ke bound ln i (stepsV c a b st v) out ps
  | c, 0, _, _, h, _, _, _, _ => by omega
  | 0, n + 1, a, v, hn, hc, h0, ha, hl => by
    rw [impl_field_l9, decide_eq_false (show ¬ a ≤ b by omega)]; rfl
  | c + 1, n + 1, a, v, hn, hc, h0, ha, hl => by
    rw [impl_field_l9, stepsV]
    by_cases h : a ≤ b
    · rw [decide_eq_true h, if_pos h, decide_eq_true h0, decide_eq_true (show a < (v.length : Int) by omega), wrap64 (x := a + st) (by omega) (by omega)]
      simp only [cond_true]
      exact impl_marks bound i ln out ps h1 h2 hb ke c n (a + st) _ (by omega) (by omega) (by omega) (by omega) (by rw [List.length_set]; exact hl)
    · rw [decide_eq_false h, if_neg h]; rfl
theorem impl_field_loop {R : Type} {most : Int} (hm : 0 ≤ most) (hm2 : most < 60) {L : List (List UInt8)} (hL : ∀ p ∈ L, Short p) (hlen : L.length ≤ 1000) (out : List Int) (kr : List Int → Bool → Option R) (ke : List Bool → List Int → Option R) : ∀ (c n j : Nat) (v : List Bool), c + 200 < n → j + c = L.length → (v.length : Int) = most + 1 →
    impl_field_l3 n (most + 1) (L.length : Int) (j : Int) v out (L.map fun x => (⟨x.toArray⟩ : ByteArray)) kr ke = match fieldGo most (L.drop j) v with | some w => ke w out | none => kr [] false
  | c, 0, _, _, h, _, _ => by omega
  | 0, n + 1, j, v, hn, hj, hv => by
    rw [impl_field_l3, dge (by omega), List.drop_eq_nil_iff.2 (by omega)]; rfl
  | c + 1, n + 1, j, v, hn, hj, hv => by
    have h : j < L.length := by omega
    have h' : j < (L.map fun x => (⟨x.toArray⟩ : ByteArray)).length := by rw [List.length_map]; exact h
    rw [impl_field_l3, dlt h, dnn, dlt h', getD_at _ _ h', List.getElem_map, List.drop_eq_getElem_cons h, fieldGo]
    simp only [cond_true]
    generalize hK : (fun (r2 r3 r4 : Int) (r5 : Bool) => _) = K
    have hi := impl_itemE (n := n) hm hm2 L[j] (hL _ (List.getElem_mem h)) K
    cases hr : itemR most L[j] with
    | none =>
      obtain ⟨a, b, st, e⟩ := hi.2 hr
      rw [e, ← hK]; rfl
    | some x =>
      obtain ⟨xa, xb, xs⟩ := x
      have hx := itemR_in hm hr
      rw [hi.1 _ hr, ← hK]
      simp only [Bool.not_true, cond_false]
      rw [impl_marks (b := xb) (st := xs) _ _ _ _ _ (by omega) (by omega) (by omega) _ 60 n xa v (by omega) (by omega) (by omega) (by omega) (by omega), wrapS h (by omega)]
      exact impl_field_loop hm hm2 hL hlen out kr ke c n (j + 1) _ (by omega) (by omega) (by rw [stepsV_len]; exact hv)
theorem impl_trues {R : Type} (v : List Bool) (hv : v.length ≤ 1000) (ke : List Int → Option R) : ∀ (n j : Nat) (acc : List Int), v.length - j < n → j ≤ v.length → acc.length ≤ j →
    impl_field_l14 n (v.length : Int) (j : Int) acc v ke = ke (acc ++ trues j (v.drop j))
  | 0, _, _, h, _, _ => by omega
  | n + 1, j, acc, hn, hj, ha => by
    rw [impl_field_l14]
    by_cases h : j < v.length
    · rw [dlt h, dnn, getD_at _ _ h, wrapS h (by omega), List.drop_eq_getElem_cons h, trues]
      simp only [cond_true]
      cases hb : v[j] with
      | false =>
        simp only [cond_false, Bool.false_eq_true, if_false]
        exact impl_trues v hv ke n (j + 1) acc (by omega) (by omega) (by omega)
      | true =>
        rw [decide_eq_true (show acc.length + [(j : Int)].length ≤ LIM by simp only [List.length_cons, List.length_nil, LIM]; omega)]
        simp only [cond_true, if_true]
        rw [impl_trues v hv ke n (j + 1) (acc ++ [(j : Int)]) (by omega) (by omega) (by rw [List.length_append]; simp; omega), List.append_assoc, List.singleton_append]
    · rw [dge (by omega), List.drop_eq_nil_iff.2 (by omega)]
      simp [trues]
/-- A field whose items are all short. -/
def ShortF (l : List UInt8) : Prop := l.length ≤ 900 ∧ ∀ p ∈ splitAll 44 l, Short p
theorem impl_fieldE {R : Type} {n : Nat} {most : Int} (hm : 0 ≤ most) (hm2 : most < 60) (l : List UInt8) (hl : ShortF l) (hn : 2000 ≤ n) (k : List Int → Bool → Option R) :
    impl_field n ⟨l.toArray⟩ (most + 1) k = match fieldV most l with | some x => k x true | none => k [] false := by
  have hlen : (splitAll 44 l).length ≤ 1000 := by
    rw [splitAll_len]
    have : l.count 44 ≤ l.length := List.count_le_length
    have := hl.1
    omega
  unfold impl_field fieldV strings_Split
  rw [decide_eq_true (show 0 ≤ most + 1 by omega), decide_eq_true (Int.le_refl _), decide_eq_true (show most + 1 ≤ 1099511627776 by omega), decide_eq_true (show (ByteArray.mk l.toArray).size < 4294967281 by show l.length < 4294967281; have := hl.1; omega), decide_eq_true (show 1 ≤ (ByteArray.mk #[44]).size by decide)]
  simp only [cond_true, Bool.and_self]
  have e : Go.Lib.splitB (ByteArray.mk #[44]) 0 (Go.Lib.countB ⟨l.toArray⟩ (ByteArray.mk #[44])) ⟨l.toArray⟩ = (splitAll 44 l).map fun x => (⟨x.toArray⟩ : ByteArray) := by
    have hc : Go.Lib.countB ⟨l.toArray⟩ (ByteArray.mk #[44]) = l.count 44 := Go.Lib.count_one 44 l
    rw [hc, splitB_eq, splitK_all 44 _ l (Nat.le_refl _)]
  rw [e, List.length_map]
  have loop := impl_field_loop (R := R) hm hm2 hl.2 hlen [] (fun r12 r13 => k r12 r13) (fun r14 r15 => (impl_field_l14 n (r14.length : Int) 0 r15 r14 (fun r16 => k r16 true))) (splitAll 44 l).length n 0 (List.replicate (most + 1).toNat false) (by omega) (by omega) (by rw [List.length_replicate]; omega)
  rw [show ((0 : Nat) : Int) = 0 from rfl, List.drop_zero] at loop
  rw [loop]
  cases hg : fieldGo most (splitAll 44 l) (List.replicate (most + 1).toNat false) with
  | none => rfl
  | some w =>
    have hw := fieldGo_len most _ _ _ hg
    rw [List.length_replicate] at hw
    simp only [Option.map_some]
    have := impl_trues w (by omega) (fun r15 => k r15 true) n 0 [] (by omega) (by omega) (by simp)
    rw [show ((0 : Nat) : Int) = 0 from rfl, List.drop_zero, List.nil_append] at this
    exact this
theorem impl_read3 {R : Type} {n : Nat} (a b d : List UInt8) (ha : ShortF a) (hb : ShortF b) (hd : ShortF d) (hn : 3000 ≤ n) (kr : Bool → List Int → List Int → List Int → Option R) (ke : List Int → List Int → List Int → List (List Int) → Option R) :
    impl_ReadCron_l5 n 3 0 [] [] [] [] [⟨a.toArray⟩, ⟨b.toArray⟩, ⟨d.toArray⟩] kr ke = match readV3 a b d with | some c => ke [] [] [] [c.1, c.2.1, c.2.2] | none => kr false [] [] [] := by
  obtain ⟨m, rfl⟩ : ∃ m, n = m + 1 + 1 + 1 + 1 := ⟨n - 4, by omega⟩
  have w1 : IntKind.wrap .i64 (0 + 1) = 1 := by rw [wrap64 (by omega) (by omega)]; rfl
  have w2 : IntKind.wrap .i64 (1 + 1) = 2 := by rw [wrap64 (by omega) (by omega)]; rfl
  have w3 : IntKind.wrap .i64 (2 + 1) = 3 := by rw [wrap64 (by omega) (by omega)]; rfl
  have e1 := fun n hn k => impl_fieldE (R := R) (n := n) (most := 59) (by omega) (by omega) a ha hn k
  have e2 := fun n hn k => impl_fieldE (R := R) (n := n) (most := 23) (by omega) (by omega) b hb hn k
  have e3 := fun n hn k => impl_fieldE (R := R) (n := n) (most := 6) (by omega) (by omega) d hd hn k
  unfold readV3
  rw [impl_ReadCron_l5]
  unfold impl_bounds
  simp only [show decide ((0 : Int) < 3) = true from rfl, show decide ((0 : Int) ≤ 0) = true from rfl, List.length_cons, List.length_nil, show decide ((0 : Int) < ((0 + 1 + 1 + 1 : Nat) : Int)) = true from rfl, cond_true, show Int.toNat 0 = 0 from rfl, List.getD_cons_zero, w1]
  rw [show (60 : Int) = 59 + 1 from rfl, e1 _ (by omega)]
  cases fieldV 59 a with
  | none => rfl
  | some x =>
    simp only [Bool.not_true, cond_false, show decide (0 + 1 ≤ LIM) = true from rfl, cond_true, List.nil_append]
    rw [impl_ReadCron_l5]
    unfold impl_bounds
    simp only [show decide ((1 : Int) < 3) = true from rfl, show decide ((0 : Int) ≤ 1) = true from rfl, List.length_cons, List.length_nil, show decide ((1 : Int) < ((0 + 1 + 1 + 1 : Nat) : Int)) = true from rfl, cond_true, show Int.toNat 1 = 1 from rfl, List.getD_cons_zero, List.getD_cons_succ, w2]
    rw [show (24 : Int) = 23 + 1 from rfl, e2 _ (by omega)]
    cases fieldV 23 b with
    | none => rfl
    | some y =>
      simp only [Bool.not_true, cond_false, show decide (0 + 1 + (0 + 1) ≤ LIM) = true from rfl, cond_true, List.cons_append, List.nil_append]
      rw [impl_ReadCron_l5]
      unfold impl_bounds
      simp only [show decide ((2 : Int) < 3) = true from rfl, show decide ((0 : Int) ≤ 2) = true from rfl, List.length_cons, List.length_nil, show decide ((2 : Int) < ((0 + 1 + 1 + 1 : Nat) : Int)) = true from rfl, cond_true, show Int.toNat 2 = 2 from rfl, List.getD_cons_zero, List.getD_cons_succ, w3]
      rw [show (7 : Int) = 6 + 1 from rfl, e3 _ (by omega)]
      cases fieldV 6 d with
      | none => rfl
      | some z =>
        simp only [Bool.not_true, cond_false, show decide (0 + 1 + 1 + (0 + 1) ≤ LIM) = true from rfl, cond_true, List.cons_append, List.nil_append]
        rw [impl_ReadCron_l5]
        rfl
/-- Texts that the code reads as the reference does. -/
def ShortT (l : List UInt8) : Prop := l.length ≤ 900 ∧ ∀ a b d, splitAll 32 l = [a, b, d] → ShortF a ∧ ShortF b ∧ ShortF d
theorem impl_Read {R : Type} {n : Nat} (l : List UInt8) (hl : ShortT l) (hn : 3000 ≤ n) (k : List Int → List Int → List Int → Bool → Option R) :
    impl_ReadCron n ⟨l.toArray⟩ k = match readV l with | some c => k c.1 c.2.1 c.2.2 true | none => k [] [] [] false := by
  have hsz : (ByteArray.mk l.toArray).size = l.length := rfl
  have hl2 := splitAll_len 32 l
  have hcl : l.count 32 ≤ l.length := List.count_le_length
  unfold impl_ReadCron strings_SplitN impl_bounds
  rw [hsz, decide_eq_true (show l.length < 4294967281 by have := hl.1; omega), decide_eq_true (show 1 ≤ (ByteArray.mk #[32]).size by decide), decide_eq_true (show (1 : Int) ≤ 7 by omega), decide_eq_true (show (7 : Int) ≤ 9223372036854775807 by omega), splitB_eq]
  simp only [Bool.and_self, cond_true, List.length_map]
  rw [show (Int.toNat 7) = 7 from rfl]
  by_cases c3 : (Go.Lib.splitK [32] 0 (min 7 (l.length + 1) - 1) l).length = 3
  · have hk : l.count 32 ≤ min 7 (l.length + 1) - 1 := by
      rcases Nat.lt_or_ge (min 7 (l.length + 1) - 1) (l.count 32) with h | h
      · have := splitK_len 32 _ l h
        omega
      · exact h
    rw [splitK_all 32 _ l hk] at c3 ⊢
    obtain ⟨a, b, d, e⟩ : ∃ a b d, splitAll 32 l = [a, b, d] := by
      match h : splitAll 32 l, c3 with
      | [a, b, d], _ => exact ⟨a, b, d, rfl⟩
    have hs := hl.2 a b d e
    unfold readV
    rw [e]
    simp only [List.length_cons, List.length_nil, List.map_cons, List.map_nil]
    rw [show (((0 + 1 + 1 + 1 : Nat) : Int) != ((0 + 1 + 1 + 1 : Nat) : Int)) = false from rfl, cond_false, show ((0 + 1 + 1 + 1 : Nat) : Int) = 3 from rfl]
    rw [impl_read3 a b d hs.1 hs.2.1 hs.2.2 hn]
    cases readV3 a b d <;> rfl
  · have hne : (((Go.Lib.splitK [32] 0 (min 7 (l.length + 1) - 1) l).length : Int) != (([60, 24, 7] : List Int).length : Int)) = true := by
      simp only [List.length_cons, List.length_nil, bne_iff_ne, ne_eq]
      omega
    rw [hne, cond_true]
    have hr : readV l = none := by
      unfold readV
      split
      · rename_i a b d e
        rw [e] at hl2
        simp only [List.length_cons, List.length_nil] at hl2
        exact absurd (show (Go.Lib.splitK [32] 0 (min 7 (l.length + 1) - 1) l).length = 3 by rw [splitK_all 32 _ l (by omega), e]; rfl) c3
      · rfl
    rw [hr]
theorem impl_ris_loop {R : Type} {most : Int} (hm : 0 ≤ most) (hm2 : most < 60) (l : List Int) (hb : l.length ≤ 9223372036854775807) (kr : Bool → Option R) (ke : Option R) : ∀ (n j : Nat) (v : Int), l.length - j < n → j ≤ l.length → -1 ≤ v →
    (j = 0 → v = -1) → (∀ (h : j - 1 < l.length), 0 < j → l[j - 1] = v) →
    impl_rising_l2 n l (most + 1) l (l.length : Int) (j : Int) kr ke = bif riseB most v (l.drop j) then ke else kr false
  | 0, _, _, h, _, _, _, _ => by omega
  | n + 1, j, v, hn, hj, hv, h0, h1 => by
    unfold impl_rising_l2
    by_cases h : j < l.length
    · rw [dlt h, dnn, getD_at _ _ h, wrapS h hb, List.drop_eq_getElem_cons h, show most + 1 - 1 = most by omega, wrap64 (x := most) (by omega) (by omega)]
      simp only [cond_true, impl_in_eq, riseB]
      have ih := fun (h2 : -1 ≤ l[j]) => impl_ris_loop hm hm2 l hb kr ke n (j + 1) l[j] (by omega) (by omega) h2 (by omega) (fun _ _ => rfl)
      by_cases hz : j = 0
      · have hv := h0 hz
        subst hv
        rw [decide_eq_false (show ¬ ((j : Int) > 0) by omega)]
        by_cases c1 : 0 ≤ l[j] ∧ l[j] ≤ most
        · rw [decide_eq_true c1, decide_eq_true (show -1 < l[j] ∧ l[j] ≤ most by omega)]
          simp only [Bool.not_true, cond_false, Bool.true_and]
          exact ih (by omega)
        · rw [decide_eq_false c1, decide_eq_false (show ¬ (-1 < l[j] ∧ l[j] ≤ most) by omega)]; rfl
      · have hp : j - 1 < l.length := by omega
        have hq := h1 hp (by omega)
        rw [decide_eq_true (show ((j : Int) > 0) by omega), wrap64 (x := (j : Int) - 1) (by omega) (by omega), show (j : Int) - 1 = ((j - 1 : Nat) : Int) by omega, dnn, dlt hp, getD_at _ _ hp, hq]
        simp only [cond_true]
        by_cases c1 : 0 ≤ l[j] ∧ l[j] ≤ most
        · rw [decide_eq_true c1]
          simp only [Bool.not_true, cond_false]
          by_cases c3 : v < l[j]
          · rw [decide_eq_false (show ¬ (v ≥ l[j]) by omega), decide_eq_true (show v < l[j] ∧ l[j] ≤ most by omega)]
            simp only [cond_false, Bool.true_and]
            exact ih (by omega)
          · rw [decide_eq_true (show (v ≥ l[j]) by omega), decide_eq_false (show ¬ (v < l[j] ∧ l[j] ≤ most) by omega)]; rfl
        · rw [decide_eq_false c1, decide_eq_false (show ¬ (v < l[j] ∧ l[j] ≤ most) by omega)]; rfl
    · rw [dge (by omega), List.drop_eq_nil_iff.2 (by omega)]; rfl
theorem impl_ris {R : Type} {n : Nat} {most : Int} (hm : 0 ≤ most) (hm2 : most < 60) {l : List Int} (hb : l.length ≤ 1048576) (hn : l.length < n) (k : Bool → Option R) : impl_rising n l (most + 1) k = k (riseB most (-1) l) := by
  unfold impl_rising
  have := impl_ris_loop hm hm2 l (by omega) (fun r2 => k r2) (k true) n 0 (-1) (by omega) (by omega) (by omega) (fun _ => rfl) (fun _ h => by omega)
  rw [show ((0 : Nat) : Int) = 0 from rfl, List.drop_zero] at this
  rw [this]
  cases riseB most (-1) l <;> rfl
theorem good_len {l : List Int} (most : Int) : goodL most l = bif ((l.length : Int) == 0) then false else riseB most (-1) l := by
  unfold goodL
  cases l with
  | nil => rfl
  | cons x l =>
    rw [show (((x :: l).length : Int) == 0) = false from beq_eq_false_iff_ne.2 (by simp; omega), decide_eq_true (by simp), Bool.and_true]; rfl
theorem impl_Good {R : Type} {n : Nat} {c : Tri} (h1 : c.1.length ≤ 1048576) (h2 : c.2.1.length ≤ 1048576) (h3 : c.2.2.length ≤ 1048576) (hn : 1048600 ≤ n) (k : Bool → Option R) : impl_GoodCron n c.1 c.2.1 c.2.2 k = k (goodT c) := by
  obtain ⟨x, y, z⟩ := c
  simp only at h1 h2 h3 ⊢
  obtain ⟨m1, rfl⟩ : ∃ m, n = m + 1 := ⟨n - 1, by omega⟩
  have w1 : IntKind.wrap .i64 (0 + 1) = 1 := by rw [wrap64 (by omega) (by omega)]; rfl
  have w2 : IntKind.wrap .i64 (1 + 1) = 2 := by rw [wrap64 (by omega) (by omega)]; rfl
  have w3 : IntKind.wrap .i64 (2 + 1) = 3 := by rw [wrap64 (by omega) (by omega)]; rfl
  unfold impl_GoodCron impl_Cron_fields goodT
  dsimp only
  rw [impl_GoodCron_l2]
  unfold impl_bounds
  simp only [List.length_cons, List.length_nil, show ((0 + 1 + 1 + 1 : Nat) : Int) = 3 from rfl, show decide ((0 : Int) < 3) = true from rfl, show decide ((0 : Int) ≤ 0) = true from rfl, cond_true, show Int.toNat 0 = 0 from rfl, List.getD_cons_zero, w1]
  rw [good_len 59]
  cases hx : ((x.length : Int) == 0) with
  | true => rfl
  | false =>
    simp only [cond_false]
    rw [show (60 : Int) = 59 + 1 from rfl, impl_ris (by omega) (by omega) h1 (by omega)]
    cases riseB 59 (-1) x with
    | false => rfl
    | true =>
      simp only [Bool.not_true, cond_false, Bool.true_and]
      obtain ⟨m2, rfl⟩ : ∃ m, m1 = m + 1 := ⟨m1 - 1, by omega⟩
      rw [impl_GoodCron_l2]
      unfold impl_bounds
      simp only [List.length_cons, List.length_nil, show ((0 + 1 + 1 + 1 : Nat) : Int) = 3 from rfl, show decide ((1 : Int) < 3) = true from rfl, show decide ((0 : Int) ≤ 1) = true from rfl, cond_true, show Int.toNat 1 = 1 from rfl, List.getD_cons_zero, List.getD_cons_succ, w2]
      rw [good_len 23]
      cases hy : ((y.length : Int) == 0) with
      | true => rfl
      | false =>
        simp only [cond_false]
        rw [show (24 : Int) = 23 + 1 from rfl, impl_ris (by omega) (by omega) h2 (by omega)]
        cases riseB 23 (-1) y with
        | false => rfl
        | true =>
          simp only [Bool.not_true, cond_false, Bool.true_and]
          obtain ⟨m3, rfl⟩ : ∃ m, m2 = m + 1 := ⟨m2 - 1, by omega⟩
          rw [impl_GoodCron_l2]
          unfold impl_bounds
          simp only [List.length_cons, List.length_nil, show ((0 + 1 + 1 + 1 : Nat) : Int) = 3 from rfl, show decide ((2 : Int) < 3) = true from rfl, show decide ((0 : Int) ≤ 2) = true from rfl, cond_true, show Int.toNat 2 = 2 from rfl, List.getD_cons_zero, List.getD_cons_succ, w3]
          rw [good_len 6]
          cases hz : ((z.length : Int) == 0) with
          | true => rfl
          | false =>
            simp only [cond_false]
            rw [show (7 : Int) = 6 + 1 from rfl, impl_ris (by omega) (by omega) h3 (by omega)]
            cases riseB 6 (-1) z with
            | false => rfl
            | true =>
              simp only [Bool.not_true, cond_false]
              obtain ⟨m4, rfl⟩ : ∃ m, m3 = m + 1 := ⟨m3 - 1, by omega⟩
              rw [impl_GoodCron_l2]
              rfl
def digB (x : Int) : ByteArray := ⟨(dig x.toNat).toArray⟩
theorem impl_nums {R : Type} (a : Int) (l0 : List Int) (b c : Int) {l : List Int} (hl : l.length ≤ 100) (hb : ∀ x ∈ l, 0 ≤ x ∧ x < 100) (parts : List ByteArray) (ls : List (List Int)) (ke : Int → List Int → Int → Int → List ByteArray → List ByteArray → List (List Int) → Option R) : ∀ (m n j : Nat) (acc : List ByteArray), m < n → j + m = l.length → acc.length ≤ j →
    impl_CronText_l9 n a l0 b c l (l.length : Int) (j : Int) parts acc ls ke = ke a l0 b c parts (acc ++ (l.drop j).map digB) ls
  | m, 0, _, _, h, _, _ => by omega
  | 0, n + 1, j, acc, hn, hj, ha => by
    rw [impl_CronText_l9, dge (by omega), List.drop_eq_nil_iff.2 (by omega)]
    simp
  | m + 1, n + 1, j, acc, hn, hj, ha => by
    have h : j < l.length := by omega
    have hx := hb _ (List.getElem_mem h)
    rw [impl_CronText_l9, dlt h, dnn, getD_at _ _ h, wrapS h (by omega), List.drop_eq_getElem_cons h]
    unfold strconv_Itoa
    rw [decide_eq_true (show -9223372036854775808 ≤ l[j] by omega), decide_eq_true (show l[j] ≤ 9223372036854775807 by omega), itoa_dig hx.1]
    simp only [cond_true, Bool.and_self]
    rw [decide_eq_true (show acc.length + [(ByteArray.mk (dig l[j].toNat).toArray)].length ≤ LIM by simp only [List.length_cons, List.length_nil, LIM]; omega), cond_true]
    rw [impl_nums a l0 b c hl hb parts ls ke m n (j + 1) (acc ++ [ByteArray.mk (dig l[j].toNat).toArray]) (by omega) (by omega) (by rw [List.length_append]; simp; omega), List.append_assoc]
    rfl
theorem join_digs (x : Int) : ∀ (l : List Int) (y : List UInt8), y ++ Go.Lib.joinTail [44] ((l.map digB).map (·.data.toList)) = y ++ joinS 1 l
  | [], y => by simp [Go.Lib.joinTail, joinS]
  | z :: l, y => by
    have ih := join_digs x l []
    simp only [List.nil_append] at ih
    have e : ∀ (l : List Int) (a b : Nat), joinS (a + 1) l = joinS (b + 1) l := by
      intro l
      induction l with
      | nil => intro a b; rfl
      | cons z l ih => intro a b; rw [joinS, joinS, ih (a + 1) (b + 1)]
    rw [joinS, e l 1 0, ← ih]
    simp [Go.Lib.joinTail, digB]
theorem join_joinC {l : List Int} (h : l ≠ []) : Go.Lib.join ((l.map digB).map (·.data.toList)) [44] = joinC l := by
  cases l with
  | nil => exact absurd rfl h
  | cons x l =>
    rw [List.map_cons, List.map_cons, Go.Lib.join_cons, join_digs x, ← joinS_joinC]
    rfl
theorem impl_join {R : Type} {n : Nat} (ps : List (List UInt8)) (c : UInt8) (h0 : ps ≠ []) (h1 : ps.length ≤ 100) (h2 : (Go.Lib.join ps [c]).length ≤ 10000) (k : ByteArray → Option R) : strings_Join n (ps.map fun x => (⟨x.toArray⟩ : ByteArray)) (ByteArray.mk #[c]) k = k ⟨(Go.Lib.join ps [c]).toArray⟩ := by
  unfold strings_Join
  have e : (ps.map fun x => (⟨x.toArray⟩ : ByteArray)).map (·.data.toList) = ps := by
    rw [List.map_map]
    conv => rhs; rw [← List.map_id ps]
    exact List.map_congr_left fun x _ => rfl
  have hp := List.length_pos_iff.2 h0
  rw [e, List.length_map, decide_eq_true hp, decide_eq_true (show ps.length ≤ 1099511627776 by omega), show (ByteArray.mk #[c]).data.toList = [c] from rfl, decide_eq_true (show (Go.Lib.join ps [c]).length ≤ 1099511627776 by omega)]
  rfl
theorem impl_part {R : Type} {n : Nat} {most : Int} (hm : 0 ≤ most) (hm2 : most < 60) {l : List Int} (h0 : l ≠ []) (hr : Rise most 0 l) (k : ByteArray → Option R) : (bif ((l.length : Int) == most + 1) then strings_Join n [ByteArray.mk #[42]] (ByteArray.mk #[44]) k else strings_Join n (l.map digB) (ByteArray.mk #[44]) k) = k ⟨(textC most l).toArray⟩ := by
  have hl := rise_len hr hm
  have hb := rise_mem hr
  have ht := textC_len hm hm2 hr
  unfold textC at ht ⊢
  by_cases c : (l.length : Int) = most + 1
  · rw [if_pos c, show ((l.length : Int) == most + 1) = true from beq_iff_eq.2 c, cond_true]
    exact impl_join (n := n) [[42]] 44 (by simp) (by simp) (by simp [Go.Lib.join_one]) k
  · rw [if_neg c] at ht ⊢
    rw [show ((l.length : Int) == most + 1) = false from beq_eq_false_iff_ne.2 c, cond_false]
    have hj := join_joinC h0
    have := impl_join (R := R) (n := n) (l.map fun x => dig x.toNat) 44 (by simpa using h0) (by rw [List.length_map]; omega) (by
      rw [show (l.map fun x => dig x.toNat) = (l.map digB).map (·.data.toList) by rw [List.map_map]; rfl, hj]; omega) k
    rw [List.map_map] at this
    rw [show (l.map fun x => dig x.toNat) = (l.map digB).map (·.data.toList) by rw [List.map_map]; rfl, hj] at this
    exact this
theorem impl_Text {R : Type} {n : Nat} {c : Tri} (h1 : c.1.length ≤ 1048576) (h2 : c.2.1.length ≤ 1048576) (h3 : c.2.2.length ≤ 1048576) (hn : 1048700 ≤ n) (k : ByteArray → Bool → Option R) : impl_CronText n c.1 c.2.1 c.2.2 k = if goodT c = true then k ⟨(textV c).toArray⟩ true else k (ByteArray.mk #[]) false := by
  unfold impl_CronText
  rw [impl_Good h1 h2 h3 (by omega)]
  cases hg : goodT c with
  | false => rfl
  | true =>
    have h := goodT_iff.1 hg
    clear hg h1 h2 h3
    obtain ⟨x, y, z⟩ := c
    obtain ⟨⟨gx, rx⟩, ⟨gy, ry⟩, gz, rz⟩ := h
    simp only at gx rx gy ry gz rz ⊢
    have lx := rise_len rx (by omega)
    have ly := rise_len ry (by omega)
    have lz := rise_len rz (by omega)
    have bx := rise_mem rx
    have by' := rise_mem ry
    have bz := rise_mem rz
    have tx := textC_len (by omega) (by omega) rx
    have ty := textC_len (by omega) (by omega) ry
    have tz := textC_len (by omega) (by omega) rz
    obtain ⟨m1, rfl⟩ : ∃ m, n = m + 1 := ⟨n - 1, by omega⟩
    have w1 : IntKind.wrap .i64 (0 + 1) = 1 := by rw [wrap64 (by omega) (by omega)]; rfl
    have w2 : IntKind.wrap .i64 (1 + 1) = 2 := by rw [wrap64 (by omega) (by omega)]; rfl
    have w3 : IntKind.wrap .i64 (2 + 1) = 3 := by rw [wrap64 (by omega) (by omega)]; rfl
    unfold impl_Cron_fields
    simp only [Bool.not_true, cond_false, if_true]
    have nums := fun (n : Nat) (hn : 200 ≤ n) (a : Int) (l : List Int) (hl : l.length ≤ 100) (hb : ∀ x ∈ l, 0 ≤ x ∧ x < 100) (parts : List ByteArray) (ls : List (List Int)) (ke) => impl_nums (R := R) a l 3 a hl hb parts ls ke l.length n 0 [] (by omega) (by omega) (by simp)
    simp only [show ((0 : Nat) : Int) = 0 from rfl, List.drop_zero, List.nil_append] at nums
    rw [impl_CronText_l5]
    simp only [List.length_cons, List.length_nil, show ((0 + 1 + 1 + 1 : Nat) : Int) = 3 from rfl, show decide ((0 : Int) < 3) = true from rfl, show decide ((0 : Int) ≤ 0) = true from rfl, cond_true, show Int.toNat 0 = 0 from rfl, List.getD_cons_zero, w1]
    rw [nums _ (by omega) 0 x (by omega) (fun q hq => by have := bx q hq; omega)]
    unfold impl_bounds
    simp only [List.length_cons, List.length_nil, show ((0 + 1 + 1 + 1 : Nat) : Int) = 3 from rfl, show decide ((0 : Int) < 3) = true from rfl, show decide ((0 : Int) ≤ 0) = true from rfl, cond_true, show Int.toNat 0 = 0 from rfl, List.getD_cons_zero, w1]
    rw [show (60 : Int) = 59 + 1 from rfl, impl_part (by omega) (by omega) gx rx]
    simp only [show decide (0 + (0 + 1) ≤ LIM) = true from rfl, cond_true, List.nil_append]
    obtain ⟨m2, rfl⟩ : ∃ m, m1 = m + 1 := ⟨m1 - 1, by omega⟩
    rw [impl_CronText_l5]
    simp only [List.length_cons, List.length_nil, show ((0 + 1 + 1 + 1 : Nat) : Int) = 3 from rfl, show decide ((1 : Int) < 3) = true from rfl, show decide ((0 : Int) ≤ 1) = true from rfl, cond_true, show Int.toNat 1 = 1 from rfl, List.getD_cons_zero, List.getD_cons_succ, w2]
    rw [nums _ (by omega) 1 y (by omega) (fun q hq => by have := by' q hq; omega)]
    unfold impl_bounds
    simp only [List.length_cons, List.length_nil, show ((0 + 1 + 1 + 1 : Nat) : Int) = 3 from rfl, show decide ((1 : Int) < 3) = true from rfl, show decide ((0 : Int) ≤ 1) = true from rfl, cond_true, show Int.toNat 1 = 1 from rfl, List.getD_cons_zero, List.getD_cons_succ, w2]
    rw [show (24 : Int) = 23 + 1 from rfl, impl_part (by omega) (by omega) gy ry]
    simp only [show decide (0 + 1 + (0 + 1) ≤ LIM) = true from rfl, cond_true, List.cons_append, List.nil_append]
    obtain ⟨m3, rfl⟩ : ∃ m, m2 = m + 1 := ⟨m2 - 1, by omega⟩
    rw [impl_CronText_l5]
    simp only [List.length_cons, List.length_nil, show ((0 + 1 + 1 + 1 : Nat) : Int) = 3 from rfl, show decide ((2 : Int) < 3) = true from rfl, show decide ((0 : Int) ≤ 2) = true from rfl, cond_true, show Int.toNat 2 = 2 from rfl, List.getD_cons_zero, List.getD_cons_succ, w3]
    rw [nums _ (by omega) 2 z (by omega) (fun q hq => by have := bz q hq; omega)]
    unfold impl_bounds
    simp only [List.length_cons, List.length_nil, show ((0 + 1 + 1 + 1 : Nat) : Int) = 3 from rfl, show decide ((2 : Int) < 3) = true from rfl, show decide ((0 : Int) ≤ 2) = true from rfl, cond_true, show Int.toNat 2 = 2 from rfl, List.getD_cons_zero, List.getD_cons_succ, w3]
    rw [show (7 : Int) = 6 + 1 from rfl, impl_part (by omega) (by omega) gz rz]
    simp only [show decide (0 + 1 + 1 + (0 + 1) ≤ LIM) = true from rfl, cond_true, List.cons_append, List.nil_append]
    obtain ⟨m4, rfl⟩ : ∃ m, m3 = m + 1 := ⟨m3 - 1, by omega⟩
    rw [impl_CronText_l5]
    simp only [show decide ((3 : Int) < 3) = false from rfl, cond_false]
    have hj : Go.Lib.join [textC 59 x, textC 23 y, textC 6 z] [32] = textV (x, y, z) := by
      rw [Go.Lib.join_cons]
      simp [Go.Lib.joinTail, textV]
    have := impl_join (R := R) (n := m4 + 1 + 1 + 1 + 1) [textC 59 x, textC 23 y, textC 6 z] 32 (by simp) (by simp) (by
      rw [hj]; unfold textV; simp only [List.length_append, List.length_cons]; omega) (fun r18 => k r18 true)
    rw [hj] at this
    exact this
theorem oneC_ex {l : List Int} (hl : Bytes l) (n : Nat) {m p s : Int} (hm : m ≤ 60000) (h0 : 0 ≤ p) (h1 : p ≤ 4611686018427387000) : ∃ b p' s', p ≤ p' ∧ p' ≤ p + 2 ∧ ∀ (R : Type) (k : Bool → List Int → Int → Int → Option R), spec_l1Cur_one n m l p s k = k b l p' s' := by
  obtain ⟨r, p', s', _, _, a, b, h⟩ := pick_ex hl n (s := s) hm h0 h1
  exact ⟨_, p', s', a, b, fun R k => by unfold spec_l1Cur_one; rw [h]⟩
theorem ofC_ex {l : List Int} (hl : Bytes l) (n : Nat) {xs : List ByteArray} (hx : xs ≠ []) (hx2 : xs.length ≤ 200) {p s : Int} (h0 : 0 ≤ p) (h1 : p ≤ 4611686018427387000) : ∃ r p' s', r ∈ xs ∧ p ≤ p' ∧ p' ≤ p + 2 ∧ ∀ (R : Type) (k : ByteArray → List Int → Int → Int → Option R), spec_l1Cur_of n xs l p s k = k r l p' s' := by
  have hp := List.length_pos_iff.2 hx
  obtain ⟨i, p', s', i0, i1, q0, q1, hi⟩ := pick_ex hl n (m := (xs.length : Int)) (s := s) (by omega) h0 h1
  have hlt : Int.toNat i < xs.length := by omega
  refine ⟨xs.getD (Int.toNat i) ByteArray.empty, p', s', ?_, q0, q1, fun R k => ?_⟩
  · rw [List.getD_eq_getElem?_getD, List.getElem?_eq_getElem hlt]
    exact List.getElem_mem hlt
  · unfold spec_l1Cur_of
    rw [hi, decide_eq_true i0, decide_eq_true (show i < (xs.length : Int) by omega)]
    rfl
theorem list_loop {l : List Int} (hl : Bytes l) {most : Int} (hm : most ≤ 60) : ∀ (j n : Nat) (k0 p s : Int) (acc : List Int), j < n → acc.length + j ≤ 100 → 0 ≤ k0 → k0 + 30 * j ≤ 1000000 → 0 ≤ p → p + 2 * j ≤ 1000000 →
    ∃ (x : List Int) (p' s' : Int), x.length ≤ 1000 ∧ p ≤ p' ∧ p' ≤ p + 2 * j ∧ ∀ (R : Type) (k : List Int → List Int → Int → Int → Option R), spec_l1Cur_cronList_l7 n most k0 (j : Int) l p s acc k = k x l p' s'
  | j, 0, _, _, _, _, h, _, _, _, _, _ => by omega
  | 0, n + 1, k0, p, s, acc, hn, ha, hk, hk2, h0, h1 => ⟨acc, p, s, by omega, by omega, by omega, fun R k => by
      rw [spec_l1Cur_cronList_l7]; rfl⟩
  | j + 1, n + 1, k0, p, s, acc, hn, ha, hk, hk2, h0, h1 => by
    by_cases c : k0 ≤ most
    · obtain ⟨r, p1, s1, r0, r1, a1, b1, e1⟩ := pick_ex hl n (m := 20) (p := p) (s := s) (by omega) h0 (by omega)
      obtain ⟨x, p2, s2, g1, g2, g3, g4⟩ := list_loop hl hm j n (k0 + (1 + r)) p1 s1 (acc ++ [k0]) (by omega) (by rw [List.length_append]; simp; omega) (by omega) (by omega) (by omega) (by omega)
      refine ⟨x, p2, s2, g1, by omega, by omega, fun R k => ?_⟩
      rw [spec_l1Cur_cronList_l7, decide_eq_true (show ((j + 1 : Nat) : Int) > 0 by omega), decide_eq_true c, decide_eq_true (by simp [LIM]; omega)]
      simp only [cond_true]
      rw [e1, wrap64 (x := 1 + r) (by omega) (by omega), wrap64 (x := k0 + (1 + r)) (by omega) (by omega), wrap64 (x := ((j + 1 : Nat) : Int) - 1) (by omega) (by omega), show ((j + 1 : Nat) : Int) - 1 = (j : Int) by omega]
      exact g4 R k
    · exact ⟨acc, p, s, by omega, by omega, by omega, fun R k => by
        rw [spec_l1Cur_cronList_l7, decide_eq_true (show ((j + 1 : Nat) : Int) > 0 by omega), decide_eq_false c]; rfl⟩
theorem list_ex {l : List Int} (hl : Bytes l) {n : Nat} (hn : 1000 ≤ n) {most : Int} (h0m : 0 ≤ most) (hm : most < 60) {p s : Int} (h0 : 0 ≤ p) (h1 : p ≤ 900000) : ∃ (x : List Int) (p' s' : Int), x.length ≤ 1000 ∧ p ≤ p' ∧ p' ≤ p + 100 ∧ ∀ (R : Type) (k : List Int → List Int → Int → Int → Option R), spec_l1Cur_cronList n most l p s k = k x l p' s' := by
  obtain ⟨b, p1, s1, a1, b1, e1⟩ := oneC_ex hl n (m := 4) (p := p) (s := s) (by omega) h0 (by omega)
  unfold spec_l1Cur_cronList
  simp only [e1]
  cases b with
  | true =>
    cases hf : fieldV most [42] with
    | none => exact ⟨[], p1, s1, by simp, by omega, by omega, fun R k => by
        rw [cond_true]
        have := spec_field (R := R) (n := n) h0m hm [42] (by simp) (by simp; omega) (fun r5 r6 => k r5 l p1 s1)
        rw [hf] at this
        exact this⟩
    | some x =>
      have hg := fieldV_good h0m hf
      have := rise_len hg.2 h0m
      exact ⟨x, p1, s1, by omega, by omega, by omega, fun R k => by
        rw [cond_true]
        have := spec_field (R := R) (n := n) h0m hm [42] (by simp) (by simp; omega) (fun r5 r6 => k r5 l p1 s1)
        rw [hf] at this
        exact this⟩
  | false =>
    obtain ⟨r2, p2, s2, u2, v2, a2, b2, e2⟩ := pick_ex hl n (m := most + 1) (p := p1) (s := s1) (by omega) (by omega) (by omega)
    obtain ⟨r3, p3, s3, u3, v3, a3, b3, e3⟩ := pick_ex hl n (m := 4) (p := p2) (s := s2) (by omega) (by omega) (by omega)
    obtain ⟨x, p4, s4, g1, g2, g3, g4⟩ := list_loop hl (most := most) (by omega) (1 + r3).toNat n r2 p3 s3 [] (by omega) (by simp; omega) (by omega) (by omega) (by omega) (by omega)
    refine ⟨x, p4, s4, g1, by omega, by omega, fun R k => ?_⟩
    rw [cond_false, wrap64 (x := most + 1) (by omega) (by omega), e2, e3, wrap64 (x := 1 + r3) (by omega) (by omega)]
    have := g4 R (fun r19 r20 r21 r22 => k r19 r20 r21 r22)
    rw [show (((1 + r3).toNat : Nat) : Int) = 1 + r3 by omega] at this
    exact this
theorem cron_ex {l : List Int} (hl : Bytes l) {n : Nat} (hn : 1000 ≤ n) : ∃ c : Tri, (c.1.length ≤ 1048576 ∧ c.2.1.length ≤ 1048576 ∧ c.2.2.length ≤ 1048576) ∧ ∀ (R : Type) (k : List Int → List Int → List Int → Option R), spec_DrawCronText n l k = k c.1 c.2.1 c.2.2 := by
  obtain ⟨x, p1, s1, x1, a1, b1, e1⟩ := list_ex hl hn (most := 59) (p := 0) (s := 0) (by omega) (by omega) (by omega) (by omega)
  obtain ⟨y, p2, s2, x2, a2, b2, e2⟩ := list_ex hl hn (most := 23) (p := p1) (s := s1) (by omega) (by omega) (by omega) (by omega)
  obtain ⟨z, p3, s3, x3, a3, b3, e3⟩ := list_ex hl hn (most := 6) (p := p2) (s := s2) (by omega) (by omega) (by omega) (by omega)
  obtain ⟨r4, p4, s4, _, _, a4, b4, e4⟩ := pick_ex hl n (m := 40) (p := p3) (s := s3) (by omega) (by omega) (by omega)
  unfold spec_DrawCronText spec_DrawGoodCron spec_l1Cur_cron
  simp only [e1, e2, e3, e4]
  cases r4 == 0 with
  | true => exact ⟨(x, [], z), ⟨by simp only; omega, by simp, by simp only; omega⟩, fun R k => rfl⟩
  | false =>
    cases r4 == 1 with
    | true => exact ⟨(x, y, [7]), ⟨by simp only; omega, by simp only; omega, by simp⟩, fun R k => rfl⟩
    | false => exact ⟨(x, y, z), ⟨by simp only; omega, by simp only; omega, by simp only; omega⟩, fun R k => rfl⟩
def InvE (m : Nat) (l : List UInt8) : Prop := mrun m l + m ≤ 9 ∧ l.length + m ≤ 19
theorem mrun_le : ∀ (m : Nat) (l : List UInt8), mrun 0 l ≤ mrun m l
  | 0, _ => Nat.le_refl _
  | m + 1, l => Nat.le_trans (mrun_le m l) (mrun_mono l m)
theorem inv_zero {m : Nat} {l : List UInt8} (h : InvE m l) : InvE 0 l := by
  have := mrun_le m l
  have a := h.1
  have b := h.2
  exact ⟨by omega, by omega⟩
theorem inv_ins {m : Nat} {a b : List UInt8} (c : UInt8) (h : InvE (m + 1) (a ++ b)) : InvE m (a ++ c :: b) := by
  have := mrun_ins a c b m
  obtain ⟨h1, h2⟩ := h
  rw [List.length_append] at h2
  exact ⟨by omega, by rw [List.length_append, List.length_cons]; omega⟩
theorem inv_rep {m : Nat} {a b : List UInt8} (c x : UInt8) (h : InvE (m + 1) (a ++ x :: b)) : InvE m (a ++ c :: b) := by
  have := mrun_rep a c x b m
  obtain ⟨h1, h2⟩ := h
  rw [List.length_append, List.length_cons] at h2
  exact ⟨by omega, by rw [List.length_append, List.length_cons]; omega⟩
theorem inv_del {m : Nat} {a b : List UInt8} (x : UInt8) (h : InvE (m + 1) (a ++ x :: b)) : InvE m (a ++ b) := by
  have := mrun_del a x b m
  obtain ⟨h1, h2⟩ := h
  rw [List.length_append, List.length_cons] at h2
  exact ⟨by omega, by rw [List.length_append]; omega⟩
theorem spoilt_loop {l : List Int} (hl : Bytes l) (w : ByteArray) (hw : 0 < w.size) (hw2 : w.size ≤ 100) : ∀ (m n : Nat) (t : ByteArray) (p s : Int), m < n → InvE m t.data.toList → 0 ≤ p → p + 6 * m ≤ 1000000 →
    ∃ (t' : ByteArray) (p' s' : Int), InvE 0 t'.data.toList ∧ ∀ (R : Type) (k : ByteArray → List Int → Int → Int → Option R), spec_l1Cur_spoilt_l2 n t w (m : Int) l p s k = k t' l p' s'
  | m, 0, _, _, _, h, _, _, _ => by omega
  | 0, n + 1, t, p, s, hn, hi, h0, h1 => ⟨t, p, s, hi, fun R k => by rw [spec_l1Cur_spoilt_l2]; rfl⟩
  | m + 1, n + 1, t, p, s, hn, hi, h0, h1 => by
    have hts : t.data.toList.length = t.size := rfl
    by_cases c : 0 < t.size
    case neg => exact ⟨t, p, s, inv_zero hi, fun R k => by
        rw [spec_l1Cur_spoilt_l2, decide_eq_true (show ((m + 1 : Nat) : Int) > 0 by omega), decide_eq_false (show ¬ (t.size : Int) > 0 by omega)]; rfl⟩
    have hsz : t.size ≤ 19 := by have := hi.2; omega
    obtain ⟨i, p1, s1, i0, i1, a1, b1, e1⟩ := pick_ex hl n (m := (t.size : Int)) (p := p) (s := s) (by omega) h0 (by omega)
    obtain ⟨q, p2, s2, q0, q1, a2, b2, e2⟩ := pick_ex hl n (m := (w.size : Int)) (p := p1) (s := s1) (by omega) (by omega) (by omega)
    obtain ⟨z, p3, s3, z0, z1, a3, b3, e3⟩ := pick_ex hl n (m := 3) (p := p2) (s := s2) (by omega) (by omega) (by omega)
    obtain ⟨j, rfl⟩ : ∃ j : Nat, i = (j : Int) := ⟨i.toNat, by omega⟩
    have hj : j < t.data.toList.length := by omega
    obtain ⟨cb, hcb⟩ : ∃ cb : UInt8, bytesOf [((w.data.getD (Int.toNat q) 0).toNat : Int)] = ⟨#[cb]⟩ := ⟨_, rfl⟩
    have hsplit : t.data.toList = t.data.toList.take j ++ t.data.toList[j] :: t.data.toList.drop (j + 1) := by
      rw [← List.drop_eq_getElem_cons hj, List.take_append_drop]
    have ea : (ByteArray.extract t 0 (Int.toNat (j : Int))).data.toList = t.data.toList.take j := by
      rw [ba_extract, Int.toNat_natCast, List.drop_zero, Nat.sub_zero]
    have eb : (ByteArray.extract t (Int.toNat (j : Int)) (Int.toNat (t.size : Int))).data.toList = t.data.toList.drop j := by
      rw [ba_extract, Int.toNat_natCast, Int.toNat_natCast, List.take_of_length_le (by rw [List.length_drop]; omega)]
    have w1 : IntKind.wrap .i64 ((j : Int) + 1) = ((j + 1 : Nat) : Int) := by rw [wrap64 (by omega) (by omega)]; rfl
    have ed : (ByteArray.extract t (Int.toNat ((j + 1 : Nat) : Int)) (Int.toNat (t.size : Int))).data.toList = t.data.toList.drop (j + 1) := by
      rw [ba_extract, Int.toNat_natCast, Int.toNat_natCast, List.take_of_length_le (by rw [List.length_drop]; omega)]
    have sa : (ByteArray.extract t 0 (Int.toNat (j : Int))).size ≤ 19 := by
      rw [ba_size, ea, List.length_take]; omega
    have sb : (ByteArray.extract t (Int.toNat (j : Int)) (Int.toNat (t.size : Int))).size ≤ 19 := by
      rw [ba_size, eb, List.length_drop]; omega
    have sd : (ByteArray.extract t (Int.toNat ((j + 1 : Nat) : Int)) (Int.toNat (t.size : Int))).size ≤ 19 := by
      rw [ba_size, ed, List.length_drop]; omega
    have sc : (ByteArray.mk #[cb]).size = 1 := rfl
    have pre : ∀ (R : Type) (k : ByteArray → List Int → Int → Int → Option R), spec_l1Cur_spoilt_l2 (n + 1) t w ((m + 1 : Nat) : Int) l p s k = (bif (z == 0) then spec_l1Cur_spoilt_l2 n (((ByteArray.extract t 0 (Int.toNat (j : Int))) ++ (ByteArray.mk #[cb])) ++ (ByteArray.extract t (Int.toNat (j : Int)) (Int.toNat (t.size : Int)))) w (m : Int) l p3 s3 k else (bif (z == 1) then spec_l1Cur_spoilt_l2 n (((ByteArray.extract t 0 (Int.toNat (j : Int))) ++ (ByteArray.mk #[cb])) ++ (ByteArray.extract t (Int.toNat ((j + 1 : Nat) : Int)) (Int.toNat (t.size : Int)))) w (m : Int) l p3 s3 k else spec_l1Cur_spoilt_l2 n ((ByteArray.extract t 0 (Int.toNat (j : Int))) ++ (ByteArray.extract t (Int.toNat ((j + 1 : Nat) : Int)) (Int.toNat (t.size : Int)))) w (m : Int) l p3 s3 k)) := fun R k => by
      rw [spec_l1Cur_spoilt_l2, decide_eq_true (show ((m + 1 : Nat) : Int) > 0 by omega), decide_eq_true (show (t.size : Int) > 0 by omega)]
      simp only [cond_true]
      rw [e1, e2, decide_eq_true q0, decide_eq_true (show q < (w.size : Int) by omega)]
      simp only [cond_true]
      rw [e3, hcb, w1, wrap64 (x := ((m + 1 : Nat) : Int) - 1) (by omega) (by omega), show ((m + 1 : Nat) : Int) - 1 = (m : Int) by omega, dnn, dnn, decide_eq_true (show (j : Int) ≤ (t.size : Int) by omega), decide_eq_true (Int.le_refl (t.size : Int)), decide_eq_true (show ((j + 1 : Nat) : Int) ≤ (t.size : Int) by omega)]
      simp only [ByteArray.size_append, sc]
      rw [decide_eq_true (show (ByteArray.extract t 0 (Int.toNat (j : Int))).size + 1 ≤ STR by simp only [STR]; omega), decide_eq_true (show (ByteArray.extract t 0 (Int.toNat (j : Int))).size + 1 + (ByteArray.extract t (Int.toNat (j : Int)) (Int.toNat (t.size : Int))).size ≤ STR by simp only [STR]; omega), decide_eq_true (show (ByteArray.extract t 0 (Int.toNat (j : Int))).size + 1 + (ByteArray.extract t (Int.toNat ((j + 1 : Nat) : Int)) (Int.toNat (t.size : Int))).size ≤ STR by simp only [STR]; omega), decide_eq_true (show (ByteArray.extract t 0 (Int.toNat (j : Int))).size + (ByteArray.extract t (Int.toNat ((j + 1 : Nat) : Int)) (Int.toNat (t.size : Int))).size ≤ STR by simp only [STR]; omega)]
      rfl
    cases hz : z == 0 with
    | true =>
      obtain ⟨t', p', s', g1, g2⟩ := spoilt_loop hl w hw hw2 m n (((ByteArray.extract t 0 (Int.toNat (j : Int))) ++ (ByteArray.mk #[cb])) ++ (ByteArray.extract t (Int.toNat (j : Int)) (Int.toNat (t.size : Int)))) p3 s3 (by omega) (by
        rw [ba_app, ba_app, ea, eb, List.append_assoc]
        show InvE m (t.data.toList.take j ++ cb :: t.data.toList.drop j)
        exact inv_ins cb (by rw [List.take_append_drop]; exact hi)) (by omega) (by omega)
      exact ⟨t', p', s', g1, fun R k => by rw [pre, hz]; exact g2 R k⟩
    | false =>
      cases hz1 : z == 1 with
      | true =>
        obtain ⟨t', p', s', g1, g2⟩ := spoilt_loop hl w hw hw2 m n (((ByteArray.extract t 0 (Int.toNat (j : Int))) ++ (ByteArray.mk #[cb])) ++ (ByteArray.extract t (Int.toNat ((j + 1 : Nat) : Int)) (Int.toNat (t.size : Int)))) p3 s3 (by omega) (by
          rw [ba_app, ba_app, ea, ed, List.append_assoc]
          show InvE m (t.data.toList.take j ++ cb :: t.data.toList.drop (j + 1))
          exact inv_rep cb t.data.toList[j] (by rw [← hsplit]; exact hi)) (by omega) (by omega)
        exact ⟨t', p', s', g1, fun R k => by rw [pre, hz, hz1]; exact g2 R k⟩
      | false =>
        obtain ⟨t', p', s', g1, g2⟩ := spoilt_loop hl w hw hw2 m n ((ByteArray.extract t 0 (Int.toNat (j : Int))) ++ (ByteArray.extract t (Int.toNat ((j + 1 : Nat) : Int)) (Int.toNat (t.size : Int)))) p3 s3 (by omega) (by
          rw [ba_app, ea, ed]
          exact inv_del t.data.toList[j] (by rw [← hsplit]; exact hi)) (by omega) (by omega)
        exact ⟨t', p', s', g1, fun R k => by rw [pre, hz, hz1]; exact g2 R k⟩
def baseA : List (List UInt8) := [[42], [53], [42, 47, 49, 53], [49, 45, 57], [48, 44, 51, 48], [49, 48, 45, 53, 48, 47, 50, 48], [55, 47, 50, 48]]
def baseB : List (List UInt8) := [[42], [51], [56, 45, 49, 55], [42, 47, 54], [50, 50, 47, 49]]
def baseD : List (List UInt8) := [[42], [49, 45, 53], [48, 44, 54], [51]]
theorem base_ok : ∀ a ∈ baseA, ∀ b ∈ baseB, ∀ d ∈ baseD, mrun 2 (((a ++ [32]) ++ b ++ [32]) ++ d) ≤ 6 ∧ (((a ++ [32]) ++ b ++ [32]) ++ d).length ≤ 17 := by decide +kernel
theorem draw_text {l : List Int} (hl : Bytes l) {n : Nat} (hn : 100 ≤ n) : ∃ t : ByteArray, InvE 0 t.data.toList ∧ ∀ (R : Type) (k : ByteArray → Option R), spec_DrawReadCron n l k = k t := by
  obtain ⟨a, p1, s1, x1, a1, b1, e1⟩ := ofC_ex hl n (xs := [(ByteArray.mk #[42]), (ByteArray.mk #[53]), (ByteArray.mk #[42, 47, 49, 53]), (ByteArray.mk #[49, 45, 57]), (ByteArray.mk #[48, 44, 51, 48]), (ByteArray.mk #[49, 48, 45, 53, 48, 47, 50, 48]), (ByteArray.mk #[55, 47, 50, 48])]) (p := 0) (s := 0) (by simp) (by simp) (by omega) (by omega)
  obtain ⟨b, p2, s2, x2, a2, b2, e2⟩ := ofC_ex hl n (xs := [(ByteArray.mk #[42]), (ByteArray.mk #[51]), (ByteArray.mk #[56, 45, 49, 55]), (ByteArray.mk #[42, 47, 54]), (ByteArray.mk #[50, 50, 47, 49])]) (p := p1) (s := s1) (by simp) (by simp) (by omega) (by omega)
  obtain ⟨d, p3, s3, x3, a3, b3, e3⟩ := ofC_ex hl n (xs := [(ByteArray.mk #[42]), (ByteArray.mk #[49, 45, 53]), (ByteArray.mk #[48, 44, 54]), (ByteArray.mk #[51])]) (p := p2) (s := s2) (by simp) (by simp) (by omega) (by omega)
  obtain ⟨fl, p4, s4, a4, b4, e4⟩ := oneC_ex hl n (m := 4) (p := p3) (s := s3) (by omega) (by omega) (by omega)
  have ma : a.data.toList ∈ baseA := by have := List.mem_map_of_mem (f := fun x : ByteArray => x.data.toList) x1; exact this
  have mb : b.data.toList ∈ baseB := by have := List.mem_map_of_mem (f := fun x : ByteArray => x.data.toList) x2; exact this
  have md : d.data.toList ∈ baseD := by have := List.mem_map_of_mem (f := fun x : ByteArray => x.data.toList) x3; exact this
  have hb := base_ok _ ma _ mb _ md
  have et : ((((a ++ ByteArray.mk #[32]) ++ b) ++ ByteArray.mk #[32]) ++ d).data.toList = ((a.data.toList ++ [32]) ++ b.data.toList ++ [32]) ++ d.data.toList := by
    simp only [ba_app]
  have hlen := hb.2
  simp only [List.length_append, List.length_cons, List.length_nil] at hlen
  have sa : a.size = a.data.toList.length := rfl
  have sb : b.size = b.data.toList.length := rfl
  have sd : d.size = d.data.toList.length := rfl
  have s1 : (ByteArray.mk #[32]).size = 1 := rfl
  rw [← et] at hb
  have pre : ∀ (R : Type) (k : ByteArray → Option R), spec_DrawReadCron n l k = (bif fl then (spec_l1Cur_spoilt n ((((a ++ (ByteArray.mk #[32])) ++ b) ++ (ByteArray.mk #[32])) ++ d) (ByteArray.mk #[42, 47, 45, 44, 48, 55, 32]) l p4 s4 fun r17 r18 r19 r20 => k r17) else k ((((a ++ (ByteArray.mk #[32])) ++ b) ++ (ByteArray.mk #[32])) ++ d)) := fun R k => by
    unfold spec_DrawReadCron
    rw [e1, decide_eq_true (by rw [s1]; simp only [STR]; omega), cond_true, e2]
    simp only [ByteArray.size_append, s1]
    rw [decide_eq_true (by simp only [STR]; omega), decide_eq_true (by simp only [STR]; omega)]
    simp only [cond_true]
    rw [e3, decide_eq_true (by simp only [STR]; omega), cond_true, e4]
  cases hfl : fl with
  | false =>
    refine ⟨((((a ++ (ByteArray.mk #[32])) ++ b) ++ (ByteArray.mk #[32])) ++ d), ⟨?_, ?_⟩, fun R k => by rw [pre, hfl]; rfl⟩
    · have := mrun_le 2 ((((a ++ (ByteArray.mk #[32])) ++ b) ++ (ByteArray.mk #[32])) ++ d).data.toList
      omega
    · omega
  | true =>
    obtain ⟨r, p5, s5, r0, r1, a5, b5, e5⟩ := pick_ex hl n (m := 3) (p := p4) (s := s4) (by omega) (by omega) (by omega)
    obtain ⟨m, rfl⟩ : ∃ m : Nat, r = (m : Int) := ⟨r.toNat, by omega⟩
    have hm2 : m = 0 ∨ m = 1 ∨ m = 2 := by omega
    have hmr : mrun m ((((a ++ (ByteArray.mk #[32])) ++ b) ++ (ByteArray.mk #[32])) ++ d).data.toList ≤ 6 := by
      have a0 : mrun 0 ((((a ++ (ByteArray.mk #[32])) ++ b) ++ (ByteArray.mk #[32])) ++ d).data.toList ≤ mrun 1 ((((a ++ (ByteArray.mk #[32])) ++ b) ++ (ByteArray.mk #[32])) ++ d).data.toList := mrun_mono _ 0
      have a1 : mrun 1 ((((a ++ (ByteArray.mk #[32])) ++ b) ++ (ByteArray.mk #[32])) ++ d).data.toList ≤ mrun 2 ((((a ++ (ByteArray.mk #[32])) ++ b) ++ (ByteArray.mk #[32])) ++ d).data.toList := mrun_mono _ 1
      rcases hm2 with rfl | rfl | rfl <;> omega
    obtain ⟨t', p', s', g1, g2⟩ := spoilt_loop hl (ByteArray.mk #[42, 47, 45, 44, 48, 55, 32]) (by decide) (by decide) m n ((((a ++ (ByteArray.mk #[32])) ++ b) ++ (ByteArray.mk #[32])) ++ d) p5 s5 (by omega) ⟨by omega, by omega⟩ (by omega) (by omega)
    refine ⟨t', g1, fun R k => ?_⟩
    rw [pre, hfl, cond_true]
    unfold spec_l1Cur_spoilt
    rw [e5]
    exact g2 R (fun r17 r18 r19 r20 => k r17)
theorem mrun_len : ∀ (t : List UInt8) (e : Nat), runD e t ≤ t.length ∧ mrun e t ≤ t.length
  | [], e => by cases e <;> simp [runD, mrun]
  | c :: t, e => by
    have a := mrun_len t e
    have b := runD_cons e c t
    rw [mrun, List.length_cons]; omega
theorem mrun_split (b : UInt8) : ∀ (n : Nat) (s : List UInt8), s.length ≤ n → ∀ p ∈ splitAll b s, mrun 0 p ≤ mrun 0 s
  | n, s, hn, p, hp => by
    have hs := cutAt_spec b s
    rw [splitAll_cut] at hp
    cases hx : (cutAt b s).2.2 with
    | false =>
      rw [hx] at hp
      have e := (hs.2.2 hx).1
      simp only [Bool.false_eq_true, if_false, List.mem_singleton] at hp
      rw [hp, ← e]; exact Nat.le_refl _
    | true =>
      rw [hx, if_pos rfl] at hp
      have e := hs.2.1 hx
      have hl := congrArg List.length e
      rw [List.length_append, List.length_cons] at hl
      rcases List.mem_cons.1 hp with h | h
      · rw [h]
        have := mrun_pre (cutAt b s).1 (b :: (cutAt b s).2.1) 0
        rw [← e] at this
        exact this
      · cases n with
        | zero => omega
        | succ n =>
          have ih := mrun_split b n (cutAt b s).2.1 (by omega) p h
          have := mrun_app ((cutAt b s).1 ++ [b]) (cutAt b s).2.1 0
          rw [List.append_assoc, List.singleton_append, ← e] at this
          omega
theorem inv_shortT {l : List UInt8} (h : InvE 0 l) : ShortT l := by
  obtain ⟨h1, h2⟩ := h
  refine ⟨by omega, fun a b d e => ?_⟩
  have hl := splitAll_len 32 l
  rw [e] at hl
  simp only [List.length_cons, List.length_nil] at hl
  have key : ∀ p ∈ splitAll 32 l, ShortF p := fun p hp => by
    have a1 := (splitAll_mem 32 l p hp).2
    have a2 := mrun_split 32 l.length l (Nat.le_refl _) p hp
    have hs : Short p := ⟨by omega, by omega⟩
    exact ⟨by omega, short_split 44 p.length p (Nat.le_refl _) hs⟩
  rw [e] at key
  exact ⟨key a (by simp), key b (by simp), key d (by simp)⟩
theorem textC_short {most : Int} (hm : 0 ≤ most) (hm2 : most < 60) {l : List Int} (h0 : l ≠ []) (hr : Rise most 0 l) : ShortF (textC most l) := by
  have ht := textC_len hm hm2 hr
  have hb := rise_mem hr
  refine ⟨by omega, fun p hp => ?_⟩
  unfold textC at hp
  split at hp
  · have hp' : p ∈ [[(42 : UInt8)]] := hp
    have : p = [42] := by simpa using hp'
    rw [this]; exact ⟨by decide, by decide⟩
  · rw [splitAll_join l h0 fun x hx => by have := hb x hx; omega] at hp
    obtain ⟨x, hx, rfl⟩ := List.mem_map.1 hp
    have := hb x hx
    have hd := dig_len 1 x.toNat (by omega)
    have := (mrun_len (dig x.toNat) 0).2
    exact ⟨by omega, by omega⟩
theorem textV_short {c : Tri} (h : goodV c) : ShortT (textV c) := by
  refine ⟨by have := textV_len h; omega, fun a b d e => ?_⟩
  obtain ⟨⟨h1, h2⟩, ⟨h3, h4⟩, h5, h6⟩ := h
  have e' : splitAll 32 (textV c) = [textC 59 c.1, textC 23 c.2.1, textC 6 c.2.2] := by
    unfold textV
    rw [splitAll_cut, cutAt_yes _ (textC_no (by omega) (rise_mem h2))]
    simp only [if_true]
    rw [splitAll_cut, cutAt_yes _ (textC_no (by omega) (rise_mem h4))]
    simp only [if_true]
    rw [splitAll_cut, cutAt_no (textC_no (by omega) (rise_mem h6))]
    rfl
  rw [e'] at e
  injection e with e1 e2
  injection e2 with e2 e3
  injection e3 with e3 _
  subst e1; subst e2; subst e3
  exact ⟨textC_short (by omega) (by omega) h1 h2, textC_short (by omega) (by omega) h3 h4, textC_short (by omega) (by omega) h5 h6⟩
theorem goodV_len {c : Tri} (h : goodV c) : c.1.length ≤ 1048576 ∧ c.2.1.length ≤ 1048576 ∧ c.2.2.length ≤ 1048576 := by
  have a := rise_len h.1.2 (by omega)
  have b := rise_len h.2.1.2 (by omega)
  have d := rise_len h.2.2.2 (by omega)
  omega
theorem same_refl {R : Type} {n : Nat} {c : Tri} (h : c.1.length ≤ 1048576 ∧ c.2.1.length ≤ 1048576 ∧ c.2.2.length ≤ 1048576) (hn : 1048577 ≤ n) (k : Bool → Option R) : laws_sameCrons n c.1 c.2.1 c.2.2 c.1 c.2.1 c.2.2 k = k true := by
  unfold laws_sameCrons
  rw [laws_sameInts_eq (by omega) (by omega), decide_eq_true rfl, cond_true, laws_sameInts_eq (by omega) (by omega), decide_eq_true rfl, cond_true, laws_sameInts_eq (by omega) (by omega), decide_eq_true rfl]
theorem tailC {R : Type} {n : Nat} {m : List Int} (hm : Bytes m) (hn : 2000000 ≤ n) (k : Bool → Option R) : (spec_DrawReadCron n m fun r14 => (impl_ReadCron n r14 fun r15 r16 r17 r18 => (spec_ReadCron n r14 fun r19 r20 r21 r22 => (bif (!(r18 == r22)) then k false else (laws_sameCrons n r15 r16 r17 r19 r20 r21 fun r23 => (bif (!r23) then k false else (bif (!r18) then k ((r17.length : Int) == 0) else (impl_CronText n r15 r16 r17 fun r24 r25 => (impl_ReadCron n r24 fun r26 r27 r28 r29 => (bif r25 then (bif r29 then (laws_sameCrons n r26 r27 r28 r15 r16 r17 fun r30 => k r30) else k false) else k false)))))))))) = k true := by
  obtain ⟨t, ht, et⟩ := draw_text hm (n := n) (by omega)
  obtain ⟨L, rfl⟩ : ∃ L : List UInt8, t = ⟨L.toArray⟩ := ⟨t.data.toList, rfl⟩
  have hL : InvE 0 L := ht
  rw [et, impl_Read L (inv_shortT hL) (by omega)]
  have sr := fun k => spec_Read (R := R) (n := n) L (by have := hL.2; omega) (by have := hL.2; omega) k
  cases hr : readV L with
  | none =>
    rw [hr] at sr
    simp only
    rw [sr]
    have := same_refl (R := R) (n := n) (c := ([], [], [])) ⟨by simp, by simp, by simp⟩ (by omega)
    simp only at this
    rw [show ((false : Bool) == false) = true from rfl]
    simp only [Bool.not_true, cond_false]
    rw [this]
    rfl
  | some c =>
    rw [hr] at sr
    simp only
    rw [sr]
    have hg := readV_good hr
    have hb := goodV_len hg
    rw [show ((true : Bool) == true) = true from rfl]
    simp only [Bool.not_true, cond_false]
    rw [same_refl hb (by omega)]
    simp only [Bool.not_true, cond_false]
    rw [impl_Text hb.1 hb.2.1 hb.2.2 (by omega), if_pos (goodT_iff.2 hg), impl_Read _ (textV_short hg) (by omega), readV_text hg]
    simp only [cond_true]
    exact same_refl hb (by omega) _
theorem law {R : Type} {n : Nat} {l m : List Int} (hn : 2000000 ≤ n) (hl : Bytes l) (hm : Bytes m) (k : Bool → Option R) : laws_FnCronText n l m k = k true := by
  unfold laws_FnCronText
  by_cases hc : IntKind.wrap .i64 ((l.length : Int) + (m.length : Int)) > 1048576
  · rw [decide_eq_true hc]; rfl
  rw [decide_eq_false hc, cond_false]
  obtain ⟨c, hb, ec⟩ := cron_ex hl (n := n) (by omega)
  rw [ec, impl_Text hb.1 hb.2.1 hb.2.2 (by omega)]
  have st := fun k => spec_Text (R := R) (n := n) hb.1 hb.2.1 hb.2.2 (by omega) k
  cases hg : goodT c with
  | false =>
    rw [hg] at st
    simp only [Bool.false_eq_true, if_false] at st
    rw [if_neg (by simp), st, impl_Good hb.1 hb.2.1 hb.2.2 (by omega), hg]
    simp only [beq_self_eq_true, Bool.not_true, cond_false]
    exact tailC hm hn k
  | true =>
    have hv := goodT_iff.1 hg
    rw [hg] at st
    simp only [if_true] at st
    rw [if_pos rfl, st, impl_Good hb.1 hb.2.1 hb.2.2 (by omega), hg]
    simp only [beq_self_eq_true, Bool.not_true, cond_false, cond_true]
    rw [impl_Read _ (textV_short hv) (by omega), readV_text hv]
    simp only [Bool.not_true, cond_false]
    rw [same_refl hb (by omega)]
    simp only [Bool.not_true, cond_false]
    exact tailC hm hn k
theorem plain : Plain := fun l m hl hm _ k => ⟨_, law (Nat.le_refl _) (fun x hx => hl.2 x hx) (fun x hx => hm.2 x hx) k⟩
end Go.Am.G
