/- The plain law: what the functions compute answers as the law says, for all arguments. -/
import Derived.Test.YtkbaenelfhakbaaGreatDoorF3
set_option linter.unusedVariables false
set_option linter.unusedSimpArgs false
namespace Go.Am.G
open Go Go.Am
theorem wrap64 {x : Int} (h1 : -9223372036854775808 ≤ x) (h2 : x ≤ 9223372036854775807) : IntKind.wrap .i64 x = x := by
  simp only [IntKind.wrap, IntKind.signed, IntKind.bits]
  simp
  omega
theorem getD_at {α : Type} (l : List α) (d : α) {j : Nat} (h : j < l.length) : l.getD (Int.toNat (j : Int)) d = l[j] := by
  rw [Int.toNat_natCast, List.getD_eq_getElem?_getD, List.getElem?_eq_getElem h]; rfl
theorem dlt {a b : Nat} (h : a < b) : decide ((a : Int) < (b : Int)) = true := decide_eq_true (by omega)
theorem dge {a b : Nat} (h : b ≤ a) : decide ((a : Int) < (b : Int)) = false := decide_eq_false (by omega)
theorem dnn (a : Nat) : decide (0 ≤ (a : Int)) = true := decide_eq_true (by omega)
theorem wrapS {j m : Nat} (h : j < m) (hm : m ≤ 9223372036854775807) : IntKind.wrap .i64 ((j : Int) + 1) = ((j + 1 : Nat) : Int) := by
  rw [wrap64 (by omega) (by omega)]; rfl
theorem spec_l1In_eq {R : Type} (n : Nat) (x a b : Int) (k : Bool → Option R) : spec_l1In n x a b k = k (decide (a ≤ x ∧ x ≤ b)) := by
  simp only [spec_l1In]
  by_cases h : x ≥ a
  · have : a ≤ x := h
    simp [this]
  · have : ¬ a ≤ x := h
    simp [this]
theorem impl_in_eq {R : Type} (n : Nat) (x a b : Int) (k : Bool → Option R) : impl_in n x a b k = k (decide (a ≤ x ∧ x ≤ b)) := by
  simp only [impl_in]
  by_cases h : x ≥ a
  · have : a ≤ x := h
    simp [this]
  · have : ¬ a ≤ x := h
    simp [this]
theorem bl_loop (b : ByteArray) : ∀ (m i : Nat) (r : List UInt8), b.size - i ≤ m → ByteArray.toList.loop b i r = r.reverse ++ (b.data.toList.drop i) := by
  intro m
  induction m with
  | zero =>
    intro i r h
    unfold ByteArray.toList.loop
    have hl : b.data.toList.length = b.size := rfl
    rw [if_neg (by omega), List.drop_eq_nil_iff.2 (by omega), List.append_nil]
  | succ m ih =>
    intro i r h
    unfold ByteArray.toList.loop
    have hl : b.data.toList.length = b.size := rfl
    by_cases c : i < b.size
    · rw [if_pos c, ih _ _ (by omega), List.reverse_cons, List.append_assoc, List.drop_eq_getElem_cons (show i < b.data.toList.length by omega)]
      have : b.get! i = b.data.toList[i] := by
        show b.data[i]! = _
        rw [getElem!_pos b.data i c]; rfl
      rw [this]; rfl
    · rw [if_neg c, List.drop_eq_nil_iff.2 (by omega), List.append_nil]
theorem bl_data (b : ByteArray) : ByteArray.toList b = b.data.toList := by
  unfold ByteArray.toList
  rw [bl_loop b b.size 0 [] (by omega)]; rfl
def okB (b : UInt8) : Bool := (decide (97 ≤ (b.toNat : Int)) && decide ((b.toNat : Int) ≤ 122)) || (decide (48 ≤ (b.toNat : Int)) && decide ((b.toNat : Int) ≤ 57))
def goodN (s : ByteArray) : Bool := s.data.toList.all okB && decide ((s.size : Int) ≤ 12)
theorem byte_at (s : ByteArray) {j : Nat} (h : j < s.data.toList.length) : s.data.getD (Int.toNat (j : Int)) 0 = s.data.toList[j] := by
  rw [Int.toNat_natCast]
  have h' : j < s.size := h
  simp [Array.getD, h']
theorem spec_l1Name_loop {R : Type} (s : ByteArray) (hl : s.size ≤ 9223372036854775807) (kr : Bool → Option R) (ke : ByteArray → Option R) : ∀ (n j : Nat), s.size - j < n → j ≤ s.size → spec_l1Name_l2 n s (j : Int) kr ke = bif (s.data.toList.drop j).all okB then ke s else kr false
  | 0, _, h, _ => by omega
  | n + 1, j, hn, hj => by
    have hsz : s.data.toList.length = s.size := rfl
    rw [spec_l1Name_l2]
    by_cases h : j < s.size
    · have h' : j < s.data.toList.length := by omega
      have go := spec_l1Name_loop s hl kr ke n (j + 1) (by omega) (by omega)
      rw [dlt h, dnn, byte_at s h', wrapS h hl, List.drop_eq_getElem_cons h', List.all_cons, okB]
      simp only [cond_true, ge_iff_le]
      cases decide (97 ≤ (s.data.toList[j].toNat : Int)) with
      | true =>
        cases decide ((s.data.toList[j].toNat : Int) ≤ 122) with
        | true => exact go
        | false =>
          cases decide (48 ≤ (s.data.toList[j].toNat : Int)) with
          | false => rfl
          | true =>
            cases decide ((s.data.toList[j].toNat : Int) ≤ 57) with
            | false => rfl
            | true => exact go
      | false =>
        cases decide (48 ≤ (s.data.toList[j].toNat : Int)) with
        | false => rfl
        | true =>
          cases decide ((s.data.toList[j].toNat : Int) ≤ 57) with
          | false => rfl
          | true => exact go
    · rw [dge (by omega), List.drop_eq_nil_iff.2 (by omega)]; rfl
theorem spec_l1Name_eq {R : Type} {n : Nat} {s : ByteArray} (hl : s.size ≤ 9223372036854775807) (hn : s.size < n) (k : Bool → Option R) : spec_l1Name n s k = k (goodN s) := by
  unfold spec_l1Name goodN
  have := spec_l1Name_loop s hl (fun r1 => k r1) (fun r2 => k (decide ((r2.size : Int) ≤ 12))) n 0 (by omega) (by omega)
  rw [show ((0 : Nat) : Int) = 0 from rfl, List.drop_zero] at this
  rw [this]
  cases s.data.toList.all okB <;> rfl
def signs : List UInt8 := [97, 98, 99, 100, 101, 102, 103, 104, 105, 106, 107, 108, 109, 110, 111, 112, 113, 114, 115, 116, 117, 118, 119, 120, 121, 122, 48, 49, 50, 51, 52, 53, 54, 55, 56, 57]
theorem signs_ok : ∀ b : UInt8, signs.contains b = okB b := by
  have h : ∀ n : Nat, n < 256 → signs.contains (UInt8.ofNat n) = okB (UInt8.ofNat n) := by decide +kernel
  intro b
  have := h b.toNat b.toNat_lt
  rw [UInt8.ofNat_toNat] at this
  exact this
theorem dropW_nil {p : UInt8 → Bool} : ∀ {l : List UInt8}, l.dropWhile p = [] ↔ l.all p = true
  | [] => by simp
  | a :: l => by
    rw [List.dropWhile_cons, List.all_cons]
    cases p a with
    | true => simp only [if_true, Bool.true_and]; exact dropW_nil
    | false => simp
theorem dropW_all {p : UInt8 → Bool} : ∀ {l : List UInt8}, (l.dropWhile p).all p = l.all p
  | [] => rfl
  | a :: l => by
    rw [List.dropWhile_cons, List.all_cons]
    cases h : p a with
    | true => simp only [if_true, Bool.true_and]; exact dropW_all
    | false => simp [h]
theorem trimF_nil (l cs : List UInt8) : (trimF l cs = []) ↔ l.all (cs.contains ·) = true := by
  unfold trimF
  rw [dropW_nil, List.all_reverse, dropW_all, List.all_reverse]
theorem impl_goodName_eq {R : Type} {n : Nat} (s : ByteArray) (k : Bool → Option R) : impl_goodName n s k = k (goodN s) := by
  unfold impl_goodName goodN strings_Trim
  by_cases h : (s.size : Int) ≤ 12
  · rw [decide_eq_true h, cond_true, decide_eq_true (show s.size ≤ 9223372036854775807 by omega)]
    simp only [cond_true, Bool.and_true]
    rw [decide_eq_true (show (ByteArray.mk #[97, 98, 99, 100, 101, 102, 103, 104, 105, 106, 107, 108, 109, 110, 111, 112, 113, 114, 115, 116, 117, 118, 119, 120, 121, 122, 48, 49, 50, 51, 52, 53, 54, 55, 56, 57]).size < 4294967281 by decide)]
    change (bif signs.all (fun b => decide (b.toNat < 128)) then k (ByteArray.toList ⟨(trimF s.data.toList signs).toArray⟩ == ByteArray.toList ⟨#[]⟩) else none) = _
    rw [show signs.all (fun b => decide (b.toNat < 128)) = true by decide, cond_true]
    rw [bl_data, bl_data]
    congr 1
    have e : (ByteArray.mk (trimF s.data.toList signs).toArray).data.toList = trimF s.data.toList signs := by simp
    rw [e]
    have e2 : s.data.toList.all okB = s.data.toList.all (signs.contains ·) := by
      congr 1; funext b; exact (signs_ok b).symm
    rw [e2]
    have := trimF_nil s.data.toList signs
    cases h1 : s.data.toList.all (signs.contains ·) with
    | true => rw [this.2 h1]; rfl
    | false =>
      cases h2 : trimF s.data.toList signs with
      | nil => rw [this.1 h2] at h1; cases h1
      | cons a l => rfl
  · rw [decide_eq_false h, Bool.and_false]; rfl
theorem impl_isVersion_eq {R : Type} (n : Nat) (x : Int) (k : Bool → Option R) : impl_isVersion n x k = k (decide (0 ≤ x ∧ x ≤ 1000000)) := by
  unfold impl_isVersion
  rw [impl_in_eq]
abbrev Ev := Int × Int × Int × ByteArray
def goodEv (e : Ev) : Bool := decide (1 ≤ e.1 ∧ e.1 ≤ 1000) && (decide (0 ≤ e.2.1 ∧ e.2.1 ≤ 1000000) && (decide (1 ≤ e.2.2.1 ∧ e.2.2.1 ≤ 6) && goodN e.2.2.2))
theorem spec_GoodEvent_eq {R : Type} {n : Nat} (a b c : Int) (s : ByteArray) (hs : s.size ≤ 1048576) (hn : 2000000 ≤ n) (k : Bool → Option R) : spec_GoodEvent n a b c s k = k (goodEv (a, b, c, s)) := by
  unfold spec_GoodEvent goodEv
  simp only [spec_l1In_eq, spec_l1Name_eq (show s.size ≤ 9223372036854775807 by omega) (show s.size < n by omega)]
  cases decide (1 ≤ a ∧ a ≤ 1000) <;> cases decide (0 ≤ b ∧ b ≤ 1000000) <;> cases decide (1 ≤ c ∧ c ≤ 6) <;> rfl
theorem impl_GoodEvent_eq {R : Type} (n : Nat) (a b c : Int) (s : ByteArray) (k : Bool → Option R) : impl_GoodEvent n a b c s k = k (goodEv (a, b, c, s)) := by
  unfold impl_GoodEvent goodEv impl_goodKind
  simp only [impl_in_eq, impl_isVersion_eq, impl_goodName_eq]
  cases decide (1 ≤ a ∧ a ≤ 1000) <;> cases decide (0 ≤ b ∧ b ≤ 1000000) <;> cases decide (1 ≤ c ∧ c ≤ 6) <;> rfl
theorem ba_ext {a b : ByteArray} (h : a.data.toList = b.data.toList) : a = b := ByteArray.ext (Array.toList_inj.1 h)
theorem ba_app (a b : ByteArray) : (a ++ b).data.toList = a.data.toList ++ b.data.toList := by
  rw [ByteArray.data_append, Array.toList_append]
theorem ba_size (a : ByteArray) : a.size = a.data.toList.length := rfl
theorem wrap_8 {x : Int} (h0 : 0 ≤ x) (h1 : x < 256) : IntKind.wrap .u8 x = x := by
  simp only [IntKind.wrap, IntKind.signed, IntKind.bits]
  simp
  omega
abbrev dig (n : Nat) : List UInt8 := Go.Lib.decDigits n
theorem dig_small {n : Nat} (h : n < 10) : dig n = [UInt8.ofNat (48 + n)] := by unfold dig; rw [Go.Lib.decDigits, dif_pos h]
theorem dig_big {n : Nat} (h : ¬ n < 10) : dig n = dig (n / 10) ++ [UInt8.ofNat (48 + n % 10)] := by
  unfold dig; rw [Go.Lib.decDigits, dif_neg h]
theorem ofNat_toNat {n : Nat} (h : n < 256) : (UInt8.ofNat n).toNat = n := by
  rw [UInt8.toNat_ofNat']; omega
theorem dig_len : ∀ (k n : Nat), n < 10 ^ (k + 1) → 1 ≤ (dig n).length ∧ (dig n).length ≤ k + 1
  | 0, n, h => by rw [dig_small (by simpa using h)]; simp
  | k + 1, n, h => by
    by_cases c : n < 10
    · rw [dig_small c]; simp
    · have h2 : n / 10 < 10 ^ (k + 1) := by
        have : 10 ^ (k + 1 + 1) = 10 ^ (k + 1) * 10 := Nat.pow_succ ..
        omega
      have := dig_len k (n / 10) h2
      rw [dig_big c]; simp; omega
theorem dig_chars : ∀ (k n : Nat), n < 10 ^ (k + 1) → ∀ b ∈ dig n, 48 ≤ b.toNat ∧ b.toNat ≤ 57
  | 0, n, h, b, hb => by
    have h : n < 10 := by simpa using h
    rw [dig_small h, List.mem_singleton] at hb
    rw [hb, ofNat_toNat (by omega)]; omega
  | k + 1, n, h, b, hb => by
    by_cases c : n < 10
    · rw [dig_small c, List.mem_singleton] at hb
      rw [hb, ofNat_toNat (by omega)]; omega
    · have h2 : n / 10 < 10 ^ (k + 1) := by
        have : 10 ^ (k + 1 + 1) = 10 ^ (k + 1) * 10 := Nat.pow_succ ..
        omega
      rw [dig_big c] at hb
      rcases List.mem_append.1 hb with hb | hb
      · exact dig_chars k _ h2 b hb
      · rw [List.mem_singleton.1 hb, ofNat_toNat (by omega)]; omega
theorem digitVal_dig {d : Nat} (h : d < 10) : Go.Lib.digitVal (UInt8.ofNat (48 + d)) = some d := by
  unfold Go.Lib.digitVal
  rw [ofNat_toNat (by omega), if_pos (by omega)]
  congr 1; omega
theorem decFrom_snoc {b : UInt8} {d : Nat} (hb : Go.Lib.digitVal b = some d) : ∀ (l : List UInt8) (acc m : Nat), Go.Lib.decFrom acc l = some m → Go.Lib.decFrom acc (l ++ [b]) = some (m * 10 + d)
  | [], acc, m, h => by
    cases h
    simp only [List.nil_append, Go.Lib.decFrom, hb]
  | x :: l, acc, m, h => by
    rw [List.cons_append]
    unfold Go.Lib.decFrom at h ⊢
    cases hx : Go.Lib.digitVal x with
    | none => rw [hx] at h; cases h
    | some y =>
      rw [hx] at h
      exact decFrom_snoc hb l _ m h
theorem decFrom_dig : ∀ (k n : Nat), n < 10 ^ (k + 1) → Go.Lib.decFrom 0 (dig n) = some n
  | 0, n, h => by
    have h : n < 10 := by simpa using h
    rw [dig_small h]
    simp only [Go.Lib.decFrom, digitVal_dig h]
    simp
  | k + 1, n, h => by
    by_cases c : n < 10
    · rw [dig_small c]
      simp only [Go.Lib.decFrom, digitVal_dig c]
      simp
    · have h2 : n / 10 < 10 ^ (k + 1) := by
        have : 10 ^ (k + 1 + 1) = 10 ^ (k + 1) * 10 := Nat.pow_succ ..
        omega
      rw [dig_big c, decFrom_snoc (digitVal_dig (by omega)) _ _ _ (decFrom_dig k _ h2)]
      congr 1; omega
theorem atoi_dig {n : Nat} (h : n < 10 ^ 9) : Go.Lib.atoi (dig n) = some (n : Int) := by
  have h1 := dig_len 8 n h
  have h2 := dig_chars 8 n h
  have h3 := decFrom_dig 8 n h
  generalize dig n = l at h1 h2 h3
  cases l with
  | nil => simp at h1
  | cons b r =>
    have hb := h2 b List.mem_cons_self
    unfold Go.Lib.atoi
    simp only
    rw [if_neg (fun e => by have := (beq_iff_eq.1 e); rw [this] at hb; simp at hb), if_neg (fun e => by have := (beq_iff_eq.1 e); rw [this] at hb; simp at hb)]
    unfold Go.Lib.decNat
    rw [h3]; rfl
theorem itoa_dig {x : Int} (h : 0 ≤ x) : Go.Lib.itoa x = dig x.toNat := by
  unfold Go.Lib.itoa
  rw [if_neg (by omega)]
theorem numC_dig {x : Int} (h : 0 ≤ x) (h2 : x ≤ 1000000) : numC ⟨(dig x.toNat).toArray⟩ = some x := by
  have hl := dig_len 8 x.toNat (by omega)
  unfold numC
  rw [if_pos (show (ByteArray.mk (dig x.toNat).toArray).size ≤ 9 from hl.2)]
  show (match Go.Lib.atoi (dig x.toNat) with
    | some v => if 0 ≤ v ∧ v ≤ 999999999 ∧ Go.Lib.itoa v = dig x.toNat then some v else none
    | none => none) = _
  rw [atoi_dig (by omega)]
  have e : ((x.toNat : Nat) : Int) = x := by omega
  simp only [e]
  rw [if_pos ⟨h, by omega, itoa_dig h⟩]
def evL (e : Ev) : List UInt8 := dig e.2.2.1.toNat ++ 46 :: (dig e.1.toNat ++ 46 :: (dig e.2.1.toNat ++ 46 :: (e.2.2.2.data.toList ++ [46])))
def evB (e : Ev) : ByteArray := ⟨(evL e).toArray⟩
structure GEv (e : Ev) : Prop where
  id : 1 ≤ e.1 ∧ e.1 ≤ 1000
  ver : 0 ≤ e.2.1 ∧ e.2.1 ≤ 1000000
  kd : 1 ≤ e.2.2.1 ∧ e.2.2.1 ≤ 6
  name : (∀ b ∈ e.2.2.2.data.toList, b.toNat ≠ 46) ∧ e.2.2.2.data.toList.length ≤ 12
theorem goodEv_g {e : Ev} (h : goodEv e = true) : GEv e := by
  simp only [goodEv, Bool.and_eq_true, decide_eq_true_eq, goodN] at h
  obtain ⟨h1, h2, h3, h4, h5⟩ := h
  refine ⟨h1, h2, h3, fun b hb => ?_, by rw [ba_size] at h5; omega⟩
  have := List.all_eq_true.1 h4 b hb
  simp only [okB, Bool.or_eq_true, Bool.and_eq_true, decide_eq_true_eq] at this
  omega
theorem evL_len {e : Ev} (h : GEv e) : 7 ≤ (evL e).length ∧ (evL e).length ≤ 28 := by
  have a := dig_len 0 e.2.2.1.toNat (by have := h.kd; omega)
  have b := dig_len 3 e.1.toNat (by have := h.id; omega)
  have c := dig_len 6 e.2.1.toNat (by have := h.ver; omega)
  have d := h.name.2
  unfold evL
  simp only [List.length_append, List.length_cons, List.length_nil]
  omega
theorem impl_eventText_eq {R : Type} {n : Nat} {e : Ev} (h : GEv e) (k : ByteArray → Option R) : impl_eventText n e.1 e.2.1 e.2.2.1 e.2.2.2 k = k (evB e) := by
  have h1 := h.id; have h2 := h.ver; have h3 := h.kd
  have hl := evL_len h
  unfold impl_eventText strconv_Itoa strings_Join
  rw [decide_eq_true (show -9223372036854775808 ≤ e.2.2.1 by omega), decide_eq_true (show e.2.2.1 ≤ 9223372036854775807 by omega), decide_eq_true (show -9223372036854775808 ≤ e.1 by omega), decide_eq_true (show e.1 ≤ 9223372036854775807 by omega), decide_eq_true (show -9223372036854775808 ≤ e.2.1 by omega), decide_eq_true (show e.2.1 ≤ 9223372036854775807 by omega),
    itoa_dig (by omega), itoa_dig (by omega), itoa_dig (by omega)]
  have hj : Go.Lib.join (([⟨(dig e.2.2.1.toNat).toArray⟩, ⟨(dig e.1.toNat).toArray⟩, ⟨(dig e.2.1.toNat).toArray⟩, e.2.2.2, ByteArray.mk #[]] : List ByteArray).map (·.data.toList)) (ByteArray.mk #[46]).data.toList = evL e := by
    simp [Go.Lib.join_cons, Go.Lib.joinTail, evL]
  simp only [Bool.and_self, cond_true, hj]
  rw [decide_eq_true (show (evL e).length ≤ 1099511627776 by omega)]
  rfl
theorem spec_l1Num_eq : ∀ (c n x : Nat), x < 10 ^ (c + 1) → x ≤ 1000000 → c < n → ∀ (R : Type) (k : ByteArray → Option R), spec_l1Num n (x : Int) k = k ⟨(dig x).toArray⟩
  | c, 0, _, _, _, h, _, _ => by omega
  | c, n + 1, x, hx, hb, hn, R, k => by
    rw [spec_l1Num]
    by_cases h : x < 10
    · rw [decide_eq_true (show (x : Int) < 10 by omega), cond_true, wrap64 (x := 48 + (x : Int)) (by omega) (by omega), wrap_8 (by omega) (by omega)]
      congr 1
      refine ba_ext ?_
      show [UInt8.ofNat ((48 + (x : Int)).toNat)] = dig x
      rw [dig_small h, show (48 + (x : Int)).toNat = 48 + x by omega]
    · cases c with
      | zero => simp at hx; omega
      | succ c =>
        have h2 : x / 10 < 10 ^ (c + 1) := by
          have : 10 ^ (c + 1 + 1) = 10 ^ (c + 1) * 10 := Nat.pow_succ ..
          omega
        have hl := dig_len c (x / 10) h2
        have hlb := dig_len 6 (x / 10) (by omega)
        have e1 : Int.tdiv (x : Int) 10 = ((x / 10 : Nat) : Int) := by rw [Int.tdiv_eq_ediv_of_nonneg (by omega)]; omega
        have e2 : Int.tmod (x : Int) 10 = ((x % 10 : Nat) : Int) := by rw [Int.tmod_eq_emod_of_nonneg (by omega)]; omega
        rw [decide_eq_false (show ¬ (x : Int) < 10 by omega), cond_false, e1, e2, wrap64 (x := ((x / 10 : Nat) : Int)) (by omega) (by omega), spec_l1Num_eq c n (x / 10) h2 (by omega) (by omega), wrap64 (x := 48 + ((x % 10 : Nat) : Int)) (by omega) (by omega), wrap_8 (by omega) (by omega)]
        rw [decide_eq_true (by
          show (dig (x / 10)).length + 1 ≤ STR
          simp only [STR]; omega), cond_true]
        congr 1
        refine ba_ext ?_
        rw [ba_app]
        show dig (x / 10) ++ [UInt8.ofNat ((48 + ((x % 10 : Nat) : Int)).toNat)] = dig x
        rw [dig_big h, show (48 + ((x % 10 : Nat) : Int)).toNat = 48 + x % 10 by omega]
theorem spec_num {R : Type} {n : Nat} {x : Int} (h0 : 0 ≤ x) (h1 : x ≤ 1000000) (hn : 100 ≤ n) (k : ByteArray → Option R) : spec_l1Num n x k = k ⟨(dig x.toNat).toArray⟩ := by
  have := spec_l1Num_eq 6 n x.toNat (by omega) (by omega) (by omega) R k
  rw [show ((x.toNat : Nat) : Int) = x by omega] at this
  exact this
theorem spec_l1Bytes_eq {R : Type} {n : Nat} {e : Ev} (h : GEv e) (hn : 100 ≤ n) (k : ByteArray → Option R) : spec_l1Bytes n e.1 e.2.1 e.2.2.1 e.2.2.2 k = k (evB e) := by
  have h1 := h.id; have h2 := h.ver; have h3 := h.kd; have h4 := h.name.2
  have a := dig_len 6 e.2.2.1.toNat (by omega)
  have b := dig_len 6 e.1.toNat (by omega)
  have c := dig_len 6 e.2.1.toNat (by omega)
  have sa : (ByteArray.mk (dig e.2.2.1.toNat).toArray).size = (dig e.2.2.1.toNat).length := rfl
  have sb : (ByteArray.mk (dig e.1.toNat).toArray).size = (dig e.1.toNat).length := rfl
  have sc : (ByteArray.mk (dig e.2.1.toNat).toArray).size = (dig e.2.1.toNat).length := rfl
  have sd : e.2.2.2.size = e.2.2.2.data.toList.length := rfl
  have s1 : (ByteArray.mk #[46]).size = 1 := rfl
  unfold spec_l1Bytes
  rw [spec_num (by omega) (by omega) hn, spec_num (by omega) (by omega) hn, spec_num (by omega) (by omega) hn]
  simp only [ByteArray.size_append, sa, sb, sc, sd, s1]
  rw [decide_eq_true (by simp only [STR]; omega), decide_eq_true (by simp only [STR]; omega), decide_eq_true (by simp only [STR]; omega), decide_eq_true (by simp only [STR]; omega), decide_eq_true (by simp only [STR]; omega), decide_eq_true (by simp only [STR]; omega), decide_eq_true (by simp only [STR]; omega)]
  simp only [cond_true]
  congr 1
  refine ba_ext ?_
  simp only [ba_app]
  show _ = evL e
  simp [evL]
theorem index_dot : ∀ (a r : List UInt8), (∀ b ∈ a, b.toNat ≠ 46) → Go.Lib.index (a ++ 46 :: r) [46] = (a.length : Int)
  | [], r, _ => by simp [Go.Lib.index, List.isPrefixOf]
  | b :: a, r, h => by
    have hb := h b List.mem_cons_self
    have ih := index_dot a r fun x hx => h x (List.mem_cons_of_mem _ hx)
    have hne : ((46 : UInt8) == b) = false := by
      rw [beq_eq_false_iff_ne]; intro e; rw [← e] at hb; exact hb rfl
    rw [List.cons_append]
    unfold Go.Lib.index
    rw [show ([46] : List UInt8).isPrefixOf (b :: (a ++ 46 :: r)) = false by simp [List.isPrefixOf, hne], ih]
    rw [if_neg (by simp), if_neg (fun e => by have := beq_iff_eq.1 e; omega)]
    simp
theorem splitK_step (k : Nat) {a : List UInt8} (h : ∀ b ∈ a, b.toNat ≠ 46) (r : List UInt8) : Go.Lib.splitK [46] 0 (k + 1) (a ++ 46 :: r) = a :: Go.Lib.splitK [46] 0 k r := by
  conv => lhs; unfold Go.Lib.splitK
  rw [index_dot a r h, if_neg (fun e => by have := beq_iff_eq.1 e; omega)]
  simp
theorem dig_dot {n : Nat} (h : n ≤ 1000000) : ∀ b ∈ dig n, b.toNat ≠ 46 := fun b hb => by
  have := dig_chars 6 n (by omega) b hb
  omega
theorem split_ev {e : Ev} (h : GEv e) : Go.Lib.splitB (ByteArray.mk #[46]) 0 5 (evB e) = [⟨(dig e.2.2.1.toNat).toArray⟩, ⟨(dig e.1.toNat).toArray⟩, ⟨(dig e.2.1.toNat).toArray⟩, e.2.2.2, ⟨#[]⟩] := by
  have h1 := h.id; have h2 := h.ver; have h3 := h.kd
  have hd := Go.Lib.splitB_data (ByteArray.mk #[46]) 0 5 (evB e)
  have hk : Go.Lib.splitK (ByteArray.mk #[46]).data.toList 0 5 (evB e).data.toList = [dig e.2.2.1.toNat, dig e.1.toNat, dig e.2.1.toNat, e.2.2.2.data.toList, []] := by
    show Go.Lib.splitK [46] 0 5 (evL e) = _
    unfold evL
    rw [splitK_step 4 (dig_dot (by omega)), splitK_step 3 (dig_dot (by omega)), splitK_step 2 (dig_dot (by omega)), splitK_step 1 h.name.1]
    simp [Go.Lib.splitK, Go.Lib.index]
  rw [hk] at hd
  generalize Go.Lib.splitB (ByteArray.mk #[46]) 0 5 (evB e) = fs at hd
  have := congrArg (List.map fun l : List UInt8 => (⟨l.toArray⟩ : ByteArray)) hd
  rw [List.map_map] at this
  have idm : fs.map ((fun l : List UInt8 => (⟨l.toArray⟩ : ByteArray)) ∘ fun x : ByteArray => x.data.toList) = fs := by
    conv => rhs; rw [← List.map_id fs]
    exact List.map_congr_left fun x _ => rfl
  rw [idm] at this
  rw [this]
  rfl
theorem impl_ReadEvent_eq {R : Type} {n : Nat} {e : Ev} (hg : goodEv e = true) (k : Int → Int → Int → ByteArray → Bool → Option R) : impl_ReadEvent n (evB e) k = k e.1 e.2.1 e.2.2.1 e.2.2.2 true := by
  have h := goodEv_g hg
  have h1 := h.id; have h2 := h.ver; have h3 := h.kd
  have hl := evL_len h
  have hs : (evB e).size = (evL e).length := rfl
  unfold impl_ReadEvent strings_SplitN
  rw [decide_eq_true (show (evB e).size < 4294967281 by omega), decide_eq_true (show 1 ≤ (ByteArray.mk #[46]).size by decide), decide_eq_true (show (1 : Int) ≤ 6 by omega), decide_eq_true (show (6 : Int) ≤ 9223372036854775807 by omega), show min (Int.toNat 6) ((evB e).size + 1) - 1 = 5 by rw [hs]; omega, split_ev h]
  unfold impl_number
  simp only [Bool.and_self, cond_true, List.getD_cons_zero, List.getD_cons_succ, numC_dig (show 0 ≤ e.2.2.1 by omega) (by omega), numC_dig (show 0 ≤ e.1 by omega) (by omega), numC_dig (show 0 ≤ e.2.1 by omega) (by omega), impl_GoodEvent_eq]
  rw [show goodEv (e.1, e.2.1, e.2.2.1, e.2.2.2) = true from hg]
  simp
theorem impl_EventBytes_eq {R : Type} {n : Nat} (e : Ev) (k : ByteArray → Bool → Option R) : impl_EventBytes n e.1 e.2.1 e.2.2.1 e.2.2.2 k = if goodEv e = true then k (evB e) true else k (ByteArray.mk #[]) false := by
  unfold impl_EventBytes
  rw [impl_GoodEvent_eq, show goodEv (e.1, e.2.1, e.2.2.1, e.2.2.2) = goodEv e from rfl]
  cases hg : goodEv e with
  | false => rfl
  | true =>
    rw [impl_eventText_eq (goodEv_g hg)]; rfl
theorem spec_EventBytes_eq {R : Type} {n : Nat} {e : Ev} (hs : e.2.2.2.size ≤ 1048576) (hn : 3000000 ≤ n) (k : ByteArray → Bool → Option R) : spec_EventBytes n e.1 e.2.1 e.2.2.1 e.2.2.2 k = if goodEv e = true then k (evB e) true else k (ByteArray.mk #[]) false := by
  unfold spec_EventBytes
  rw [spec_GoodEvent_eq _ _ _ _ hs (by omega), show goodEv (e.1, e.2.1, e.2.2.1, e.2.2.2) = goodEv e from rfl]
  cases hg : goodEv e with
  | false => rfl
  | true =>
    rw [spec_l1Bytes_eq (goodEv_g hg) (by omega)]; rfl
def sumP : List UInt8 → Int → Int → Int × Int
  | [], a, b => (a, b)
  | x :: l, a, b => sumP l ((a + x.toNat) % 255) ((b + (a + x.toNat) % 255) % 255)
theorem sumP_in : ∀ (l : List UInt8) (a b : Int), 0 ≤ a → a < 255 → 0 ≤ b → b < 255 → (0 ≤ (sumP l a b).1 ∧ (sumP l a b).1 < 255) ∧ (0 ≤ (sumP l a b).2 ∧ (sumP l a b).2 < 255)
  | [], a, b, h1, h2, h3, h4 => ⟨⟨h1, h2⟩, h3, h4⟩
  | x :: l, a, b, h1, h2, h3, h4 => sumP_in l _ _ (by omega) (by omega) (by omega) (by omega)
def sumV (l : List UInt8) : Int := 256 * (sumP l 0 0).2 + (sumP l 0 0).1
theorem sumV_in (l : List UInt8) : 0 ≤ sumV l ∧ sumV l < 65536 := by
  have := sumP_in l 0 0 (by omega) (by omega) (by omega) (by omega)
  unfold sumV; omega
theorem byte_get (s : ByteArray) {j : Nat} (h : j < s.data.toList.length) : s.data.getD (Int.toNat (j : Int)) 0 = s.data.toList[j] := byte_at s h
theorem impl_sum_loop {R : Type} (s : ByteArray) (hs : s.size ≤ 1048576) (ke : Int → Int → Option R) : ∀ (c n j : Nat) (a b : Int), c < n → j + c = s.size → 0 ≤ a → a < 255 → 0 ≤ b → b < 255 →
    impl_SumOf_l3 n s a b (s.size : Int) (j : Int) ke = ke (sumP (s.data.toList.drop j) a b).1 (sumP (s.data.toList.drop j) a b).2
  | c, 0, _, _, _, h, _, _, _, _, _ => by omega
  | 0, n + 1, j, a, b, hn, hj, h1, h2, h3, h4 => by
    rw [impl_SumOf_l3, decide_eq_false (show ¬ (j : Int) < (s.size : Int) by omega), List.drop_eq_nil_iff.2 (by rw [← ba_size]; omega)]; rfl
  | c + 1, n + 1, j, a, b, hn, hj, h1, h2, h3, h4 => by
    have h : j < s.data.toList.length := by rw [← ba_size]; omega
    have hx := s.data.toList[j].toNat_lt
    have h5 : (0 : Int) ≤ (s.data.toList[j].toNat : Int) := by omega
    have h6 : (s.data.toList[j].toNat : Int) < 256 := by omega
    rw [impl_SumOf_l3, decide_eq_true (show (j : Int) < (s.size : Int) by omega), decide_eq_true (show (0 : Int) ≤ (j : Int) by omega), byte_get s h, wrap64 (x := (s.data.toList[j].toNat : Int)) (by omega) (by omega), wrap64 (x := a + (s.data.toList[j].toNat : Int)) (by omega) (by omega), Int.tmod_eq_emod_of_nonneg (show 0 ≤ a + (s.data.toList[j].toNat : Int) by omega), wrap64 (x := b + (a + (s.data.toList[j].toNat : Int)) % 255) (by omega) (by omega), Int.tmod_eq_emod_of_nonneg (show 0 ≤ b + (a + (s.data.toList[j].toNat : Int)) % 255 by omega), wrap64 (x := (j : Int) + 1) (by omega) (by omega), show (j : Int) + 1 = ((j + 1 : Nat) : Int) by omega, List.drop_eq_getElem_cons h, sumP]
    exact impl_sum_loop s hs ke c n (j + 1) _ _ (by omega) (by omega) (by omega) (by omega) (by omega) (by omega)
theorem spec_sum_loop {R : Type} (s : ByteArray) (hs : s.size ≤ 1048576) (ke : Int → Int → Option R) : ∀ (c n j : Nat) (a b : Int), c < n → j + c = s.size → 0 ≤ a → a < 255 → 0 ≤ b → b < 255 →
    spec_SumOf_l4 n s a b (j : Int) ke = ke (sumP (s.data.toList.drop j) a b).1 (sumP (s.data.toList.drop j) a b).2
  | c, 0, _, _, _, h, _, _, _, _, _ => by omega
  | 0, n + 1, j, a, b, hn, hj, h1, h2, h3, h4 => by
    rw [spec_SumOf_l4, decide_eq_false (show ¬ (j : Int) < (s.size : Int) by omega), List.drop_eq_nil_iff.2 (by rw [← ba_size]; omega)]; rfl
  | c + 1, n + 1, j, a, b, hn, hj, h1, h2, h3, h4 => by
    have h : j < s.data.toList.length := by rw [← ba_size]; omega
    have hx := s.data.toList[j].toNat_lt
    have h5 : (0 : Int) ≤ (s.data.toList[j].toNat : Int) := by omega
    have h6 : (s.data.toList[j].toNat : Int) < 256 := by omega
    rw [spec_SumOf_l4, decide_eq_true (show (j : Int) < (s.size : Int) by omega), decide_eq_true (show (0 : Int) ≤ (j : Int) by omega), byte_get s h, wrap64 (x := (s.data.toList[j].toNat : Int)) (by omega) (by omega), wrap64 (x := a + (s.data.toList[j].toNat : Int)) (by omega) (by omega), Int.tmod_eq_emod_of_nonneg (show 0 ≤ a + (s.data.toList[j].toNat : Int) by omega), wrap64 (x := b + (a + (s.data.toList[j].toNat : Int)) % 255) (by omega) (by omega), Int.tmod_eq_emod_of_nonneg (show 0 ≤ b + (a + (s.data.toList[j].toNat : Int)) % 255 by omega), wrap64 (x := (j : Int) + 1) (by omega) (by omega), show (j : Int) + 1 = ((j + 1 : Nat) : Int) by omega, List.drop_eq_getElem_cons h, sumP]
    exact spec_sum_loop s hs ke c n (j + 1) _ _ (by omega) (by omega) (by omega) (by omega) (by omega) (by omega)
theorem sum_wrap {l : List UInt8} : IntKind.wrap .i64 (IntKind.wrap .i64 (256 * (sumP l 0 0).2) + (sumP l 0 0).1) = sumV l := by
  have := sumP_in l 0 0 (by omega) (by omega) (by omega) (by omega)
  rw [wrap64 (x := 256 * (sumP l 0 0).2) (by omega) (by omega), wrap64 (by omega) (by omega)]
  rfl
theorem impl_SumOf_eq {R : Type} {n : Nat} (s : ByteArray) (hs : s.size ≤ 1048576) (hn : s.size < n) (k : Int → Option R) : impl_SumOf n s k = k (sumV s.data.toList) := by
  unfold impl_SumOf
  have := impl_sum_loop (R := R) s hs (fun r1 r2 => k (IntKind.wrap .i64 (IntKind.wrap .i64 (256 * r2) + r1))) s.size n 0 0 0 (by omega) (by omega) (by omega) (by omega) (by omega) (by omega)
  rw [show ((0 : Nat) : Int) = 0 from rfl, List.drop_zero] at this
  rw [this, sum_wrap]
theorem spec_SumOf_eq {R : Type} {n : Nat} (s : ByteArray) (hs : s.size ≤ 1048576) (hn : s.size < n) (k : Int → Option R) : spec_SumOf n s k = k (sumV s.data.toList) := by
  unfold spec_SumOf
  have := spec_sum_loop (R := R) s hs (fun r1 r2 => k (IntKind.wrap .i64 (IntKind.wrap .i64 (256 * r2) + r1))) s.size n 0 0 0 (by omega) (by omega) (by omega) (by omega) (by omega) (by omega)
  rw [show ((0 : Nat) : Int) = 0 from rfl, List.drop_zero] at this
  rw [this, sum_wrap]
def frL (l : List UInt8) : List UInt8 := UInt8.ofNat l.length :: (l ++ [UInt8.ofNat (sumV l / 256).toNat, UInt8.ofNat (sumV l % 256).toNat])
theorem frL_len (l : List UInt8) : (frL l).length = l.length + 3 := by simp [frL]
theorem frame_val {s : ByteArray} (hs : s.size ≤ 255) : ((bytesOf [IntKind.wrap .u8 (s.size : Int)] ++ s) ++ bytesOf [IntKind.wrap .u8 (IntKind.wrap .i64 (Int.tdiv (sumV s.data.toList) 256)), IntKind.wrap .u8 (Int.tmod (sumV s.data.toList) 256)]) = ⟨(frL s.data.toList).toArray⟩ := by
  have h := sumV_in s.data.toList
  refine ba_ext ?_
  rw [ba_app, ba_app, wrap_8 (x := (s.size : Int)) (by omega) (by omega), Int.tdiv_eq_ediv_of_nonneg h.1, Int.tmod_eq_emod_of_nonneg h.1, wrap64 (by omega) (by omega), wrap_8 (x := sumV s.data.toList / 256) (by omega) (by omega), wrap_8 (x := sumV s.data.toList % 256) (by omega) (by omega)]
  show (UInt8.ofNat (Int.toNat (s.size : Int)) :: []) ++ s.data.toList ++ [UInt8.ofNat (sumV s.data.toList / 256).toNat, UInt8.ofNat (sumV s.data.toList % 256).toNat] = frL s.data.toList
  rw [Int.toNat_natCast, ba_size]
  rfl
theorem impl_frame_eq {R : Type} {n : Nat} {s : ByteArray} (hs : s.size ≤ 255) (hn : 300 ≤ n) (k : ByteArray → Option R) : impl_frame n s k = k ⟨(frL s.data.toList).toArray⟩ := by
  unfold impl_frame
  rw [impl_SumOf_eq s (by omega) (by omega), frame_val hs]
  rw [decide_eq_true (by rw [show (bytesOf [IntKind.wrap .u8 (s.size : Int)]).size = 1 from rfl]; simp only [STR]; omega), decide_eq_true (by
    rw [ByteArray.size_append, show (bytesOf [IntKind.wrap .u8 (s.size : Int)]).size = 1 from rfl, show (bytesOf [IntKind.wrap .u8 (IntKind.wrap .i64 (Int.tdiv (sumV s.data.toList) 256)), IntKind.wrap .u8 (Int.tmod (sumV s.data.toList) 256)]).size = 2 from rfl]
    simp only [STR]; omega)]
  rfl
theorem spec_l1Frame_eq {R : Type} {n : Nat} {s : ByteArray} (hs : s.size ≤ 255) (hn : 300 ≤ n) (k : ByteArray → Option R) : spec_l1Frame n s k = k ⟨(frL s.data.toList).toArray⟩ := by
  have h := sumV_in s.data.toList
  have e1 : IntKind.wrap .u8 (Int.fdiv (sumV s.data.toList) (2 ^ (min (Int.toNat 8) (IntKind.bits .i64)))) = IntKind.wrap .u8 (IntKind.wrap .i64 (Int.tdiv (sumV s.data.toList) 256)) := by
    have e : (2 : Int) ^ (min (Int.toNat 8) (IntKind.bits .i64)) = 256 := rfl
    rw [e, Int.fdiv_eq_ediv_of_nonneg _ (by omega), Int.tdiv_eq_ediv_of_nonneg h.1, wrap64 (by omega) (by omega)]
  have e2 : IntKind.wrap .u8 (sumV s.data.toList) = IntKind.wrap .u8 (Int.tmod (sumV s.data.toList) 256) := by
    rw [Int.tmod_eq_emod_of_nonneg h.1, wrap_8 (x := sumV s.data.toList % 256) (by omega) (by omega)]
    simp only [IntKind.wrap, IntKind.signed, IntKind.bits]
    simp
  unfold spec_l1Frame
  rw [spec_SumOf_eq s (by omega) (by omega), e1, e2, frame_val hs]
  rw [decide_eq_true (by rw [show (bytesOf [IntKind.wrap .u8 (s.size : Int)]).size = 1 from rfl]; simp only [STR]; omega), decide_eq_true (by
    rw [ByteArray.size_append, show (bytesOf [IntKind.wrap .u8 (s.size : Int)]).size = 1 from rfl, show (bytesOf [IntKind.wrap .u8 (IntKind.wrap .i64 (Int.tdiv (sumV s.data.toList) 256)), IntKind.wrap .u8 (Int.tmod (sumV s.data.toList) 256)]).size = 2 from rfl]
    simp only [STR]; omega)]
  rfl
def evF (e : Ev) : List UInt8 := frL (evL e)
def evsF (l : List Ev) : List UInt8 := l.flatMap evF
theorem evsF_cons (e : Ev) (l : List Ev) : evsF (e :: l) = evF e ++ evsF l := by simp [evsF]
theorem evsF_app (a b : List Ev) : evsF (a ++ b) = evsF a ++ evsF b := by simp [evsF]
theorem evF_len {e : Ev} (h : GEv e) : (evF e).length = (evL e).length + 3 ∧ (evF e).length ≤ 31 := by
  have := evL_len h
  unfold evF; rw [frL_len]; omega
theorem impl_evs_loop {R : Type} {l : List Ev} (hl : l.length ≤ 60) (kr : ByteArray → Bool → Option R) (ke : ByteArray → Option R) : ∀ (c n j : Nat) (acc : List UInt8), c + 400 < n → j + c = l.length → acc.length ≤ 31 * j →
    impl_EventsBytes_l3 n l ⟨acc.toArray⟩ l (l.length : Int) (j : Int) kr ke = if (l.drop j).all goodEv = true then ke ⟨(acc ++ evsF (l.drop j)).toArray⟩ else kr (ByteArray.mk #[]) false
  | c, 0, _, _, h, _, _ => by omega
  | 0, n + 1, j, acc, hn, hj, ha => by
    rw [impl_EventsBytes_l3, dge (by omega), List.drop_eq_nil_iff.2 (by omega)]
    simp [evsF]
  | c + 1, n + 1, j, acc, hn, hj, ha => by
    have h : j < l.length := by omega
    rw [impl_EventsBytes_l3, dlt h, dnn, getD_at _ _ h, wrapS h (by omega), impl_GoodEvent_eq, List.drop_eq_getElem_cons h, List.all_cons, show goodEv (l[j].1, l[j].2.1, l[j].2.2.1, l[j].2.2.2) = goodEv l[j] from rfl]
    simp only [cond_true]
    cases hg : goodEv l[j] with
    | false => simp
    | true =>
      have hG := goodEv_g hg
      have hel := evL_len hG
      have hfl := evF_len hG
      have hsz : (evB l[j]).size = (evL l[j]).length := rfl
      rw [impl_eventText_eq hG, impl_frame_eq (by omega) (by omega), decide_eq_false (show ¬ (l.length : Int) > 60 by omega)]
      have e1 : (evB l[j]).data.toList = evL l[j] := rfl
      rw [e1, show frL (evL l[j]) = evF l[j] from rfl]
      rw [decide_eq_true (show (ByteArray.mk acc.toArray).size + (ByteArray.mk (evF l[j]).toArray).size ≤ STR by
        show acc.length + (evF l[j]).length ≤ STR
        simp only [STR]; omega)]
      have e2 : (ByteArray.mk acc.toArray ++ ByteArray.mk (evF l[j]).toArray) = ByteArray.mk (acc ++ evF l[j]).toArray := ba_ext (by rw [ba_app])
      rw [e2]
      simp only [Bool.not_true, cond_false, cond_true, Bool.true_and]
      rw [impl_evs_loop hl kr ke c n (j + 1) (acc ++ evF l[j]) (by omega) (by omega) (by rw [List.length_append]; omega), evsF_cons, List.append_assoc]
theorem spec_evs_loop {R : Type} {l : List Ev} (hl : l.length ≤ 1000) (hs : ∀ x ∈ l, x.2.2.2.size ≤ 1048576) (kr : ByteArray → Bool → Option R) (ke : List Ev → ByteArray → Option R) : ∀ (c n j : Nat) (acc : List UInt8), c + 3000000 < n → j + c = l.length → acc.length ≤ 31 * j →
    spec_EventsBytes_l3 n l ⟨acc.toArray⟩ l (l.length : Int) (j : Int) kr ke = if (l.drop j).all goodEv = true then ke l ⟨(acc ++ evsF (l.drop j)).toArray⟩ else kr (ByteArray.mk #[]) false
  | c, 0, _, _, h, _, _ => by omega
  | 0, n + 1, j, acc, hn, hj, ha => by
    rw [spec_EventsBytes_l3, dge (by omega), List.drop_eq_nil_iff.2 (by omega)]
    simp [evsF]
  | c + 1, n + 1, j, acc, hn, hj, ha => by
    have h : j < l.length := by omega
    rw [spec_EventsBytes_l3, dlt h, dnn, getD_at _ _ h, wrapS h (by omega), spec_GoodEvent_eq _ _ _ _ (hs _ (List.getElem_mem h)) (by omega), List.drop_eq_getElem_cons h, List.all_cons, show goodEv (l[j].1, l[j].2.1, l[j].2.2.1, l[j].2.2.2) = goodEv l[j] from rfl]
    simp only [cond_true]
    cases hg : goodEv l[j] with
    | false => simp
    | true =>
      have hG := goodEv_g hg
      have hel := evL_len hG
      have hfl := evF_len hG
      have hsz : (evB l[j]).size = (evL l[j]).length := rfl
      rw [spec_l1Bytes_eq hG (by omega), spec_l1Frame_eq (by omega) (by omega)]
      have e1 : (evB l[j]).data.toList = evL l[j] := rfl
      rw [e1, show frL (evL l[j]) = evF l[j] from rfl]
      rw [decide_eq_true (show (ByteArray.mk acc.toArray).size + (ByteArray.mk (evF l[j]).toArray).size ≤ STR by
        show acc.length + (evF l[j]).length ≤ STR
        simp only [STR]; omega)]
      have e2 : (ByteArray.mk acc.toArray ++ ByteArray.mk (evF l[j]).toArray) = ByteArray.mk (acc ++ evF l[j]).toArray := ba_ext (by rw [ba_app])
      rw [e2]
      simp only [Bool.not_true, cond_false, cond_true, Bool.true_and]
      rw [spec_evs_loop hl hs kr ke c n (j + 1) (acc ++ evF l[j]) (by omega) (by omega) (by rw [List.length_append]; omega), evsF_cons, List.append_assoc]
def evsOk (l : List Ev) : Bool := l.all goodEv && decide (l.length ≤ 60)
theorem spec_EventsBytes_eq {R : Type} {n : Nat} {l : List Ev} (hl : l.length ≤ 1000) (hs : ∀ x ∈ l, x.2.2.2.size ≤ 1048576) (hn : 4000000 ≤ n) (k : ByteArray → Bool → Option R) : spec_EventsBytes n l k = if evsOk l = true then k ⟨(evsF l).toArray⟩ true else k (ByteArray.mk #[]) false := by
  unfold spec_EventsBytes evsOk
  have := spec_evs_loop (R := R) hl hs (fun r4 r5 => k r4 r5) (fun r6 r7 => (bif (decide ((r6.length : Int) > 60)) then k (ByteArray.mk #[]) false else k r7 true)) l.length n 0 [] (by omega) (by omega) (by simp)
  rw [show ((0 : Nat) : Int) = 0 from rfl, List.drop_zero, List.nil_append] at this
  refine this.trans ?_
  cases l.all goodEv with
  | false => rfl
  | true =>
    rw [if_pos rfl]
    by_cases h : l.length ≤ 60
    · rw [decide_eq_true h, decide_eq_false (show ¬ (l.length : Int) > 60 by omega)]; rfl
    · rw [decide_eq_false h, decide_eq_true (show (l.length : Int) > 60 by omega)]; rfl
theorem impl_EventsBytes_eq {R : Type} {n : Nat} {l : List Ev} (hn : 4000000 ≤ n) (k : ByteArray → Bool → Option R) : impl_EventsBytes n l k = if evsOk l = true then k ⟨(evsF l).toArray⟩ true else k (ByteArray.mk #[]) false := by
  unfold impl_EventsBytes evsOk
  by_cases h : l.length ≤ 60
  · have := impl_evs_loop (R := R) h (fun r4 r5 => k r4 r5) (fun r6 => k r6 true) l.length n 0 [] (by omega) (by omega) (by simp)
    rw [show ((0 : Nat) : Int) = 0 from rfl, List.drop_zero, List.nil_append] at this
    refine this.trans ?_
    rw [decide_eq_true h, Bool.and_true]
  · rw [decide_eq_false h, Bool.and_false, if_neg (by simp)]
    obtain ⟨m, rfl⟩ : ∃ m, n = m + 1 := ⟨n - 1, by omega⟩
    have h0 : 0 < l.length := by omega
    rw [impl_EventsBytes_l3, decide_eq_true (show (0 : Int) < (l.length : Int) by omega), decide_eq_true (show (0 : Int) ≤ 0 by omega)]
    simp only [cond_true, impl_GoodEvent_eq, decide_eq_true (show (l.length : Int) > 60 by omega)]
    generalize goodEv _ = b
    cases b <;> rfl
theorem and255 (x : Int) : 0 ≤ IntKind.wrap .i64 (IntKind.wrap .u64 (Int.ofNat (BitVec.toNat (BitVec.ofInt (IntKind.bits .u64) x &&& BitVec.ofInt (IntKind.bits .u64) 255)))) ∧ IntKind.wrap .i64 (IntKind.wrap .u64 (Int.ofNat (BitVec.toNat (BitVec.ofInt (IntKind.bits .u64) x &&& BitVec.ofInt (IntKind.bits .u64) 255)))) ≤ 255 := by
  have h : BitVec.toNat (BitVec.ofInt (IntKind.bits .u64) x &&& BitVec.ofInt (IntKind.bits .u64) 255) ≤ 255 := by
    rw [BitVec.toNat_and]
    exact Nat.le_trans Nat.and_le_right (by decide)
  generalize BitVec.toNat (BitVec.ofInt (IntKind.bits .u64) x &&& BitVec.ofInt (IntKind.bits .u64) 255) = y at h
  have h1 : IntKind.wrap .u64 (Int.ofNat y) = (y : Int) := by
    simp only [IntKind.wrap, IntKind.signed, IntKind.bits]
    simp
    omega
  rw [h1, wrap64 (by omega) (by omega)]
  omega
/-- Bytes. -/
def Bytes (l : List Int) : Prop := ∀ x ∈ l, 0 ≤ x ∧ x ≤ 255
theorem bytes_getD {l : List Int} (hl : Bytes l) {i : Nat} (h : i < l.length) : 0 ≤ l.getD i 0 ∧ l.getD i 0 ≤ 255 := by
  rw [List.getD_eq_getElem?_getD, List.getElem?_eq_getElem h]
  exact hl _ (List.getElem_mem h)
def seedN (s b : Int) : Int := IntKind.wrap .u64 ((IntKind.wrap .u64 ((IntKind.wrap .u64 (s * 6364136223846793005)) + b)) + 1442695040888963407)
theorem next_ex {l : List Int} (hl : Bytes l) (n : Nat) {p s : Int} (h0 : 0 ≤ p) (h1 : p ≤ 4611686018427387904) : ∃ r s', 0 ≤ r ∧ r ≤ 255 ∧ ∀ (R : Type) (k : Int → List Int → Int → Int → Option R), spec_l1Cur_next n l p s k = k r l (p + 1) s' := by
  have hw : IntKind.wrap .i64 (p + 1) = p + 1 := wrap64 (by omega) (by omega)
  by_cases c : p < (l.length : Int)
  · obtain ⟨b1, b2⟩ := bytes_getD hl (i := Int.toNat p) (by omega)
    have hg : IntKind.wrap .i64 (l.getD (Int.toNat p) 0) = l.getD (Int.toNat p) 0 := wrap64 (by omega) (by omega)
    refine ⟨l.getD (Int.toNat p) 0, seedN s (IntKind.wrap .u64 (l.getD (Int.toNat p) 0)), b1, b2, fun R k => ?_⟩
    unfold spec_l1Cur_next
    rw [decide_eq_true c, decide_eq_true h0, hw, decide_eq_true (show p + 1 ≤ (l.length : Int) by omega), hg]
    rfl
  · have hn := and255 (Int.fdiv (seedN s 0) (2 ^ (min (Int.toNat 40) (IntKind.bits .u64))))
    refine ⟨_, seedN s 0, hn.1, hn.2, fun R k => ?_⟩
    unfold spec_l1Cur_next
    rw [decide_eq_false c, hw, decide_eq_false (show ¬ p + 1 ≤ (l.length : Int) by omega)]
    rfl
theorem pick_ex {l : List Int} (hl : Bytes l) (n : Nat) {m p s : Int} (hm : m ≤ 60000) (h0 : 0 ≤ p) (h1 : p ≤ 4611686018427387000) : ∃ r p' s', 0 ≤ r ∧ (r < m ∨ (m ≤ 1 ∧ r = 0)) ∧ p ≤ p' ∧ p' ≤ p + 2 ∧ ∀ (R : Type) (k : Int → List Int → Int → Int → Option R), spec_l1Cur_pick n m l p s k = k r l p' s' := by
  by_cases c : m ≤ 1
  · exact ⟨0, p, s, by omega, .inr ⟨c, rfl⟩, by omega, by omega, fun R k => by unfold spec_l1Cur_pick; rw [decide_eq_true c]; rfl⟩
  · obtain ⟨r, s1, r0, r1, hr⟩ := next_ex hl n (s := s) h0 (by omega)
    by_cases c2 : m > 200
    · obtain ⟨q, s2, q0, q1, hq⟩ := next_ex hl n (p := p + 1) (s := s1) (by omega) (by omega)
      have e : IntKind.wrap .i64 (IntKind.wrap .i64 (r * 256) + q) = r * 256 + q := by rw [wrap64 (x := r * 256) (by omega) (by omega), wrap64 (by omega) (by omega)]
      have t0 := Int.tmod_nonneg m (show 0 ≤ r * 256 + q by omega)
      have t1 := Int.tmod_lt_of_pos (r * 256 + q) (show 0 < m by omega)
      refine ⟨Int.tmod (r * 256 + q) m, p + 1 + 1, s2, t0, .inl t1, by omega, by omega, fun R k => ?_⟩
      unfold spec_l1Cur_pick
      rw [decide_eq_false c, hr, decide_eq_true c2, hq, decide_eq_true (show m ≠ 0 by omega), e]
      rfl
    · have t0 := Int.tmod_nonneg m (show 0 ≤ r by omega)
      have t1 := Int.tmod_lt_of_pos r (show 0 < m by omega)
      refine ⟨Int.tmod r m, p + 1, s1, t0, .inl t1, by omega, by omega, fun R k => ?_⟩
      unfold spec_l1Cur_pick
      rw [decide_eq_false c, hr, decide_eq_false c2, decide_eq_true (show m ≠ 0 by omega)]
      rfl
theorem among_ex {l : List Int} (hl : Bytes l) (n : Nat) {xs : List Int} (hx : xs ≠ []) (hx2 : xs.length ≤ 200) {p s : Int} (h0 : 0 ≤ p) (h1 : p ≤ 4611686018427387000) : ∃ r p' s', r ∈ xs ∧ p ≤ p' ∧ p' ≤ p + 2 ∧ ∀ (R : Type) (k : Int → List Int → Int → Int → Option R), spec_l1Cur_among n xs l p s k = k r l p' s' := by
  have hp := List.length_pos_iff.2 hx
  obtain ⟨i, p', s', i0, i1, q0, q1, hi⟩ := pick_ex hl n (m := (xs.length : Int)) (s := s) (by omega) h0 h1
  have hlt : Int.toNat i < xs.length := by omega
  refine ⟨xs.getD (Int.toNat i) 0, p', s', ?_, q0, q1, fun R k => ?_⟩
  · rw [List.getD_eq_getElem?_getD, List.getElem?_eq_getElem hlt]
    exact List.getElem_mem hlt
  · unfold spec_l1Cur_among
    rw [hi, decide_eq_true i0, decide_eq_true (show i < (xs.length : Int) by omega)]
    rfl
theorem ba_extract (s : ByteArray) (a b : Nat) : (ByteArray.extract s a b).data.toList = (s.data.toList.drop a).take (b - a) := by
  rw [ByteArray.data_extract, Array.toList_extract, List.extract_eq_take_drop]
theorem take_nil {R : Type} (n : Nat) (k : ByteArray → Int → Bool → Option R) : impl_TakeFrame n ⟨([] : List UInt8).toArray⟩ k = k (ByteArray.mk #[]) 0 false := by
  unfold impl_TakeFrame
  rw [show (ByteArray.toList ⟨([] : List UInt8).toArray⟩ == ByteArray.toList (ByteArray.mk #[])) = true from beq_self_eq_true _]
  rfl
theorem ne_nil (x : UInt8) (l : List UInt8) : (ByteArray.toList ⟨(x :: l).toArray⟩ == ByteArray.toList (ByteArray.mk #[])) = false := by
  rw [bl_data, bl_data]
  rfl
theorem take_hit {R : Type} {n : Nat} {m : List UInt8} (hm : m.length ≤ 60) (rest : List UInt8) (hr : rest.length ≤ 1048576) (hn : 300 ≤ n) (k : ByteArray → Int → Bool → Option R) : impl_TakeFrame n ⟨(frL m ++ rest).toArray⟩ k = k ⟨m.toArray⟩ ((m.length : Int) + 3) true := by
  obtain ⟨t, ht⟩ : ∃ t, t = frL m ++ rest := ⟨_, rfl⟩
  have hb : (UInt8.ofNat m.length).toNat = m.length := ofNat_toNat (by omega)
  have hc : t = UInt8.ofNat m.length :: ((m ++ [UInt8.ofNat (sumV m / 256).toNat, UInt8.ofNat (sumV m % 256).toNat]) ++ rest) := by rw [ht]; rfl
  have hlen : t.length = m.length + 3 + rest.length := by rw [ht, List.length_append, frL_len]
  rw [← ht]
  unfold impl_TakeFrame
  have hsz : (ByteArray.mk t.toArray).size = t.length := rfl
  have hg : (ByteArray.mk t.toArray).data.getD 0 0 = UInt8.ofNat m.length := by rw [hc]; rfl
  have hne : (ByteArray.toList ⟨t.toArray⟩ == ByteArray.toList (ByteArray.mk #[])) = false := by rw [hc]; exact ne_nil _ _
  have w1 : IntKind.wrap .i64 (m.length : Int) = (m.length : Int) := wrap64 (by omega) (by omega)
  have w2 : IntKind.wrap .i64 (1 + (m.length : Int)) = 1 + (m.length : Int) := wrap64 (by omega) (by omega)
  have w3 : IntKind.wrap .i64 ((m.length : Int) + 3) = (m.length : Int) + 3 := wrap64 (by omega) (by omega)
  rw [hne, hg, hb, w1, w2, w3, hsz]
  rw [decide_eq_true (show (0 : Int) < (t.length : Int) by omega), decide_eq_false (show ¬ (m.length : Int) > 60 by omega), decide_eq_false (show ¬ (t.length : Int) < (m.length : Int) + 3 by omega), decide_eq_true (show (1 : Int) ≤ 1 + (m.length : Int) by omega), decide_eq_true (show 1 + (m.length : Int) ≤ (t.length : Int) by omega), decide_eq_true (show (0 : Int) ≤ (m.length : Int) + 3 by omega), decide_eq_true (show (m.length : Int) + 3 ≤ (t.length : Int) by omega)]
  simp only [cond_true, cond_false]
  have e1 : ByteArray.extract ⟨t.toArray⟩ 1 (Int.toNat (1 + (m.length : Int))) = ⟨m.toArray⟩ := by
    refine ba_ext ?_
    rw [ba_extract, show Int.toNat (1 + (m.length : Int)) - 1 = m.length by omega]
    show (t.drop 1).take m.length = m
    rw [hc, List.drop_one, List.tail_cons, List.append_assoc, List.take_left]
  have e2 : (ByteArray.extract ⟨t.toArray⟩ 0 (Int.toNat ((m.length : Int) + 3))).data.toList = frL m := by
    rw [ba_extract, show Int.toNat ((m.length : Int) + 3) - 0 = (frL m).length by rw [frL_len]; omega, List.drop_zero]
    show t.take (frL m).length = frL m
    rw [ht, List.take_left]
  rw [e1, impl_frame_eq (show (ByteArray.mk m.toArray).size ≤ 255 from by show m.length ≤ 255; omega) (by omega), bl_data, bl_data, e2]
  simp
theorem take_cut {R : Type} {n : Nat} {m : List UInt8} (hm : m.length ≤ 60) {c : Nat} (h0 : 0 < c) (hc : c < m.length + 3) (k : ByteArray → Int → Bool → Option R) : impl_TakeFrame n ⟨((frL m).take c).toArray⟩ k = k (ByteArray.mk #[]) 0 false := by
  obtain ⟨t, ht⟩ : ∃ t, t = (frL m).take c := ⟨_, rfl⟩
  have hb : (UInt8.ofNat m.length).toNat = m.length := ofNat_toNat (by omega)
  have hlen : t.length = c := by rw [ht, List.length_take, frL_len]; omega
  obtain ⟨u, hu⟩ : ∃ u, t = UInt8.ofNat m.length :: u := by
    obtain ⟨d, rfl⟩ : ∃ d, c = d + 1 := ⟨c - 1, by omega⟩
    exact ⟨_, by rw [ht]; unfold frL; rw [List.take_succ_cons]⟩
  rw [← ht]
  unfold impl_TakeFrame
  have hsz : (ByteArray.mk t.toArray).size = t.length := rfl
  have hg : (ByteArray.mk t.toArray).data.getD 0 0 = UInt8.ofNat m.length := by rw [hu]; rfl
  have hne : (ByteArray.toList ⟨t.toArray⟩ == ByteArray.toList (ByteArray.mk #[])) = false := by rw [hu]; exact ne_nil _ _
  have w1 : IntKind.wrap .i64 (m.length : Int) = (m.length : Int) := wrap64 (by omega) (by omega)
  have w3 : IntKind.wrap .i64 ((m.length : Int) + 3) = (m.length : Int) + 3 := wrap64 (by omega) (by omega)
  rw [hne, hg, hb, w1, w3, hsz, decide_eq_true (show (0 : Int) < (t.length : Int) by omega), decide_eq_false (show ¬ (m.length : Int) > 60 by omega), decide_eq_true (show (t.length : Int) < (m.length : Int) + 3 by omega)]
  rfl
theorem evsF_len {l : List Ev} (h : ∀ e ∈ l, goodEv e = true) : (evsF l).length ≤ 31 * l.length := by
  induction l with
  | nil => simp [evsF]
  | cons e l ih =>
    have h1 := (evF_len (goodEv_g (h e List.mem_cons_self))).2
    have h2 := ih fun x hx => h x (List.mem_cons_of_mem _ hx)
    rw [evsF_cons, List.length_append, List.length_cons]
    omega
theorem read_loop {l : List Ev} (hg : ∀ e ∈ l, goodEv e = true) (hl : l.length ≤ 60) {K : Nat} (hK : K ≤ (evsF l).length) : ∀ (c n j : Nat), c + 1000 < n → j + c = l.length → (evsF (l.take j)).length ≤ K →
    ∃ j', j' ≤ l.length ∧ (evsF (l.take j')).length ≤ K ∧ (K = (evsF l).length → j' = l.length) ∧ ∀ (R : Type) (ke : Int → List Ev → Option R), impl_ReadEvents_l2 n ⟨((evsF l).take K).toArray⟩ ((evsF (l.take j)).length : Int) (l.take j) ke = ke ((evsF (l.take j')).length : Int) (l.take j')
  | c, 0, _, h, _, _ => by omega
  | c, n + 1, j, hn, hj, hu => by
    have hbig := evsF_len hg
    have hsz : (ByteArray.mk ((evsF l).take K).toArray).size = K := by
      show ((evsF l).take K).length = K
      rw [List.length_take]; omega
    have hjl : (l.take j).length = j := by rw [List.length_take]; omega
    have step : ∀ (R : Type) (ke : Int → List Ev → Option R), j < 60 → impl_ReadEvents_l2 (n + 1) ⟨((evsF l).take K).toArray⟩ ((evsF (l.take j)).length : Int) (l.take j) ke = (impl_TakeFrame n ⟨(((evsF l).take K).drop (evsF (l.take j)).length).toArray⟩ fun r1 r2 r3 => (bif (!r3) then ke ((evsF (l.take j)).length : Int) (l.take j) else (impl_ReadEvent n r1 fun r4 r5 r6 r7 r8 => (bif (!r8) then ke ((evsF (l.take j)).length : Int) (l.take j) else (bif decide ((l.take j).length + ([(r4, (r5, (r6, r7)))]).length ≤ LIM) then impl_ReadEvents_l2 n ⟨((evsF l).take K).toArray⟩ (IntKind.wrap .i64 (((evsF (l.take j)).length : Int) + r2)) ((l.take j) ++ [(r4, (r5, (r6, r7)))]) ke else none))))) := fun R ke h60 => by
      have e : ByteArray.extract ⟨((evsF l).take K).toArray⟩ (Int.toNat ((evsF (l.take j)).length : Int)) (Int.toNat ((ByteArray.mk ((evsF l).take K).toArray).size : Int)) = ⟨(((evsF l).take K).drop (evsF (l.take j)).length).toArray⟩ := by
        refine ba_ext ?_
        rw [ba_extract, Int.toNat_natCast, Int.toNat_natCast, hsz]
        show (((evsF l).take K).drop (evsF (l.take j)).length).take (K - (evsF (l.take j)).length) = _
        rw [List.take_of_length_le]
        rw [List.length_drop, List.length_take]; omega
      rw [impl_ReadEvents_l2, hjl, decide_eq_true (show (j : Int) < 60 by omega), decide_eq_true (show (0 : Int) ≤ ((evsF (l.take j)).length : Int) by omega), e, hsz, decide_eq_true (show ((evsF (l.take j)).length : Int) ≤ (K : Int) by omega), decide_eq_true (Int.le_refl (K : Int))]
      rfl
    by_cases h60 : j < 60
    case neg =>
      have hj60 : j = l.length := by omega
      refine ⟨j, by omega, hu, fun _ => hj60, fun R ke => ?_⟩
      rw [impl_ReadEvents_l2, hjl, decide_eq_false (show ¬ (j : Int) < 60 by omega)]; rfl
    by_cases hend : (evsF (l.take j)).length = K
    · refine ⟨j, by omega, hu, fun hk => ?_, fun R ke => ?_⟩
      · cases c with
        | zero => omega
        | succ c =>
          exfalso
          have h : j < l.length := by omega
          have e : l = l.take j ++ l[j] :: l.drop (j + 1) := by rw [← List.drop_eq_getElem_cons h, List.take_append_drop]
          have h1 : (evsF l).length = (evsF (l.take j)).length + ((evF l[j]).length + (evsF (l.drop (j + 1))).length) := by
            conv => lhs; rw [e]
            rw [evsF_app, evsF_cons, List.length_append, List.length_append]
          have h2 := (evF_len (goodEv_g (hg _ (List.getElem_mem h)))).1
          omega
      · rw [step R ke h60, List.drop_of_length_le (by rw [List.length_take]; omega), take_nil]; rfl
    · cases c with
      | zero =>
        exfalso
        rw [List.take_of_length_le (by omega)] at hend hu
        omega
      | succ c =>
        have h : j < l.length := by omega
        have hge := hg _ (List.getElem_mem h)
        have hG := goodEv_g hge
        have hel := evL_len hG
        have hfl := evF_len hG
        have e : l = l.take j ++ l[j] :: l.drop (j + 1) := by rw [← List.drop_eq_getElem_cons h, List.take_append_drop]
        have eF : evsF l = evsF (l.take j) ++ (evF l[j] ++ evsF (l.drop (j + 1))) := by
          conv => lhs; rw [e]
          rw [evsF_app, evsF_cons]
        have eD : ((evsF l).take K).drop (evsF (l.take j)).length = (evF l[j] ++ evsF (l.drop (j + 1))).take (K - (evsF (l.take j)).length) := by
          rw [List.drop_take, eF, List.drop_left]
        have et : l.take (j + 1) = l.take j ++ [l[j]] := List.take_succ_eq_append_getElem h
        have eU : (evsF (l.take (j + 1))).length = (evsF (l.take j)).length + (evF l[j]).length := by
          rw [et, evsF_app, List.length_append]
          simp [evsF]
        by_cases hfull : (evF l[j]).length ≤ K - (evsF (l.take j)).length
        · obtain ⟨j', a1, a2, a3, a4⟩ := read_loop hg hl hK c n (j + 1) (by omega) (by omega) (by omega)
          refine ⟨j', a1, a2, a3, fun R ke => ?_⟩
          rw [step R ke h60, eD, List.take_append, List.take_of_length_le hfull]
          rw [show evF l[j] = frL (evL l[j]) from rfl, take_hit (by omega) _ (by rw [List.length_take]; omega) (by omega)]
          have e5 : (ByteArray.mk (evL l[j]).toArray) = evB l[j] := rfl
          simp only [Bool.not_true, cond_false]
          rw [e5, impl_ReadEvent_eq hge]
          simp only [Bool.not_true, cond_false]
          rw [decide_eq_true (by rw [hjl]; simp [LIM]; omega), cond_true, wrap64 (by omega) (by omega)]
          have e6 : ((evsF (l.take j)).length : Int) + (((evL l[j]).length : Int) + 3) = ((evsF (l.take (j + 1))).length : Int) := by rw [eU, hfl.1]; omega
          have e7 : l.take j ++ [(l[j].1, (l[j].2.1, (l[j].2.2.1, l[j].2.2.2)))] = l.take (j + 1) := et.symm
          rw [e6, e7]
          exact a4 R ke
        · refine ⟨j, by omega, hu, fun hk => ?_, fun R ke => ?_⟩
          · exfalso
            have : (evsF l).length = (evsF (l.take j)).length + ((evF l[j]).length + (evsF (l.drop (j + 1))).length) := by rw [eF, List.length_append, List.length_append]
            omega
          · rw [step R ke h60, eD, List.take_append, show K - (evsF (l.take j)).length - (evF l[j]).length = 0 by omega, List.take_zero, List.append_nil]
            rw [show evF l[j] = frL (evL l[j]) from rfl, take_cut (by omega) (by omega) (by omega)]
            rfl
theorem read_ex {l : List Ev} (hok : evsOk l = true) {n K : Nat} (hn : 2000 ≤ n) (hK : K ≤ (evsF l).length) : ∃ j', j' ≤ l.length ∧ (evsF (l.take j')).length ≤ K ∧ (K = (evsF l).length → j' = l.length) ∧ ∀ (R : Type) (k : Int → List Ev → Option R), impl_ReadEvents n ⟨((evsF l).take K).toArray⟩ k = k ((evsF (l.take j')).length : Int) (l.take j') := by
  simp only [evsOk, Bool.and_eq_true, decide_eq_true_eq, List.all_eq_true] at hok
  obtain ⟨j', a1, a2, a3, a4⟩ := read_loop hok.1 hok.2 hK l.length n 0 (by omega) (by omega) (by simp [evsF])
  exact ⟨j', a1, a2, a3, fun R k => by unfold impl_ReadEvents; exact a4 R k⟩
theorem of_ex {l : List Int} (hl : Bytes l) (n : Nat) {xs : List ByteArray} (hx : xs ≠ []) (hx2 : xs.length ≤ 200) {p s : Int} (h0 : 0 ≤ p) (h1 : p ≤ 4611686018427387000) : ∃ r p' s', r ∈ xs ∧ p ≤ p' ∧ p' ≤ p + 2 ∧ ∀ (R : Type) (k : ByteArray → List Int → Int → Int → Option R), spec_l1Cur_of n xs l p s k = k r l p' s' := by
  have hp := List.length_pos_iff.2 hx
  obtain ⟨i, p', s', i0, i1, q0, q1, hi⟩ := pick_ex hl n (m := (xs.length : Int)) (s := s) (by omega) h0 h1
  have hlt : Int.toNat i < xs.length := by omega
  refine ⟨xs.getD (Int.toNat i) ByteArray.empty, p', s', ?_, q0, q1, fun R k => ?_⟩
  · rw [List.getD_eq_getElem?_getD, List.getElem?_eq_getElem hlt]
    exact List.getElem_mem hlt
  · unfold spec_l1Cur_of
    rw [hi, decide_eq_true i0, decide_eq_true (show i < (xs.length : Int) by omega)]
    rfl
theorem event_ex {l : List Int} (hl : Bytes l) (n : Nat) {p s : Int} (h0 : 0 ≤ p) (h1 : p ≤ 4000000) : ∃ (e : Ev) (p' s' : Int), e.2.2.2.size ≤ 1048576 ∧ p ≤ p' ∧ p' ≤ p + 12 ∧ ∀ (R : Type) (k : Int → Int → Int → ByteArray → List Int → Int → Int → Option R), spec_l1Cur_event n l p s k = k e.1 e.2.1 e.2.2.1 e.2.2.2 l p' s' := by
  obtain ⟨r1, p1, s1, _, _, a1, b1, e1⟩ := pick_ex hl n (m := 20) (p := p) (s := s) (by omega) (by omega) (by omega)
  obtain ⟨r2, p2, s2, _, _, a2, b2, e2⟩ := pick_ex hl n (m := 40) (p := p1) (s := s1) (by omega) (by omega) (by omega)
  obtain ⟨r3, p3, s3, _, _, a3, b3, e3⟩ := pick_ex hl n (m := 6) (p := p2) (s := s2) (by omega) (by omega) (by omega)
  obtain ⟨nm, p4, s4, hnm, a4, b4, e4⟩ := of_ex hl n (xs := [(ByteArray.mk #[97]), (ByteArray.mk #[98]), (ByteArray.mk #[112, 97, 121]), (ByteArray.mk #[]), (ByteArray.mk #[115, 104, 105, 112, 50])]) (p := p3) (s := s3) (by simp) (by simp) (by omega) (by omega)
  obtain ⟨r5, p5, s5, _, _, a5, b5, e5⟩ := pick_ex hl n (m := 60) (p := p4) (s := s4) (by omega) (by omega) (by omega)
  have hsz : nm.size ≤ 1048576 := by
    simp only [List.mem_cons, List.not_mem_nil, or_false] at hnm
    rcases hnm with rfl | rfl | rfl | rfl | rfl <;> decide
  unfold spec_l1Cur_event
  simp only [e1, e2, e3, e4, e5]
  cases r5 == 0 with
  | true =>
    obtain ⟨x, p6, s6, _, a6, b6, e6⟩ := among_ex hl n (xs := [0, 1000, 1001]) (p := p5) (s := s5) (by simp) (by simp) (by omega) (by omega)
    exact ⟨(x, (r2, (_, nm))), p6, s6, hsz, by omega, by omega, fun R k => by rw [cond_true, e6]⟩
  | false =>
    cases r5 == 1 with
    | true =>
      obtain ⟨x, p6, s6, _, a6, b6, e6⟩ := among_ex hl n (xs := [0, 7]) (p := p5) (s := s5) (by simp) (by simp) (by omega) (by omega)
      exact ⟨(_, (r2, (x, nm))), p6, s6, hsz, by omega, by omega, fun R k => by rw [cond_false, cond_true, e6]⟩
    | false =>
      cases r5 == 2 with
      | true =>
        obtain ⟨x, p6, s6, hx, a6, b6, e6⟩ := of_ex hl n (xs := [(ByteArray.mk #[65]), (ByteArray.mk #[49, 50, 51, 52, 53, 54, 55, 56, 57, 48, 49, 50, 51])]) (p := p5) (s := s5) (by simp) (by simp) (by omega) (by omega)
        have hsx : x.size ≤ 1048576 := by
          simp only [List.mem_cons, List.not_mem_nil, or_false] at hx
          rcases hx with rfl | rfl <;> decide
        exact ⟨(_, (r2, (_, x))), p6, s6, hsx, by omega, by omega, fun R k => by rw [cond_false, cond_false, cond_true, e6]⟩
      | false =>
        cases r5 == 3 with
        | true =>
          obtain ⟨x, p6, s6, _, a6, b6, e6⟩ := among_ex hl n (xs := [(-1), 1000000, 1000001]) (p := p5) (s := s5) (by simp) (by simp) (by omega) (by omega)
          exact ⟨(_, (x, (_, nm))), p6, s6, hsz, by omega, by omega, fun R k => by rw [cond_false, cond_false, cond_false, cond_true, e6]⟩
        | false => exact ⟨(_, (r2, (_, nm))), p5, s5, hsz, by omega, by omega, fun R k => rfl⟩
theorem evs_draw_loop {l : List Int} (hl : Bytes l) : ∀ (n j : Nat) (p s : Int) (out : List Ev), j < n → out.length + j ≤ 2000 → 0 ≤ p → p + 12 * j ≤ 1000000 → (∀ x ∈ out, x.2.2.2.size ≤ 1048576) → ∃ o : List Ev, o.length = out.length + j ∧ (∀ x ∈ o, x.2.2.2.size ≤ 1048576) ∧ ∀ (R : Type) (k : List Ev → Option R), spec_DrawEventsBytes_l6 n (j : Int) l p s out k = k o
  | 0, _, _, _, _, h, _, _, _, _ => by omega
  | n + 1, 0, p, s, out, hn, ho, h0, h1, hs => ⟨out, by simp, hs, fun R k => by unfold spec_DrawEventsBytes_l6; rfl⟩
  | n + 1, j + 1, p, s, out, hn, ho, h0, h1, hs => by
    obtain ⟨e, p1, s1, c1, a1, b1, e1⟩ := event_ex hl n (p := p) (s := s) h0 (by omega)
    obtain ⟨o, g1, g2, g3⟩ := evs_draw_loop hl n j p1 s1 (out ++ [e]) (by omega) (by simp; omega) (by omega) (by omega) (fun x hx => by
      rcases List.mem_append.1 hx with hx | hx
      · exact hs x hx
      · rw [List.mem_singleton.1 hx]; exact c1)
    refine ⟨o, by rw [g1]; simp; omega, g2, fun R k => ?_⟩
    unfold spec_DrawEventsBytes_l6
    rw [decide_eq_true (show ((j + 1 : Nat) : Int) > 0 by omega), e1, decide_eq_true (by simp [LIM]; omega), wrap64 (x := ((j + 1 : Nat) : Int) - 1) (by omega) (by omega), show ((j + 1 : Nat) : Int) - 1 = (j : Int) by omega]
    exact g3 R k
theorem evs_draw {l : List Int} (hl : Bytes l) {n : Nat} (hn : 1000 ≤ n) : ∃ o : List Ev, o.length ≤ 1000 ∧ (∀ x ∈ o, x.2.2.2.size ≤ 1048576) ∧ ∀ (R : Type) (k : List Ev → Option R), spec_DrawEventsBytes n l k = k o := by
  obtain ⟨r1, p1, s1, u1, v1, a1, b1, e1⟩ := pick_ex hl n (m := 6) (p := 0) (s := 0) (by omega) (by omega) (by omega)
  obtain ⟨r2, p2, s2, u2, v2, a2, b2, e2⟩ := pick_ex hl n (m := 30) (p := p1) (s := s1) (by omega) (by omega) (by omega)
  unfold spec_DrawEventsBytes spec_l1Cur_one
  simp only [e1, e2]
  cases r2 == 0 with
  | true =>
    obtain ⟨r3, p3, s3, u3, v3, a3, b3, e3⟩ := pick_ex hl n (m := 2) (p := p2) (s := s2) (by omega) (by omega) (by omega)
    obtain ⟨o, g1, g2, g3⟩ := evs_draw_loop hl n (60 + r3).toNat p3 s3 [] (by omega) (by simp; omega) (by omega) (by omega) (by simp)
    rw [show (((60 + r3).toNat : Nat) : Int) = 60 + r3 by omega] at g3
    simp only [List.length_nil] at g1
    exact ⟨o, by omega, g2, fun R k => by rw [cond_true, e3, wrap64 (x := 60 + r3) (by omega) (by omega), g3]⟩
  | false =>
    obtain ⟨o, g1, g2, g3⟩ := evs_draw_loop hl n r1.toNat p2 s2 [] (by omega) (by simp; omega) (by omega) (by omega) (by simp)
    rw [show ((r1.toNat : Nat) : Int) = r1 by omega] at g3
    simp only [List.length_nil] at g1
    exact ⟨o, by omega, g2, fun R k => by rw [cond_false, g3]⟩
theorem same_loop {R : Type} (xs : List Ev) (hb : xs.length ≤ 1000) (kr : Bool → Option R) (ke : Option R) : ∀ (c n j : Nat), c < n → j + c = xs.length → laws_sameEvents_l4 n xs xs (xs.length : Int) (j : Int) kr ke = ke
  | c, 0, _, h, _ => by omega
  | 0, n + 1, j, hn, hj => by rw [laws_sameEvents_l4, dge (by omega)]; rfl
  | c + 1, n + 1, j, hn, hj => by
    have h : j < xs.length := by omega
    rw [laws_sameEvents_l4, dlt h, dnn, wrapS h (by omega)]
    simp only [cond_true, beq_self_eq_true, Bool.and_self, Bool.not_true, cond_false]
    exact same_loop xs hb kr ke c n (j + 1) (by omega) (by omega)
theorem same_eq {R : Type} {n : Nat} {xs : List Ev} (hb : xs.length ≤ 1000) (hn : 2000 ≤ n) (k : Bool → Option R) : laws_sameEvents n xs xs k = k true := by
  unfold laws_sameEvents
  rw [bne_self_eq_false, cond_false]
  exact same_loop xs hb _ _ xs.length n 0 (by omega) (by omega)
theorem num_loop {l : List Int} (hl : Bytes l) (hb : l.length ≤ 9223372036854775807) : ∀ (c n j : Nat) (v : Int), c < n → j + c = l.length → 0 ≤ v → v < 1000003 → ∃ v', 0 ≤ v' ∧ v' < 1000003 ∧ ∀ (R : Type) (ke : Int → Option R), laws_numberOf_l3 n v l (l.length : Int) (j : Int) ke = ke v'
  | c, 0, _, _, h, _, _, _ => by omega
  | 0, n + 1, j, v, hn, hj, h0, h1 => ⟨v, h0, h1, fun R ke => by rw [laws_numberOf_l3, dge (by omega)]; rfl⟩
  | c + 1, n + 1, j, v, hn, hj, h0, h1 => by
    have h : j < l.length := by omega
    have hx := hl _ (List.getElem_mem h)
    have e : Int.tmod (31 * v + l[j]) 1000003 = (31 * v + l[j]) % 1000003 := Int.tmod_eq_emod_of_nonneg (by omega)
    obtain ⟨v', g1, g2, g3⟩ := num_loop hl hb c n (j + 1) ((31 * v + l[j]) % 1000003) (by omega) (by omega) (by omega) (by omega)
    refine ⟨v', g1, g2, fun R ke => ?_⟩
    rw [laws_numberOf_l3, dlt h, dnn, getD_at _ _ h, wrap64 (x := 31 * v) (by omega) (by omega), wrap64 (x := l[j]) (by omega) (by omega), wrap64 (x := 31 * v + l[j]) (by omega) (by omega), e, wrapS h (by omega)]
    exact g3 R ke
theorem num_ex {l : List Int} (hl : Bytes l) (hb : l.length ≤ 9223372036854775807) {n : Nat} (hn : l.length < n) : ∃ v, 0 ≤ v ∧ v < 1000003 ∧ ∀ (R : Type) (k : Int → Option R), laws_numberOf n l k = k v := by
  obtain ⟨v, h0, h1, h2⟩ := num_loop hl hb l.length n 0 0 (by omega) (by omega) (by omega) (by omega)
  exact ⟨v, h0, h1, fun R k => by unfold laws_numberOf; exact h2 R k⟩
theorem half {R : Type} {n : Nat} {l m : List Int} (hn : 6000000 + l.length ≤ n) (hl : Bytes l) (hb : l.length ≤ 9223372036854775807) (hm : Bytes m) (k : Bool → Option R) : (spec_DrawEventsBytes n m fun r30 => (impl_EventsBytes n r30 fun r31 r32 => (spec_EventsBytes n r30 fun r33 r34 => (bif (!(r32 == r34)) then k false else (bif (!((ByteArray.toList r31) == (ByteArray.toList r33))) then k false else (bif (!r32) then k ((ByteArray.toList r31) == (ByteArray.toList (ByteArray.mk #[]))) else (impl_ReadEvents n r31 fun r35 r36 => (laws_sameEvents n r36 r30 fun r37 => (bif (!r37) then k false else (bif (r35 != (r31.size : Int)) then k false else (bif (decide ((r31.size : Int) > 0)) then (laws_numberOf n l fun r38 => (bif decide ((r31.size : Int) ≠ 0) then (bif decide (0 ≤ (Int.tmod r38 (r31.size : Int))) then (bif decide ((Int.tmod r38 (r31.size : Int)) ≤ (r31.size : Int)) then (impl_ReadEvents n (ByteArray.extract r31 0 (Int.toNat (Int.tmod r38 (r31.size : Int)))) fun r39 r40 => (bif (decide ((r40.length : Int) ≤ (r30.length : Int))) then (bif decide (0 ≤ (r40.length : Int)) then (bif decide ((r40.length : Int) ≤ (r30.length : Int)) then (laws_sameEvents n r40 ((r30.drop 0).take ((Int.toNat (r40.length : Int)) - 0)) fun r41 => (bif r41 then k (decide (r39 ≤ (Int.tmod r38 (r31.size : Int)))) else k false)) else none) else none) else k false)) else none) else none) else none)) else (bif decide (0 ≤ (r31.size : Int)) then (impl_ReadEvents n (ByteArray.extract r31 0 0) fun r42 r43 => (bif (decide ((r43.length : Int) ≤ (r30.length : Int))) then (bif decide (0 ≤ (r43.length : Int)) then (bif decide ((r43.length : Int) ≤ (r30.length : Int)) then (laws_sameEvents n r43 ((r30.drop 0).take ((Int.toNat (r43.length : Int)) - 0)) fun r44 => (bif r44 then k (decide (r42 ≤ 0)) else k false)) else none) else none) else k false)) else none)))))))))))) = k true := by
  obtain ⟨ev, he, hes, hd⟩ := evs_draw hm (n := n) (by omega)
  rw [hd, impl_EventsBytes_eq (by omega)]
  cases hok : evsOk ev with
  | false =>
    rw [if_neg (by simp), spec_EventsBytes_eq he hes (by omega), hok, if_neg (by simp)]
    simp
  | true =>
    rw [if_pos rfl, spec_EventsBytes_eq he hes (by omega), hok, if_pos rfl]
    simp only [beq_self_eq_true, Bool.not_true, cond_false]
    have hsz : (ByteArray.mk (evsF ev).toArray).size = (evsF ev).length := rfl
    obtain ⟨j', a1, a2, a3, a4⟩ := read_ex hok (n := n) (K := (evsF ev).length) (by omega) (Nat.le_refl _)
    have hj := a3 rfl
    subst hj
    rw [List.take_length, List.take_length] at a4
    rw [a4, same_eq he (by omega), hsz]
    have part : ∀ (K : Nat), K ≤ (evsF ev).length → ∀ q : ByteArray, q.data.toList = (evsF ev).take K → (impl_ReadEvents n q fun r39 r40 => (bif (decide ((r40.length : Int) ≤ (ev.length : Int))) then (bif decide (0 ≤ (r40.length : Int)) then (bif decide ((r40.length : Int) ≤ (ev.length : Int)) then (laws_sameEvents n r40 ((ev.drop 0).take ((Int.toNat (r40.length : Int)) - 0)) fun r41 => (bif r41 then k (decide (r39 ≤ (K : Int))) else k false)) else none) else none) else k false)) = k true := by
      intro K hK q hq
      have e : q = ⟨((evsF ev).take K).toArray⟩ := ba_ext hq
      obtain ⟨j', b1, b2, b3, b4⟩ := read_ex hok (n := n) (K := K) (by omega) hK
      have hjl : (ev.take j').length = j' := by rw [List.length_take]; omega
      rw [e, b4, hjl, decide_eq_true (show (j' : Int) ≤ (ev.length : Int) by omega), decide_eq_true (show (0 : Int) ≤ (j' : Int) by omega)]
      simp only [cond_true, List.drop_zero, Int.toNat_natCast, Nat.sub_zero]
      rw [same_eq (by omega) (by omega), cond_true, decide_eq_true (show ((evsF (ev.take j')).length : Int) ≤ (K : Int) by omega)]
    simp only [Bool.not_true, cond_false, bne_self_eq_false]
    by_cases h0 : (evsF ev).length = 0
    · rw [decide_eq_false (show ¬ ((evsF ev).length : Int) > 0 by omega), cond_false, decide_eq_true (show (0 : Int) ≤ ((evsF ev).length : Int) by omega), cond_true]
      exact part 0 (by omega) _ (by rw [ba_extract]; simp)
    · obtain ⟨v, v0, v1, hv⟩ := num_ex hl hb (n := n) (by omega)
      have t0 := Int.tmod_nonneg ((evsF ev).length : Int) v0
      have t1 := Int.tmod_lt_of_pos v (show (0 : Int) < ((evsF ev).length : Int) by omega)
      obtain ⟨K, hK⟩ : ∃ K : Nat, Int.tmod v ((evsF ev).length : Int) = K := ⟨(Int.tmod v ((evsF ev).length : Int)).toNat, by omega⟩
      rw [decide_eq_true (show ((evsF ev).length : Int) > 0 by omega), cond_true, hv, decide_eq_true (show ((evsF ev).length : Int) ≠ 0 by omega), hK, decide_eq_true (show (0 : Int) ≤ (K : Int) by omega), decide_eq_true (show (K : Int) ≤ ((evsF ev).length : Int) by omega)]
      simp only [cond_true]
      exact part K (by omega) _ (by rw [ba_extract, Int.toNat_natCast, List.drop_zero, Nat.sub_zero])
theorem law {R : Type} {n : Nat} {l m : List Int} (hn : 6000000 + l.length ≤ n) (hl : Bytes l) (hm : Bytes m) (hb : l.length ≤ 9223372036854775807) (hb2 : m.length ≤ 9223372036854775807) (k : Bool → Option R) : laws_FnEvents n l m k = k true := by
  unfold laws_FnEvents
  by_cases hc : IntKind.wrap .i64 ((l.length : Int) + (m.length : Int)) > 1048576
  · rw [decide_eq_true hc]; rfl
  rw [decide_eq_false hc, cond_false]
  unfold spec_DrawEventBytes spec_DrawGoodEvent
  obtain ⟨e, p1, s1, c1, _, _, e1⟩ := event_ex hl n (p := 0) (s := 0) (by omega) (by omega)
  rw [e1]
  simp only []
  rw [impl_EventBytes_eq]
  cases hg : goodEv e with
  | false =>
    rw [if_neg (by simp), spec_EventBytes_eq c1 (by omega), hg, if_neg (by simp)]
    simp only [beq_self_eq_true, Bool.not_true, cond_false, impl_GoodEvent_eq]
    rw [show goodEv (e.1, e.2.1, e.2.2.1, e.2.2.2) = false from hg]
    simp only [beq_self_eq_true, Bool.not_true, cond_false]
    exact half hn hl hb hm k
  | true =>
    rw [if_pos rfl, spec_EventBytes_eq c1 (by omega), hg, if_pos rfl]
    simp only [beq_self_eq_true, Bool.not_true, cond_false, impl_GoodEvent_eq]
    rw [show goodEv (e.1, e.2.1, e.2.2.1, e.2.2.2) = true from hg, impl_ReadEvent_eq hg]
    simp only [beq_self_eq_true, Bool.not_true, cond_false, cond_true, Bool.and_self]
    exact half hn hl hb hm k
theorem plain : Plain := fun l m hl hm _ k => ⟨_, law (Nat.le_refl _) (fun x hx => hl.2 x hx) (fun x hx => hm.2 x hx) hl.1 hm.1 k⟩
end Go.Am.G
