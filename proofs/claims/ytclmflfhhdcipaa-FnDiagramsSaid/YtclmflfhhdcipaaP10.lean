/- The plain law: what the functions compute answers as the law says, for all arguments. -/
import Derived.Test.YtclmflfhhdcipaaF10
set_option linter.unusedVariables false
set_option linter.unusedSimpArgs false
namespace Go.Am.G
open Go Go.Am
theorem wrap64 {x : Int} (h1 : -9223372036854775808 ≤ x) (h2 : x ≤ 9223372036854775807) : IntKind.wrap .i64 x = x := by
  simp only [IntKind.wrap, IntKind.signed, IntKind.bits]
  simp
  omega
theorem getD_at {α : Type} (l : List α) (d : α) {j : Nat} (h : j < l.length) : l.getD (Int.toNat (j : Int)) d = l[j] := by
  rw [Int.toNat_natCast, List.getD_eq_getElem?_getD, List.getElem?_eq_getElem h]; rfl
theorem dlt {a b : Nat} (h : a < b) : decide ((a : Int) < (b : Int)) = true := decide_eq_true (by omega)
theorem dge {a b : Nat} (h : b ≤ a) : decide ((a : Int) < (b : Int)) = false := decide_eq_false (by omega)
theorem dnn (a : Nat) : decide (0 ≤ (a : Int)) = true := decide_eq_true (by omega)
theorem wrapS {j m : Nat} (h : j < m) (hm : m ≤ 9223372036854775807) : IntKind.wrap .i64 ((j : Int) + 1) = ((j + 1 : Nat) : Int) := by
  rw [wrap64 (by omega) (by omega)]; rfl
theorem spec_l1In_eq {R : Type} (n : Nat) (x a b : Int) (k : Bool → Option R) : spec_l1In n x a b k = k (decide (a ≤ x ∧ x ≤ b)) := by
  simp only [spec_l1In]
  by_cases h : x ≥ a
  · have : a ≤ x := h
    simp [this]
  · have : ¬ a ≤ x := h
    simp [this]
theorem impl_in_eq {R : Type} (n : Nat) (x a b : Int) (k : Bool → Option R) : impl_in n x a b k = k (decide (a ≤ x ∧ x ≤ b)) := by
  simp only [impl_in]
  by_cases h : x ≥ a
  · have : a ≤ x := h
    simp [this]
  · have : ¬ a ≤ x := h
    simp [this]
def U (b : BitVec 64) : Int := (b.toNat : Int)
theorem U_inj {a b : BitVec 64} (h : U a = U b) : a = b := BitVec.eq_of_toNat_eq (by unfold U at h; omega)
theorem U_beq (a b : BitVec 64) : (U a == U b) = decide (a = b) := by
  by_cases c : a = b
  · subst c; simp
  · rw [decide_eq_false c]
    simpa using fun h => c (U_inj h)
theorem of_U (b : BitVec 64) : BitVec.ofInt 64 (U b) = b := by
  show BitVec.ofInt 64 (b.toNat : Int) = b
  rw [BitVec.ofInt_natCast, BitVec.ofNat_toNat, BitVec.setWidth_eq]
theorem wrap_u {x : Int} (h0 : 0 ≤ x) (h1 : x < 18446744073709551616) : IntKind.wrap .u64 x = x := by
  simp only [IntKind.wrap, IntKind.signed, IntKind.bits]
  simp
  omega
theorem U_lt (b : BitVec 64) : 0 ≤ U b ∧ U b < 18446744073709551616 := by
  have := b.isLt
  unfold U
  omega
theorem wrap_U (b : BitVec 64) : IntKind.wrap .u64 (Int.ofNat b.toNat) = U b := wrap_u (U_lt b).1 (U_lt b).2
theorem wrap_U' (b : BitVec 64) : IntKind.wrap .u64 ((b.toNat : Nat) : Int) = U b := wrap_u (U_lt b).1 (U_lt b).2
theorem or_U (a b : BitVec 64) : IntKind.wrap .u64 (Int.ofNat (BitVec.toNat (BitVec.ofInt (IntKind.bits .u64) (U a) ||| BitVec.ofInt (IntKind.bits .u64) (U b)))) = U (a ||| b) := by
  show IntKind.wrap .u64 (Int.ofNat (BitVec.toNat (BitVec.ofInt 64 (U a) ||| BitVec.ofInt 64 (U b)))) = _
  rw [of_U, of_U, wrap_U]
theorem and_U (a b : BitVec 64) : IntKind.wrap .u64 (Int.ofNat (BitVec.toNat (BitVec.ofInt (IntKind.bits .u64) (U a) &&& BitVec.ofInt (IntKind.bits .u64) (U b)))) = U (a &&& b) := by
  show IntKind.wrap .u64 (Int.ofNat (BitVec.toNat (BitVec.ofInt 64 (U a) &&& BitVec.ofInt 64 (U b)))) = _
  rw [of_U, of_U, wrap_U]
theorem andn_U (a b : BitVec 64) : IntKind.wrap .u64 (Int.ofNat (BitVec.toNat (BitVec.ofInt (IntKind.bits .u64) (U a) &&& ~~~ BitVec.ofInt (IntKind.bits .u64) (U b)))) = U (a &&& ~~~ b) := by
  show IntKind.wrap .u64 (Int.ofNat (BitVec.toNat (BitVec.ofInt 64 (U a) &&& ~~~ BitVec.ofInt 64 (U b)))) = _
  rw [of_U, of_U, wrap_U]
theorem not_U (b : BitVec 64) : IntKind.wrap .u64 (BitVec.toNat (BitVec.ofInt (IntKind.bits .u64) (18446744073709551615) ^^^ BitVec.ofInt (IntKind.bits .u64) (U b))) = U (~~~ b) := by
  show IntKind.wrap .u64 ((BitVec.toNat (BitVec.ofInt 64 (U (BitVec.allOnes 64)) ^^^ BitVec.ofInt 64 (U b)) : Nat) : Int) = _
  rw [of_U, of_U, wrap_U', BitVec.allOnes_xor]
theorem shl_U (b : BitVec 64) (s : Nat) : IntKind.wrap .u64 (U b * 2 ^ s) = U (b <<< s) := by
  unfold U
  rw [BitVec.toNat_shiftLeft, Nat.shiftLeft_eq]
  simp only [IntKind.wrap, IntKind.signed, IntKind.bits]
  simp
theorem shr_U (b : BitVec 64) (s : Nat) : Int.fdiv (U b) (2 ^ s) = U (b >>> s) := by
  unfold U
  rw [BitVec.toNat_ushiftRight, Nat.shiftRight_eq_div_pow, Int.fdiv_eq_ediv_of_nonneg _ (Int.le_of_lt (Int.pow_pos (by omega)))]
  simp
theorem U_zero : U 0 = 0 := rfl
theorem U_all : U (BitVec.allOnes 64) = 18446744073709551615 := rfl
/-- A variable's table. -/
def mkM (v : Nat) : Nat → BitVec 64
  | 0 => 0
  | j + 1 => bif j.testBit v then mkM v j ||| BitVec.twoPow 64 j else mkM v j
def msk (v : Nat) : BitVec 64 := mkM v 64
theorem mkM_bit (v : Nat) : ∀ (j i : Nat), j ≤ 64 → i < 64 → (mkM v j).getLsbD i = (decide (i < j) && i.testBit v)
  | 0, i, _, _ => by simp [mkM]
  | j + 1, i, hj, hi => by
    have ih := mkM_bit v j i (by omega) hi
    unfold mkM
    cases hb : j.testBit v with
    | true =>
      simp only [cond_true]
      rw [BitVec.getLsbD_or, ih, BitVec.getLsbD_twoPow]
      by_cases c : i = j
      · subst c; simp [hb]; omega
      · have : (i < j + 1) = (i < j) := by rw [eq_iff_iff]; omega
        simp [this]; omega
    | false =>
      simp only [cond_false]
      rw [ih]
      by_cases c : i = j
      · subst c; simp [hb]
      · have : (i < j + 1) = (i < j) := by rw [eq_iff_iff]; omega
        simp [this]
theorem msk_bit {v i : Nat} (hi : i < 64) : (msk v).getLsbD i = i.testBit v := by
  unfold msk
  rw [mkM_bit v 64 i (by omega) hi]
  simp [hi]
theorem var_bit : ∀ j : Fin 64, ∀ v : Fin 6, ((IntKind.wrap .i64 (Int.ofNat (BitVec.toNat (BitVec.ofInt (IntKind.bits .i64) (Int.fdiv ((j.val : Nat) : Int) (2 ^ (min (Int.toNat ((v.val : Nat) : Int)) (IntKind.bits .i64)))) &&& BitVec.ofInt (IntKind.bits .i64) 1)))) == 1) = j.val.testBit v.val := by decide +kernel
theorem pow_U : ∀ j : Fin 64, IntKind.wrap .u64 (1 * 2 ^ (min (Int.toNat ((j.val : Nat) : Int)) (IntKind.bits .u64))) = U (BitVec.twoPow 64 j.val) := by decide +kernel
theorem var_u : ∀ v : Fin 7, IntKind.wrap .u64 ((v.val : Nat) : Int) = ((v.val : Nat) : Int) := by decide +kernel
theorem impl_var_loop {R : Type} {v : Nat} (hv : v < 6) (k : Int → Option R) : ∀ (c n j : Nat), c < n → j + c = 64 → impl_varTruth_l3 n (v : Int) (U (mkM v j)) (j : Int) k = k (U (msk v))
  | _, 0, _, h, _ => by omega
  | 0, n + 1, j, _, hj => by
    have : j = 64 := by omega
    subst this
    rw [impl_varTruth_l3, decide_eq_false (show ¬ ((64 : Nat) : Int) < 64 by omega)]; rfl
  | c + 1, n + 1, j, hn, hj => by
    have hlt : j < 64 := by omega
    have hb := var_bit ⟨j, hlt⟩ ⟨v, hv⟩
    have hp := pow_U ⟨j, hlt⟩
    dsimp only at hb hp
    rw [impl_varTruth_l3]
    rw [decide_eq_true (show (j : Int) < 64 by omega), dnn, dnn, hb, hp, or_U, wrapS hlt (by omega)]
    simp only [cond_true]
    have ih := impl_var_loop hv k c n (j + 1) (by omega) (by omega)
    unfold mkM at ih
    cases htb : j.testBit v with
    | true => rw [htb] at ih; exact ih
    | false => rw [htb] at ih; exact ih
theorem impl_var_eq {R : Type} {n v : Nat} (hv : v < 6) (hn : 70 ≤ n) (k : Int → Option R) : impl_varTruth n (v : Int) k = k (U (msk v)) := by
  have := impl_var_loop hv k 64 n 0 (by omega) (by omega)
  unfold impl_varTruth
  exact this
theorem spec_var_loop {R : Type} {v : Nat} (hv : v < 6) (k : Int → Option R) : ∀ (c n j : Nat), c < n → j + c = 64 → spec_l7Var_l3 n (v : Int) (U (mkM v j)) (j : Int) k = k (U (msk v))
  | _, 0, _, h, _ => by omega
  | 0, n + 1, j, _, hj => by
    have : j = 64 := by omega
    subst this
    rw [spec_l7Var_l3, decide_eq_false (show ¬ ((64 : Nat) : Int) < 64 by omega)]; rfl
  | c + 1, n + 1, j, hn, hj => by
    have hlt : j < 64 := by omega
    have hb := var_bit ⟨j, hlt⟩ ⟨v, hv⟩
    have hp := pow_U ⟨j, hlt⟩
    have hu := var_u ⟨v, by omega⟩
    dsimp only at hb hp hu
    rw [spec_l7Var_l3]
    rw [decide_eq_true (show (j : Int) < 64 by omega), hu, wrap_u (x := (j : Int)) (by omega) (by omega), dnn, dnn, hb, hp, or_U, wrapS hlt (by omega)]
    simp only [cond_true]
    have ih := spec_var_loop hv k c n (j + 1) (by omega) (by omega)
    unfold mkM at ih
    cases htb : j.testBit v with
    | true => rw [htb] at ih; exact ih
    | false => rw [htb] at ih; exact ih
theorem spec_var_eq {R : Type} {n v : Nat} (hv : v < 6) (hn : 70 ≤ n) (k : Int → Option R) : spec_l7Var n (v : Int) k = k (U (msk v)) := by
  have := spec_var_loop hv k 64 n 0 (by omega) (by omega)
  unfold spec_l7Var
  exact this
/-- A table with a variable no or yes. -/
def hv (t : BitVec 64) (v : Nat) : Bool → BitVec 64
  | true => (t &&& msk v) ||| ((t &&& msk v) >>> (2 ^ v))
  | false => (t &&& ~~~ msk v) ||| ((t &&& ~~~ msk v) <<< (2 ^ v))
theorem two_i : ∀ v : Fin 6, IntKind.wrap .i64 (1 * 2 ^ (min (Int.toNat ((v.val : Nat) : Int)) (IntKind.bits .i64))) = ((2 ^ v.val : Nat) : Int) := by decide +kernel
theorem two_u : ∀ v : Fin 6, IntKind.wrap .u64 (1 * 2 ^ (min (Int.toNat ((v.val : Nat) : Int)) (IntKind.bits .u64))) = ((2 ^ v.val : Nat) : Int) := by decide +kernel
theorem two_min : ∀ v : Fin 6, min (Int.toNat ((2 ^ v.val : Nat) : Int)) (IntKind.bits .u64) = 2 ^ v.val := by decide +kernel
theorem impl_with_eq {R : Type} {n v : Nat} (h6 : v < 6) (hn : 70 ≤ n) (t : BitVec 64) (b : Bool) (k : Int → Option R) : impl_truth_with n (U t) (v : Int) b k = k (U (hv t v b)) := by
  have h1 := two_i ⟨v, h6⟩
  have h2 := two_min ⟨v, h6⟩
  dsimp only at h1 h2
  unfold impl_truth_with
  rw [impl_var_eq h6 hn, dnn, h1, dnn, h2, and_U, andn_U, shr_U, shl_U, or_U, or_U]
  cases b <;> rfl
theorem spec_half_eq {R : Type} {n v : Nat} (h6 : v < 6) (hn : 70 ≤ n) (t : BitVec 64) (b : Bool) (k : Int → Option R) : spec_l7Half n (U t) (v : Int) b k = k (U (hv t v b)) := by
  have h1 := two_u ⟨v, h6⟩
  have h2 := two_min ⟨v, h6⟩
  have hu := var_u ⟨v, by omega⟩
  dsimp only at h1 h2 hu
  unfold spec_l7Half
  rw [spec_var_eq h6 hn, hu, dnn, h1, dnn, h2, and_U, andn_U, shr_U, shl_U, or_U, or_U]
  cases b <;> rfl
def st (i v : Nat) (b : Bool) : Nat := bif i.testBit v == b then i else bif b then i + 2 ^ v else i - 2 ^ v
theorem st_lt : ∀ i : Fin 64, ∀ v : Fin 6, ∀ b, st i.val v.val b < 64 := by decide +kernel
theorem st_same : ∀ i : Fin 64, ∀ v : Fin 6, ∀ b c, st (st i.val v.val b) v.val c = st i.val v.val c := by decide +kernel
theorem st_comm : ∀ i : Fin 64, ∀ u v : Fin 6, u ≠ v → ∀ b c, st (st i.val u.val b) v.val c = st (st i.val v.val c) u.val b := by decide +kernel
theorem st_low : ∀ i : Fin 64, st (st (st (st (st (st i.val 0 false) 1 false) 2 false) 3 false) 4 false) 5 false = 0 := by decide +kernel
theorem st_add : ∀ i : Fin 64, ∀ v : Fin 6, i.val.testBit v.val = false → i.val + 2 ^ v.val < 64 ∧ (i.val + 2 ^ v.val).testBit v.val = true := by decide +kernel
theorem st_add' : ∀ i : Fin 64, ∀ v : Fin 6, i.val.testBit v.val = true → i.val + 2 ^ v.val < 64 → (i.val + 2 ^ v.val).testBit v.val = false := by decide +kernel
theorem st_sub : ∀ i : Fin 64, ∀ v : Fin 6, i.val.testBit v.val = true → 2 ^ v.val ≤ i.val ∧ (i.val - 2 ^ v.val).testBit v.val = false := by decide +kernel
theorem st_sub' : ∀ i : Fin 64, ∀ v : Fin 6, i.val.testBit v.val = false → 2 ^ v.val ≤ i.val → (i.val - 2 ^ v.val).testBit v.val = true := by decide +kernel
theorem hv_bit {t : BitVec 64} {v i : Nat} (h6 : v < 6) (hi : i < 64) (b : Bool) : (hv t v b).getLsbD i = t.getLsbD (st i v b) := by
  cases b with
  | true =>
    unfold hv st
    rw [BitVec.getLsbD_or, BitVec.getLsbD_and, msk_bit hi, BitVec.getLsbD_ushiftRight, BitVec.getLsbD_and]
    cases hb : i.testBit v with
    | true =>
      have : (msk v).getLsbD (2 ^ v + i) = false := by
        by_cases c : i + 2 ^ v < 64
        · rw [Nat.add_comm, msk_bit c]; exact st_add' ⟨i, hi⟩ ⟨v, h6⟩ hb c
        · exact BitVec.getLsbD_of_ge _ _ (by omega)
      rw [this]; simp
    | false =>
      obtain ⟨h1, h2⟩ := st_add ⟨i, hi⟩ ⟨v, h6⟩ hb
      dsimp only at h1 h2
      rw [Nat.add_comm, msk_bit h1, h2]; simp
  | false =>
    unfold hv st
    rw [BitVec.getLsbD_or, BitVec.getLsbD_and, BitVec.getLsbD_not, msk_bit hi, BitVec.getLsbD_shiftLeft, BitVec.getLsbD_and, BitVec.getLsbD_not]
    cases hb : i.testBit v with
    | true =>
      obtain ⟨h1, h2⟩ := st_sub ⟨i, hi⟩ ⟨v, h6⟩ hb
      dsimp only at h1 h2
      have h3 : ¬ i < 2 ^ v := Nat.not_lt.2 h1
      have h4 : i - 2 ^ v < 64 := Nat.lt_of_le_of_lt (Nat.sub_le _ _) hi
      rw [msk_bit h4, h2]
      simp [hi, h3, h4]
    | false =>
      by_cases c : 2 ^ v ≤ i
      · have h2 := st_sub' ⟨i, hi⟩ ⟨v, h6⟩ hb c
        dsimp only at h2
        rw [msk_bit (Nat.lt_of_le_of_lt (Nat.sub_le _ _) hi), h2]
        simp [hi]
      · have : decide (i < 2 ^ v) = true := by simp; omega
        rw [this]
        simp [hi]
theorem bv_ext {a b : BitVec 64} (h : ∀ i, i < 64 → a.getLsbD i = b.getLsbD i) : a = b := BitVec.eq_of_getLsbD_eq h
def Ind (t : BitVec 64) (v : Nat) : Prop := hv t v false = hv t v true
theorem Ind.bit {t : BitVec 64} {v : Nat} (h6 : v < 6) (h : Ind t v) {i : Nat} (hi : i < 64) (b : Bool) : t.getLsbD (st i v b) = t.getLsbD i := by
  have e := fun i (hi : i < 64) => congrArg (fun x => BitVec.getLsbD x i) h
  have e1 : t.getLsbD (st i v false) = t.getLsbD (st i v true) := by
    have := e i hi
    rwa [hv_bit h6 hi, hv_bit h6 hi] at this
  have e2 : st i v (i.testBit v) = i := by unfold st; simp
  cases b <;> cases hb : i.testBit v <;> rw [hb] at e2
  · rw [e2]
  · rw [e1, e2]
  · rw [← e1, e2]
  · rw [e2]
theorem Ind.half {t : BitVec 64} {u v : Nat} (hu : u < 6) (h6 : v < 6) (h : Ind t u) (b : Bool) : Ind (hv t v b) u := by
  refine bv_ext fun i hi => ?_
  have l1 := st_lt ⟨i, hi⟩ ⟨u, hu⟩
  have l2 := st_lt ⟨i, hi⟩ ⟨v, h6⟩
  dsimp only at l1 l2
  rw [hv_bit hu hi, hv_bit hu hi, hv_bit h6 (l1 _), hv_bit h6 (l1 _)]
  by_cases c : u = v
  · subst c
    have s := st_same ⟨i, hi⟩ ⟨u, hu⟩
    dsimp only at s
    rw [s, s]
  · have s := st_comm ⟨i, hi⟩ ⟨u, hu⟩ ⟨v, h6⟩ (fun e => c (congrArg Fin.val e))
    dsimp only at s
    rw [s, s, h.bit hu (l2 _), h.bit hu (l2 _)]
theorem ind_own {t : BitVec 64} {v : Nat} (h6 : v < 6) (b : Bool) : Ind (hv t v b) v := by
  refine bv_ext fun i hi => ?_
  have l1 := st_lt ⟨i, hi⟩ ⟨v, h6⟩
  have s := st_same ⟨i, hi⟩ ⟨v, h6⟩
  dsimp only at l1 s
  rw [hv_bit h6 hi, hv_bit h6 hi, hv_bit h6 (l1 _), hv_bit h6 (l1 _), s, s]
theorem Ind.const {t : BitVec 64} (h : ∀ u, u < 6 → Ind t u) : t = 0 ∨ t = BitVec.allOnes 64 := by
  have key : ∀ i, i < 64 → t.getLsbD i = t.getLsbD 0 := fun i hi => by
    have lt := fun (i : Nat) (hi : i < 64) (v : Nat) (hv : v < 6) => st_lt ⟨i, hi⟩ ⟨v, hv⟩ false
    dsimp only at lt
    have l := st_low ⟨i, hi⟩
    dsimp only at l
    have h0 := lt i hi 0 (by omega)
    have h1 := lt _ h0 1 (by omega)
    have h2 := lt _ h1 2 (by omega)
    have h3 := lt _ h2 3 (by omega)
    have h4 := lt _ h3 4 (by omega)
    rw [← l, (h 5 (by omega)).bit (by omega) h4, (h 4 (by omega)).bit (by omega) h3, (h 3 (by omega)).bit (by omega) h2, (h 2 (by omega)).bit (by omega) h1, (h 1 (by omega)).bit (by omega) h0, (h 0 (by omega)).bit (by omega) hi]
  cases hb : t.getLsbD 0 with
  | false => exact .inl (bv_ext fun i hi => by rw [key i hi, hb]; simp)
  | true => exact .inr (bv_ext fun i hi => by rw [key i hi, hb, BitVec.getLsbD_allOnes, decide_eq_true hi])
/-- Out of its halves. -/
def ite64 (v : Nat) (a b : BitVec 64) : BitVec 64 := (a &&& ~~~ msk v) ||| (b &&& msk v)
theorem ite64_bit {v : Nat} {a b : BitVec 64} {i : Nat} (hi : i < 64) : (ite64 v a b).getLsbD i = bif i.testBit v then b.getLsbD i else a.getLsbD i := by
  unfold ite64
  rw [BitVec.getLsbD_or, BitVec.getLsbD_and, BitVec.getLsbD_and, BitVec.getLsbD_not, msk_bit hi]
  cases i.testBit v <;> simp [hi]
theorem ite64_half {t : BitVec 64} {v : Nat} (h6 : v < 6) : ite64 v (hv t v false) (hv t v true) = t := bv_ext fun i hi => by
  rw [ite64_bit hi, hv_bit h6 hi, hv_bit h6 hi]
  have e2 : st i v (i.testBit v) = i := by unfold st; simp
  cases hb : i.testBit v <;> rw [hb] at e2 <;> simp [e2]
def tabAt (T : List (BitVec 64)) (k : Int) : BitVec 64 := if k = -2 then 0 else if k = -1 then BitVec.allOnes 64 else T.getD k.toNat 0
theorem tabAt_no (T : List (BitVec 64)) : tabAt T (-2) = 0 := by unfold tabAt; rw [if_pos rfl]
theorem tabAt_yes (T : List (BitVec 64)) : tabAt T (-1) = BitVec.allOnes 64 := by unfold tabAt; rw [if_neg (by omega), if_pos rfl]
theorem tabAt_nat {T : List (BitVec 64)} {j : Nat} {t : BitVec 64} (h : T[j]? = some t) : tabAt T (j : Int) = t := by
  unfold tabAt
  rw [if_neg (by omega), if_neg (by omega), Int.toNat_natCast, List.getD_eq_getElem?_getD, h]; rfl
theorem tabAt_app {T e : List (BitVec 64)} {k : Int} (h0 : -2 ≤ k) (h : k < T.length) : tabAt (T ++ e) k = tabAt T k := by
  unfold tabAt
  split
  · rfl
  · split
    · rfl
    · rw [List.getD_eq_getElem?_getD, List.getD_eq_getElem?_getD, List.getElem?_append_left (by omega)]
structure Ent (l : List (Int × Int × Int)) (T : List (BitVec 64)) (j : Nat) (t : BitVec 64) (v : Nat) (a b : Int) : Prop where
  v6 : v < 6
  get : l[j]? = some ((v : Int), a, b)
  a0 : -2 ≤ a
  a1 : a < j
  b0 : -2 ≤ b
  b1 : b < j
  ind : ∀ u, u < v → Ind t u
  dep : ¬ Ind t v
  no : tabAt T a = hv t v false
  yes : tabAt T b = hv t v true
structure Built (l : List (Int × Int × Int)) (T : List (BitVec 64)) : Prop where
  len : l.length = T.length
  nd : ∀ (i j : Nat) (t : BitVec 64), T[i]? = some t → T[j]? = some t → i = j
  ne : ∀ (j : Nat) (t : BitVec 64), T[j]? = some t → t ≠ 0 ∧ t ≠ BitVec.allOnes 64
  ent : ∀ (j : Nat) (t : BitVec 64), T[j]? = some t → ∃ v a b, Ent l T j t v a b
theorem Ent.table {l : List (Int × Int × Int)} {T : List (BitVec 64)} {j : Nat} {t : BitVec 64} {v : Nat} {a b : Int} (h : Ent l T j t v a b) : t = ite64 v (tabAt T a) (tabAt T b) := by
  rw [h.no, h.yes, ite64_half h.v6]
def Kn (K : List (Int × Int)) (T : List (BitVec 64)) : Prop := (∀ (j : Nat) (t : BitVec 64), T[j]? = some t → List.lookup (U t) K = some (j : Int)) ∧ ∀ t, t ∉ T → List.lookup (U t) K = none
/-- What stands where, told by its table. -/
theorem Built.at' {l : List (Int × Int × Int)} {T : List (BitVec 64)} (h : Built l T) {k r : Int} (k0 : -2 ≤ k) (k1 : k < l.length) (r0 : -2 ≤ r) (r1 : r < l.length) (e : tabAt T k = tabAt T r) : k = r := by
  have hl := h.len
  have nat : ∀ {k : Int}, 0 ≤ k → k < l.length → ∃ t, T[k.toNat]? = some t ∧ tabAt T k = t := fun {k} h0 h1 => by
    have hlt : k.toNat < T.length := by omega
    refine ⟨T[k.toNat], List.getElem?_eq_getElem hlt, ?_⟩
    have := tabAt_nat (List.getElem?_eq_getElem hlt)
    rwa [Int.toNat_of_nonneg h0] at this
  have two : ∀ {k : Int}, -2 ≤ k → k < 0 → k = -2 ∨ k = -1 := fun h0 h1 => by omega
  have z : (0 : BitVec 64) ≠ BitVec.allOnes 64 := by decide
  by_cases c : 0 ≤ k
  · obtain ⟨t, h1, h2⟩ := nat c k1
    have hne := h.ne _ _ h1
    by_cases d : 0 ≤ r
    · obtain ⟨s, h3, h4⟩ := nat d r1
      rw [h2, h4] at e
      subst e
      have := h.nd _ _ _ h1 h3
      omega
    · rcases two r0 (by omega) with d | d <;> subst d
      · rw [h2, tabAt_no] at e; exact absurd e hne.1
      · rw [h2, tabAt_yes] at e; exact absurd e hne.2
  · by_cases d : 0 ≤ r
    · obtain ⟨s, h3, h4⟩ := nat d r1
      have hne := h.ne _ _ h3
      rcases two k0 (by omega) with c | c <;> subst c
      · rw [h4, tabAt_no] at e; exact absurd e.symm hne.1
      · rw [h4, tabAt_yes] at e; exact absurd e.symm hne.2
    · rcases two k0 (by omega) with c | c <;> rcases two r0 (by omega) with d | d <;> subst c <;> subst d
      · rfl
      · rw [tabAt_no, tabAt_yes] at e; exact absurd e z
      · rw [tabAt_no, tabAt_yes] at e; exact absurd e.symm z
      · rfl
theorem impl_l10 {R : Type} {t : BitVec 64} {d : Nat} (hd : d < 6) (hi : ∀ u, u < d → Ind t u) (hn : ¬ Ind t d) (l : List (Int × Int × Int)) (K : List (Int × Int)) (k : Int → Int → List (Int × Int × Int) → List (Int × Int) → Option R) : ∀ (c n j : Nat), c + 80 < n → j + c = d → impl_builder_node_l10 n (U t) (j : Int) l K k = k (U t) (d : Int) l K
  | _, 0, _, h, _ => by omega
  | 0, n + 1, j, h, hj => by
    have : j = d := by omega
    subst this
    rw [impl_builder_node_l10, impl_with_eq hd (by omega), impl_with_eq hd (by omega), U_beq, decide_eq_false (show ¬ hv t j false = hv t j true from hn)]; rfl
  | c + 1, n + 1, j, h, hj => by
    rw [impl_builder_node_l10, impl_with_eq (by omega) (by omega), impl_with_eq (by omega) (by omega), U_beq, decide_eq_true (show hv t j false = hv t j true from hi j (by omega)), cond_true, wrapS (m := 10) (by omega) (by omega)]
    exact impl_l10 hd hi hn l K k c n (j + 1) (by omega) (by omega)
theorem cho_eq (l : List (Int × Int × Int)) {j : Nat} (h : j < l.length) (v a b : Int) : ((l[j].1 == v) && ((l[j].2.1 == a) && ((l[j].2.2 == b) && true))) = decide (l[j] = (v, a, b)) := by
  rw [Bool.eq_iff_iff]
  simp [Prod.ext_iff]
theorem spec_l14_found {R : Type} {l : List (Int × Int × Int)} (hl : l.length ≤ 1000) (v a b : Int) {i : Nat} (hi : l[i]? = some (v, a, b)) (hu : ∀ i' : Nat, l[i']? = some (v, a, b) → i' = i) (kr : Int → List (Int × Int × Int) → Option R) (ke : List (Int × Int × Int) → Int → Int → Int → Option R) : ∀ (c n j : Nat), c < n → j + c = i → spec_l7Build_l14 n (l.length : Int) (j : Int) l v a b kr ke = kr (i : Int) l
  | _, 0, _, h, _ => by omega
  | 0, n + 1, j, h, hj => by
    have : j = i := by omega
    subst this
    obtain ⟨hlt, e⟩ := List.getElem?_eq_some_iff.1 hi
    rw [spec_l7Build_l14, dlt hlt, dnn, getD_at _ _ hlt, cho_eq l hlt, decide_eq_true e]; rfl
  | c + 1, n + 1, j, h, hj => by
    obtain ⟨hlt, e⟩ := List.getElem?_eq_some_iff.1 hi
    have hj' : j < l.length := by omega
    rw [spec_l7Build_l14, dlt hj', dnn, getD_at _ _ hj', cho_eq l hj', decide_eq_false (fun e => by have := hu j (by rw [List.getElem?_eq_getElem hj', e]); omega), wrapS hj' (by omega)]
    exact spec_l14_found hl v a b hi hu kr ke c n (j + 1) (by omega) (by omega)
theorem spec_l14_none {R : Type} {l : List (Int × Int × Int)} (hl : l.length ≤ 1000) (v a b : Int) (hu : ∀ i : Nat, l[i]? ≠ some (v, a, b)) (kr : Int → List (Int × Int × Int) → Option R) (ke : List (Int × Int × Int) → Int → Int → Int → Option R) : ∀ (c n j : Nat), c < n → j + c = l.length → spec_l7Build_l14 n (l.length : Int) (j : Int) l v a b kr ke = ke l v a b
  | _, 0, _, h, _ => by omega
  | 0, n + 1, j, h, hj => by rw [spec_l7Build_l14, dge (by omega)]; rfl
  | c + 1, n + 1, j, h, hj => by
    have hj' : j < l.length := by omega
    rw [spec_l7Build_l14, dlt hj', dnn, getD_at _ _ hj', cho_eq l hj', decide_eq_false (fun e => hu j (by rw [List.getElem?_eq_getElem hj', e])), wrapS hj' (by omega)]
    exact spec_l14_none hl v a b hu kr ke c n (j + 1) (by omega) (by omega)
/-- What building a table comes to. -/
structure Node (d c : Nat) (t : BitVec 64) (l : List (Int × Int × Int)) (T : List (BitVec 64)) (K : List (Int × Int)) (r : Int) (l' : List (Int × Int × Int)) (T' : List (BitVec 64)) (K' : List (Int × Int)) : Prop where
  built : Built l' T'
  kn : Kn K' T'
  ext : ∃ eL eT, l' = l ++ eL ∧ T' = T ++ eT ∧ ∀ x ∈ eT, ∀ u, u < d → Ind x u
  tab : tabAt T' r = t
  r0 : -2 ≤ r
  r1 : r < l'.length
  size : l'.length + 1 ≤ l.length + 2 ^ c
  old : ∀ r' : Int, -2 ≤ r' → r' < l.length → tabAt T r' = t → r = r' ∧ l' = l ∧ T' = T ∧ K' = K
  last : l' = l ∨ r + 1 = l'.length
  impl : ∀ (n : Nat), c + 100 ≤ n → ∀ (R : Type) (k : Int → List (Int × Int × Int) → List (Int × Int) → Option R), impl_builder_node n (U t) l K k = k r l' K'
  spec : ∀ (n : Nat), c + 1100 ≤ n → ∀ (R : Type) (k : Int → List (Int × Int × Int) → Option R), spec_l7Build n (U t) (d : Int) l k = k r l'
theorem node_const {d c : Nat} {t : BitVec 64} {l : List (Int × Int × Int)} {T : List (BitVec 64)} {K : List (Int × Int)} (hB : Built l T) (hK : Kn K T) (ht : t = 0 ∨ t = BitVec.allOnes 64) : ∃ r, Node d c t l T K r l T K := by
  have hp : 1 ≤ 2 ^ c := Nat.one_le_two_pow
  have z : (0 : BitVec 64) ≠ BitVec.allOnes 64 := by decide
  rcases ht with rfl | rfl
  · refine ⟨-2, hB, hK, ⟨[], [], by simp, by simp, fun x hx => by simp at hx⟩, tabAt_no T, by omega, by omega, by omega, fun r' h0 h1 e => ⟨hB.at' (by omega) (by omega) h0 h1 (by rw [e, tabAt_no]), rfl, rfl, rfl⟩, .inl rfl, fun n hn R k => ?_, fun n hn R k => ?_⟩
    · obtain ⟨m, rfl⟩ : ∃ m, n = m + 1 := ⟨n - 1, by omega⟩
      rw [impl_builder_node, U_zero]; rfl
    · obtain ⟨m, rfl⟩ : ∃ m, n = m + 1 := ⟨n - 1, by omega⟩
      rw [spec_l7Build, U_zero]; rfl
  · refine ⟨-1, hB, hK, ⟨[], [], by simp, by simp, fun x hx => by simp at hx⟩, tabAt_yes T, by omega, by omega, by omega, fun r' h0 h1 e => ⟨hB.at' (by omega) (by omega) h0 h1 (by rw [e, tabAt_yes]), rfl, rfl, rfl⟩, .inl rfl, fun n hn R k => ?_, fun n hn R k => ?_⟩
    · obtain ⟨m, rfl⟩ : ∃ m, n = m + 1 := ⟨n - 1, by omega⟩
      rw [impl_builder_node, U_all]; rfl
    · obtain ⟨m, rfl⟩ : ∃ m, n = m + 1 := ⟨n - 1, by omega⟩
      rw [spec_l7Build, U_all]; rfl
theorem U_ne {t : BitVec 64} (h : t ≠ 0) : (U t == 0) = false := by rw [← U_zero, U_beq, decide_eq_false h]
theorem U_na {t : BitVec 64} (h : t ≠ BitVec.allOnes 64) : (U t == 18446744073709551615) = false := by rw [← U_all, U_beq, decide_eq_false h]
theorem node_ex : ∀ (c d : Nat) (t : BitVec 64) (l : List (Int × Int × Int)) (T : List (BitVec 64)) (K : List (Int × Int)), c + d = 6 → (∀ u, u < d → Ind t u) → Built l T → Kn K T → l.length + 2 ^ c ≤ 500 → ∃ r l' T' K', Node d c t l T K r l' T' K'
  | 0, d, t, l, T, K, hcd, hi, hB, hK, hl => by
    obtain ⟨r, h⟩ := node_const (d := d) (c := 0) hB hK (Ind.const fun u hu => hi u (by omega))
    exact ⟨r, _, _, _, h⟩
  | c + 1, d, t, l, T, K, hcd, hi, hB, hK, hl => by
    have h2 : 2 ^ (c + 1) = 2 ^ c + 2 ^ c := by rw [Nat.pow_succ]; omega
    have hp : 1 ≤ 2 ^ c := Nat.one_le_two_pow
    have hd : d < 6 := by omega
    by_cases z0 : t = 0
    · obtain ⟨r, h⟩ := node_const (d := d) (c := c + 1) hB hK (.inl z0)
      exact ⟨r, _, _, _, h⟩
    by_cases z1 : t = BitVec.allOnes 64
    · obtain ⟨r, h⟩ := node_const (d := d) (c := c + 1) hB hK (.inr z1)
      exact ⟨r, _, _, _, h⟩
    by_cases hid : Ind t d
    · obtain ⟨r, l', T', K', h⟩ := node_ex c (d + 1) t l T K (by omega) (fun u hu => by
        by_cases e : u = d
        · rw [e]; exact hid
        · exact hi u (by omega)) hB hK (by omega)
      obtain ⟨eL, eT, x1, x2, x3⟩ := h.ext
      refine ⟨r, l', T', K', h.built, h.kn, ⟨eL, eT, x1, x2, fun x hx u hu => x3 x hx u (by omega)⟩, h.tab, h.r0, h.r1, by have := h.size; omega, h.old, h.last, fun n hn R k => h.impl n (by omega) R k, fun n hn R k => ?_⟩
      obtain ⟨m, rfl⟩ : ∃ m, n = m + 1 := ⟨n - 1, by omega⟩
      rw [spec_l7Build, U_ne z0, U_na z1, cond_false, cond_false, spec_half_eq hd (by omega), spec_half_eq hd (by omega), U_beq, decide_eq_true (show hv t d false = hv t d true from hid), cond_true, wrapS (m := 10) (by omega) (by omega)]
      exact h.spec m (by omega) R k
    · -- here it parts
      have hi0 : ∀ b, ∀ u, u < d + 1 → Ind (hv t d b) u := fun b u hu => by
        by_cases e : u = d
        · rw [e]; exact ind_own hd b
        · exact (hi u (by omega)).half (by omega) hd b
      obtain ⟨a, l1, T1, K1, h1⟩ := node_ex c (d + 1) (hv t d false) l T K (by omega) (hi0 false) hB hK (by omega)
      have s1 := h1.size
      obtain ⟨b, l2, T2, K2, hb⟩ := node_ex c (d + 1) (hv t d true) l1 T1 K1 (by omega) (hi0 true) h1.built h1.kn (by omega)
      have s2 := hb.size
      obtain ⟨eL1, eT1, x1, x2, x3⟩ := h1.ext
      obtain ⟨eL2, eT2, y1, y2, y3⟩ := hb.ext
      have hT2 : T2 = T ++ (eT1 ++ eT2) := by rw [y2, x2, List.append_assoc]
      have hl2 : l2 = l ++ (eL1 ++ eL2) := by rw [y1, x1, List.append_assoc]
      have hlen1 := h1.built.len
      have hlen2 := hb.built.len
      have hlen0 := hB.len
      have ha1 := h1.r1
      have ha2 : tabAt T2 a = hv t d false := by rw [y2, tabAt_app h1.r0 (by omega)]; exact h1.tab
      have hle : l1.length ≤ l2.length := by rw [y1]; simp
      have sp : ∀ (n : Nat), (c + 1) + 1100 ≤ n + 1 → ∀ (R : Type) (k : Int → List (Int × Int × Int) → Option R), spec_l7Build (n + 1) (U t) (d : Int) l k = spec_l7Build_l14 n (l2.length : Int) 0 l2 (d : Int) a b (fun r9 r10 => k r9 r10) (fun r11 r12 r13 r14 => (bif decide (r11.length + ([(r12, (r13, r14))]).length ≤ LIM) then k (r11.length : Int) (r11 ++ [(r12, (r13, r14))]) else none)) := fun n hn R k => by
        rw [spec_l7Build, U_ne z0, U_na z1, cond_false, cond_false, spec_half_eq hd (by omega), spec_half_eq hd (by omega), U_beq, decide_eq_false (show ¬ hv t d false = hv t d true from hid), cond_false, wrapS (m := 10) (by omega) (by omega), h1.spec n (by omega)]
        rw [hb.spec n (by omega)]
      by_cases hin : t ∈ T
      · obtain ⟨j, hjl, hj⟩ := List.mem_iff_getElem.1 hin
        have hj' : T[j]? = some t := by rw [List.getElem?_eq_getElem hjl, hj]
        obtain ⟨v, a', b', he⟩ := hB.ent j t hj'
        have hvd : v = d := by
          rcases Nat.lt_trichotomy v d with g | g | g
          · exact absurd (hi v g) he.dep
          · exact g
          · exact absurd (he.ind d g) hid
        subst hvd
        have ha1' := he.a1
        have hb1' := he.b1
        obtain ⟨p1, p2, p3, p4⟩ := h1.old a' he.a0 (by omega) he.no
        subst p1 p2 p3 p4
        obtain ⟨q1, q2, q3, q4⟩ := hb.old b' he.b0 (by omega) he.yes
        subst q1 q2 q3 q4
        refine ⟨(j : Int), _, _, _, hB, hK, ⟨[], [], by simp, by simp, fun x hx => by simp at hx⟩, tabAt_nat hj', by omega, by omega, by omega, fun r' g0 g1 e => ⟨hB.at' (by omega) (by omega) g0 g1 (by rw [e, tabAt_nat hj']), rfl, rfl, rfl⟩, .inl rfl, fun n hn R k => ?_, fun n hn R k => ?_⟩
        · obtain ⟨m, rfl⟩ : ∃ m, n = m + 1 := ⟨n - 1, by omega⟩
          rw [impl_builder_node, U_ne z0, U_na z1, cond_false, cond_false, hK.1 j t hj']; rfl
        · obtain ⟨m, rfl⟩ : ∃ m, n = m + 1 := ⟨n - 1, by omega⟩
          rw [sp m (by omega)]
          refine spec_l14_found (by omega) _ _ _ he.get (fun i' hi' => ?_) _ _ j m 0 (by omega) (by omega)
          have hlt := (List.getElem?_eq_some_iff.1 hi').1
          have hT' : T2[i']? = some T2[i'] := List.getElem?_eq_getElem (by omega)
          obtain ⟨v2, a2, b2, he2⟩ := hB.ent i' _ hT'
          have hg := he2.get
          rw [hi'] at hg
          simp only [Option.some.injEq, Prod.mk.injEq] at hg
          obtain ⟨g1, g2, g3⟩ := hg
          have g1 : v = v2 := by omega
          subst g1 g2 g3
          have := he2.table
          rw [← he.table] at this
          exact hB.nd i' j t (by rw [hT', this]) hj'
      · have hnT : t ∉ T2 := fun hm => by
          rw [hT2] at hm
          rcases List.mem_append.1 hm with hm | hm
          · exact hin hm
          · rcases List.mem_append.1 hm with hm | hm
            · exact hid (x3 t hm d (by omega))
            · exact hid (y3 t hm d (by omega))
        have hE : Ent (l2 ++ [((d : Int), a, b)]) (T2 ++ [t]) l2.length t d a b := ⟨hd, by simp, h1.r0, by omega, hb.r0, hb.r1, hi, hid, by rw [tabAt_app h1.r0 (by omega)]; exact ha2, by rw [tabAt_app hb.r0 (by have := hb.r1; omega)]; exact hb.tab⟩
        have split2 : ∀ {j : Nat} {x : BitVec 64}, (T2 ++ [t])[j]? = some x → T2[j]? = some x ∨ (j = l2.length ∧ x = t) := fun {j x} hx => by
          by_cases g : j < T2.length
          · rw [List.getElem?_append_left g] at hx; exact .inl hx
          · have hlt := (List.getElem?_eq_some_iff.1 hx).1
            have hje : j = T2.length := by simp at hlt; omega
            subst hje
            simp at hx
            exact .inr ⟨by omega, hx.symm⟩
        have hB3 : Built (l2 ++ [((d : Int), a, b)]) (T2 ++ [t]) := by
          refine ⟨by simp [hlen2], fun i j x hx hy => ?_, fun j x hx => ?_, fun j x hx => ?_⟩
          · rcases split2 hx with hx1 | ⟨e1, e2⟩
            · rcases split2 hy with hy1 | ⟨_, e3⟩
              · exact hb.built.nd i j x hx1 hy1
              · exact absurd (e3 ▸ List.mem_of_getElem? hx1) hnT
            · rcases split2 hy with hy1 | ⟨e3, _⟩
              · exact absurd (e2 ▸ List.mem_of_getElem? hy1) hnT
              · rw [e1, e3]
          · rcases split2 hx with hx | ⟨rfl, rfl⟩
            · exact hb.built.ne j x hx
            · exact ⟨z0, z1⟩
          · rcases split2 hx with hx | ⟨rfl, rfl⟩
            · obtain ⟨v, a', b', he⟩ := hb.built.ent j x hx
              have hjl := (List.getElem?_eq_some_iff.1 hx).1
              have ga := he.a1
              have gb := he.b1
              refine ⟨v, a', b', he.v6, ?_, he.a0, he.a1, he.b0, he.b1, he.ind, he.dep, ?_, ?_⟩
              · rw [List.getElem?_append_left (by omega)]; exact he.get
              · rw [tabAt_app he.a0 (by omega)]; exact he.no
              · rw [tabAt_app he.b0 (by omega)]; exact he.yes
            · exact ⟨d, a, b, hE⟩
        refine ⟨(l2.length : Int), l2 ++ [((d : Int), a, b)], T2 ++ [t], (U t, (l2.length : Int)) :: K2, hB3, ⟨fun j x hx => ?_, fun x hx => ?_⟩, ⟨eL1 ++ eL2 ++ [((d : Int), a, b)], eT1 ++ eT2 ++ [t], by rw [hl2]; simp, by rw [hT2]; simp, fun x hx u hu => ?_⟩, tabAt_nat (by rw [hlen2]; simp), by omega, by simp; omega, by simp; omega, fun r' g0 g1 e => ?_, .inr (by simp), fun n hn R k => ?_, fun n hn R k => ?_⟩
        · rw [List.lookup_cons, U_beq]
          rcases split2 hx with hx | ⟨rfl, rfl⟩
          · rw [decide_eq_false fun e : x = t => hnT (e ▸ List.mem_of_getElem? hx)]
            exact hb.kn.1 j x hx
          · rw [decide_eq_true rfl]
        · rw [List.lookup_cons, U_beq, decide_eq_false fun e => hx (by rw [e]; simp)]
          exact hb.kn.2 x fun h => hx (List.mem_append_left _ h)
        · rcases List.mem_append.1 hx with hx | hx
          · rcases List.mem_append.1 hx with hx | hx
            · exact x3 x hx u (by omega)
            · exact y3 x hx u (by omega)
          · rw [List.mem_singleton.1 hx]; exact hi u hu
        · exfalso
          by_cases g : 0 ≤ r'
          · have hlt : r'.toNat < T.length := by omega
            have := tabAt_nat (List.getElem?_eq_getElem hlt)
            rw [Int.toNat_of_nonneg g] at this
            rw [this] at e
            exact hin (e ▸ List.getElem_mem hlt)
          · rcases (show r' = -2 ∨ r' = -1 by omega) with g | g <;> subst g
            · rw [tabAt_no] at e; exact z0 e.symm
            · rw [tabAt_yes] at e; exact z1 e.symm
        · obtain ⟨m, rfl⟩ : ∃ m, n = m + 1 := ⟨n - 1, by omega⟩
          have hl10 := fun k => impl_l10 (R := R) hd hi hid l K k d m 0 (by omega) (by omega)
          rw [show ((0 : Nat) : Int) = 0 from rfl] at hl10
          rw [impl_builder_node, U_ne z0, U_na z1, cond_false, cond_false, hK.2 t hin, hl10, impl_with_eq hd (by omega)]
          simp only [Option.isSome_none, cond_false]
          rw [h1.impl m (by omega), impl_with_eq hd (by omega), hb.impl m (by omega), decide_eq_true (show l2.length + [((d : Int), (a, b))].length ≤ LIM by simp [LIM]; omega), cond_true]
          have hw : IntKind.wrap .i64 (((l2 ++ [((d : Int), (a, b))]).length : Int) - 1) = (l2.length : Int) := by
            rw [wrap64 (by simp) (by simp; omega)]; simp
          rw [hw]
        · obtain ⟨m, rfl⟩ : ∃ m, n = m + 1 := ⟨n - 1, by omega⟩
          rw [sp m (by omega)]
          have := spec_l14_none (R := R) (l := l2) (by omega) (d : Int) a b (fun i hi' => by
            have hlt := (List.getElem?_eq_some_iff.1 hi').1
            have hT' : T2[i]? = some T2[i] := List.getElem?_eq_getElem (by omega)
            obtain ⟨v2, a2, b2, he2⟩ := hb.built.ent i _ hT'
            have hg := he2.get
            rw [hi'] at hg
            simp only [Option.some.injEq, Prod.mk.injEq] at hg
            obtain ⟨g1, g2, g3⟩ := hg
            have g1 : d = v2 := by omega
            subst g1 g2 g3
            have := he2.table
            rw [ha2, hb.tab, ite64_half hd] at this
            exact hnT (this ▸ List.getElem_mem (by omega))) (fun r9 r10 => k r9 r10) (fun r11 r12 r13 r14 => (bif decide (r11.length + ([(r12, (r13, r14))]).length ≤ LIM) then k (r11.length : Int) (r11 ++ [(r12, (r13, r14))]) else none)) l2.length m 0 (by omega) (by omega)
          rw [show ((0 : Nat) : Int) = 0 from rfl] at this
          rw [this, decide_eq_true (show l2.length + [((d : Int), (a, b))].length ≤ LIM by simp [LIM]; omega)]
          rfl
theorem built_nil : Built [] [] := ⟨rfl, fun i j t h => by simp at h, fun j t h => by simp at h, fun j t h => by simp at h⟩
theorem kn_nil : Kn [] [] := ⟨fun j t h => by simp at h, fun t _ => rfl⟩
/-- The diagram of a table: both sides'. -/
theorem diagram_ex {n : Nat} (t : BitVec 64) (hn : 2000 ≤ n) : ∃ r l T, Built l T ∧ tabAt T r = t ∧ -2 ≤ r ∧ r < l.length ∧ l.length ≤ 63 ∧ (l = [] ∨ r + 1 = l.length) ∧ (∀ (R : Type) (k : Int → Bool → List (Int × Int × Int) → Option R), impl_diagramOf n (U t) k = k r true l) ∧ ∀ (R : Type) (k : Int → Bool → List (Int × Int × Int) → Option R), spec_l7Diagram n (U t) k = k r true l := by
  obtain ⟨r, l, T, K, h⟩ := node_ex 6 0 t [] [] [] (by omega) (fun u hu => by omega) built_nil kn_nil (by simp)
  have hs := h.size
  have hl : l.length ≤ 63 := by simp at hs; omega
  refine ⟨r, l, T, h.built, h.tab, h.r0, h.r1, hl, h.last, fun R k => ?_, fun R k => ?_⟩
  · unfold impl_diagramOf
    rw [h.impl n (by omega), decide_eq_false (show ¬ (l.length : Int) > 70 by omega)]; rfl
  · have hsp := h.spec n (by omega)
    rw [show ((0 : Nat) : Int) = 0 from rfl] at hsp
    unfold spec_l7Diagram
    rw [hsp, decide_eq_true (show (l.length : Int) ≤ 70 by omega)]
theorem tabAt_map {T : List (BitVec 64)} {k : Int} (h0 : 0 ≤ k) (h1 : k < T.length) : (T.map U).getD k.toNat 0 = U (tabAt T k) := by
  unfold tabAt
  rw [if_neg (by omega), if_neg (by omega), List.getD_eq_getElem?_getD, List.getD_eq_getElem?_getD, List.getElem?_map, List.getElem?_eq_getElem (show k.toNat < T.length by omega)]
  rfl
theorem impl_at_eq {R : Type} (n : Nat) {T : List (BitVec 64)} {x : Int} (h0 : -2 ≤ x) (h1 : x < T.length) (k : Int → Option R) : impl_truthOf_c1 n x (T.map U) k = k (U (tabAt T x)) := by
  unfold impl_truthOf_c1
  by_cases a : x = -2
  · subst a; rw [tabAt_no]; rfl
  · by_cases b : x = -1
    · subst b; rw [tabAt_yes]; rfl
    · rw [beq_eq_false_iff_ne.2 a, beq_eq_false_iff_ne.2 b, decide_eq_true (show 0 ≤ x by omega), List.length_map, decide_eq_true h1, tabAt_map (by omega) h1]
      rfl
def ok1 (j : Nat) (c : Int × Int × Int) : Bool := decide (0 ≤ c.1 ∧ c.1 ≤ 5) && (decide (-2 ≤ c.2.1 ∧ c.2.1 ≤ (j : Int) - 1) && decide (-2 ≤ c.2.2 ∧ c.2.2 ≤ (j : Int) - 1))
theorem ok1_iff {j : Nat} {c : Int × Int × Int} : ok1 j c = true ↔ (0 ≤ c.1 ∧ c.1 ≤ 5) ∧ (-2 ≤ c.2.1 ∧ c.2.1 ≤ (j : Int) - 1) ∧ (-2 ≤ c.2.2 ∧ c.2.2 ≤ (j : Int) - 1) := by
  unfold ok1
  rw [Bool.and_eq_true, Bool.and_eq_true, decide_eq_true_eq, decide_eq_true_eq, decide_eq_true_eq]
def nx (T : List (BitVec 64)) (c : Int × Int × Int) : BitVec 64 := ite64 c.1.toNat (tabAt T c.2.1) (tabAt T c.2.2)
def tabs : List (Int × Int × Int) → Nat → List (BitVec 64) → Option (List (BitVec 64))
  | [], _, T => some T
  | c :: r, j, T => bif ok1 j c then tabs r (j + 1) (T ++ [nx T c]) else none
theorem impl_l6_eq {R : Type} (l0 : List (Int × Int × Int)) {l : List (Int × Int × Int)} (hl : l.length ≤ 1000) (root : Int) (kr : Int → Bool → Option R) (k : List (Int × Int × Int) → Int → List Int → Option R) : ∀ (c n j : Nat) (T : List (BitVec 64)), c + 100 < n → j + c = l.length → T.length = j →
    impl_truthOf_l6 n l (l.length : Int) (j : Int) l0 root (T.map U) kr k = match tabs (l.drop j) j T with
      | some T' => k l0 root (T'.map U)
      | none => kr 0 false
  | _, 0, _, _, h, _, _ => by omega
  | 0, n + 1, j, T, _, hj, hT => by
    rw [impl_truthOf_l6, dge (by omega), List.drop_eq_nil_iff.2 (by omega)]; rfl
  | c + 1, n + 1, j, T, hn, hj, hT => by
    have h : j < l.length := by omega
    rw [impl_truthOf_l6, dlt h, dnn, getD_at _ _ h, List.drop_eq_getElem_cons h, wrap64 (x := (j : Int) - 1) (by omega) (by omega), wrapS h (by omega)]
    simp only [cond_true, impl_in_eq]
    by_cases c1 : 0 ≤ l[j].1 ∧ l[j].1 ≤ 5
    · by_cases c2 : -2 ≤ l[j].2.1 ∧ l[j].2.1 ≤ (j : Int) - 1
      · by_cases c3 : -2 ≤ l[j].2.2 ∧ l[j].2.2 ≤ (j : Int) - 1
        · have e : tabs (l[j] :: l.drop (j + 1)) j T = tabs (l.drop (j + 1)) (j + 1) (T ++ [nx T l[j]]) := by
            rw [tabs, ok1_iff.2 ⟨c1, c2, c3⟩, cond_true]
          have ev : l[j].1 = ((l[j].1.toNat : Nat) : Int) := by omega
          rw [decide_eq_true c1, decide_eq_true c2, decide_eq_true c3, e]
          simp only [Bool.not_true, cond_false]
          rw [ev, impl_var_eq (by omega) (by omega), impl_at_eq n c2.1 (by omega), impl_at_eq n c3.1 (by omega), and_U, andn_U, or_U, decide_eq_true (show (T.map U).length + [U (tabAt T l[j].2.1 &&& ~~~msk l[j].1.toNat ||| tabAt T l[j].2.2 &&& msk l[j].1.toNat)].length ≤ LIM by simp [LIM]; omega), cond_true]
          have ih := impl_l6_eq l0 hl root kr k c n (j + 1) (T ++ [nx T l[j]]) (by omega) (by omega) (by simp [hT])
          rw [List.map_append] at ih
          exact ih
        · have e : tabs (l[j] :: l.drop (j + 1)) j T = none := by
            rw [tabs, show ok1 j l[j] = false from Bool.eq_false_iff.2 fun h => c3 (ok1_iff.1 h).2.2, cond_false]
          rw [decide_eq_true c1, decide_eq_true c2, decide_eq_false c3, e]; rfl
      · have e : tabs (l[j] :: l.drop (j + 1)) j T = none := by
          rw [tabs, show ok1 j l[j] = false from Bool.eq_false_iff.2 fun h => c2 (ok1_iff.1 h).2.1, cond_false]
        rw [decide_eq_true c1, decide_eq_false c2, e]; rfl
    · have e : tabs (l[j] :: l.drop (j + 1)) j T = none := by
        rw [tabs, show ok1 j l[j] = false from Bool.eq_false_iff.2 fun h => c1 (ok1_iff.1 h).1, cond_false]
      rw [decide_eq_false c1, e]; rfl
def chk (l : List (Int × Int × Int)) (x v : Int) : Bool := decide (x < 0 ∨ v < (l.getD x.toNat (0, (0, 0))).1)
def ok2 (l : List (Int × Int × Int)) (j : Nat) (c : Int × Int × Int) : Bool := ok1 j c && (!(c.2.1 == c.2.2) && (chk l c.2.1 c.1 && chk l c.2.2 c.1))
def tabs2 (l : List (Int × Int × Int)) : List (Int × Int × Int) → Nat → List (BitVec 64) → Option (List (BitVec 64))
  | [], _, T => some T
  | c :: r, j, T => bif ok2 l j c then tabs2 l r (j + 1) (T ++ [nx T c]) else none
theorem tabs_of {l : List (Int × Int × Int)} : ∀ {r : List (Int × Int × Int)} {j : Nat} {T T' : List (BitVec 64)}, tabs2 l r j T = some T' → tabs r j T = some T'
  | [], _, _, _, h => h
  | c :: r, j, T, T', h => by
    rw [tabs2] at h
    rw [tabs]
    cases h2 : ok2 l j c with
    | false => rw [h2] at h; cases h
    | true =>
      rw [h2, cond_true] at h
      unfold ok2 at h2
      rw [Bool.and_eq_true] at h2
      rw [h2.1, cond_true]
      exact tabs_of h
/-- One part of what the reference reckons. -/
def part (T : List (BitVec 64)) (m : BitVec 64) (x : Int) (acc : BitVec 64) : BitVec 64 := if x = -1 then acc ||| m else if 0 ≤ x then acc ||| (m &&& tabAt T x) else acc
theorem spec_l11_eq {R : Type} (l0 : List (Int × Int × Int)) (cnt : Int) (jj : Int) (l : List (Int × Int × Int)) (root : Int) (T : List (BitVec 64)) {v : Nat} (hv6 : v < 6) {a b : Int} (a0 : -2 ≤ a) (a1 : a < T.length) (b0 : -2 ≤ b) (b1 : b < T.length) (hT : T.length ≤ l.length) (kr : Int → Bool → Option R) (k : Int → List (Int × Int × Int) → Int → Int → List (Int × Int × Int) → Int → List Int → Option R) {n : Nat} (hn : 100 ≤ n) :
    spec_l7Of_l11 n 0 l0 cnt jj (([false, true]).length : Int) 0 l root (T.map U) (v : Int) a b ([false, true]) kr k = bif chk l a v && chk l b v then k (U (part T (msk v) b (part T (~~~ msk v) a 0))) l0 cnt jj l root (T.map U) else kr 0 false := by
  obtain ⟨n, rfl⟩ : ∃ m, n = m + 3 := ⟨n - 3, by omega⟩
  have stepF : ∀ (acc : BitVec 64), spec_l7Of_l11 (n + 3) (U acc) l0 cnt jj 2 0 l root (T.map U) (v : Int) a b [false, true] kr k = bif chk l a v then spec_l7Of_l11 (n + 2) (U (part T (~~~ msk v) a acc)) l0 cnt jj 2 1 l root (T.map U) (v : Int) a b [false, true] kr k else kr 0 false := fun acc => by
    rw [spec_l7Of_l11, show decide ((0 : Int) < 2) = true from rfl, show decide ((0 : Int) ≤ 0) = true from rfl, show decide ((0 : Int) < (([false, true] : List Bool).length : Int)) = true from rfl, show ([false, true] : List Bool).getD (Int.toNat 0) false = false from rfl, show IntKind.wrap .i64 ((0 : Int) + 1) = 1 from rfl]
    simp only [cond_true, cond_false]
    rw [spec_var_eq hv6 (by omega), not_U, or_U]
    unfold part chk
    by_cases ha : a = -1
    · subst ha; rfl
    · rw [beq_eq_false_iff_ne.2 ha, cond_false, if_neg ha]
      by_cases hb : 0 ≤ a
      · rw [decide_eq_true (show a ≥ 0 by omega), decide_eq_true (show a < (l.length : Int) by omega), List.length_map, decide_eq_true a1, tabAt_map hb a1, and_U, or_U, if_pos hb]
        simp only [cond_true]
        by_cases hc : (l.getD a.toNat (0, (0, 0))).1 ≤ (v : Int)
        · rw [decide_eq_true hc, decide_eq_false (show ¬ (a < 0 ∨ (v : Int) < (l.getD a.toNat (0, (0, 0))).1) by omega)]; rfl
        · rw [decide_eq_false hc, decide_eq_true (show (a < 0 ∨ (v : Int) < (l.getD a.toNat (0, (0, 0))).1) by omega)]; rfl
      · rw [decide_eq_false (show ¬ a ≥ 0 by omega), if_neg hb, decide_eq_true (show (a < 0 ∨ (v : Int) < (l.getD a.toNat (0, (0, 0))).1) by omega)]; rfl
  have stepT : ∀ (acc : BitVec 64), spec_l7Of_l11 (n + 2) (U acc) l0 cnt jj 2 1 l root (T.map U) (v : Int) a b [false, true] kr k = bif chk l b v then spec_l7Of_l11 (n + 1) (U (part T (msk v) b acc)) l0 cnt jj 2 2 l root (T.map U) (v : Int) a b [false, true] kr k else kr 0 false := fun acc => by
    rw [spec_l7Of_l11, show decide ((1 : Int) < 2) = true from rfl, show decide ((0 : Int) ≤ 1) = true from rfl, show decide ((1 : Int) < (([false, true] : List Bool).length : Int)) = true from rfl, show ([false, true] : List Bool).getD (Int.toNat 1) false = true from rfl, show IntKind.wrap .i64 ((1 : Int) + 1) = 2 from rfl]
    simp only [cond_true]
    rw [spec_var_eq hv6 (by omega), spec_var_eq hv6 (by omega), or_U]
    unfold part chk
    by_cases ha : b = -1
    · subst ha; rfl
    · rw [beq_eq_false_iff_ne.2 ha, cond_false, if_neg ha]
      by_cases hb : 0 ≤ b
      · rw [decide_eq_true (show b ≥ 0 by omega), decide_eq_true (show b < (l.length : Int) by omega), List.length_map, decide_eq_true b1, tabAt_map hb b1, and_U, or_U, if_pos hb]
        simp only [cond_true]
        by_cases hc : (l.getD b.toNat (0, (0, 0))).1 ≤ (v : Int)
        · rw [decide_eq_true hc, decide_eq_false (show ¬ (b < 0 ∨ (v : Int) < (l.getD b.toNat (0, (0, 0))).1) by omega)]; rfl
        · rw [decide_eq_false hc, decide_eq_true (show (b < 0 ∨ (v : Int) < (l.getD b.toNat (0, (0, 0))).1) by omega)]; rfl
      · rw [decide_eq_false (show ¬ b ≥ 0 by omega), if_neg hb, decide_eq_true (show (b < 0 ∨ (v : Int) < (l.getD b.toNat (0, (0, 0))).1) by omega)]; rfl
  have h0 := stepF 0
  rw [U_zero] at h0
  show spec_l7Of_l11 (n + 3) 0 l0 cnt jj 2 0 l root (T.map U) (v : Int) a b [false, true] kr k = _
  rw [h0, stepT]
  cases chk l a v with
  | false => rfl
  | true =>
    cases chk l b v with
    | false => rfl
    | true =>
      simp only [cond_true, Bool.and_self]
      rw [spec_l7Of_l11, show decide ((2 : Int) < 2) = false from rfl]; rfl
theorem part_nx {T : List (BitVec 64)} {v : Nat} {a b : Int} (a0 : -2 ≤ a) (b0 : -2 ≤ b) : part T (msk v) b (part T (~~~ msk v) a 0) = ite64 v (tabAt T a) (tabAt T b) := by
  have key : ∀ (m acc : BitVec 64) (x : Int), -2 ≤ x → part T m x acc = acc ||| (tabAt T x &&& m) := fun m acc x hx => by
    unfold part
    by_cases h1 : x = -1
    · subst h1; rw [if_pos rfl, tabAt_yes, BitVec.allOnes_and]
    · rw [if_neg h1]
      by_cases h2 : 0 ≤ x
      · rw [if_pos h2, BitVec.and_comm]
      · have : x = -2 := by omega
        subst this
        rw [if_neg h2, tabAt_no]
        simp
  rw [key _ _ _ b0, key _ _ _ a0]
  unfold ite64
  simp
theorem spec_l5_eq {R : Type} {l : List (Int × Int × Int)} (hl : l.length ≤ 1000) (root : Int) (kr : Int → Bool → Option R) (k : List (Int × Int × Int) → Int → List Int → Option R) : ∀ (c n j : Nat) (T : List (BitVec 64)), c + 200 < n → j + c = l.length → T.length = j →
    spec_l7Of_l5 n l (l.length : Int) (j : Int) l root (T.map U) kr k = match tabs2 l (l.drop j) j T with
      | some T' => k l root (T'.map U)
      | none => kr 0 false
  | _, 0, _, _, h, _, _ => by omega
  | 0, n + 1, j, T, _, hj, hT => by
    rw [spec_l7Of_l5, dge (by omega), List.drop_eq_nil_iff.2 (by omega)]; rfl
  | c + 1, n + 1, j, T, hn, hj, hT => by
    have h : j < l.length := by omega
    have no : ok2 l j l[j] = false → tabs2 l (l[j] :: l.drop (j + 1)) j T = none := fun e => by rw [tabs2, e, cond_false]
    rw [spec_l7Of_l5, dlt h, dnn, getD_at _ _ h, List.drop_eq_getElem_cons h, wrap64 (x := (j : Int) - 1) (by omega) (by omega)]
    simp only [cond_true, spec_l1In_eq]
    by_cases c1 : 0 ≤ l[j].1 ∧ l[j].1 ≤ 5
    · by_cases c2 : -2 ≤ l[j].2.1 ∧ l[j].2.1 ≤ (j : Int) - 1
      · by_cases c3 : -2 ≤ l[j].2.2 ∧ l[j].2.2 ≤ (j : Int) - 1
        · have ho := ok1_iff.2 ⟨c1, c2, c3⟩
          rw [decide_eq_true c1, decide_eq_true c2, decide_eq_true c3]
          simp only [Bool.not_true, cond_false]
          cases h4 : (l[j].2.1 == l[j].2.2) with
          | true => rw [no (by unfold ok2; rw [ho, h4]; rfl)]; rfl
          | false =>
            have ev : ((l[j].1.toNat : Nat) : Int) = l[j].1 := by omega
            have hin := spec_l11_eq (R := R) l (l.length : Int) (j : Int) l root T (v := l[j].1.toNat) (by omega) c2.1 (by omega) c3.1 (by omega) (by omega) kr (fun r8 r9 r10 r11 r12 r13 r14 => (bif decide (r14.length + [r8].length ≤ LIM) then spec_l7Of_l5 n r9 r10 (IntKind.wrap .i64 (r11 + 1)) r12 r13 (r14 ++ [r8]) kr k else none)) (n := n) (by omega)
            rw [ev] at hin
            simp only [cond_false]
            rw [hin]
            cases h5 : (chk l l[j].2.1 l[j].1 && chk l l[j].2.2 l[j].1) with
            | false => rw [no (by unfold ok2; rw [ho, h4, h5]; rfl)]; rfl
            | true =>
              have e : tabs2 l (l[j] :: l.drop (j + 1)) j T = tabs2 l (l.drop (j + 1)) (j + 1) (T ++ [nx T l[j]]) := by
                rw [tabs2, show ok2 l j l[j] = true by unfold ok2; rw [ho, h4, h5]; rfl, cond_true]
              rw [e, cond_true, part_nx c2.1 c3.1, decide_eq_true (show (T.map U).length + [U (ite64 l[j].1.toNat (tabAt T l[j].2.1) (tabAt T l[j].2.2))].length ≤ LIM by simp [LIM]; omega), cond_true, wrapS h (by omega)]
              have ih := spec_l5_eq hl root kr k c n (j + 1) (T ++ [nx T l[j]]) (by omega) (by omega) (by simp [hT])
              rw [List.map_append] at ih
              exact ih
        · rw [no (by unfold ok2; rw [show ok1 j l[j] = false from Bool.eq_false_iff.2 fun h => c3 (ok1_iff.1 h).2.2]; rfl), decide_eq_true c1, decide_eq_true c2, decide_eq_false c3]; rfl
      · rw [no (by unfold ok2; rw [show ok1 j l[j] = false from Bool.eq_false_iff.2 fun h => c2 (ok1_iff.1 h).2.1]; rfl), decide_eq_true c1, decide_eq_false c2]; rfl
    · rw [no (by unfold ok2; rw [show ok1 j l[j] = false from Bool.eq_false_iff.2 fun h => c1 (ok1_iff.1 h).1]; rfl), decide_eq_false c1]; rfl
/-- What was built passes both. -/
theorem built_tabs {l : List (Int × Int × Int)} {T : List (BitVec 64)} (hB : Built l T) : ∀ (c j : Nat), j + c = l.length → tabs2 l (l.drop j) j (T.take j) = some T
  | 0, j, hj => by
    have := hB.len
    rw [List.drop_eq_nil_iff.2 (by omega), List.take_of_length_le (by omega)]; rfl
  | c + 1, j, hj => by
    have hlen := hB.len
    have h : j < l.length := by omega
    have hT : j < T.length := by omega
    obtain ⟨v, a, b, he⟩ := hB.ent j _ (List.getElem?_eq_getElem hT)
    have hg := he.get
    rw [List.getElem?_eq_getElem h] at hg
    have hg : l[j] = ((v : Int), a, b) := Option.some.inj hg
    have hv6 := he.v6
    have a0 := he.a0
    have a1 := he.a1
    have b0 := he.b0
    have b1 := he.b1
    have take : ∀ {x : Int}, -2 ≤ x → x < j → tabAt (T.take j) x = tabAt T x := fun {x} h0 h1 => by
      have := tabAt_app (T := T.take j) (e := T.drop j) h0 (by simp; omega)
      rw [List.take_append_drop] at this
      exact this.symm
    have hne : a ≠ b := fun e => he.dep (by
      show hv _ v false = hv _ v true
      rw [← he.no, ← he.yes, e])
    have child : ∀ {x : Int} (bb : Bool), -2 ≤ x → x < j → tabAt T x = hv T[j] v bb → chk l x (v : Int) = true := fun {x} bb h0 h1 e => by
      unfold chk
      rw [decide_eq_true_eq]
      by_cases hx : x < 0
      · exact .inl hx
      · right
        have hxl : x.toNat < T.length := by omega
        have hxt := tabAt_nat (List.getElem?_eq_getElem hxl)
        rw [Int.toNat_of_nonneg (by omega), e] at hxt
        obtain ⟨v2, a2, b2, he2⟩ := hB.ent x.toNat _ (List.getElem?_eq_getElem hxl)
        rw [List.getD_eq_getElem?_getD, he2.get]
        show (v : Int) < (v2 : Int)
        rcases Nat.lt_trichotomy v v2 with g | g | g
        · omega
        · exfalso
          subst g
          exact he2.dep (by rw [← hxt]; exact ind_own hv6 bb)
        · exfalso
          have := he2.v6
          exact he2.dep (by rw [← hxt]; exact (he.ind v2 g).half (by omega) hv6 bb)
    have hok : ok2 l j l[j] = true := by
      unfold ok2
      rw [hg, ok1_iff.2 ⟨by dsimp only; omega, by dsimp only; omega, by dsimp only; omega⟩, child false a0 a1 he.no, child true b0 b1 he.yes, beq_eq_false_iff_ne.2 hne]; rfl
    have hnx : nx (T.take j) l[j] = T[j] := by
      unfold nx
      rw [hg]
      dsimp only
      rw [take a0 a1, take b0 b1, Int.toNat_natCast]
      exact he.table.symm
    rw [List.drop_eq_getElem_cons h, tabs2, hok, cond_true, hnx, ← List.take_succ_eq_append_getElem hT]
    exact built_tabs hB c (j + 1) (by omega)
theorem equal_loop {R : Type} {a b : List (Int × Int × Int)} (hl : a.length = b.length) (h : a.length ≤ 1000) (kr : Bool → Option R) (ke : Option R) : ∀ (c n j : Nat), c < n → j + c = a.length → slices_Equal_impl_Choice_l4 n a b (a.length : Int) (j : Int) kr ke = if a.drop j = b.drop j then ke else kr false
  | _, 0, _, h, _ => by omega
  | 0, n + 1, j, _, hj => by
    rw [slices_Equal_impl_Choice_l4, dge (by omega), List.drop_eq_nil_iff.2 (by omega), List.drop_eq_nil_iff.2 (by omega)]; simp
  | c + 1, n + 1, j, hn, hj => by
    have h1 : j < a.length := by omega
    have h2 : j < b.length := by omega
    rw [slices_Equal_impl_Choice_l4, dlt h1, dlt h2, dnn, getD_at _ _ h1, getD_at _ _ h2, cho_eq a h1, wrapS h1 (by omega), List.drop_eq_getElem_cons h1, List.drop_eq_getElem_cons h2, equal_loop hl h kr ke c n (j + 1) (by omega) (by omega)]
    simp only [cond_true, List.cons.injEq]
    by_cases g : a[j] = b[j]
    · rw [decide_eq_true (show a[j] = (b[j].1, b[j].2.1, b[j].2.2) from g)]
      simp [g]
    · rw [decide_eq_false (show ¬ a[j] = (b[j].1, b[j].2.1, b[j].2.2) from g)]
      simp [g]
theorem equal_eq {R : Type} {n : Nat} {a b : List (Int × Int × Int)} (h : a.length ≤ 1000) (hn : 1100 ≤ n) (k : Bool → Option R) : slices_Equal_impl_Choice n a b k = k (decide (a = b)) := by
  unfold slices_Equal_impl_Choice
  by_cases hl : a.length = b.length
  · have := equal_loop hl h (fun r1 => k r1) (k true) a.length n 0 (by omega) (by omega)
    rw [show ((0 : Nat) : Int) = 0 from rfl, List.drop_zero, List.drop_zero] at this
    rw [show ((a.length : Int) != (b.length : Int)) = false by simp [hl], cond_false, this]
    by_cases g : a = b
    · rw [if_pos g, decide_eq_true g]
    · rw [if_neg g, decide_eq_false g]
  · rw [show ((a.length : Int) != (b.length : Int)) = true by simp; omega, cond_true, decide_eq_false fun e => hl (by rw [e])]
theorem good_loop {R : Type} {a b : List (Int × Int × Int)} (hl : a.length = b.length) (h : a.length ≤ 1000) (t root r : Int) (kr : Int → Bool → Option R) (ke : Int → Option R) : ∀ (c n j : Nat), c < n → j + c = a.length → spec_l7Good_l8 n t (a.length : Int) (j : Int) b root a r kr ke = if a.drop j = b.drop j then ke t else kr 0 false
  | _, 0, _, h, _ => by omega
  | 0, n + 1, j, _, hj => by
    rw [spec_l7Good_l8, dge (by omega), List.drop_eq_nil_iff.2 (by omega), List.drop_eq_nil_iff.2 (by omega)]; simp
  | c + 1, n + 1, j, hn, hj => by
    have h1 : j < a.length := by omega
    have h2 : j < b.length := by omega
    rw [spec_l7Good_l8, dlt h1, dlt h2, dnn, getD_at _ _ h1, getD_at _ _ h2, cho_eq a h1, wrapS h1 (by omega), List.drop_eq_getElem_cons h1, List.drop_eq_getElem_cons h2, good_loop hl h t root r kr ke c n (j + 1) (by omega) (by omega)]
    simp only [cond_true, List.cons.injEq]
    by_cases g : a[j] = b[j]
    · rw [decide_eq_true (show a[j] = (b[j].1, b[j].2.1, b[j].2.2) from g)]
      simp [g]
    · rw [decide_eq_false (show ¬ a[j] = (b[j].1, b[j].2.1, b[j].2.2) from g)]
      simp [g]
/-- Both sides' look at a diagram. -/
theorem truth_ex {n : Nat} (l : List (Int × Int × Int)) (root : Int) (hl : l.length ≤ 9000000000000000000) (hn : 3000 ≤ n) : ∃ (ok : Bool) (ti ts : BitVec 64), (ok = true → ti = ts) ∧ (∀ (R : Type) (k : Int → Bool → Option R), impl_truthOf n l root k = k (U ti) ok) ∧ ∀ (R : Type) (k : Int → Bool → Option R), spec_l7Good n l root k = k (U ts) ok := by
  by_cases h70 : (l.length : Int) > 70
  · refine ⟨false, 0, 0, fun _ => rfl, fun R k => ?_, fun R k => ?_⟩
    · unfold impl_truthOf; rw [decide_eq_true h70]; rfl
    · unfold spec_l7Good spec_l7Of; rw [decide_eq_true h70]; rfl
  have hl70 : l.length ≤ 70 := by omega
  have hi6 := fun (R : Type) kr k => impl_l6_eq (R := R) l (l := l) (by omega) root kr k l.length n 0 [] (by omega) (by omega) rfl
  have hs5 := fun (R : Type) kr k => spec_l5_eq (R := R) (l := l) (by omega) root kr k l.length n 0 [] (by omega) (by omega) rfl
  rw [List.drop_zero] at hi6 hs5
  simp only [show ((0 : Nat) : Int) = 0 from rfl, List.map_nil] at hi6 hs5
  have himp : ∀ (R : Type) (k : Int → Bool → Option R), impl_truthOf n l root k = bif decide (-2 ≤ root ∧ root ≤ (l.length : Int) - 1) then impl_truthOf_l6 n l (l.length : Int) 0 l root [] (fun r8 r9 => k r8 r9) (fun r10 r11 r12 => (impl_truthOf_c1 n r11 r12 fun r13 => (impl_diagramOf n r13 fun r14 r15 r16 => (bif r15 then (bif (r14 == r11) then (slices_Equal_impl_Choice n r16 r10 fun r17 => k r13 r17) else k r13 false) else k r13 false)))) else k 0 false := fun R k => by
    unfold impl_truthOf
    rw [decide_eq_false h70, cond_false, impl_in_eq, wrap64 (by omega) (by omega)]
    cases decide (-2 ≤ root ∧ root ≤ (l.length : Int) - 1) <;> rfl
  have hspec : ∀ (R : Type) (k : Int → Bool → Option R), spec_l7Of n l root k = spec_l7Of_l5 n l (l.length : Int) 0 l root [] (fun r15 r16 => k r15 r16) (fun r17 r18 r19 => (bif (r18 == (-2)) then k 0 ((r19.length : Int) == 0) else (bif (r18 == (-1)) then k 18446744073709551615 ((r19.length : Int) == 0) else (bif (r18 != (IntKind.wrap .i64 ((r19.length : Int) - 1))) then k 0 false else (bif decide (0 ≤ r18) then (bif decide (r18 < (r19.length : Int)) then k (r19.getD (Int.toNat r18) 0) true else none) else none))))) := fun R k => by
    unfold spec_l7Of
    rw [decide_eq_false h70]; rfl
  cases hT : tabs l 0 [] with
  | none =>
    have hT2 : tabs2 l l 0 [] = none := by
      cases h : tabs2 l l 0 [] with
      | none => rfl
      | some T => rw [tabs_of h] at hT; cases hT
    refine ⟨false, 0, 0, fun _ => rfl, fun R k => ?_, fun R k => ?_⟩
    · rw [himp, hi6, hT]
      cases decide (-2 ≤ root ∧ root ≤ (l.length : Int) - 1) <;> rfl
    · unfold spec_l7Good
      rw [hspec, hs5, hT2]; rfl
  | some T =>
    have hTlen : T.length = l.length := by
      have gen : ∀ (r : List (Int × Int × Int)) (j : Nat) (T T' : List (BitVec 64)), tabs r j T = some T' → T'.length = T.length + r.length := by
        intro r
        induction r with
        | nil => intro j T T' h; cases h; simp
        | cons c r ih =>
          intro j T T' h
          rw [tabs] at h
          cases h2 : ok1 j c with
          | false => rw [h2] at h; cases h
          | true =>
            rw [h2, cond_true] at h
            have := ih _ _ _ h
            simp at this ⊢
            omega
      have := gen l 0 [] T hT
      simpa using this
    -- what the reference says of the root
    have hof : ∀ (R : Type) (k : Int → Bool → Option R), tabs2 l l 0 [] = some T → spec_l7Of n l root k = bif decide (-2 ≤ root ∧ root ≤ (l.length : Int) - 1) then (if root < 0 then k (U (tabAt T root)) (decide (l.length = 0)) else bif decide (root + 1 = l.length) then k (U (tabAt T root)) true else k 0 false) else k 0 false := fun R k h2 => by
      rw [hspec, hs5, h2]
      dsimp only
      have hz : (((T.map U).length : Int) == 0) = decide (l.length = 0) := by
        rw [List.length_map, hTlen, Bool.eq_iff_iff]
        simp
      rw [hz]
      by_cases a : root = -2
      · subst a
        rw [decide_eq_true (show -2 ≤ (-2 : Int) ∧ (-2 : Int) ≤ (l.length : Int) - 1 by omega), cond_true, if_pos (by omega), tabAt_no]; rfl
      · by_cases b : root = -1
        · subst b
          rw [decide_eq_true (show -2 ≤ (-1 : Int) ∧ (-1 : Int) ≤ (l.length : Int) - 1 by omega), cond_true, if_pos (by omega), tabAt_yes]; rfl
        · rw [beq_eq_false_iff_ne.2 a, beq_eq_false_iff_ne.2 b, cond_false, cond_false, List.length_map, hTlen, wrap64 (by omega) (by omega)]
          by_cases c : root = (l.length : Int) - 1
          · rw [show (root != (l.length : Int) - 1) = false by simp [c], cond_false, decide_eq_true (show 0 ≤ root by omega), decide_eq_true (show root < (l.length : Int) by omega), cond_true, cond_true, tabAt_map (by omega) (by omega), decide_eq_true (show -2 ≤ root ∧ root ≤ (l.length : Int) - 1 by omega), cond_true, if_neg (by omega), decide_eq_true (show root + 1 = (l.length : Int) by omega), cond_true]
          · rw [show (root != (l.length : Int) - 1) = true by simpa using c, cond_true]
            by_cases d : -2 ≤ root ∧ root ≤ (l.length : Int) - 1
            · rw [decide_eq_true d, cond_true, if_neg (by omega), decide_eq_false (show ¬ root + 1 = (l.length : Int) by omega), cond_false]
            · rw [decide_eq_false d, cond_false]
    by_cases hr : -2 ≤ root ∧ root ≤ (l.length : Int) - 1
    · obtain ⟨r, l2, T2, hB, htab, r0, r1, hl2, hlast, hdi, hds⟩ := diagram_ex (n := n) (tabAt T root) (by omega)
      have hi : ∀ (R : Type) (k : Int → Bool → Option R), impl_truthOf n l root k = k (U (tabAt T root)) (decide (r = root ∧ l2 = l)) := fun R k => by
        rw [himp, decide_eq_true hr, cond_true, hi6, hT]
        dsimp only
        rw [impl_at_eq n hr.1 (by omega), hdi, cond_true]
        by_cases e1 : r = root
        · subst e1
          rw [beq_self_eq_true, cond_true, equal_eq (by omega) (by omega)]
          congr 1
          exact decide_eq_decide.2 ⟨fun h => ⟨rfl, h⟩, fun h => h.2⟩
        · rw [beq_eq_false_iff_ne.2 e1, cond_false, decide_eq_false fun h => e1 h.1]
      -- the reference, once its first look has passed
      have hs : ∀ (R : Type) (k : Int → Bool → Option R), (∀ (k' : Int → Bool → Option R), spec_l7Of n l root k' = k' (U (tabAt T root)) true) → spec_l7Good n l root k = bif decide (r = root ∧ l2 = l) then k (U (tabAt T root)) true else k 0 false := fun R k h => by
        unfold spec_l7Good
        rw [h, Bool.not_true, cond_false, hds]
        by_cases e1 : r = root
        · subst e1
          rw [show (r != r) = false by simp, cond_false]
          by_cases e2 : l2.length = l.length
          · have := good_loop (R := R) e2 (by omega) (U (tabAt T r)) r r (fun r6 r7 => k r6 r7) (fun r8 => k r8 true) l2.length n 0 (by omega) (by omega)
            rw [show ((0 : Nat) : Int) = 0 from rfl, List.drop_zero, List.drop_zero] at this
            rw [show ((l2.length : Int) != (l.length : Int)) = false by simp [e2], cond_false, this]
            by_cases e3 : l2 = l
            · rw [if_pos e3, decide_eq_true ⟨rfl, e3⟩]; rfl
            · rw [if_neg e3, decide_eq_false fun h => e3 h.2]; rfl
          · rw [show ((l2.length : Int) != (l.length : Int)) = true by simp; omega, cond_true, decide_eq_false fun h => e2 (by rw [h.2])]; rfl
        · rw [show (r != root) = true by simpa using e1, cond_true, decide_eq_false fun h => e1 h.1]; rfl
      by_cases hok : r = root ∧ l2 = l
      · obtain ⟨e1, e2⟩ := hok
        subst e2
        have hbt := built_tabs hB l2.length 0 (by omega)
        rw [List.drop_zero, List.take_zero] at hbt
        have hTT : T = T2 := by
          have := tabs_of hbt
          rw [hT] at this
          exact Option.some.inj this
        refine ⟨true, tabAt T root, tabAt T root, fun _ => rfl, fun R k => ?_, fun R k => ?_⟩
        · rw [hi, decide_eq_true ⟨e1, rfl⟩]
        · rw [hs R k fun k' => ?_, decide_eq_true ⟨e1, rfl⟩, cond_true]
          rw [hof R k' (by rw [hbt, hTT]), decide_eq_true hr, cond_true]
          by_cases g : root < 0
          · have : l2.length = 0 := by
              rcases hlast with h | h
              · rw [h]; rfl
              · omega
            rw [if_pos g, decide_eq_true this]
          · have : root + 1 = (l2.length : Int) := by
              rcases hlast with h | h
              · rw [h] at r1; simp at r1; omega
              · omega
            rw [if_neg g, decide_eq_true this, cond_true]
      · cases hT2 : tabs2 l l 0 [] with
        | none =>
          refine ⟨false, tabAt T root, 0, fun h => (by cases h), fun R k => ?_, fun R k => ?_⟩
          · rw [hi, decide_eq_false hok]
          · unfold spec_l7Good
            rw [hspec, hs5, hT2]; rfl
        | some T' =>
          have e : T' = T := by
            have := tabs_of hT2
            rw [hT] at this
            exact (Option.some.inj this).symm
          subst e
          refine ⟨false, tabAt T' root, 0, fun h => (by cases h), fun R k => ?_, fun R k => ?_⟩
          · rw [hi, decide_eq_false hok]
          · by_cases g : (if root < 0 then l.length = 0 else root + 1 = (l.length : Int))
            · rw [hs R k fun k' => ?_, decide_eq_false hok]; rfl
              rw [hof R k' hT2, decide_eq_true hr, cond_true]
              by_cases g2 : root < 0
              · rw [if_pos g2] at g ⊢; rw [decide_eq_true g]
              · rw [if_neg g2] at g ⊢; rw [decide_eq_true g, cond_true]
            · unfold spec_l7Good
              rw [hof R _ hT2, decide_eq_true hr, cond_true]
              by_cases g2 : root < 0
              · rw [if_pos g2] at g ⊢; rw [decide_eq_false g]; rfl
              · rw [if_neg g2] at g ⊢; rw [decide_eq_false g]; rfl
    · refine ⟨false, 0, 0, fun _ => rfl, fun R k => ?_, fun R k => ?_⟩
      · rw [himp, decide_eq_false hr]; rfl
      · unfold spec_l7Good
        cases hT2 : tabs2 l l 0 [] with
        | none => rw [hspec, hs5, hT2]; rfl
        | some T' =>
          have e : T' = T := by
            have := tabs_of hT2
            rw [hT] at this
            exact (Option.some.inj this).symm
          subst e
          rw [hof R _ hT2, decide_eq_false hr]; rfl
structure Dg (l : List (Int × Int × Int)) (r : Int) (t : BitVec 64) : Prop where
  len : l.length ≤ 63
  truth : ∀ n, 3000 ≤ n → ∀ (R : Type) (k : Int → Bool → Option R), impl_truthOf n l r k = k (U t) true
  diag : ∀ n, 3000 ≤ n → ∀ (R : Type) (k : Int → Bool → List (Int × Int × Int) → Option R), impl_diagramOf n (U t) k = k r true l
theorem diagram_u (t : BitVec 64) : ∃ r l T, Built l T ∧ tabAt T r = t ∧ -2 ≤ r ∧ r < l.length ∧ l.length ≤ 63 ∧ (∀ n, 3000 ≤ n → ∀ (R : Type) (k : Int → Bool → List (Int × Int × Int) → Option R), impl_diagramOf n (U t) k = k r true l) ∧ ∀ n, 3000 ≤ n → ∀ (R : Type) (k : Int → Bool → List (Int × Int × Int) → Option R), spec_l7Diagram n (U t) k = k r true l := by
  obtain ⟨r, l, T, K, h⟩ := node_ex 6 0 t [] [] [] (by omega) (fun u hu => by omega) built_nil kn_nil (by simp)
  have hs := h.size
  have hl : l.length ≤ 63 := by simp at hs; omega
  refine ⟨r, l, T, h.built, h.tab, h.r0, h.r1, hl, fun n hn R k => ?_, fun n hn R k => ?_⟩
  · unfold impl_diagramOf
    rw [h.impl n (by omega), decide_eq_false (show ¬ (l.length : Int) > 70 by omega)]; rfl
  · have hsp := h.spec n (by omega)
    rw [show ((0 : Nat) : Int) = 0 from rfl] at hsp
    unfold spec_l7Diagram
    rw [hsp, decide_eq_true (show (l.length : Int) ≤ 70 by omega)]
theorem tabs_len : ∀ (r : List (Int × Int × Int)) (j : Nat) (T T' : List (BitVec 64)), tabs r j T = some T' → T'.length = T.length + r.length := by
  intro r
  induction r with
  | nil => intro j T T' h; cases h; simp
  | cons c r ih =>
    intro j T T' h
    rw [tabs] at h
    cases h2 : ok1 j c with
    | false => rw [h2] at h; cases h
    | true =>
      rw [h2, cond_true] at h
      have := ih _ _ _ h
      simp at this ⊢
      omega
theorem truth_open {n : Nat} (l : List (Int × Int × Int)) (root : Int) (hl : l.length ≤ 70) (hn : 3000 ≤ n) (hr : -2 ≤ root ∧ root ≤ (l.length : Int) - 1) (R : Type) (k : Int → Bool → Option R) : impl_truthOf n l root k = match tabs l 0 [] with
    | some T => (impl_diagramOf n (U (tabAt T root)) fun r14 r15 r16 => (bif r15 then (bif (r14 == root) then (slices_Equal_impl_Choice n r16 l fun r17 => k (U (tabAt T root)) r17) else k (U (tabAt T root)) false) else k (U (tabAt T root)) false))
    | none => k 0 false := by
  have hi6 := fun (R : Type) kr k => impl_l6_eq (R := R) l (l := l) (by omega) root kr k l.length n 0 [] (by omega) (by omega) rfl
  rw [List.drop_zero] at hi6
  simp only [show ((0 : Nat) : Int) = 0 from rfl, List.map_nil] at hi6
  unfold impl_truthOf
  rw [decide_eq_false (show ¬ (l.length : Int) > 70 by omega), cond_false, impl_in_eq, wrap64 (by omega) (by omega), decide_eq_true hr, Bool.not_true, cond_false, hi6]
  cases hT : tabs l 0 [] with
  | none => rfl
  | some T =>
    have := tabs_len _ _ _ _ hT
    simp only [List.length_nil] at this
    dsimp only
    rw [impl_at_eq n hr.1 (by omega)]
theorem truth_built {n : Nat} {l : List (Int × Int × Int)} {T : List (BitVec 64)} {r : Int} (hB : Built l T) (r0 : -2 ≤ r) (r1 : r < l.length) (hl : l.length ≤ 63) (hn : 3000 ≤ n) (hdi : ∀ (R : Type) (k : Int → Bool → List (Int × Int × Int) → Option R), impl_diagramOf n (U (tabAt T r)) k = k r true l) (R : Type) (k : Int → Bool → Option R) : impl_truthOf n l r k = k (U (tabAt T r)) true := by
  have hbt := built_tabs hB l.length 0 (by omega)
  rw [List.drop_zero, List.take_zero] at hbt
  rw [truth_open l r (by omega) hn ⟨r0, by omega⟩, tabs_of hbt]
  dsimp only
  rw [hdi, cond_true, beq_self_eq_true, cond_true, equal_eq (by omega) (by omega), decide_eq_true rfl]
theorem dg_ex (t : BitVec 64) : ∃ r l, Dg l r t ∧ (t = 0 → r = -2) ∧ ∀ n, 3000 ≤ n → ∀ (R : Type) (k : Int → Bool → List (Int × Int × Int) → Option R), spec_l7Diagram n (U t) k = k r true l := by
  obtain ⟨r, l, T, hB, htab, r0, r1, hl, hdi, hds⟩ := diagram_u t
  have ht : ∀ n, 3000 ≤ n → ∀ (R : Type) (k : Int → Bool → Option R), impl_truthOf n l r k = k (U (tabAt T r)) true := fun n hn => truth_built hB r0 r1 hl hn (by rw [htab]; exact hdi n hn)
  rw [htab] at ht
  refine ⟨r, l, ⟨hl, ht, hdi⟩, fun e => ?_, hds⟩
  subst e
  exact hB.at' r0 r1 (by omega) (by have := Int.natCast_nonneg l.length; omega) (by rw [htab, tabAt_no])
theorem truth_good {n : Nat} {l : List (Int × Int × Int)} {root : Int} {t : BitVec 64} (hn : 3000 ≤ n) (hll : l.length ≤ 9000000000000000000) (hi : ∀ (R : Type) (k : Int → Bool → Option R), impl_truthOf n l root k = k (U t) true) : Dg l root t := by
  have h0 := hi (Int × Bool) fun a b => some (a, b)
  by_cases h70 : (l.length : Int) > 70
  · unfold impl_truthOf at h0
    rw [decide_eq_true h70] at h0
    have hx : false = true := congrArg Prod.snd (Option.some.inj h0)
    cases hx
  by_cases hr : -2 ≤ root ∧ root ≤ (l.length : Int) - 1
  · rw [truth_open l root (by omega) hn hr] at h0
    cases hT : tabs l 0 [] with
    | none =>
      rw [hT] at h0
      have hx : false = true := congrArg Prod.snd (Option.some.inj h0)
      cases hx
    | some T =>
      rw [hT] at h0
      dsimp only at h0
      obtain ⟨r, l2, T2, hB, htab, r0, r1, hl2, hdi, hds⟩ := diagram_u (tabAt T root)
      rw [hdi n hn, cond_true] at h0
      by_cases e1 : r = root
      · subst e1
        rw [beq_self_eq_true, cond_true, equal_eq (by omega) (by omega)] at h0
        have h1 := Option.some.inj h0
        have h2 : U (tabAt T r) = U t := congrArg Prod.fst h1
        have h3 : decide (l2 = l) = true := congrArg Prod.snd h1
        have h4 := of_decide_eq_true h3
        subst h4
        have ht : ∀ n, 3000 ≤ n → ∀ (R : Type) (k : Int → Bool → Option R), impl_truthOf n l2 r k = k (U (tabAt T2 r)) true := fun n hn => truth_built hB r0 r1 hl2 hn (by rw [htab]; exact hdi n hn)
        rw [htab] at ht
        rw [U_inj h2] at hdi ht
        exact ⟨hl2, ht, hdi⟩
      · rw [beq_eq_false_iff_ne.2 e1, cond_false] at h0
        have hx : false = true := congrArg Prod.snd (Option.some.inj h0)
        cases hx
  · unfold impl_truthOf at h0
    rw [decide_eq_false h70, cond_false, impl_in_eq, wrap64 (by omega) (by omega), decide_eq_false hr] at h0
    have hx : false = true := congrArg Prod.snd (Option.some.inj h0)
    cases hx
theorem bit_eq (t : BitVec 64) (i : Nat) : decide (t >>> i &&& 1#64 = 1#64) = t.getLsbD i := by
  rw [BitVec.and_one_eq_setWidth_ofBool_getLsbD, BitVec.getLsbD_ushiftRight, Nat.add_zero]
  cases t.getLsbD i <;> rfl
theorem decide_eq {n : Nat} (hn : 3000 ≤ n) {l : List (Int × Int × Int)} {r : Int} {t : BitVec 64} (h : Dg l r t) {i : Nat} (hi : i < 64) (R : Type) (k : Bool → Bool → Option R) : impl_Decide n l r (i : Int) k = k (t.getLsbD i) true := by
  have h1 : (1 : Int) = U 1#64 := rfl
  unfold impl_Decide
  rw [h.truth n hn, Bool.not_true, cond_false, impl_in_eq, decide_eq_true (show 0 ≤ (i : Int) ∧ (i : Int) ≤ 63 by omega), Bool.not_true, cond_false, decide_eq_true (show 0 ≤ (i : Int) by omega), cond_true, show min (Int.toNat (i : Int)) (IntKind.bits .u64) = i from Nat.min_eq_left (by simp [IntKind.bits]; omega), shr_U, h1, and_U, U_beq, bit_eq]
theorem both_eq {n : Nat} (hn : 3000 ≤ n) {l m : List (Int × Int × Int)} {x y : Int} {t s : BitVec 64} (h : Dg l x t) (h' : Dg m y s) {o : List (Int × Int × Int)} {z : Int} (d : Dg o z (t &&& s)) (R : Type) (k : Int → Bool → List (Int × Int × Int) → Option R) : impl_BothOf n l x m y k = k z true o := by
  unfold impl_BothOf
  simp only [h.truth n hn, h'.truth n hn, Bool.not_true, cond_false, and_U, d.diag n hn]
theorem not_eq {n : Nat} (hn : 3000 ≤ n) {l : List (Int × Int × Int)} {x : Int} {t : BitVec 64} (h : Dg l x t) {o : List (Int × Int × Int)} {z : Int} (d : Dg o z (~~~ t)) (R : Type) (k : Int → Bool → List (Int × Int × Int) → Option R) : impl_NotOf n l x k = k z true o := by
  unfold impl_NotOf
  simp only [h.truth n hn, Bool.not_true, cond_false, not_U, d.diag n hn]
theorem restrict_eq {n : Nat} (hn : 3000 ≤ n) {l : List (Int × Int × Int)} {x : Int} {t : BitVec 64} (h : Dg l x t) {v : Nat} (hv6 : v < 6) {b : Bool} {o : List (Int × Int × Int)} {z : Int} (d : Dg o z (hv t v b)) (R : Type) (k : Int → Bool → List (Int × Int × Int) → Option R) : impl_Restrict n l x (v : Int) b k = k z true o := by
  unfold impl_Restrict
  simp only [h.truth n hn, Bool.not_true, cond_false, impl_in_eq, decide_eq_true (show 0 ≤ (v : Int) ∧ (v : Int) ≤ 5 by omega), impl_with_eq hv6 (show 70 ≤ n by omega), d.diag n hn]
theorem same_loop {R : Type} {a : List (Int × Int × Int)} (h : a.length ≤ 1000) (x : Int) (kr : Bool → Option R) (ke : Option R) : ∀ (n j : Nat), a.length - j < n → j ≤ a.length → laws_sameDiagrams_l4 n (a.length : Int) (j : Int) a x a x kr ke = ke
  | 0, _, h, _ => by omega
  | n + 1, j, hn, hj => by
    rw [laws_sameDiagrams_l4]
    by_cases c : j < a.length
    · rw [dlt c, dnn, getD_at _ _ c, wrapS c (by omega)]
      simp only [cond_true, beq_self_eq_true, Bool.and_true, Bool.not_true, cond_false]
      exact same_loop h x kr ke n (j + 1) (by omega) (by omega)
    · rw [dge (by omega), cond_false]
theorem same_eq {R : Type} {n : Nat} {a : List (Int × Int × Int)} (h : a.length ≤ 1000) (hn : 3000 ≤ n) (x : Int) (k : Bool → Option R) : laws_sameDiagrams n a x a x k = k true := by
  unfold laws_sameDiagrams
  have := same_loop h x (fun r1 => k r1) (k true) n 0 (by omega) (by omega)
  rw [show ((0 : Nat) : Int) = 0 from rfl] at this
  rw [bne_self_eq_false, bne_self_eq_false, cond_false, cond_false, this]
theorem bits_loop {R : Type} {la lb lc ld le lf : List (Int × Int × Int)} {ra rb rc rd re rf : Int} {t s : BitVec 64} {v : Nat} (hv6 : v < 6) (da : Dg la ra t) (db : Dg lb rb s) (dc : Dg lc rc (t &&& s)) (dd : Dg ld rd (~~~ t)) (de : Dg le re (hv t v false)) (df : Dg lf rf (hv t v true)) (kr : Bool → Option R) (ke : List (Int × Int × Int) → Int → List (Int × Int × Int) → Int → Option R) :
    ∀ (c n j : Nat), c + 4000 < n → j + c = 64 →
    laws_FnDiagrams_l18 n (v : Int) (j : Int) la ra lb rb lc rc ld rd le re lf rf kr ke = ke la ra ld rd := by
  intro c
  induction c with
  | zero =>
    intro n j hn hj
    obtain ⟨n, rfl⟩ : ∃ m, n = m + 1 := ⟨n - 1, by omega⟩
    rw [laws_FnDiagrams_l18, decide_eq_false (show ¬ (j : Int) < 64 by omega), cond_false]
  | succ c ih =>
    intro n j hn hj
    obtain ⟨n, rfl⟩ : ∃ m, n = m + 1 := ⟨n - 1, by omega⟩
    have hn3 : 3000 ≤ n := by omega
    have hj64 : j < 64 := by omega
    have ih' := ih n (j + 1) (by omega) (by omega)
    have hvb := var_bit ⟨j, hj64⟩ ⟨v, hv6⟩
    have hvu := var_u ⟨v, by omega⟩
    dsimp only at hvb hvu
    rw [laws_FnDiagrams_l18, decide_eq_true (show (j : Int) < 64 by omega), cond_true, wrap64 (x := (j : Int) + 1) (by omega) (by omega)]
    simp only [decide_eq hn3 da hj64, decide_eq hn3 db hj64, decide_eq hn3 dc hj64, decide_eq hn3 dd hj64, decide_eq hn3 de hj64, decide_eq hn3 df hj64, hvu, hvb, dnn, cond_true, BitVec.getLsbD_and, BitVec.getLsbD_not, hv_bit hv6 hj64, decide_eq_true hj64, Bool.true_and, Bool.not_true, cond_false]
    rw [show ((j + 1 : Nat) : Int) = (j : Int) + 1 from rfl] at ih'
    rw [ih']
    cases hb : j.testBit v with
    | true =>
      rw [show st j v true = j by unfold st; rw [hb]; rfl, cond_true]
      cases t.getLsbD j <;> cases s.getLsbD j <;> rfl
    | false =>
      rw [show st j v false = j by unfold st; rw [hb]; rfl, cond_false]
      cases t.getLsbD j <;> cases s.getLsbD j <;> rfl
theorem and255 (x : Int) : 0 ≤ IntKind.wrap .i64 (IntKind.wrap .u64 (Int.ofNat (BitVec.toNat (BitVec.ofInt (IntKind.bits .u64) x &&& BitVec.ofInt (IntKind.bits .u64) 255)))) ∧ IntKind.wrap .i64 (IntKind.wrap .u64 (Int.ofNat (BitVec.toNat (BitVec.ofInt (IntKind.bits .u64) x &&& BitVec.ofInt (IntKind.bits .u64) 255)))) ≤ 255 := by
  have h : BitVec.toNat (BitVec.ofInt (IntKind.bits .u64) x &&& BitVec.ofInt (IntKind.bits .u64) 255) ≤ 255 := by
    rw [BitVec.toNat_and]
    exact Nat.le_trans Nat.and_le_right (by decide)
  generalize BitVec.toNat (BitVec.ofInt (IntKind.bits .u64) x &&& BitVec.ofInt (IntKind.bits .u64) 255) = y at h
  have h1 : IntKind.wrap .u64 (Int.ofNat y) = (y : Int) := by
    simp only [IntKind.wrap, IntKind.signed, IntKind.bits]
    simp
    omega
  rw [h1, wrap64 (by omega) (by omega)]
  omega
/-- Bytes. -/
def Bytes (l : List Int) : Prop := ∀ x ∈ l, 0 ≤ x ∧ x ≤ 255
theorem bytes_getD {l : List Int} (hl : Bytes l) {i : Nat} (h : i < l.length) : 0 ≤ l.getD i 0 ∧ l.getD i 0 ≤ 255 := by
  rw [List.getD_eq_getElem?_getD, List.getElem?_eq_getElem h]
  exact hl _ (List.getElem_mem h)
def seedN (s b : Int) : Int := IntKind.wrap .u64 ((IntKind.wrap .u64 ((IntKind.wrap .u64 (s * 6364136223846793005)) + b)) + 1442695040888963407)
theorem next_ex {l : List Int} (hl : Bytes l) (n : Nat) {p s : Int} (h0 : 0 ≤ p) (h1 : p ≤ 4611686018427387904) : ∃ r s', 0 ≤ r ∧ r ≤ 255 ∧ ∀ (R : Type) (k : Int → List Int → Int → Int → Option R), spec_l1Cur_next n l p s k = k r l (p + 1) s' := by
  have hw : IntKind.wrap .i64 (p + 1) = p + 1 := wrap64 (by omega) (by omega)
  by_cases c : p < (l.length : Int)
  · obtain ⟨b1, b2⟩ := bytes_getD hl (i := Int.toNat p) (by omega)
    have hg : IntKind.wrap .i64 (l.getD (Int.toNat p) 0) = l.getD (Int.toNat p) 0 := wrap64 (by omega) (by omega)
    refine ⟨l.getD (Int.toNat p) 0, seedN s (IntKind.wrap .u64 (l.getD (Int.toNat p) 0)), b1, b2, fun R k => ?_⟩
    unfold spec_l1Cur_next
    rw [decide_eq_true c, decide_eq_true h0, hw, decide_eq_true (show p + 1 ≤ (l.length : Int) by omega), hg]
    rfl
  · have hn := and255 (Int.fdiv (seedN s 0) (2 ^ (min (Int.toNat 40) (IntKind.bits .u64))))
    refine ⟨_, seedN s 0, hn.1, hn.2, fun R k => ?_⟩
    unfold spec_l1Cur_next
    rw [decide_eq_false c, hw, decide_eq_false (show ¬ p + 1 ≤ (l.length : Int) by omega)]
    rfl
theorem pick_ex {l : List Int} (hl : Bytes l) (n : Nat) {m p s : Int} (hm : m ≤ 60000) (h0 : 0 ≤ p) (h1 : p ≤ 4611686018427387000) : ∃ r p' s', 0 ≤ r ∧ (r < m ∨ (m ≤ 1 ∧ r = 0)) ∧ p ≤ p' ∧ p' ≤ p + 2 ∧ ∀ (R : Type) (k : Int → List Int → Int → Int → Option R), spec_l1Cur_pick n m l p s k = k r l p' s' := by
  by_cases c : m ≤ 1
  · exact ⟨0, p, s, by omega, .inr ⟨c, rfl⟩, by omega, by omega, fun R k => by unfold spec_l1Cur_pick; rw [decide_eq_true c]; rfl⟩
  · obtain ⟨r, s1, r0, r1, hr⟩ := next_ex hl n (s := s) h0 (by omega)
    by_cases c2 : m > 200
    · obtain ⟨q, s2, q0, q1, hq⟩ := next_ex hl n (p := p + 1) (s := s1) (by omega) (by omega)
      have e : IntKind.wrap .i64 (IntKind.wrap .i64 (r * 256) + q) = r * 256 + q := by rw [wrap64 (x := r * 256) (by omega) (by omega), wrap64 (by omega) (by omega)]
      have t0 := Int.tmod_nonneg m (show 0 ≤ r * 256 + q by omega)
      have t1 := Int.tmod_lt_of_pos (r * 256 + q) (show 0 < m by omega)
      refine ⟨Int.tmod (r * 256 + q) m, p + 1 + 1, s2, t0, .inl t1, by omega, by omega, fun R k => ?_⟩
      unfold spec_l1Cur_pick
      rw [decide_eq_false c, hr, decide_eq_true c2, hq, decide_eq_true (show m ≠ 0 by omega), e]
      rfl
    · have t0 := Int.tmod_nonneg m (show 0 ≤ r by omega)
      have t1 := Int.tmod_lt_of_pos r (show 0 < m by omega)
      refine ⟨Int.tmod r m, p + 1, s1, t0, .inl t1, by omega, by omega, fun R k => ?_⟩
      unfold spec_l1Cur_pick
      rw [decide_eq_false c, hr, decide_eq_false c2, decide_eq_true (show m ≠ 0 by omega)]
      rfl
theorem one_ex {l : List Int} (hl : Bytes l) (n : Nat) {m p s : Int} (hm : m ≤ 60000) (h0 : 0 ≤ p) (h1 : p ≤ 4611686018427387000) : ∃ b p' s', p ≤ p' ∧ p' ≤ p + 2 ∧ ∀ (R : Type) (k : Bool → List Int → Int → Int → Option R), spec_l1Cur_one n m l p s k = k b l p' s' := by
  obtain ⟨r, p', s', _, _, a, b, h⟩ := pick_ex hl n (s := s) hm h0 h1
  exact ⟨_, p', s', a, b, fun R k => by unfold spec_l1Cur_one; rw [h]⟩
theorem of_ex {l : List Int} (hl : Bytes l) (n : Nat) {xs : List ByteArray} (hx : xs ≠ []) (hx2 : xs.length ≤ 200) (hs : ∀ b ∈ xs, b.size = 1) {p s : Int} (h0 : 0 ≤ p) (h1 : p ≤ 4611686018427387000) : ∃ r p' s', r.size = 1 ∧ p ≤ p' ∧ p' ≤ p + 2 ∧ ∀ (R : Type) (k : ByteArray → List Int → Int → Int → Option R), spec_l1Cur_of n xs l p s k = k r l p' s' := by
  have hp := List.length_pos_iff.2 hx
  obtain ⟨i, p', s', i0, i1, q0, q1, hi⟩ := pick_ex hl n (m := (xs.length : Int)) (s := s) (by omega) h0 h1
  have hlt : Int.toNat i < xs.length := by omega
  refine ⟨xs.getD (Int.toNat i) ByteArray.empty, p', s', ?_, q0, q1, fun R k => ?_⟩
  · rw [List.getD_eq_getElem?_getD, List.getElem?_eq_getElem hlt]
    exact hs _ (List.getElem_mem hlt)
  · unfold spec_l1Cur_of
    rw [hi, decide_eq_true i0, decide_eq_true (show i < (xs.length : Int) by omega)]
    rfl
theorem form_ex {l : List Int} (hl : Bytes l) : ∀ (d n : Nat) (p s : Int), d < n → 0 ≤ p → p + 100 * 4 ^ d ≤ 4000000 → ∃ (f : ByteArray) (p' s' : Int), f.size ≤ 4 ^ (d + 1) ∧ p ≤ p' ∧ p' ≤ p + 100 * 4 ^ d ∧ ∀ (R : Type) (k : ByteArray → List Int → Int → Int → Option R), spec_l1Cur_form n (d : Int) l p s k = k f l p' s' := by
  intro d
  induction d with
  | zero =>
    intro n p s hn h0 h1
    obtain ⟨n, rfl⟩ : ∃ m, n = m + 1 := ⟨n - 1, by omega⟩
    obtain ⟨r, p', s', hr, q0, q1, h⟩ := of_ex hl n (xs := [(ByteArray.mk #[97]), (ByteArray.mk #[98]), (ByteArray.mk #[99]), (ByteArray.mk #[100]), (ByteArray.mk #[101]), (ByteArray.mk #[102]), (ByteArray.mk #[48]), (ByteArray.mk #[49]), (ByteArray.mk #[97]), (ByteArray.mk #[98])]) (by simp) (by simp) (by decide) (s := s) h0 (by omega)
    refine ⟨r, p', s', by omega, q0, by omega, fun R k => ?_⟩
    rw [spec_l1Cur_form, decide_eq_true (show ((0 : Nat) : Int) ≤ 0 by omega), cond_true, h]
  | succ d ih =>
    intro n p s hn h0 h1
    obtain ⟨n, rfl⟩ : ∃ m, n = m + 1 := ⟨n - 1, by omega⟩
    have hpow : (4 : Int) ^ (d + 1) = 4 * 4 ^ d := by rw [Int.pow_succ]; omega
    have hpn : (4 : Nat) ^ (d + 1 + 1) = 4 * 4 ^ (d + 1) := by rw [Nat.pow_succ]; omega
    have hpn1 : (4 : Nat) ^ (d + 1) = 4 * 4 ^ d := by rw [Nat.pow_succ]; omega
    have hpos : (1 : Int) ≤ 4 ^ d := Int.pow_pos (by omega)
    have hposn : 1 ≤ (4 : Nat) ^ d := Nat.one_le_iff_ne_zero.2 (by simp)
    have hcast : ((4 ^ (d + 1) : Nat) : Int) = 4 * 4 ^ d := by rw [← hpow]; simp
    have hle : (4 : Int) ^ d ≤ 40000 := by omega
    have e1 : IntKind.wrap .i64 (((d + 1 : Nat) : Int) - 1) = (d : Int) := by
      have : (d : Int) ≤ 4000000 := by
        have : d < 4 ^ d := Nat.lt_pow_self (by omega)
        have : ((4 ^ d : Nat) : Int) = 4 ^ d := by simp
        omega
      rw [wrap64 (by omega) (by omega)]
      omega
    obtain ⟨b1, p1, s1, g1, g2, hb1⟩ := one_ex hl n (m := 6) (s := s) (by omega) h0 (by omega)
    obtain ⟨r2, p2, s2, hr2, g3, g4, hb2⟩ := of_ex hl n (xs := [(ByteArray.mk #[97]), (ByteArray.mk #[98]), (ByteArray.mk #[99]), (ByteArray.mk #[100]), (ByteArray.mk #[101]), (ByteArray.mk #[102]), (ByteArray.mk #[48]), (ByteArray.mk #[49]), (ByteArray.mk #[97]), (ByteArray.mk #[98])]) (by simp) (by simp) (by decide) (s := s1) (show 0 ≤ p1 by omega) (by omega)
    obtain ⟨b3, p3, s3, g5, g6, hb3⟩ := one_ex hl n (m := 4) (s := s1) (by omega) (show 0 ≤ p1 by omega) (by omega)
    obtain ⟨f4, p4, s4, z4, g7, g8, hb4⟩ := ih n p3 s3 (by omega) (by omega) (by omega)
    obtain ⟨r5, p5, s5, hr5, g9, g10, hb5⟩ := of_ex hl n (xs := [(ByteArray.mk #[38]), (ByteArray.mk #[124]), (ByteArray.mk #[94])]) (by simp) (by simp) (by decide) (s := s4) (show 0 ≤ p4 by omega) (by omega)
    obtain ⟨f6, p6, s6, z6, g11, g12, hb6⟩ := ih n p5 s5 (by omega) (by omega) (by omega)
    have zl : (4 : Nat) ^ (d + 1) ≤ 200000 := by omega
    have q33 : (ByteArray.mk #[33]).size = 1 := rfl
    have q40 : (ByteArray.mk #[40]).size = 1 := rfl
    have q41 : (ByteArray.mk #[41]).size = 1 := rfl
    cases b1 with
    | true =>
      refine ⟨r2, p2, s2, by omega, by omega, by omega, fun R k => ?_⟩
      rw [spec_l1Cur_form, decide_eq_false (show ¬ ((d + 1 : Nat) : Int) ≤ 0 by omega), cond_false, hb1, cond_true, hb2]
    | false =>
      cases b3 with
      | true =>
        refine ⟨(ByteArray.mk #[33]) ++ f4, p4, s4, by rw [ByteArray.size_append]; omega, by omega, by omega, fun R k => ?_⟩
        rw [spec_l1Cur_form, decide_eq_false (show ¬ ((d + 1 : Nat) : Int) ≤ 0 by omega), cond_false, hb1, cond_false, hb3, cond_true, e1, hb4, decide_eq_true (show (ByteArray.mk #[33]).size + f4.size ≤ STR by unfold STR; omega), cond_true]
      | false =>
        refine ⟨((((ByteArray.mk #[40]) ++ f4) ++ r5) ++ f6) ++ (ByteArray.mk #[41]), p6, s6, by simp only [ByteArray.size_append]; omega, by omega, by omega, fun R k => ?_⟩
        rw [spec_l1Cur_form, decide_eq_false (show ¬ ((d + 1 : Nat) : Int) ≤ 0 by omega), cond_false, hb1, cond_false, hb3, cond_false, e1, hb4, decide_eq_true (show (ByteArray.mk #[40]).size + f4.size ≤ STR by unfold STR; omega), cond_true, hb5, decide_eq_true (show ((ByteArray.mk #[40]) ++ f4).size + r5.size ≤ STR by simp only [ByteArray.size_append]; unfold STR; omega), cond_true, hb6, decide_eq_true (show (((ByteArray.mk #[40]) ++ f4) ++ r5).size + f6.size ≤ STR by simp only [ByteArray.size_append]; unfold STR; omega), cond_true, decide_eq_true (show ((((ByteArray.mk #[40]) ++ f4) ++ r5) ++ f6).size + (ByteArray.mk #[41]).size ≤ STR by simp only [ByteArray.size_append]; unfold STR; omega), cond_true]
theorem rnext_ex (n : Nat) (s : ByteArray) {pos : Int} (h : 0 ≤ pos) (fl : Bool) : ∃ c : Int, 0 ≤ c ∧ c ≤ 255 ∧ ((s.size : Int) ≤ pos → c = 0) ∧ ∀ (R : Type) (k : Int → ByteArray → Int → Bool → Option R), spec_l7R_next n s pos fl k = k c s pos fl := by
  by_cases c : pos < (s.size : Int)
  · have := (s.data.getD (Int.toNat pos) 0).toNat_lt
    refine ⟨((s.data.getD (Int.toNat pos) 0).toNat : Int), by omega, by omega, fun h => by omega, fun R k => ?_⟩
    unfold spec_l7R_next
    rw [decide_eq_true c, decide_eq_true h]; rfl
  · refine ⟨0, by omega, by omega, fun _ => rfl, fun R k => ?_⟩
    unfold spec_l7R_next
    rw [decide_eq_false c]; rfl
theorem rwant_ex (n : Nat) (x : Int) (s : ByteArray) {pos : Int} (h : 0 ≤ pos) (h1 : pos ≤ 1000) (fl : Bool) : ∃ fl', ∀ (R : Type) (k : ByteArray → Int → Bool → Option R), spec_l7R_want n x s pos fl k = k s (pos + 1) fl' := by
  obtain ⟨c, c0, c1, c2, hc⟩ := rnext_ex n s h fl
  by_cases e : c = x
  · refine ⟨fl, fun R k => ?_⟩
    unfold spec_l7R_want
    rw [hc, show (c != x) = false by simp [e], cond_false, wrap64 (by omega) (by omega)]
  · refine ⟨true, fun R k => ?_⟩
    unfold spec_l7R_want
    rw [hc, show (c != x) = true by simpa using e, cond_true, wrap64 (by omega) (by omega)]
theorem bne' {a b : Int} (h : a ≠ b) : (a == b) = false := beq_eq_false_iff_ne.2 h
theorem rform_bad {n : Nat} {s : ByteArray} {pos : Int} {fl : Bool} {c : Int} (h0 : 0 ≤ pos) (h1 : pos ≤ 1000) (hc : ∀ (R : Type) (k : Int → ByteArray → Int → Bool → Option R), spec_l7R_next n s pos fl k = k c s pos fl) (hb : fl = true ∨ (c ≠ 48 ∧ c ≠ 49 ∧ ¬ (97 ≤ c ∧ c ≤ 102) ∧ c ≠ 33 ∧ c ≠ 40)) (R : Type) (k : Int → ByteArray → Int → Bool → Option R) : spec_l7R_form (n + 1) s pos fl k = k (U 0) s (pos + 1) true := by
  rw [spec_l7R_form, hc, wrap64 (by omega) (by omega), U_zero]
  cases fl with
  | true => rfl
  | false =>
    rcases hb with h | ⟨h48, h49, h97, h33, h40⟩
    · cases h
    · rw [cond_false, bne' h48, bne' h49, bne' h33, bne' h40, cond_false, cond_false]
      by_cases g : c ≥ 97
      · rw [decide_eq_true g, decide_eq_false (show ¬ c ≤ 102 by omega)]; rfl
      · rw [decide_eq_false g]; rfl
theorem xor_U (a b : BitVec 64) : IntKind.wrap .u64 (Int.ofNat (BitVec.toNat (BitVec.ofInt (IntKind.bits .u64) (U a) ^^^ BitVec.ofInt (IntKind.bits .u64) (U b)))) = U (a ^^^ b) := by
  show IntKind.wrap .u64 (Int.ofNat (BitVec.toNat (BitVec.ofInt 64 (U a) ^^^ BitVec.ofInt 64 (U b)))) = _
  rw [of_U, of_U, wrap_U]
theorem rform_ex {s : ByteArray} (hs : s.size ≤ 60) : ∀ (m n : Nat) (pos : Int) (fl : Bool), m + 100 ≤ n → 0 ≤ pos → pos ≤ 500 → (s.size : Int) - pos ≤ m → ∃ (t : BitVec 64) (pos' : Int) (fl' : Bool), pos + 1 ≤ pos' ∧ ((s.size : Int) ≤ pos → pos' = pos + 1) ∧ (pos < (s.size : Int) → pos' ≤ (s.size : Int) + 1 + 3 * ((s.size : Int) - pos)) ∧ ∀ (R : Type) (k : Int → ByteArray → Int → Bool → Option R), spec_l7R_form n s pos fl k = k (U t) s pos' fl' := by
  intro m
  induction m with
  | zero =>
    intro n pos fl hn h0 h1 hm
    obtain ⟨n, rfl⟩ : ∃ m, n = m + 1 := ⟨n - 1, by omega⟩
    obtain ⟨c, c0, c1, c2, hc⟩ := rnext_ex n s h0 fl
    have := c2 (by omega)
    exact ⟨0, pos + 1, true, by omega, fun _ => rfl, fun _ => by omega, rform_bad h0 (by omega) hc (.inr (by omega))⟩
  | succ m ih =>
    intro n pos fl hn h0 h1 hm
    obtain ⟨n, rfl⟩ : ∃ m, n = m + 1 := ⟨n - 1, by omega⟩
    obtain ⟨c, c0, c1, c2, hc⟩ := rnext_ex n s h0 fl
    by_cases hb : fl = true ∨ (c ≠ 48 ∧ c ≠ 49 ∧ ¬ (97 ≤ c ∧ c ≤ 102) ∧ c ≠ 33 ∧ c ≠ 40)
    · exact ⟨0, pos + 1, true, by omega, fun _ => rfl, fun _ => by omega, rform_bad h0 (by omega) hc hb⟩
    have hfl : fl = false := by
      cases fl with
      | true => exact absurd (.inl rfl) hb
      | false => rfl
    subst hfl
    have hps : pos < (s.size : Int) := by
      by_cases g : pos < (s.size : Int)
      · exact g
      · have := c2 (by omega)
        exact absurd (.inr (by omega)) hb
    have hw : IntKind.wrap .i64 (pos + 1) = pos + 1 := wrap64 (by omega) (by omega)
    by_cases h48 : c = 48
    · subst h48
      refine ⟨0, pos + 1, false, by omega, fun _ => rfl, fun _ => by omega, fun R k => ?_⟩
      rw [spec_l7R_form, hc, hw]; rfl
    by_cases h49 : c = 49
    · subst h49
      refine ⟨BitVec.allOnes 64, pos + 1, false, by omega, fun _ => rfl, fun _ => by omega, fun R k => ?_⟩
      rw [spec_l7R_form, hc, hw]; rfl
    by_cases h97 : 97 ≤ c ∧ c ≤ 102
    · obtain ⟨v, hv⟩ : ∃ v : Nat, c - 97 = (v : Int) := ⟨(c - 97).toNat, by omega⟩
      have hv6 : v < 6 := by omega
      have hwu : IntKind.wrap .i64 (IntKind.wrap .u8 (c - 97)) = (v : Int) := by
        have : IntKind.wrap .u8 (v : Int) = (v : Int) := by
          simp only [IntKind.wrap, IntKind.signed, IntKind.bits]
          simp
          omega
        rw [hv, this, wrap64 (by omega) (by omega)]
      refine ⟨msk v, pos + 1, false, by omega, fun _ => rfl, fun _ => by omega, fun R k => ?_⟩
      rw [spec_l7R_form, hc, hw, cond_false, bne' h48, bne' h49, cond_false, cond_false, decide_eq_true h97.1, decide_eq_true h97.2, cond_true, cond_true, hwu, spec_var_eq hv6 (by omega)]
    obtain ⟨t1, p1, fl1, a1, a2, a3, h1'⟩ := ih n (pos + 1) false (by omega) (by omega) (by omega) (by omega)
    by_cases h33 : c = 33
    · subst h33
      refine ⟨~~~ t1, p1, fl1, by omega, fun _ => by omega, fun _ => by omega, fun R k => ?_⟩
      rw [spec_l7R_form, hc, hw, cond_false]
      show (spec_l7R_form n s (pos + 1) false _) = _
      rw [h1', not_U]
    by_cases h40 : c = 40
    · subst h40
      obtain ⟨c', c0', c1', c2', hc'⟩ := rnext_ex n s (show 0 ≤ p1 by omega) fl1
      obtain ⟨t2, p2, fl2, b1, b2, b3, h2'⟩ := ih n (p1 + 1) fl1 (by omega) (by omega) (by omega) (by omega)
      obtain ⟨fl3, h3'⟩ := rwant_ex n 41 s (show 0 ≤ p2 by omega) (by omega) fl2
      have hw1 : IntKind.wrap .i64 (p1 + 1) = p1 + 1 := wrap64 (by omega) (by omega)
      refine ⟨bif c' == 38 then t1 &&& t2 else bif c' == 124 then t1 ||| t2 else bif c' == 94 then t1 ^^^ t2 else 0, p2 + 1, bif c' == 38 then fl3 else bif c' == 124 then fl3 else bif c' == 94 then fl3 else true, by omega, fun _ => by omega, fun _ => by omega, fun R k => ?_⟩
      rw [spec_l7R_form, hc, hw, cond_false]
      show (spec_l7R_form n s (pos + 1) false _) = _
      rw [h1', hc', hw1, h2', h3', and_U, or_U, xor_U]
      cases c' == 38 <;> cases c' == 124 <;> cases c' == 94 <;> rfl
    · exact absurd (.inr (by omega)) hb
theorem table_ex {n : Nat} (hn : 3000 ≤ n) (s : ByteArray) : ∃ (t : BitVec 64) (ok : Bool), ∀ (R : Type) (k : Int → Bool → Option R), spec_l7Table n s k = k (U t) ok := by
  by_cases h : (s.size : Int) > 60
  · exact ⟨0, false, fun R k => by unfold spec_l7Table; rw [decide_eq_true h]; rfl⟩
  · obtain ⟨t, p, fl, _, _, _, hf⟩ := rform_ex (s := s) (by omega) 60 n 0 false (by omega) (by omega) (by omega) (by omega)
    cases fl with
    | false => exact ⟨t, _, fun R k => by unfold spec_l7Table; rw [decide_eq_false h, cond_false, hf]; rfl⟩
    | true => exact ⟨t, false, fun R k => by unfold spec_l7Table; rw [decide_eq_false h, cond_false, hf]; rfl⟩
theorem diagramOf_ex {n : Nat} (hn : 3000 ≤ n) (s : ByteArray) : ∃ (r : Int) (ok : Bool) (g : List (Int × Int × Int)), g.length ≤ 63 ∧ ∀ (R : Type) (k : Int → Bool → List (Int × Int × Int) → Option R), spec_DiagramOf n s k = k r ok g := by
  obtain ⟨t, ok, ht⟩ := table_ex hn s
  obtain ⟨r, g, d, _, hd⟩ := dg_ex t
  cases ok with
  | false => exact ⟨0, false, [], by simp, fun R k => by unfold spec_DiagramOf; rw [ht]; rfl⟩
  | true => exact ⟨r, true, g, d.len, fun R k => by unfold spec_DiagramOf; rw [ht, Bool.not_true, cond_false, hd n hn]; rfl⟩
theorem twist_ex {l : List Int} (hl : Bytes l) {n : Nat} (g : List (Int × Int × Int)) (hg : g.length ≤ 63) (r : Int) {p s : Int} (h0 : 0 ≤ p) (h1 : p ≤ 4000000) : ∃ r' g' p' s', List.length g' ≤ 63 ∧ p ≤ p' ∧ p' ≤ p + 10 ∧ ∀ (R : Type) (k : Int → List (Int × Int × Int) → List Int → Int → Int → Option R), (bif (decide ((g.length : Int) > 0)) then (spec_l1Cur_one n 20 l p s fun r35 r36 r37 r38 => (bif r35 then (spec_l1Cur_pick n (g.length : Int) r36 r37 r38 fun r39 r40 r41 r42 => (spec_l1Cur_pick n 3 r40 r41 r42 fun r43 r44 r45 r46 => (bif (r43 == 0) then (spec_l1Cur_pick n 7 r44 r45 r46 fun r47 r48 r49 r50 => (bif decide (0 ≤ r39) then (bif decide (r39 < (g.length : Int)) then k r (g.set (Int.toNat r39) (r47, (g.getD (Int.toNat r39) (0, (0, 0))).2)) r48 r49 r50 else none) else none)) else (bif (r43 == 1) then (spec_l1Cur_pick n 4 r44 r45 r46 fun r51 r52 r53 r54 => (bif decide (0 ≤ r39) then (bif decide (r39 < (g.length : Int)) then k r (g.set (Int.toNat r39) ((g.getD (Int.toNat r39) (0, (0, 0))).1, ((IntKind.wrap .i64 (r51 - 2)), (g.getD (Int.toNat r39) (0, (0, 0))).2.2))) r52 r53 r54 else none) else none)) else k (IntKind.wrap .i64 (r - 1)) g r44 r45 r46)))) else k r g r36 r37 r38)) else k r g l p s) = k r' g' l p' s' := by
  by_cases c : (g.length : Int) > 0
  · obtain ⟨b1, p1, s1, g1, g2, hb1⟩ := one_ex hl n (m := 20) (s := s) (by omega) h0 (by omega)
    cases b1 with
    | false => exact ⟨r, g, p1, s1, hg, by omega, by omega, fun R k => by rw [decide_eq_true c, cond_true, hb1]; rfl⟩
    | true =>
      obtain ⟨i, p2, s2, i0, i1, g3, g4, hb2⟩ := pick_ex hl n (m := (g.length : Int)) (s := s1) (by omega) (show 0 ≤ p1 by omega) (by omega)
      obtain ⟨w, p3, s3, w0, w1, g5, g6, hb3⟩ := pick_ex hl n (m := 3) (s := s2) (by omega) (show 0 ≤ p2 by omega) (by omega)
      obtain ⟨x, p4, s4, x0, x1, g7, g8, hb4⟩ := pick_ex hl n (m := 7) (s := s3) (by omega) (show 0 ≤ p3 by omega) (by omega)
      obtain ⟨y, p5, s5, y0, y1, g9, g10, hb5⟩ := pick_ex hl n (m := 4) (s := s3) (by omega) (show 0 ≤ p3 by omega) (by omega)
      by_cases w2 : w = 0
      · subst w2
        refine ⟨_, _, p4, s4, ?_, by omega, by omega, fun R k => by
          rw [decide_eq_true c, cond_true, hb1, cond_true, hb2, hb3, beq_self_eq_true, cond_true, hb4, decide_eq_true i0, decide_eq_true (show i < (g.length : Int) by omega), cond_true, cond_true]⟩
        rw [List.length_set]; exact hg
      · by_cases w3 : w = 1
        · subst w3
          refine ⟨_, _, p5, s5, ?_, by omega, by omega, fun R k => by
            rw [decide_eq_true c, cond_true, hb1, cond_true, hb2, hb3, bne' w2, cond_false, beq_self_eq_true, cond_true, hb5, decide_eq_true i0, decide_eq_true (show i < (g.length : Int) by omega), cond_true, cond_true]⟩
          rw [List.length_set]; exact hg
        · exact ⟨_, _, p3, s3, hg, by omega, by omega, fun R k => by
            rw [decide_eq_true c, cond_true, hb1, cond_true, hb2, hb3, bne' w2, cond_false, bne' w3, cond_false]⟩
  · exact ⟨r, g, p, s, hg, by omega, by omega, fun R k => by rw [decide_eq_false c]; rfl⟩
theorem drawDiagram_ex {l : List Int} (hl : Bytes l) {n : Nat} (hn : 4000 ≤ n) {p s : Int} (h0 : 0 ≤ p) (h1 : p ≤ 1000000) : ∃ r g p' s', List.length g ≤ 63 ∧ p ≤ p' ∧ p' ≤ p + 100000 ∧ ∀ (R : Type) (k : Int → List (Int × Int × Int) → List Int → Int → Int → Option R), spec_l1Cur_diagram n l p s k = k r g l p' s' := by
  obtain ⟨i, p1, s1, i0, i1, g1, g2, hb1⟩ := pick_ex hl n (m := 5) (s := s) (by omega) h0 (by omega)
  obtain ⟨d, rfl⟩ : ∃ d : Nat, i = (d : Int) := ⟨i.toNat, by omega⟩
  have hd : (4 : Int) ^ d ≤ 256 := by
    have : d = 0 ∨ d = 1 ∨ d = 2 ∨ d = 3 ∨ d = 4 := by omega
    rcases this with h | h | h | h | h <;> subst h <;> decide
  obtain ⟨f, p2, s2, _, g3, g4, hb2⟩ := form_ex hl d n p1 s1 (by omega) (by omega) (by omega)
  obtain ⟨r3, ok, l3, hl3, hb3⟩ := diagramOf_ex (show 3000 ≤ n by omega) f
  obtain ⟨r4, ok4, l4, hl4, hb4⟩ := diagramOf_ex (show 3000 ≤ n by omega) (ByteArray.mk #[40, 97, 94, 40, 98, 38, 102, 41, 41])
  cases ok with
  | false =>
    obtain ⟨r', g', p', s', hg', q0, q1, ht⟩ := twist_ex hl (n := n) l4 hl4 r4 (s := s2) (show 0 ≤ p2 by omega) (by omega)
    refine ⟨r', g', p', s', hg', by omega, by omega, fun R k => ?_⟩
    unfold spec_l1Cur_diagram
    rw [hb1, hb2, hb3, Bool.not_false, cond_true, hb4]
    exact ht R k
  | true =>
    obtain ⟨r', g', p', s', hg', q0, q1, ht⟩ := twist_ex hl (n := n) l3 hl3 r3 (s := s2) (show 0 ≤ p2 by omega) (by omega)
    refine ⟨r', g', p', s', hg', by omega, by omega, fun R k => ?_⟩
    unfold spec_l1Cur_diagram
    rw [hb1, hb2, hb3, Bool.not_true, cond_false]
    exact ht R k
theorem num_loop {R : Type} {l : List Int} (hl : Bytes l) (hb : l.length ≤ 9223372036854775807) : ∀ (c n j : Nat) (a : Int), c < n → j + c = l.length → 0 ≤ a → a < 1000003 → ∃ a', 0 ≤ a' ∧ ∀ k : Int → Option R, laws_numberOf_l3 n a l (l.length : Int) (j : Int) k = k a' := by
  intro c
  induction c with
  | zero =>
    intro n j a hn hj h0 h1
    obtain ⟨n, rfl⟩ : ∃ m, n = m + 1 := ⟨n - 1, by omega⟩
    exact ⟨a, h0, fun k => by rw [laws_numberOf_l3, dge (by omega), cond_false]⟩
  | succ c ih =>
    intro n j a hn hj h0 h1
    obtain ⟨n, rfl⟩ : ∃ m, n = m + 1 := ⟨n - 1, by omega⟩
    have h : j < l.length := by omega
    have hx := hl l[j] (List.getElem_mem h)
    obtain ⟨a', g0, g⟩ := ih n (j + 1) (Int.tmod (31 * a + l[j]) 1000003) (by omega) (by omega) (Int.tmod_nonneg _ (by omega)) (Int.tmod_lt_of_pos _ (by omega))
    refine ⟨a', g0, fun k => ?_⟩
    rw [laws_numberOf_l3, dlt h, dnn, getD_at _ _ h, wrapS h hb, cond_true, cond_true, cond_true, wrap64 (x := 31 * a) (by omega) (by omega), wrap64 (x := l[j]) (by omega) (by omega), wrap64 (x := 31 * a + l[j]) (by omega) (by omega)]
    exact g k
theorem num_ex {R : Type} {l : List Int} (hl : Bytes l) (hb : l.length ≤ 9223372036854775807) {n : Nat} (hn : l.length < n) : ∃ v : Nat, v < 6 ∧ ∃ a : Int, Int.tmod a 6 = (v : Int) ∧ ∀ k : Int → Option R, laws_numberOf n l k = k a := by
  obtain ⟨a, h0, h⟩ := num_loop (R := R) hl hb l.length n 0 0 (by omega) (by omega) (by omega) (by omega)
  have t0 := Int.tmod_nonneg 6 h0
  have t1 := Int.tmod_lt_of_pos a (show (0 : Int) < 6 by omega)
  refine ⟨(Int.tmod a 6).toNat, by omega, a, by omega, fun k => ?_⟩
  have := h fun r1 => k r1
  rw [show ((0 : Nat) : Int) = 0 from rfl] at this
  unfold laws_numberOf
  exact this
theorem draw_ex {R : Type} {l : List Int} (hl : Bytes l) {n : Nat} (hn : 20000 ≤ n) : ∃ x y a b, a.length ≤ 100 ∧ b.length ≤ 100 ∧ ∀ k : Int → Int → List (Int × Int × Int) → List (Int × Int × Int) → Option R, spec_DrawBothOf n l k = k x y a b := by
  obtain ⟨r, g, p, s, hg, p0, p1, h⟩ := drawDiagram_ex hl (n := n) (by omega) (p := 0) (s := 0) (by omega) (by omega)
  obtain ⟨r', g', p', s', hg', p0', p1', h'⟩ := drawDiagram_ex hl (n := n) (by omega) (p := p) (s := s) (by omega) (by omega)
  refine ⟨r, r', g, g', by omega, by omega, fun k => ?_⟩
  unfold spec_DrawBothOf
  rw [h, h']
theorem key {R : Type} {n : Nat} {l m : List Int} (hl : Bytes l) (hm : Bytes m) (hml : m.length ≤ 9223372036854775807) (hn : 20000 ≤ n) (hnm : m.length < n) (k : Bool → Option R) : laws_FnDiagrams n l m k = k true := by
  unfold laws_FnDiagrams
  cases decide (IntKind.wrap .i64 ((l.length : Int) + (m.length : Int)) > 1048576) with
  | true => rfl
  | false =>
  obtain ⟨x, y, a, b, ha, hb, hd⟩ := draw_ex (R := R) hl hn
  rw [cond_false, hd]
  obtain ⟨ok, ti, ts, he, hi, hs⟩ := truth_ex (n := n) a x (by omega) (by omega)
  obtain ⟨ok', ti', ts', he', hi', hs'⟩ := truth_ex (n := n) b y (by omega) (by omega)
  have bad : (ok && ok') = false → (∀ k : Int → Bool → List (Int × Int × Int) → Option R, impl_BothOf n a x b y k = k 0 false []) ∧ ∀ k : Int → Bool → List (Int × Int × Int) → Option R, spec_BothOf n a x b y k = k 0 false [] := fun h => by
    unfold impl_BothOf spec_BothOf
    simp only [hi, hi', hs, hs']
    cases ok with
    | false => exact ⟨fun k => rfl, fun k => rfl⟩
    | true =>
      cases ok' with
      | false => exact ⟨fun k => rfl, fun k => rfl⟩
      | true => cases h
  cases hok : (ok && ok') with
  | false =>
    obtain ⟨b1, b2⟩ := bad hok
    rw [b1, b2, beq_self_eq_true, Bool.not_true, cond_false, same_eq (by simp) (by omega), Bool.not_true, cond_false]
    unfold impl_GoodDiagram spec_GoodDiagram
    simp only [hi, hs, beq_self_eq_true, Bool.not_true, cond_false, Bool.not_false, cond_true]
    rfl
  | true =>
    obtain ⟨e1, e2⟩ := Bool.and_eq_true_iff.1 hok
    subst e1 e2
    have := he rfl
    subst this
    have := he' rfl
    subst this
    have hn3 : 3000 ≤ n := by omega
    have da := truth_good hn3 (by omega) hi
    have db := truth_good hn3 (by omega) hi'
    obtain ⟨rc, lc, dc, -, hsc⟩ := dg_ex (ti &&& ti')
    obtain ⟨rd, ld, dd, -, -⟩ := dg_ex (~~~ ti)
    obtain ⟨v, hv6, q, hq, hnum⟩ := num_ex (R := R) hm hml hnm
    obtain ⟨re, le, de, -, -⟩ := dg_ex (hv ti v false)
    obtain ⟨rf, lf, df, -, -⟩ := dg_ex (hv ti v true)
    obtain ⟨rz, lz, dz, hz, -⟩ := dg_ex (ti &&& ~~~ ti)
    have hz2 := hz (by rw [BitVec.and_not_self])
    have daa : Dg a x (~~~ ~~~ ti) := by rw [BitVec.not_not]; exact da
    have hsb : ∀ k : Int → Bool → List (Int × Int × Int) → Option R, spec_BothOf n a x b y k = k rc true lc := fun k => by
      unfold spec_BothOf spec_l7Tell
      simp only [hs, hs', Bool.not_true, cond_false, and_U, hsc n hn3]
    have hloop := fun kr ke => bits_loop (R := R) hv6 da db dc dd de df kr ke 64 n 0 (by omega) (by omega)
    rw [show ((0 : Nat) : Int) = 0 from rfl] at hloop
    have hlc := dc.len
    rw [both_eq hn3 da db dc, hsb, beq_self_eq_true, Bool.not_true, cond_false, same_eq (show lc.length ≤ 1000 by omega) hn3]
    unfold impl_GoodDiagram spec_GoodDiagram
    simp only [hi, hs, beq_self_eq_true, Bool.not_true, cond_false, not_eq hn3 da dd, not_eq hn3 dd daa, hnum, hq, restrict_eq hn3 da hv6 de, restrict_eq hn3 da hv6 df, same_eq (show a.length ≤ 1000 by omega) hn3, hloop, both_eq hn3 da dd dz, cond_true, hz2]
theorem plain : Plain := fun d e h h' R k => ⟨20000 + e.length + 1, key (fun x hx => h.2 x hx) (fun x hx => h'.2 x hx) h'.1 (by omega) (by omega) k⟩
end Go.Am.G
