/- The plain law: what the functions compute answers as the law says, for all arguments. -/
import Derived.Test.YtclmflfhhdcipaaF6
set_option linter.unusedVariables false
set_option linter.unusedSimpArgs false
namespace Go.Am.G
open Go Go.Am
theorem wrap64 {x : Int} (h1 : -9223372036854775808 ≤ x) (h2 : x ≤ 9223372036854775807) : IntKind.wrap .i64 x = x := by
  simp only [IntKind.wrap, IntKind.signed, IntKind.bits]
  simp
  omega
theorem getD_at {α : Type} (l : List α) (d : α) {j : Nat} (h : j < l.length) : l.getD (Int.toNat (j : Int)) d = l[j] := by
  rw [Int.toNat_natCast, List.getD_eq_getElem?_getD, List.getElem?_eq_getElem h]; rfl
theorem dlt {a b : Nat} (h : a < b) : decide ((a : Int) < (b : Int)) = true := decide_eq_true (by omega)
theorem dge {a b : Nat} (h : b ≤ a) : decide ((a : Int) < (b : Int)) = false := decide_eq_false (by omega)
theorem dnn (a : Nat) : decide (0 ≤ (a : Int)) = true := decide_eq_true (by omega)
theorem wrapS {j m : Nat} (h : j < m) (hm : m ≤ 9223372036854775807) : IntKind.wrap .i64 ((j : Int) + 1) = ((j + 1 : Nat) : Int) := by
  rw [wrap64 (by omega) (by omega)]; rfl
theorem spec_l1In_eq {R : Type} (n : Nat) (x a b : Int) (k : Bool → Option R) : spec_l1In n x a b k = k (decide (a ≤ x ∧ x ≤ b)) := by
  simp only [spec_l1In]
  by_cases h : x ≥ a
  · have : a ≤ x := h
    simp [this]
  · have : ¬ a ≤ x := h
    simp [this]
theorem impl_in_eq {R : Type} (n : Nat) (x a b : Int) (k : Bool → Option R) : impl_in n x a b k = k (decide (a ≤ x ∧ x ≤ b)) := by
  simp only [impl_in]
  by_cases h : x ≥ a
  · have : a ≤ x := h
    simp [this]
  · have : ¬ a ≤ x := h
    simp [this]
def U (b : BitVec 64) : Int := (b.toNat : Int)
theorem U_inj {a b : BitVec 64} (h : U a = U b) : a = b := BitVec.eq_of_toNat_eq (by unfold U at h; omega)
theorem U_beq (a b : BitVec 64) : (U a == U b) = decide (a = b) := by
  by_cases c : a = b
  · subst c; simp
  · rw [decide_eq_false c]
    simpa using fun h => c (U_inj h)
theorem of_U (b : BitVec 64) : BitVec.ofInt 64 (U b) = b := by
  show BitVec.ofInt 64 (b.toNat : Int) = b
  rw [BitVec.ofInt_natCast, BitVec.ofNat_toNat, BitVec.setWidth_eq]
theorem wrap_u {x : Int} (h0 : 0 ≤ x) (h1 : x < 18446744073709551616) : IntKind.wrap .u64 x = x := by
  simp only [IntKind.wrap, IntKind.signed, IntKind.bits]
  simp
  omega
theorem U_lt (b : BitVec 64) : 0 ≤ U b ∧ U b < 18446744073709551616 := by
  have := b.isLt
  unfold U
  omega
theorem wrap_U (b : BitVec 64) : IntKind.wrap .u64 (Int.ofNat b.toNat) = U b := wrap_u (U_lt b).1 (U_lt b).2
theorem wrap_U' (b : BitVec 64) : IntKind.wrap .u64 ((b.toNat : Nat) : Int) = U b := wrap_u (U_lt b).1 (U_lt b).2
theorem or_U (a b : BitVec 64) : IntKind.wrap .u64 (Int.ofNat (BitVec.toNat (BitVec.ofInt (IntKind.bits .u64) (U a) ||| BitVec.ofInt (IntKind.bits .u64) (U b)))) = U (a ||| b) := by
  show IntKind.wrap .u64 (Int.ofNat (BitVec.toNat (BitVec.ofInt 64 (U a) ||| BitVec.ofInt 64 (U b)))) = _
  rw [of_U, of_U, wrap_U]
theorem and_U (a b : BitVec 64) : IntKind.wrap .u64 (Int.ofNat (BitVec.toNat (BitVec.ofInt (IntKind.bits .u64) (U a) &&& BitVec.ofInt (IntKind.bits .u64) (U b)))) = U (a &&& b) := by
  show IntKind.wrap .u64 (Int.ofNat (BitVec.toNat (BitVec.ofInt 64 (U a) &&& BitVec.ofInt 64 (U b)))) = _
  rw [of_U, of_U, wrap_U]
theorem andn_U (a b : BitVec 64) : IntKind.wrap .u64 (Int.ofNat (BitVec.toNat (BitVec.ofInt (IntKind.bits .u64) (U a) &&& ~~~ BitVec.ofInt (IntKind.bits .u64) (U b)))) = U (a &&& ~~~ b) := by
  show IntKind.wrap .u64 (Int.ofNat (BitVec.toNat (BitVec.ofInt 64 (U a) &&& ~~~ BitVec.ofInt 64 (U b)))) = _
  rw [of_U, of_U, wrap_U]
theorem not_U (b : BitVec 64) : IntKind.wrap .u64 (BitVec.toNat (BitVec.ofInt (IntKind.bits .u64) (18446744073709551615) ^^^ BitVec.ofInt (IntKind.bits .u64) (U b))) = U (~~~ b) := by
  show IntKind.wrap .u64 ((BitVec.toNat (BitVec.ofInt 64 (U (BitVec.allOnes 64)) ^^^ BitVec.ofInt 64 (U b)) : Nat) : Int) = _
  rw [of_U, of_U, wrap_U', BitVec.allOnes_xor]
theorem shl_U (b : BitVec 64) (s : Nat) : IntKind.wrap .u64 (U b * 2 ^ s) = U (b <<< s) := by
  unfold U
  rw [BitVec.toNat_shiftLeft, Nat.shiftLeft_eq]
  simp only [IntKind.wrap, IntKind.signed, IntKind.bits]
  simp
theorem shr_U (b : BitVec 64) (s : Nat) : Int.fdiv (U b) (2 ^ s) = U (b >>> s) := by
  unfold U
  rw [BitVec.toNat_ushiftRight, Nat.shiftRight_eq_div_pow, Int.fdiv_eq_ediv_of_nonneg _ (Int.le_of_lt (Int.pow_pos (by omega)))]
  simp
theorem U_zero : U 0 = 0 := rfl
theorem U_all : U (BitVec.allOnes 64) = 18446744073709551615 := rfl
/-- A variable's table. -/
def mkM (v : Nat) : Nat → BitVec 64
  | 0 => 0
  | j + 1 => bif j.testBit v then mkM v j ||| BitVec.twoPow 64 j else mkM v j
def msk (v : Nat) : BitVec 64 := mkM v 64
theorem mkM_bit (v : Nat) : ∀ (j i : Nat), j ≤ 64 → i < 64 → (mkM v j).getLsbD i = (decide (i < j) && i.testBit v)
  | 0, i, _, _ => by simp [mkM]
  | j + 1, i, hj, hi => by
    have ih := mkM_bit v j i (by omega) hi
    unfold mkM
    cases hb : j.testBit v with
    | true =>
      simp only [cond_true]
      rw [BitVec.getLsbD_or, ih, BitVec.getLsbD_twoPow]
      by_cases c : i = j
      · subst c; simp [hb]; omega
      · have : (i < j + 1) = (i < j) := by rw [eq_iff_iff]; omega
        simp [this]; omega
    | false =>
      simp only [cond_false]
      rw [ih]
      by_cases c : i = j
      · subst c; simp [hb]
      · have : (i < j + 1) = (i < j) := by rw [eq_iff_iff]; omega
        simp [this]
theorem msk_bit {v i : Nat} (hi : i < 64) : (msk v).getLsbD i = i.testBit v := by
  unfold msk
  rw [mkM_bit v 64 i (by omega) hi]
  simp [hi]
theorem var_bit : ∀ j : Fin 64, ∀ v : Fin 6, ((IntKind.wrap .i64 (Int.ofNat (BitVec.toNat (BitVec.ofInt (IntKind.bits .i64) (Int.fdiv ((j.val : Nat) : Int) (2 ^ (min (Int.toNat ((v.val : Nat) : Int)) (IntKind.bits .i64)))) &&& BitVec.ofInt (IntKind.bits .i64) 1)))) == 1) = j.val.testBit v.val := by decide +kernel
theorem pow_U : ∀ j : Fin 64, IntKind.wrap .u64 (1 * 2 ^ (min (Int.toNat ((j.val : Nat) : Int)) (IntKind.bits .u64))) = U (BitVec.twoPow 64 j.val) := by decide +kernel
theorem var_u : ∀ v : Fin 7, IntKind.wrap .u64 ((v.val : Nat) : Int) = ((v.val : Nat) : Int) := by decide +kernel
theorem impl_var_loop {R : Type} {v : Nat} (hv : v < 6) (k : Int → Option R) : ∀ (c n j : Nat), c < n → j + c = 64 → impl_varTruth_l3 n (v : Int) (U (mkM v j)) (j : Int) k = k (U (msk v))
  | _, 0, _, h, _ => by omega
  | 0, n + 1, j, _, hj => by
    have : j = 64 := by omega
    subst this
    rw [impl_varTruth_l3, decide_eq_false (show ¬ ((64 : Nat) : Int) < 64 by omega)]; rfl
  | c + 1, n + 1, j, hn, hj => by
    have hlt : j < 64 := by omega
    have hb := var_bit ⟨j, hlt⟩ ⟨v, hv⟩
    have hp := pow_U ⟨j, hlt⟩
    dsimp only at hb hp
    rw [impl_varTruth_l3]
    rw [decide_eq_true (show (j : Int) < 64 by omega), dnn, dnn, hb, hp, or_U, wrapS hlt (by omega)]
    simp only [cond_true]
    have ih := impl_var_loop hv k c n (j + 1) (by omega) (by omega)
    unfold mkM at ih
    cases htb : j.testBit v with
    | true => rw [htb] at ih; exact ih
    | false => rw [htb] at ih; exact ih
theorem impl_var_eq {R : Type} {n v : Nat} (hv : v < 6) (hn : 70 ≤ n) (k : Int → Option R) : impl_varTruth n (v : Int) k = k (U (msk v)) := by
  have := impl_var_loop hv k 64 n 0 (by omega) (by omega)
  unfold impl_varTruth
  exact this
theorem spec_var_loop {R : Type} {v : Nat} (hv : v < 6) (k : Int → Option R) : ∀ (c n j : Nat), c < n → j + c = 64 → spec_l7Var_l3 n (v : Int) (U (mkM v j)) (j : Int) k = k (U (msk v))
  | _, 0, _, h, _ => by omega
  | 0, n + 1, j, _, hj => by
    have : j = 64 := by omega
    subst this
    rw [spec_l7Var_l3, decide_eq_false (show ¬ ((64 : Nat) : Int) < 64 by omega)]; rfl
  | c + 1, n + 1, j, hn, hj => by
    have hlt : j < 64 := by omega
    have hb := var_bit ⟨j, hlt⟩ ⟨v, hv⟩
    have hp := pow_U ⟨j, hlt⟩
    have hu := var_u ⟨v, by omega⟩
    dsimp only at hb hp hu
    rw [spec_l7Var_l3]
    rw [decide_eq_true (show (j : Int) < 64 by omega), hu, wrap_u (x := (j : Int)) (by omega) (by omega), dnn, dnn, hb, hp, or_U, wrapS hlt (by omega)]
    simp only [cond_true]
    have ih := spec_var_loop hv k c n (j + 1) (by omega) (by omega)
    unfold mkM at ih
    cases htb : j.testBit v with
    | true => rw [htb] at ih; exact ih
    | false => rw [htb] at ih; exact ih
theorem spec_var_eq {R : Type} {n v : Nat} (hv : v < 6) (hn : 70 ≤ n) (k : Int → Option R) : spec_l7Var n (v : Int) k = k (U (msk v)) := by
  have := spec_var_loop hv k 64 n 0 (by omega) (by omega)
  unfold spec_l7Var
  exact this
/-- A table with a variable no or yes. -/
def hv (t : BitVec 64) (v : Nat) : Bool → BitVec 64
  | true => (t &&& msk v) ||| ((t &&& msk v) >>> (2 ^ v))
  | false => (t &&& ~~~ msk v) ||| ((t &&& ~~~ msk v) <<< (2 ^ v))
theorem two_i : ∀ v : Fin 6, IntKind.wrap .i64 (1 * 2 ^ (min (Int.toNat ((v.val : Nat) : Int)) (IntKind.bits .i64))) = ((2 ^ v.val : Nat) : Int) := by decide +kernel
theorem two_u : ∀ v : Fin 6, IntKind.wrap .u64 (1 * 2 ^ (min (Int.toNat ((v.val : Nat) : Int)) (IntKind.bits .u64))) = ((2 ^ v.val : Nat) : Int) := by decide +kernel
theorem two_min : ∀ v : Fin 6, min (Int.toNat ((2 ^ v.val : Nat) : Int)) (IntKind.bits .u64) = 2 ^ v.val := by decide +kernel
theorem impl_with_eq {R : Type} {n v : Nat} (h6 : v < 6) (hn : 70 ≤ n) (t : BitVec 64) (b : Bool) (k : Int → Option R) : impl_truth_with n (U t) (v : Int) b k = k (U (hv t v b)) := by
  have h1 := two_i ⟨v, h6⟩
  have h2 := two_min ⟨v, h6⟩
  dsimp only at h1 h2
  unfold impl_truth_with
  rw [impl_var_eq h6 hn, dnn, h1, dnn, h2, and_U, andn_U, shr_U, shl_U, or_U, or_U]
  cases b <;> rfl
theorem spec_half_eq {R : Type} {n v : Nat} (h6 : v < 6) (hn : 70 ≤ n) (t : BitVec 64) (b : Bool) (k : Int → Option R) : spec_l7Half n (U t) (v : Int) b k = k (U (hv t v b)) := by
  have h1 := two_u ⟨v, h6⟩
  have h2 := two_min ⟨v, h6⟩
  have hu := var_u ⟨v, by omega⟩
  dsimp only at h1 h2 hu
  unfold spec_l7Half
  rw [spec_var_eq h6 hn, hu, dnn, h1, dnn, h2, and_U, andn_U, shr_U, shl_U, or_U, or_U]
  cases b <;> rfl
def st (i v : Nat) (b : Bool) : Nat := bif i.testBit v == b then i else bif b then i + 2 ^ v else i - 2 ^ v
theorem st_lt : ∀ i : Fin 64, ∀ v : Fin 6, ∀ b, st i.val v.val b < 64 := by decide +kernel
theorem st_same : ∀ i : Fin 64, ∀ v : Fin 6, ∀ b c, st (st i.val v.val b) v.val c = st i.val v.val c := by decide +kernel
theorem st_comm : ∀ i : Fin 64, ∀ u v : Fin 6, u ≠ v → ∀ b c, st (st i.val u.val b) v.val c = st (st i.val v.val c) u.val b := by decide +kernel
theorem st_low : ∀ i : Fin 64, st (st (st (st (st (st i.val 0 false) 1 false) 2 false) 3 false) 4 false) 5 false = 0 := by decide +kernel
theorem st_add : ∀ i : Fin 64, ∀ v : Fin 6, i.val.testBit v.val = false → i.val + 2 ^ v.val < 64 ∧ (i.val + 2 ^ v.val).testBit v.val = true := by decide +kernel
theorem st_add' : ∀ i : Fin 64, ∀ v : Fin 6, i.val.testBit v.val = true → i.val + 2 ^ v.val < 64 → (i.val + 2 ^ v.val).testBit v.val = false := by decide +kernel
theorem st_sub : ∀ i : Fin 64, ∀ v : Fin 6, i.val.testBit v.val = true → 2 ^ v.val ≤ i.val ∧ (i.val - 2 ^ v.val).testBit v.val = false := by decide +kernel
theorem st_sub' : ∀ i : Fin 64, ∀ v : Fin 6, i.val.testBit v.val = false → 2 ^ v.val ≤ i.val → (i.val - 2 ^ v.val).testBit v.val = true := by decide +kernel
theorem hv_bit {t : BitVec 64} {v i : Nat} (h6 : v < 6) (hi : i < 64) (b : Bool) : (hv t v b).getLsbD i = t.getLsbD (st i v b) := by
  cases b with
  | true =>
    unfold hv st
    rw [BitVec.getLsbD_or, BitVec.getLsbD_and, msk_bit hi, BitVec.getLsbD_ushiftRight, BitVec.getLsbD_and]
    cases hb : i.testBit v with
    | true =>
      have : (msk v).getLsbD (2 ^ v + i) = false := by
        by_cases c : i + 2 ^ v < 64
        · rw [Nat.add_comm, msk_bit c]; exact st_add' ⟨i, hi⟩ ⟨v, h6⟩ hb c
        · exact BitVec.getLsbD_of_ge _ _ (by omega)
      rw [this]; simp
    | false =>
      obtain ⟨h1, h2⟩ := st_add ⟨i, hi⟩ ⟨v, h6⟩ hb
      dsimp only at h1 h2
      rw [Nat.add_comm, msk_bit h1, h2]; simp
  | false =>
    unfold hv st
    rw [BitVec.getLsbD_or, BitVec.getLsbD_and, BitVec.getLsbD_not, msk_bit hi, BitVec.getLsbD_shiftLeft, BitVec.getLsbD_and, BitVec.getLsbD_not]
    cases hb : i.testBit v with
    | true =>
      obtain ⟨h1, h2⟩ := st_sub ⟨i, hi⟩ ⟨v, h6⟩ hb
      dsimp only at h1 h2
      have h3 : ¬ i < 2 ^ v := Nat.not_lt.2 h1
      have h4 : i - 2 ^ v < 64 := Nat.lt_of_le_of_lt (Nat.sub_le _ _) hi
      rw [msk_bit h4, h2]
      simp [hi, h3, h4]
    | false =>
      by_cases c : 2 ^ v ≤ i
      · have h2 := st_sub' ⟨i, hi⟩ ⟨v, h6⟩ hb c
        dsimp only at h2
        rw [msk_bit (Nat.lt_of_le_of_lt (Nat.sub_le _ _) hi), h2]
        simp [hi]
      · have : decide (i < 2 ^ v) = true := by simp; omega
        rw [this]
        simp [hi]
theorem bv_ext {a b : BitVec 64} (h : ∀ i, i < 64 → a.getLsbD i = b.getLsbD i) : a = b := BitVec.eq_of_getLsbD_eq h
def Ind (t : BitVec 64) (v : Nat) : Prop := hv t v false = hv t v true
theorem Ind.bit {t : BitVec 64} {v : Nat} (h6 : v < 6) (h : Ind t v) {i : Nat} (hi : i < 64) (b : Bool) : t.getLsbD (st i v b) = t.getLsbD i := by
  have e := fun i (hi : i < 64) => congrArg (fun x => BitVec.getLsbD x i) h
  have e1 : t.getLsbD (st i v false) = t.getLsbD (st i v true) := by
    have := e i hi
    rwa [hv_bit h6 hi, hv_bit h6 hi] at this
  have e2 : st i v (i.testBit v) = i := by unfold st; simp
  cases b <;> cases hb : i.testBit v <;> rw [hb] at e2
  · rw [e2]
  · rw [e1, e2]
  · rw [← e1, e2]
  · rw [e2]
theorem Ind.half {t : BitVec 64} {u v : Nat} (hu : u < 6) (h6 : v < 6) (h : Ind t u) (b : Bool) : Ind (hv t v b) u := by
  refine bv_ext fun i hi => ?_
  have l1 := st_lt ⟨i, hi⟩ ⟨u, hu⟩
  have l2 := st_lt ⟨i, hi⟩ ⟨v, h6⟩
  dsimp only at l1 l2
  rw [hv_bit hu hi, hv_bit hu hi, hv_bit h6 (l1 _), hv_bit h6 (l1 _)]
  by_cases c : u = v
  · subst c
    have s := st_same ⟨i, hi⟩ ⟨u, hu⟩
    dsimp only at s
    rw [s, s]
  · have s := st_comm ⟨i, hi⟩ ⟨u, hu⟩ ⟨v, h6⟩ (fun e => c (congrArg Fin.val e))
    dsimp only at s
    rw [s, s, h.bit hu (l2 _), h.bit hu (l2 _)]
theorem ind_own {t : BitVec 64} {v : Nat} (h6 : v < 6) (b : Bool) : Ind (hv t v b) v := by
  refine bv_ext fun i hi => ?_
  have l1 := st_lt ⟨i, hi⟩ ⟨v, h6⟩
  have s := st_same ⟨i, hi⟩ ⟨v, h6⟩
  dsimp only at l1 s
  rw [hv_bit h6 hi, hv_bit h6 hi, hv_bit h6 (l1 _), hv_bit h6 (l1 _), s, s]
theorem Ind.const {t : BitVec 64} (h : ∀ u, u < 6 → Ind t u) : t = 0 ∨ t = BitVec.allOnes 64 := by
  have key : ∀ i, i < 64 → t.getLsbD i = t.getLsbD 0 := fun i hi => by
    have lt := fun (i : Nat) (hi : i < 64) (v : Nat) (hv : v < 6) => st_lt ⟨i, hi⟩ ⟨v, hv⟩ false
    dsimp only at lt
    have l := st_low ⟨i, hi⟩
    dsimp only at l
    have h0 := lt i hi 0 (by omega)
    have h1 := lt _ h0 1 (by omega)
    have h2 := lt _ h1 2 (by omega)
    have h3 := lt _ h2 3 (by omega)
    have h4 := lt _ h3 4 (by omega)
    rw [← l, (h 5 (by omega)).bit (by omega) h4, (h 4 (by omega)).bit (by omega) h3, (h 3 (by omega)).bit (by omega) h2, (h 2 (by omega)).bit (by omega) h1, (h 1 (by omega)).bit (by omega) h0, (h 0 (by omega)).bit (by omega) hi]
  cases hb : t.getLsbD 0 with
  | false => exact .inl (bv_ext fun i hi => by rw [key i hi, hb]; simp)
  | true => exact .inr (bv_ext fun i hi => by rw [key i hi, hb, BitVec.getLsbD_allOnes, decide_eq_true hi])
/-- Out of its halves. -/
def ite64 (v : Nat) (a b : BitVec 64) : BitVec 64 := (a &&& ~~~ msk v) ||| (b &&& msk v)
theorem ite64_bit {v : Nat} {a b : BitVec 64} {i : Nat} (hi : i < 64) : (ite64 v a b).getLsbD i = bif i.testBit v then b.getLsbD i else a.getLsbD i := by
  unfold ite64
  rw [BitVec.getLsbD_or, BitVec.getLsbD_and, BitVec.getLsbD_and, BitVec.getLsbD_not, msk_bit hi]
  cases i.testBit v <;> simp [hi]
theorem ite64_half {t : BitVec 64} {v : Nat} (h6 : v < 6) : ite64 v (hv t v false) (hv t v true) = t := bv_ext fun i hi => by
  rw [ite64_bit hi, hv_bit h6 hi, hv_bit h6 hi]
  have e2 : st i v (i.testBit v) = i := by unfold st; simp
  cases hb : i.testBit v <;> rw [hb] at e2 <;> simp [e2]
def tabAt (T : List (BitVec 64)) (k : Int) : BitVec 64 := if k = -2 then 0 else if k = -1 then BitVec.allOnes 64 else T.getD k.toNat 0
theorem tabAt_no (T : List (BitVec 64)) : tabAt T (-2) = 0 := by unfold tabAt; rw [if_pos rfl]
theorem tabAt_yes (T : List (BitVec 64)) : tabAt T (-1) = BitVec.allOnes 64 := by unfold tabAt; rw [if_neg (by omega), if_pos rfl]
theorem tabAt_nat {T : List (BitVec 64)} {j : Nat} {t : BitVec 64} (h : T[j]? = some t) : tabAt T (j : Int) = t := by
  unfold tabAt
  rw [if_neg (by omega), if_neg (by omega), Int.toNat_natCast, List.getD_eq_getElem?_getD, h]; rfl
theorem tabAt_app {T e : List (BitVec 64)} {k : Int} (h0 : -2 ≤ k) (h : k < T.length) : tabAt (T ++ e) k = tabAt T k := by
  unfold tabAt
  split
  · rfl
  · split
    · rfl
    · rw [List.getD_eq_getElem?_getD, List.getD_eq_getElem?_getD, List.getElem?_append_left (by omega)]
structure Ent (l : List (Int × Int × Int)) (T : List (BitVec 64)) (j : Nat) (t : BitVec 64) (v : Nat) (a b : Int) : Prop where
  v6 : v < 6
  get : l[j]? = some ((v : Int), a, b)
  a0 : -2 ≤ a
  a1 : a < j
  b0 : -2 ≤ b
  b1 : b < j
  ind : ∀ u, u < v → Ind t u
  dep : ¬ Ind t v
  no : tabAt T a = hv t v false
  yes : tabAt T b = hv t v true
structure Built (l : List (Int × Int × Int)) (T : List (BitVec 64)) : Prop where
  len : l.length = T.length
  nd : ∀ (i j : Nat) (t : BitVec 64), T[i]? = some t → T[j]? = some t → i = j
  ne : ∀ (j : Nat) (t : BitVec 64), T[j]? = some t → t ≠ 0 ∧ t ≠ BitVec.allOnes 64
  ent : ∀ (j : Nat) (t : BitVec 64), T[j]? = some t → ∃ v a b, Ent l T j t v a b
theorem Ent.table {l : List (Int × Int × Int)} {T : List (BitVec 64)} {j : Nat} {t : BitVec 64} {v : Nat} {a b : Int} (h : Ent l T j t v a b) : t = ite64 v (tabAt T a) (tabAt T b) := by
  rw [h.no, h.yes, ite64_half h.v6]
def Kn (K : List (Int × Int)) (T : List (BitVec 64)) : Prop := (∀ (j : Nat) (t : BitVec 64), T[j]? = some t → List.lookup (U t) K = some (j : Int)) ∧ ∀ t, t ∉ T → List.lookup (U t) K = none
/-- What stands where, told by its table. -/
theorem Built.at' {l : List (Int × Int × Int)} {T : List (BitVec 64)} (h : Built l T) {k r : Int} (k0 : -2 ≤ k) (k1 : k < l.length) (r0 : -2 ≤ r) (r1 : r < l.length) (e : tabAt T k = tabAt T r) : k = r := by
  have hl := h.len
  have nat : ∀ {k : Int}, 0 ≤ k → k < l.length → ∃ t, T[k.toNat]? = some t ∧ tabAt T k = t := fun {k} h0 h1 => by
    have hlt : k.toNat < T.length := by omega
    refine ⟨T[k.toNat], List.getElem?_eq_getElem hlt, ?_⟩
    have := tabAt_nat (List.getElem?_eq_getElem hlt)
    rwa [Int.toNat_of_nonneg h0] at this
  have two : ∀ {k : Int}, -2 ≤ k → k < 0 → k = -2 ∨ k = -1 := fun h0 h1 => by omega
  have z : (0 : BitVec 64) ≠ BitVec.allOnes 64 := by decide
  by_cases c : 0 ≤ k
  · obtain ⟨t, h1, h2⟩ := nat c k1
    have hne := h.ne _ _ h1
    by_cases d : 0 ≤ r
    · obtain ⟨s, h3, h4⟩ := nat d r1
      rw [h2, h4] at e
      subst e
      have := h.nd _ _ _ h1 h3
      omega
    · rcases two r0 (by omega) with d | d <;> subst d
      · rw [h2, tabAt_no] at e; exact absurd e hne.1
      · rw [h2, tabAt_yes] at e; exact absurd e hne.2
  · by_cases d : 0 ≤ r
    · obtain ⟨s, h3, h4⟩ := nat d r1
      have hne := h.ne _ _ h3
      rcases two k0 (by omega) with c | c <;> subst c
      · rw [h4, tabAt_no] at e; exact absurd e.symm hne.1
      · rw [h4, tabAt_yes] at e; exact absurd e.symm hne.2
    · rcases two k0 (by omega) with c | c <;> rcases two r0 (by omega) with d | d <;> subst c <;> subst d
      · rfl
      · rw [tabAt_no, tabAt_yes] at e; exact absurd e z
      · rw [tabAt_no, tabAt_yes] at e; exact absurd e.symm z
      · rfl
theorem impl_l10 {R : Type} {t : BitVec 64} {d : Nat} (hd : d < 6) (hi : ∀ u, u < d → Ind t u) (hn : ¬ Ind t d) (l : List (Int × Int × Int)) (K : List (Int × Int)) (k : Int → Int → List (Int × Int × Int) → List (Int × Int) → Option R) : ∀ (c n j : Nat), c + 80 < n → j + c = d → impl_builder_node_l10 n (U t) (j : Int) l K k = k (U t) (d : Int) l K
  | _, 0, _, h, _ => by omega
  | 0, n + 1, j, h, hj => by
    have : j = d := by omega
    subst this
    rw [impl_builder_node_l10, impl_with_eq hd (by omega), impl_with_eq hd (by omega), U_beq, decide_eq_false (show ¬ hv t j false = hv t j true from hn)]; rfl
  | c + 1, n + 1, j, h, hj => by
    rw [impl_builder_node_l10, impl_with_eq (by omega) (by omega), impl_with_eq (by omega) (by omega), U_beq, decide_eq_true (show hv t j false = hv t j true from hi j (by omega)), cond_true, wrapS (m := 10) (by omega) (by omega)]
    exact impl_l10 hd hi hn l K k c n (j + 1) (by omega) (by omega)
theorem cho_eq (l : List (Int × Int × Int)) {j : Nat} (h : j < l.length) (v a b : Int) : ((l[j].1 == v) && ((l[j].2.1 == a) && ((l[j].2.2 == b) && true))) = decide (l[j] = (v, a, b)) := by
  rw [Bool.eq_iff_iff]
  simp [Prod.ext_iff]
theorem spec_l14_found {R : Type} {l : List (Int × Int × Int)} (hl : l.length ≤ 1000) (v a b : Int) {i : Nat} (hi : l[i]? = some (v, a, b)) (hu : ∀ i' : Nat, l[i']? = some (v, a, b) → i' = i) (kr : Int → List (Int × Int × Int) → Option R) (ke : List (Int × Int × Int) → Int → Int → Int → Option R) : ∀ (c n j : Nat), c < n → j + c = i → spec_l7Build_l14 n (l.length : Int) (j : Int) l v a b kr ke = kr (i : Int) l
  | _, 0, _, h, _ => by omega
  | 0, n + 1, j, h, hj => by
    have : j = i := by omega
    subst this
    obtain ⟨hlt, e⟩ := List.getElem?_eq_some_iff.1 hi
    rw [spec_l7Build_l14, dlt hlt, dnn, getD_at _ _ hlt, cho_eq l hlt, decide_eq_true e]; rfl
  | c + 1, n + 1, j, h, hj => by
    obtain ⟨hlt, e⟩ := List.getElem?_eq_some_iff.1 hi
    have hj' : j < l.length := by omega
    rw [spec_l7Build_l14, dlt hj', dnn, getD_at _ _ hj', cho_eq l hj', decide_eq_false (fun e => by have := hu j (by rw [List.getElem?_eq_getElem hj', e]); omega), wrapS hj' (by omega)]
    exact spec_l14_found hl v a b hi hu kr ke c n (j + 1) (by omega) (by omega)
theorem spec_l14_none {R : Type} {l : List (Int × Int × Int)} (hl : l.length ≤ 1000) (v a b : Int) (hu : ∀ i : Nat, l[i]? ≠ some (v, a, b)) (kr : Int → List (Int × Int × Int) → Option R) (ke : List (Int × Int × Int) → Int → Int → Int → Option R) : ∀ (c n j : Nat), c < n → j + c = l.length → spec_l7Build_l14 n (l.length : Int) (j : Int) l v a b kr ke = ke l v a b
  | _, 0, _, h, _ => by omega
  | 0, n + 1, j, h, hj => by rw [spec_l7Build_l14, dge (by omega)]; rfl
  | c + 1, n + 1, j, h, hj => by
    have hj' : j < l.length := by omega
    rw [spec_l7Build_l14, dlt hj', dnn, getD_at _ _ hj', cho_eq l hj', decide_eq_false (fun e => hu j (by rw [List.getElem?_eq_getElem hj', e])), wrapS hj' (by omega)]
    exact spec_l14_none hl v a b hu kr ke c n (j + 1) (by omega) (by omega)
/-- What building a table comes to. -/
structure Node (d c : Nat) (t : BitVec 64) (l : List (Int × Int × Int)) (T : List (BitVec 64)) (K : List (Int × Int)) (r : Int) (l' : List (Int × Int × Int)) (T' : List (BitVec 64)) (K' : List (Int × Int)) : Prop where
  built : Built l' T'
  kn : Kn K' T'
  ext : ∃ eL eT, l' = l ++ eL ∧ T' = T ++ eT ∧ ∀ x ∈ eT, ∀ u, u < d → Ind x u
  tab : tabAt T' r = t
  r0 : -2 ≤ r
  r1 : r < l'.length
  size : l'.length + 1 ≤ l.length + 2 ^ c
  old : ∀ r' : Int, -2 ≤ r' → r' < l.length → tabAt T r' = t → r = r' ∧ l' = l ∧ T' = T ∧ K' = K
  last : l' = l ∨ r + 1 = l'.length
  impl : ∀ (n : Nat), c + 100 ≤ n → ∀ (R : Type) (k : Int → List (Int × Int × Int) → List (Int × Int) → Option R), impl_builder_node n (U t) l K k = k r l' K'
  spec : ∀ (n : Nat), c + 1100 ≤ n → ∀ (R : Type) (k : Int → List (Int × Int × Int) → Option R), spec_l7Build n (U t) (d : Int) l k = k r l'
theorem node_const {d c : Nat} {t : BitVec 64} {l : List (Int × Int × Int)} {T : List (BitVec 64)} {K : List (Int × Int)} (hB : Built l T) (hK : Kn K T) (ht : t = 0 ∨ t = BitVec.allOnes 64) : ∃ r, Node d c t l T K r l T K := by
  have hp : 1 ≤ 2 ^ c := Nat.one_le_two_pow
  have z : (0 : BitVec 64) ≠ BitVec.allOnes 64 := by decide
  rcases ht with rfl | rfl
  · refine ⟨-2, hB, hK, ⟨[], [], by simp, by simp, fun x hx => by simp at hx⟩, tabAt_no T, by omega, by omega, by omega, fun r' h0 h1 e => ⟨hB.at' (by omega) (by omega) h0 h1 (by rw [e, tabAt_no]), rfl, rfl, rfl⟩, .inl rfl, fun n hn R k => ?_, fun n hn R k => ?_⟩
    · obtain ⟨m, rfl⟩ : ∃ m, n = m + 1 := ⟨n - 1, by omega⟩
      rw [impl_builder_node, U_zero]; rfl
    · obtain ⟨m, rfl⟩ : ∃ m, n = m + 1 := ⟨n - 1, by omega⟩
      rw [spec_l7Build, U_zero]; rfl
  · refine ⟨-1, hB, hK, ⟨[], [], by simp, by simp, fun x hx => by simp at hx⟩, tabAt_yes T, by omega, by omega, by omega, fun r' h0 h1 e => ⟨hB.at' (by omega) (by omega) h0 h1 (by rw [e, tabAt_yes]), rfl, rfl, rfl⟩, .inl rfl, fun n hn R k => ?_, fun n hn R k => ?_⟩
    · obtain ⟨m, rfl⟩ : ∃ m, n = m + 1 := ⟨n - 1, by omega⟩
      rw [impl_builder_node, U_all]; rfl
    · obtain ⟨m, rfl⟩ : ∃ m, n = m + 1 := ⟨n - 1, by omega⟩
      rw [spec_l7Build, U_all]; rfl
theorem U_ne {t : BitVec 64} (h : t ≠ 0) : (U t == 0) = false := by rw [← U_zero, U_beq, decide_eq_false h]
theorem U_na {t : BitVec 64} (h : t ≠ BitVec.allOnes 64) : (U t == 18446744073709551615) = false := by rw [← U_all, U_beq, decide_eq_false h]
theorem node_ex : ∀ (c d : Nat) (t : BitVec 64) (l : List (Int × Int × Int)) (T : List (BitVec 64)) (K : List (Int × Int)), c + d = 6 → (∀ u, u < d → Ind t u) → Built l T → Kn K T → l.length + 2 ^ c ≤ 500 → ∃ r l' T' K', Node d c t l T K r l' T' K'
  | 0, d, t, l, T, K, hcd, hi, hB, hK, hl => by
    obtain ⟨r, h⟩ := node_const (d := d) (c := 0) hB hK (Ind.const fun u hu => hi u (by omega))
    exact ⟨r, _, _, _, h⟩
  | c + 1, d, t, l, T, K, hcd, hi, hB, hK, hl => by
    have h2 : 2 ^ (c + 1) = 2 ^ c + 2 ^ c := by rw [Nat.pow_succ]; omega
    have hp : 1 ≤ 2 ^ c := Nat.one_le_two_pow
    have hd : d < 6 := by omega
    by_cases z0 : t = 0
    · obtain ⟨r, h⟩ := node_const (d := d) (c := c + 1) hB hK (.inl z0)
      exact ⟨r, _, _, _, h⟩
    by_cases z1 : t = BitVec.allOnes 64
    · obtain ⟨r, h⟩ := node_const (d := d) (c := c + 1) hB hK (.inr z1)
      exact ⟨r, _, _, _, h⟩
    by_cases hid : Ind t d
    · obtain ⟨r, l', T', K', h⟩ := node_ex c (d + 1) t l T K (by omega) (fun u hu => by
        by_cases e : u = d
        · rw [e]; exact hid
        · exact hi u (by omega)) hB hK (by omega)
      obtain ⟨eL, eT, x1, x2, x3⟩ := h.ext
      refine ⟨r, l', T', K', h.built, h.kn, ⟨eL, eT, x1, x2, fun x hx u hu => x3 x hx u (by omega)⟩, h.tab, h.r0, h.r1, by have := h.size; omega, h.old, h.last, fun n hn R k => h.impl n (by omega) R k, fun n hn R k => ?_⟩
      obtain ⟨m, rfl⟩ : ∃ m, n = m + 1 := ⟨n - 1, by omega⟩
      rw [spec_l7Build, U_ne z0, U_na z1, cond_false, cond_false, spec_half_eq hd (by omega), spec_half_eq hd (by omega), U_beq, decide_eq_true (show hv t d false = hv t d true from hid), cond_true, wrapS (m := 10) (by omega) (by omega)]
      exact h.spec m (by omega) R k
    · -- here it parts
      have hi0 : ∀ b, ∀ u, u < d + 1 → Ind (hv t d b) u := fun b u hu => by
        by_cases e : u = d
        · rw [e]; exact ind_own hd b
        · exact (hi u (by omega)).half (by omega) hd b
      obtain ⟨a, l1, T1, K1, h1⟩ := node_ex c (d + 1) (hv t d false) l T K (by omega) (hi0 false) hB hK (by omega)
      have s1 := h1.size
      obtain ⟨b, l2, T2, K2, hb⟩ := node_ex c (d + 1) (hv t d true) l1 T1 K1 (by omega) (hi0 true) h1.built h1.kn (by omega)
      have s2 := hb.size
      obtain ⟨eL1, eT1, x1, x2, x3⟩ := h1.ext
      obtain ⟨eL2, eT2, y1, y2, y3⟩ := hb.ext
      have hT2 : T2 = T ++ (eT1 ++ eT2) := by rw [y2, x2, List.append_assoc]
      have hl2 : l2 = l ++ (eL1 ++ eL2) := by rw [y1, x1, List.append_assoc]
      have hlen1 := h1.built.len
      have hlen2 := hb.built.len
      have hlen0 := hB.len
      have ha1 := h1.r1
      have ha2 : tabAt T2 a = hv t d false := by rw [y2, tabAt_app h1.r0 (by omega)]; exact h1.tab
      have hle : l1.length ≤ l2.length := by rw [y1]; simp
      have sp : ∀ (n : Nat), (c + 1) + 1100 ≤ n + 1 → ∀ (R : Type) (k : Int → List (Int × Int × Int) → Option R), spec_l7Build (n + 1) (U t) (d : Int) l k = spec_l7Build_l14 n (l2.length : Int) 0 l2 (d : Int) a b (fun r9 r10 => k r9 r10) (fun r11 r12 r13 r14 => (bif decide (r11.length + ([(r12, (r13, r14))]).length ≤ LIM) then k (r11.length : Int) (r11 ++ [(r12, (r13, r14))]) else none)) := fun n hn R k => by
        rw [spec_l7Build, U_ne z0, U_na z1, cond_false, cond_false, spec_half_eq hd (by omega), spec_half_eq hd (by omega), U_beq, decide_eq_false (show ¬ hv t d false = hv t d true from hid), cond_false, wrapS (m := 10) (by omega) (by omega), h1.spec n (by omega)]
        rw [hb.spec n (by omega)]
      by_cases hin : t ∈ T
      · obtain ⟨j, hjl, hj⟩ := List.mem_iff_getElem.1 hin
        have hj' : T[j]? = some t := by rw [List.getElem?_eq_getElem hjl, hj]
        obtain ⟨v, a', b', he⟩ := hB.ent j t hj'
        have hvd : v = d := by
          rcases Nat.lt_trichotomy v d with g | g | g
          · exact absurd (hi v g) he.dep
          · exact g
          · exact absurd (he.ind d g) hid
        subst hvd
        have ha1' := he.a1
        have hb1' := he.b1
        obtain ⟨p1, p2, p3, p4⟩ := h1.old a' he.a0 (by omega) he.no
        subst p1 p2 p3 p4
        obtain ⟨q1, q2, q3, q4⟩ := hb.old b' he.b0 (by omega) he.yes
        subst q1 q2 q3 q4
        refine ⟨(j : Int), _, _, _, hB, hK, ⟨[], [], by simp, by simp, fun x hx => by simp at hx⟩, tabAt_nat hj', by omega, by omega, by omega, fun r' g0 g1 e => ⟨hB.at' (by omega) (by omega) g0 g1 (by rw [e, tabAt_nat hj']), rfl, rfl, rfl⟩, .inl rfl, fun n hn R k => ?_, fun n hn R k => ?_⟩
        · obtain ⟨m, rfl⟩ : ∃ m, n = m + 1 := ⟨n - 1, by omega⟩
          rw [impl_builder_node, U_ne z0, U_na z1, cond_false, cond_false, hK.1 j t hj']; rfl
        · obtain ⟨m, rfl⟩ : ∃ m, n = m + 1 := ⟨n - 1, by omega⟩
          rw [sp m (by omega)]
          refine spec_l14_found (by omega) _ _ _ he.get (fun i' hi' => ?_) _ _ j m 0 (by omega) (by omega)
          have hlt := (List.getElem?_eq_some_iff.1 hi').1
          have hT' : T2[i']? = some T2[i'] := List.getElem?_eq_getElem (by omega)
          obtain ⟨v2, a2, b2, he2⟩ := hB.ent i' _ hT'
          have hg := he2.get
          rw [hi'] at hg
          simp only [Option.some.injEq, Prod.mk.injEq] at hg
          obtain ⟨g1, g2, g3⟩ := hg
          have g1 : v = v2 := by omega
          subst g1 g2 g3
          have := he2.table
          rw [← he.table] at this
          exact hB.nd i' j t (by rw [hT', this]) hj'
      · have hnT : t ∉ T2 := fun hm => by
          rw [hT2] at hm
          rcases List.mem_append.1 hm with hm | hm
          · exact hin hm
          · rcases List.mem_append.1 hm with hm | hm
            · exact hid (x3 t hm d (by omega))
            · exact hid (y3 t hm d (by omega))
        have hE : Ent (l2 ++ [((d : Int), a, b)]) (T2 ++ [t]) l2.length t d a b := ⟨hd, by simp, h1.r0, by omega, hb.r0, hb.r1, hi, hid, by rw [tabAt_app h1.r0 (by omega)]; exact ha2, by rw [tabAt_app hb.r0 (by have := hb.r1; omega)]; exact hb.tab⟩
        have split2 : ∀ {j : Nat} {x : BitVec 64}, (T2 ++ [t])[j]? = some x → T2[j]? = some x ∨ (j = l2.length ∧ x = t) := fun {j x} hx => by
          by_cases g : j < T2.length
          · rw [List.getElem?_append_left g] at hx; exact .inl hx
          · have hlt := (List.getElem?_eq_some_iff.1 hx).1
            have hje : j = T2.length := by simp at hlt; omega
            subst hje
            simp at hx
            exact .inr ⟨by omega, hx.symm⟩
        have hB3 : Built (l2 ++ [((d : Int), a, b)]) (T2 ++ [t]) := by
          refine ⟨by simp [hlen2], fun i j x hx hy => ?_, fun j x hx => ?_, fun j x hx => ?_⟩
          · rcases split2 hx with hx1 | ⟨e1, e2⟩
            · rcases split2 hy with hy1 | ⟨_, e3⟩
              · exact hb.built.nd i j x hx1 hy1
              · exact absurd (e3 ▸ List.mem_of_getElem? hx1) hnT
            · rcases split2 hy with hy1 | ⟨e3, _⟩
              · exact absurd (e2 ▸ List.mem_of_getElem? hy1) hnT
              · rw [e1, e3]
          · rcases split2 hx with hx | ⟨rfl, rfl⟩
            · exact hb.built.ne j x hx
            · exact ⟨z0, z1⟩
          · rcases split2 hx with hx | ⟨rfl, rfl⟩
            · obtain ⟨v, a', b', he⟩ := hb.built.ent j x hx
              have hjl := (List.getElem?_eq_some_iff.1 hx).1
              have ga := he.a1
              have gb := he.b1
              refine ⟨v, a', b', he.v6, ?_, he.a0, he.a1, he.b0, he.b1, he.ind, he.dep, ?_, ?_⟩
              · rw [List.getElem?_append_left (by omega)]; exact he.get
              · rw [tabAt_app he.a0 (by omega)]; exact he.no
              · rw [tabAt_app he.b0 (by omega)]; exact he.yes
            · exact ⟨d, a, b, hE⟩
        refine ⟨(l2.length : Int), l2 ++ [((d : Int), a, b)], T2 ++ [t], (U t, (l2.length : Int)) :: K2, hB3, ⟨fun j x hx => ?_, fun x hx => ?_⟩, ⟨eL1 ++ eL2 ++ [((d : Int), a, b)], eT1 ++ eT2 ++ [t], by rw [hl2]; simp, by rw [hT2]; simp, fun x hx u hu => ?_⟩, tabAt_nat (by rw [hlen2]; simp), by omega, by simp; omega, by simp; omega, fun r' g0 g1 e => ?_, .inr (by simp), fun n hn R k => ?_, fun n hn R k => ?_⟩
        · rw [List.lookup_cons, U_beq]
          rcases split2 hx with hx | ⟨rfl, rfl⟩
          · rw [decide_eq_false fun e : x = t => hnT (e ▸ List.mem_of_getElem? hx)]
            exact hb.kn.1 j x hx
          · rw [decide_eq_true rfl]
        · rw [List.lookup_cons, U_beq, decide_eq_false fun e => hx (by rw [e]; simp)]
          exact hb.kn.2 x fun h => hx (List.mem_append_left _ h)
        · rcases List.mem_append.1 hx with hx | hx
          · rcases List.mem_append.1 hx with hx | hx
            · exact x3 x hx u (by omega)
            · exact y3 x hx u (by omega)
          · rw [List.mem_singleton.1 hx]; exact hi u hu
        · exfalso
          by_cases g : 0 ≤ r'
          · have hlt : r'.toNat < T.length := by omega
            have := tabAt_nat (List.getElem?_eq_getElem hlt)
            rw [Int.toNat_of_nonneg g] at this
            rw [this] at e
            exact hin (e ▸ List.getElem_mem hlt)
          · rcases (show r' = -2 ∨ r' = -1 by omega) with g | g <;> subst g
            · rw [tabAt_no] at e; exact z0 e.symm
            · rw [tabAt_yes] at e; exact z1 e.symm
        · obtain ⟨m, rfl⟩ : ∃ m, n = m + 1 := ⟨n - 1, by omega⟩
          have hl10 := fun k => impl_l10 (R := R) hd hi hid l K k d m 0 (by omega) (by omega)
          rw [show ((0 : Nat) : Int) = 0 from rfl] at hl10
          rw [impl_builder_node, U_ne z0, U_na z1, cond_false, cond_false, hK.2 t hin, hl10, impl_with_eq hd (by omega)]
          simp only [Option.isSome_none, cond_false]
          rw [h1.impl m (by omega), impl_with_eq hd (by omega), hb.impl m (by omega), decide_eq_true (show l2.length + [((d : Int), (a, b))].length ≤ LIM by simp [LIM]; omega), cond_true]
          have hw : IntKind.wrap .i64 (((l2 ++ [((d : Int), (a, b))]).length : Int) - 1) = (l2.length : Int) := by
            rw [wrap64 (by simp) (by simp; omega)]; simp
          rw [hw]
        · obtain ⟨m, rfl⟩ : ∃ m, n = m + 1 := ⟨n - 1, by omega⟩
          rw [sp m (by omega)]
          have := spec_l14_none (R := R) (l := l2) (by omega) (d : Int) a b (fun i hi' => by
            have hlt := (List.getElem?_eq_some_iff.1 hi').1
            have hT' : T2[i]? = some T2[i] := List.getElem?_eq_getElem (by omega)
            obtain ⟨v2, a2, b2, he2⟩ := hb.built.ent i _ hT'
            have hg := he2.get
            rw [hi'] at hg
            simp only [Option.some.injEq, Prod.mk.injEq] at hg
            obtain ⟨g1, g2, g3⟩ := hg
            have g1 : d = v2 := by omega
            subst g1 g2 g3
            have := he2.table
            rw [ha2, hb.tab, ite64_half hd] at this
            exact hnT (this ▸ List.getElem_mem (by omega))) (fun r9 r10 => k r9 r10) (fun r11 r12 r13 r14 => (bif decide (r11.length + ([(r12, (r13, r14))]).length ≤ LIM) then k (r11.length : Int) (r11 ++ [(r12, (r13, r14))]) else none)) l2.length m 0 (by omega) (by omega)
          rw [show ((0 : Nat) : Int) = 0 from rfl] at this
          rw [this, decide_eq_true (show l2.length + [((d : Int), (a, b))].length ≤ LIM by simp [LIM]; omega)]
          rfl
theorem built_nil : Built [] [] := ⟨rfl, fun i j t h => by simp at h, fun j t h => by simp at h, fun j t h => by simp at h⟩
theorem kn_nil : Kn [] [] := ⟨fun j t h => by simp at h, fun t _ => rfl⟩
/-- The diagram of a table: both sides'. -/
theorem diagram_ex {n : Nat} (t : BitVec 64) (hn : 2000 ≤ n) : ∃ r l T, Built l T ∧ tabAt T r = t ∧ -2 ≤ r ∧ r < l.length ∧ l.length ≤ 63 ∧ (l = [] ∨ r + 1 = l.length) ∧ (∀ (R : Type) (k : Int → Bool → List (Int × Int × Int) → Option R), impl_diagramOf n (U t) k = k r true l) ∧ ∀ (R : Type) (k : Int → Bool → List (Int × Int × Int) → Option R), spec_l7Diagram n (U t) k = k r true l := by
  obtain ⟨r, l, T, K, h⟩ := node_ex 6 0 t [] [] [] (by omega) (fun u hu => by omega) built_nil kn_nil (by simp)
  have hs := h.size
  have hl : l.length ≤ 63 := by simp at hs; omega
  refine ⟨r, l, T, h.built, h.tab, h.r0, h.r1, hl, h.last, fun R k => ?_, fun R k => ?_⟩
  · unfold impl_diagramOf
    rw [h.impl n (by omega), decide_eq_false (show ¬ (l.length : Int) > 70 by omega)]; rfl
  · have hsp := h.spec n (by omega)
    rw [show ((0 : Nat) : Int) = 0 from rfl] at hsp
    unfold spec_l7Diagram
    rw [hsp, decide_eq_true (show (l.length : Int) ≤ 70 by omega)]
theorem tabAt_map {T : List (BitVec 64)} {k : Int} (h0 : 0 ≤ k) (h1 : k < T.length) : (T.map U).getD k.toNat 0 = U (tabAt T k) := by
  unfold tabAt
  rw [if_neg (by omega), if_neg (by omega), List.getD_eq_getElem?_getD, List.getD_eq_getElem?_getD, List.getElem?_map, List.getElem?_eq_getElem (show k.toNat < T.length by omega)]
  rfl
theorem impl_at_eq {R : Type} (n : Nat) {T : List (BitVec 64)} {x : Int} (h0 : -2 ≤ x) (h1 : x < T.length) (k : Int → Option R) : impl_truthOf_c1 n x (T.map U) k = k (U (tabAt T x)) := by
  unfold impl_truthOf_c1
  by_cases a : x = -2
  · subst a; rw [tabAt_no]; rfl
  · by_cases b : x = -1
    · subst b; rw [tabAt_yes]; rfl
    · rw [beq_eq_false_iff_ne.2 a, beq_eq_false_iff_ne.2 b, decide_eq_true (show 0 ≤ x by omega), List.length_map, decide_eq_true h1, tabAt_map (by omega) h1]
      rfl
def ok1 (j : Nat) (c : Int × Int × Int) : Bool := decide (0 ≤ c.1 ∧ c.1 ≤ 5) && (decide (-2 ≤ c.2.1 ∧ c.2.1 ≤ (j : Int) - 1) && decide (-2 ≤ c.2.2 ∧ c.2.2 ≤ (j : Int) - 1))
theorem ok1_iff {j : Nat} {c : Int × Int × Int} : ok1 j c = true ↔ (0 ≤ c.1 ∧ c.1 ≤ 5) ∧ (-2 ≤ c.2.1 ∧ c.2.1 ≤ (j : Int) - 1) ∧ (-2 ≤ c.2.2 ∧ c.2.2 ≤ (j : Int) - 1) := by
  unfold ok1
  rw [Bool.and_eq_true, Bool.and_eq_true, decide_eq_true_eq, decide_eq_true_eq, decide_eq_true_eq]
def nx (T : List (BitVec 64)) (c : Int × Int × Int) : BitVec 64 := ite64 c.1.toNat (tabAt T c.2.1) (tabAt T c.2.2)
def tabs : List (Int × Int × Int) → Nat → List (BitVec 64) → Option (List (BitVec 64))
  | [], _, T => some T
  | c :: r, j, T => bif ok1 j c then tabs r (j + 1) (T ++ [nx T c]) else none
theorem impl_l6_eq {R : Type} (l0 : List (Int × Int × Int)) {l : List (Int × Int × Int)} (hl : l.length ≤ 1000) (root : Int) (kr : Int → Bool → Option R) (k : List (Int × Int × Int) → Int → List Int → Option R) : ∀ (c n j : Nat) (T : List (BitVec 64)), c + 100 < n → j + c = l.length → T.length = j →
    impl_truthOf_l6 n l (l.length : Int) (j : Int) l0 root (T.map U) kr k = match tabs (l.drop j) j T with
      | some T' => k l0 root (T'.map U)
      | none => kr 0 false
  | _, 0, _, _, h, _, _ => by omega
  | 0, n + 1, j, T, _, hj, hT => by
    rw [impl_truthOf_l6, dge (by omega), List.drop_eq_nil_iff.2 (by omega)]; rfl
  | c + 1, n + 1, j, T, hn, hj, hT => by
    have h : j < l.length := by omega
    rw [impl_truthOf_l6, dlt h, dnn, getD_at _ _ h, List.drop_eq_getElem_cons h, wrap64 (x := (j : Int) - 1) (by omega) (by omega), wrapS h (by omega)]
    simp only [cond_true, impl_in_eq]
    by_cases c1 : 0 ≤ l[j].1 ∧ l[j].1 ≤ 5
    · by_cases c2 : -2 ≤ l[j].2.1 ∧ l[j].2.1 ≤ (j : Int) - 1
      · by_cases c3 : -2 ≤ l[j].2.2 ∧ l[j].2.2 ≤ (j : Int) - 1
        · have e : tabs (l[j] :: l.drop (j + 1)) j T = tabs (l.drop (j + 1)) (j + 1) (T ++ [nx T l[j]]) := by
            rw [tabs, ok1_iff.2 ⟨c1, c2, c3⟩, cond_true]
          have ev : l[j].1 = ((l[j].1.toNat : Nat) : Int) := by omega
          rw [decide_eq_true c1, decide_eq_true c2, decide_eq_true c3, e]
          simp only [Bool.not_true, cond_false]
          rw [ev, impl_var_eq (by omega) (by omega), impl_at_eq n c2.1 (by omega), impl_at_eq n c3.1 (by omega), and_U, andn_U, or_U, decide_eq_true (show (T.map U).length + [U (tabAt T l[j].2.1 &&& ~~~msk l[j].1.toNat ||| tabAt T l[j].2.2 &&& msk l[j].1.toNat)].length ≤ LIM by simp [LIM]; omega), cond_true]
          have ih := impl_l6_eq l0 hl root kr k c n (j + 1) (T ++ [nx T l[j]]) (by omega) (by omega) (by simp [hT])
          rw [List.map_append] at ih
          exact ih
        · have e : tabs (l[j] :: l.drop (j + 1)) j T = none := by
            rw [tabs, show ok1 j l[j] = false from Bool.eq_false_iff.2 fun h => c3 (ok1_iff.1 h).2.2, cond_false]
          rw [decide_eq_true c1, decide_eq_true c2, decide_eq_false c3, e]; rfl
      · have e : tabs (l[j] :: l.drop (j + 1)) j T = none := by
          rw [tabs, show ok1 j l[j] = false from Bool.eq_false_iff.2 fun h => c2 (ok1_iff.1 h).2.1, cond_false]
        rw [decide_eq_true c1, decide_eq_false c2, e]; rfl
    · have e : tabs (l[j] :: l.drop (j + 1)) j T = none := by
        rw [tabs, show ok1 j l[j] = false from Bool.eq_false_iff.2 fun h => c1 (ok1_iff.1 h).1, cond_false]
      rw [decide_eq_false c1, e]; rfl
def chk (l : List (Int × Int × Int)) (x v : Int) : Bool := decide (x < 0 ∨ v < (l.getD x.toNat (0, (0, 0))).1)
def ok2 (l : List (Int × Int × Int)) (j : Nat) (c : Int × Int × Int) : Bool := ok1 j c && (!(c.2.1 == c.2.2) && (chk l c.2.1 c.1 && chk l c.2.2 c.1))
def tabs2 (l : List (Int × Int × Int)) : List (Int × Int × Int) → Nat → List (BitVec 64) → Option (List (BitVec 64))
  | [], _, T => some T
  | c :: r, j, T => bif ok2 l j c then tabs2 l r (j + 1) (T ++ [nx T c]) else none
theorem tabs_of {l : List (Int × Int × Int)} : ∀ {r : List (Int × Int × Int)} {j : Nat} {T T' : List (BitVec 64)}, tabs2 l r j T = some T' → tabs r j T = some T'
  | [], _, _, _, h => h
  | c :: r, j, T, T', h => by
    rw [tabs2] at h
    rw [tabs]
    cases h2 : ok2 l j c with
    | false => rw [h2] at h; cases h
    | true =>
      rw [h2, cond_true] at h
      unfold ok2 at h2
      rw [Bool.and_eq_true] at h2
      rw [h2.1, cond_true]
      exact tabs_of h
/-- One part of what the reference reckons. -/
def part (T : List (BitVec 64)) (m : BitVec 64) (x : Int) (acc : BitVec 64) : BitVec 64 := if x = -1 then acc ||| m else if 0 ≤ x then acc ||| (m &&& tabAt T x) else acc
theorem spec_l11_eq {R : Type} (l0 : List (Int × Int × Int)) (cnt : Int) (jj : Int) (l : List (Int × Int × Int)) (root : Int) (T : List (BitVec 64)) {v : Nat} (hv6 : v < 6) {a b : Int} (a0 : -2 ≤ a) (a1 : a < T.length) (b0 : -2 ≤ b) (b1 : b < T.length) (hT : T.length ≤ l.length) (kr : Int → Bool → Option R) (k : Int → List (Int × Int × Int) → Int → Int → List (Int × Int × Int) → Int → List Int → Option R) {n : Nat} (hn : 100 ≤ n) :
    spec_l7Of_l11 n 0 l0 cnt jj (([false, true]).length : Int) 0 l root (T.map U) (v : Int) a b ([false, true]) kr k = bif chk l a v && chk l b v then k (U (part T (msk v) b (part T (~~~ msk v) a 0))) l0 cnt jj l root (T.map U) else kr 0 false := by
  obtain ⟨n, rfl⟩ : ∃ m, n = m + 3 := ⟨n - 3, by omega⟩
  have stepF : ∀ (acc : BitVec 64), spec_l7Of_l11 (n + 3) (U acc) l0 cnt jj 2 0 l root (T.map U) (v : Int) a b [false, true] kr k = bif chk l a v then spec_l7Of_l11 (n + 2) (U (part T (~~~ msk v) a acc)) l0 cnt jj 2 1 l root (T.map U) (v : Int) a b [false, true] kr k else kr 0 false := fun acc => by
    rw [spec_l7Of_l11, show decide ((0 : Int) < 2) = true from rfl, show decide ((0 : Int) ≤ 0) = true from rfl, show decide ((0 : Int) < (([false, true] : List Bool).length : Int)) = true from rfl, show ([false, true] : List Bool).getD (Int.toNat 0) false = false from rfl, show IntKind.wrap .i64 ((0 : Int) + 1) = 1 from rfl]
    simp only [cond_true, cond_false]
    rw [spec_var_eq hv6 (by omega), not_U, or_U]
    unfold part chk
    by_cases ha : a = -1
    · subst ha; rfl
    · rw [beq_eq_false_iff_ne.2 ha, cond_false, if_neg ha]
      by_cases hb : 0 ≤ a
      · rw [decide_eq_true (show a ≥ 0 by omega), decide_eq_true (show a < (l.length : Int) by omega), List.length_map, decide_eq_true a1, tabAt_map hb a1, and_U, or_U, if_pos hb]
        simp only [cond_true]
        by_cases hc : (l.getD a.toNat (0, (0, 0))).1 ≤ (v : Int)
        · rw [decide_eq_true hc, decide_eq_false (show ¬ (a < 0 ∨ (v : Int) < (l.getD a.toNat (0, (0, 0))).1) by omega)]; rfl
        · rw [decide_eq_false hc, decide_eq_true (show (a < 0 ∨ (v : Int) < (l.getD a.toNat (0, (0, 0))).1) by omega)]; rfl
      · rw [decide_eq_false (show ¬ a ≥ 0 by omega), if_neg hb, decide_eq_true (show (a < 0 ∨ (v : Int) < (l.getD a.toNat (0, (0, 0))).1) by omega)]; rfl
  have stepT : ∀ (acc : BitVec 64), spec_l7Of_l11 (n + 2) (U acc) l0 cnt jj 2 1 l root (T.map U) (v : Int) a b [false, true] kr k = bif chk l b v then spec_l7Of_l11 (n + 1) (U (part T (msk v) b acc)) l0 cnt jj 2 2 l root (T.map U) (v : Int) a b [false, true] kr k else kr 0 false := fun acc => by
    rw [spec_l7Of_l11, show decide ((1 : Int) < 2) = true from rfl, show decide ((0 : Int) ≤ 1) = true from rfl, show decide ((1 : Int) < (([false, true] : List Bool).length : Int)) = true from rfl, show ([false, true] : List Bool).getD (Int.toNat 1) false = true from rfl, show IntKind.wrap .i64 ((1 : Int) + 1) = 2 from rfl]
    simp only [cond_true]
    rw [spec_var_eq hv6 (by omega), spec_var_eq hv6 (by omega), or_U]
    unfold part chk
    by_cases ha : b = -1
    · subst ha; rfl
    · rw [beq_eq_false_iff_ne.2 ha, cond_false, if_neg ha]
      by_cases hb : 0 ≤ b
      · rw [decide_eq_true (show b ≥ 0 by omega), decide_eq_true (show b < (l.length : Int) by omega), List.length_map, decide_eq_true b1, tabAt_map hb b1, and_U, or_U, if_pos hb]
        simp only [cond_true]
        by_cases hc : (l.getD b.toNat (0, (0, 0))).1 ≤ (v : Int)
        · rw [decide_eq_true hc, decide_eq_false (show ¬ (b < 0 ∨ (v : Int) < (l.getD b.toNat (0, (0, 0))).1) by omega)]; rfl
        · rw [decide_eq_false hc, decide_eq_true (show (b < 0 ∨ (v : Int) < (l.getD b.toNat (0, (0, 0))).1) by omega)]; rfl
      · rw [decide_eq_false (show ¬ b ≥ 0 by omega), if_neg hb, decide_eq_true (show (b < 0 ∨ (v : Int) < (l.getD b.toNat (0, (0, 0))).1) by omega)]; rfl
  have h0 := stepF 0
  rw [U_zero] at h0
  show spec_l7Of_l11 (n + 3) 0 l0 cnt jj 2 0 l root (T.map U) (v : Int) a b [false, true] kr k = _
  rw [h0, stepT]
  cases chk l a v with
  | false => rfl
  | true =>
    cases chk l b v with
    | false => rfl
    | true =>
      simp only [cond_true, Bool.and_self]
      rw [spec_l7Of_l11, show decide ((2 : Int) < 2) = false from rfl]; rfl
theorem part_nx {T : List (BitVec 64)} {v : Nat} {a b : Int} (a0 : -2 ≤ a) (b0 : -2 ≤ b) : part T (msk v) b (part T (~~~ msk v) a 0) = ite64 v (tabAt T a) (tabAt T b) := by
  have key : ∀ (m acc : BitVec 64) (x : Int), -2 ≤ x → part T m x acc = acc ||| (tabAt T x &&& m) := fun m acc x hx => by
    unfold part
    by_cases h1 : x = -1
    · subst h1; rw [if_pos rfl, tabAt_yes, BitVec.allOnes_and]
    · rw [if_neg h1]
      by_cases h2 : 0 ≤ x
      · rw [if_pos h2, BitVec.and_comm]
      · have : x = -2 := by omega
        subst this
        rw [if_neg h2, tabAt_no]
        simp
  rw [key _ _ _ b0, key _ _ _ a0]
  unfold ite64
  simp
theorem spec_l5_eq {R : Type} {l : List (Int × Int × Int)} (hl : l.length ≤ 1000) (root : Int) (kr : Int → Bool → Option R) (k : List (Int × Int × Int) → Int → List Int → Option R) : ∀ (c n j : Nat) (T : List (BitVec 64)), c + 200 < n → j + c = l.length → T.length = j →
    spec_l7Of_l5 n l (l.length : Int) (j : Int) l root (T.map U) kr k = match tabs2 l (l.drop j) j T with
      | some T' => k l root (T'.map U)
      | none => kr 0 false
  | _, 0, _, _, h, _, _ => by omega
  | 0, n + 1, j, T, _, hj, hT => by
    rw [spec_l7Of_l5, dge (by omega), List.drop_eq_nil_iff.2 (by omega)]; rfl
  | c + 1, n + 1, j, T, hn, hj, hT => by
    have h : j < l.length := by omega
    have no : ok2 l j l[j] = false → tabs2 l (l[j] :: l.drop (j + 1)) j T = none := fun e => by rw [tabs2, e, cond_false]
    rw [spec_l7Of_l5, dlt h, dnn, getD_at _ _ h, List.drop_eq_getElem_cons h, wrap64 (x := (j : Int) - 1) (by omega) (by omega)]
    simp only [cond_true, spec_l1In_eq]
    by_cases c1 : 0 ≤ l[j].1 ∧ l[j].1 ≤ 5
    · by_cases c2 : -2 ≤ l[j].2.1 ∧ l[j].2.1 ≤ (j : Int) - 1
      · by_cases c3 : -2 ≤ l[j].2.2 ∧ l[j].2.2 ≤ (j : Int) - 1
        · have ho := ok1_iff.2 ⟨c1, c2, c3⟩
          rw [decide_eq_true c1, decide_eq_true c2, decide_eq_true c3]
          simp only [Bool.not_true, cond_false]
          cases h4 : (l[j].2.1 == l[j].2.2) with
          | true => rw [no (by unfold ok2; rw [ho, h4]; rfl)]; rfl
          | false =>
            have ev : ((l[j].1.toNat : Nat) : Int) = l[j].1 := by omega
            have hin := spec_l11_eq (R := R) l (l.length : Int) (j : Int) l root T (v := l[j].1.toNat) (by omega) c2.1 (by omega) c3.1 (by omega) (by omega) kr (fun r8 r9 r10 r11 r12 r13 r14 => (bif decide (r14.length + [r8].length ≤ LIM) then spec_l7Of_l5 n r9 r10 (IntKind.wrap .i64 (r11 + 1)) r12 r13 (r14 ++ [r8]) kr k else none)) (n := n) (by omega)
            rw [ev] at hin
            simp only [cond_false]
            rw [hin]
            cases h5 : (chk l l[j].2.1 l[j].1 && chk l l[j].2.2 l[j].1) with
            | false => rw [no (by unfold ok2; rw [ho, h4, h5]; rfl)]; rfl
            | true =>
              have e : tabs2 l (l[j] :: l.drop (j + 1)) j T = tabs2 l (l.drop (j + 1)) (j + 1) (T ++ [nx T l[j]]) := by
                rw [tabs2, show ok2 l j l[j] = true by unfold ok2; rw [ho, h4, h5]; rfl, cond_true]
              rw [e, cond_true, part_nx c2.1 c3.1, decide_eq_true (show (T.map U).length + [U (ite64 l[j].1.toNat (tabAt T l[j].2.1) (tabAt T l[j].2.2))].length ≤ LIM by simp [LIM]; omega), cond_true, wrapS h (by omega)]
              have ih := spec_l5_eq hl root kr k c n (j + 1) (T ++ [nx T l[j]]) (by omega) (by omega) (by simp [hT])
              rw [List.map_append] at ih
              exact ih
        · rw [no (by unfold ok2; rw [show ok1 j l[j] = false from Bool.eq_false_iff.2 fun h => c3 (ok1_iff.1 h).2.2]; rfl), decide_eq_true c1, decide_eq_true c2, decide_eq_false c3]; rfl
      · rw [no (by unfold ok2; rw [show ok1 j l[j] = false from Bool.eq_false_iff.2 fun h => c2 (ok1_iff.1 h).2.1]; rfl), decide_eq_true c1, decide_eq_false c2]; rfl
    · rw [no (by unfold ok2; rw [show ok1 j l[j] = false from Bool.eq_false_iff.2 fun h => c1 (ok1_iff.1 h).1]; rfl), decide_eq_false c1]; rfl
/-- What was built passes both. -/
theorem built_tabs {l : List (Int × Int × Int)} {T : List (BitVec 64)} (hB : Built l T) : ∀ (c j : Nat), j + c = l.length → tabs2 l (l.drop j) j (T.take j) = some T
  | 0, j, hj => by
    have := hB.len
    rw [List.drop_eq_nil_iff.2 (by omega), List.take_of_length_le (by omega)]; rfl
  | c + 1, j, hj => by
    have hlen := hB.len
    have h : j < l.length := by omega
    have hT : j < T.length := by omega
    obtain ⟨v, a, b, he⟩ := hB.ent j _ (List.getElem?_eq_getElem hT)
    have hg := he.get
    rw [List.getElem?_eq_getElem h] at hg
    have hg : l[j] = ((v : Int), a, b) := Option.some.inj hg
    have hv6 := he.v6
    have a0 := he.a0
    have a1 := he.a1
    have b0 := he.b0
    have b1 := he.b1
    have take : ∀ {x : Int}, -2 ≤ x → x < j → tabAt (T.take j) x = tabAt T x := fun {x} h0 h1 => by
      have := tabAt_app (T := T.take j) (e := T.drop j) h0 (by simp; omega)
      rw [List.take_append_drop] at this
      exact this.symm
    have hne : a ≠ b := fun e => he.dep (by
      show hv _ v false = hv _ v true
      rw [← he.no, ← he.yes, e])
    have child : ∀ {x : Int} (bb : Bool), -2 ≤ x → x < j → tabAt T x = hv T[j] v bb → chk l x (v : Int) = true := fun {x} bb h0 h1 e => by
      unfold chk
      rw [decide_eq_true_eq]
      by_cases hx : x < 0
      · exact .inl hx
      · right
        have hxl : x.toNat < T.length := by omega
        have hxt := tabAt_nat (List.getElem?_eq_getElem hxl)
        rw [Int.toNat_of_nonneg (by omega), e] at hxt
        obtain ⟨v2, a2, b2, he2⟩ := hB.ent x.toNat _ (List.getElem?_eq_getElem hxl)
        rw [List.getD_eq_getElem?_getD, he2.get]
        show (v : Int) < (v2 : Int)
        rcases Nat.lt_trichotomy v v2 with g | g | g
        · omega
        · exfalso
          subst g
          exact he2.dep (by rw [← hxt]; exact ind_own hv6 bb)
        · exfalso
          have := he2.v6
          exact he2.dep (by rw [← hxt]; exact (he.ind v2 g).half (by omega) hv6 bb)
    have hok : ok2 l j l[j] = true := by
      unfold ok2
      rw [hg, ok1_iff.2 ⟨by dsimp only; omega, by dsimp only; omega, by dsimp only; omega⟩, child false a0 a1 he.no, child true b0 b1 he.yes, beq_eq_false_iff_ne.2 hne]; rfl
    have hnx : nx (T.take j) l[j] = T[j] := by
      unfold nx
      rw [hg]
      dsimp only
      rw [take a0 a1, take b0 b1, Int.toNat_natCast]
      exact he.table.symm
    rw [List.drop_eq_getElem_cons h, tabs2, hok, cond_true, hnx, ← List.take_succ_eq_append_getElem hT]
    exact built_tabs hB c (j + 1) (by omega)
theorem equal_loop {R : Type} {a b : List (Int × Int × Int)} (hl : a.length = b.length) (h : a.length ≤ 1000) (kr : Bool → Option R) (ke : Option R) : ∀ (c n j : Nat), c < n → j + c = a.length → slices_Equal_impl_Choice_l4 n a b (a.length : Int) (j : Int) kr ke = if a.drop j = b.drop j then ke else kr false
  | _, 0, _, h, _ => by omega
  | 0, n + 1, j, _, hj => by
    rw [slices_Equal_impl_Choice_l4, dge (by omega), List.drop_eq_nil_iff.2 (by omega), List.drop_eq_nil_iff.2 (by omega)]; simp
  | c + 1, n + 1, j, hn, hj => by
    have h1 : j < a.length := by omega
    have h2 : j < b.length := by omega
    rw [slices_Equal_impl_Choice_l4, dlt h1, dlt h2, dnn, getD_at _ _ h1, getD_at _ _ h2, cho_eq a h1, wrapS h1 (by omega), List.drop_eq_getElem_cons h1, List.drop_eq_getElem_cons h2, equal_loop hl h kr ke c n (j + 1) (by omega) (by omega)]
    simp only [cond_true, List.cons.injEq]
    by_cases g : a[j] = b[j]
    · rw [decide_eq_true (show a[j] = (b[j].1, b[j].2.1, b[j].2.2) from g)]
      simp [g]
    · rw [decide_eq_false (show ¬ a[j] = (b[j].1, b[j].2.1, b[j].2.2) from g)]
      simp [g]
theorem equal_eq {R : Type} {n : Nat} {a b : List (Int × Int × Int)} (h : a.length ≤ 1000) (hn : 1100 ≤ n) (k : Bool → Option R) : slices_Equal_impl_Choice n a b k = k (decide (a = b)) := by
  unfold slices_Equal_impl_Choice
  by_cases hl : a.length = b.length
  · have := equal_loop hl h (fun r1 => k r1) (k true) a.length n 0 (by omega) (by omega)
    rw [show ((0 : Nat) : Int) = 0 from rfl, List.drop_zero, List.drop_zero] at this
    rw [show ((a.length : Int) != (b.length : Int)) = false by simp [hl], cond_false, this]
    by_cases g : a = b
    · rw [if_pos g, decide_eq_true g]
    · rw [if_neg g, decide_eq_false g]
  · rw [show ((a.length : Int) != (b.length : Int)) = true by simp; omega, cond_true, decide_eq_false fun e => hl (by rw [e])]
theorem good_loop {R : Type} {a b : List (Int × Int × Int)} (hl : a.length = b.length) (h : a.length ≤ 1000) (t root r : Int) (kr : Int → Bool → Option R) (ke : Int → Option R) : ∀ (c n j : Nat), c < n → j + c = a.length → spec_l7Good_l8 n t (a.length : Int) (j : Int) b root a r kr ke = if a.drop j = b.drop j then ke t else kr 0 false
  | _, 0, _, h, _ => by omega
  | 0, n + 1, j, _, hj => by
    rw [spec_l7Good_l8, dge (by omega), List.drop_eq_nil_iff.2 (by omega), List.drop_eq_nil_iff.2 (by omega)]; simp
  | c + 1, n + 1, j, hn, hj => by
    have h1 : j < a.length := by omega
    have h2 : j < b.length := by omega
    rw [spec_l7Good_l8, dlt h1, dlt h2, dnn, getD_at _ _ h1, getD_at _ _ h2, cho_eq a h1, wrapS h1 (by omega), List.drop_eq_getElem_cons h1, List.drop_eq_getElem_cons h2, good_loop hl h t root r kr ke c n (j + 1) (by omega) (by omega)]
    simp only [cond_true, List.cons.injEq]
    by_cases g : a[j] = b[j]
    · rw [decide_eq_true (show a[j] = (b[j].1, b[j].2.1, b[j].2.2) from g)]
      simp [g]
    · rw [decide_eq_false (show ¬ a[j] = (b[j].1, b[j].2.1, b[j].2.2) from g)]
      simp [g]
/-- Both sides' look at a diagram. -/
theorem truth_ex {n : Nat} (l : List (Int × Int × Int)) (root : Int) (hl : l.length ≤ 9000000000000000000) (hn : 3000 ≤ n) : ∃ (ok : Bool) (ti ts : BitVec 64), (ok = true → ti = ts) ∧ (∀ (R : Type) (k : Int → Bool → Option R), impl_truthOf n l root k = k (U ti) ok) ∧ ∀ (R : Type) (k : Int → Bool → Option R), spec_l7Good n l root k = k (U ts) ok := by
  by_cases h70 : (l.length : Int) > 70
  · refine ⟨false, 0, 0, fun _ => rfl, fun R k => ?_, fun R k => ?_⟩
    · unfold impl_truthOf; rw [decide_eq_true h70]; rfl
    · unfold spec_l7Good spec_l7Of; rw [decide_eq_true h70]; rfl
  have hl70 : l.length ≤ 70 := by omega
  have hi6 := fun (R : Type) kr k => impl_l6_eq (R := R) l (l := l) (by omega) root kr k l.length n 0 [] (by omega) (by omega) rfl
  have hs5 := fun (R : Type) kr k => spec_l5_eq (R := R) (l := l) (by omega) root kr k l.length n 0 [] (by omega) (by omega) rfl
  rw [List.drop_zero] at hi6 hs5
  simp only [show ((0 : Nat) : Int) = 0 from rfl, List.map_nil] at hi6 hs5
  have himp : ∀ (R : Type) (k : Int → Bool → Option R), impl_truthOf n l root k = bif decide (-2 ≤ root ∧ root ≤ (l.length : Int) - 1) then impl_truthOf_l6 n l (l.length : Int) 0 l root [] (fun r8 r9 => k r8 r9) (fun r10 r11 r12 => (impl_truthOf_c1 n r11 r12 fun r13 => (impl_diagramOf n r13 fun r14 r15 r16 => (bif r15 then (bif (r14 == r11) then (slices_Equal_impl_Choice n r16 r10 fun r17 => k r13 r17) else k r13 false) else k r13 false)))) else k 0 false := fun R k => by
    unfold impl_truthOf
    rw [decide_eq_false h70, cond_false, impl_in_eq, wrap64 (by omega) (by omega)]
    cases decide (-2 ≤ root ∧ root ≤ (l.length : Int) - 1) <;> rfl
  have hspec : ∀ (R : Type) (k : Int → Bool → Option R), spec_l7Of n l root k = spec_l7Of_l5 n l (l.length : Int) 0 l root [] (fun r15 r16 => k r15 r16) (fun r17 r18 r19 => (bif (r18 == (-2)) then k 0 ((r19.length : Int) == 0) else (bif (r18 == (-1)) then k 18446744073709551615 ((r19.length : Int) == 0) else (bif (r18 != (IntKind.wrap .i64 ((r19.length : Int) - 1))) then k 0 false else (bif decide (0 ≤ r18) then (bif decide (r18 < (r19.length : Int)) then k (r19.getD (Int.toNat r18) 0) true else none) else none))))) := fun R k => by
    unfold spec_l7Of
    rw [decide_eq_false h70]; rfl
  cases hT : tabs l 0 [] with
  | none =>
    have hT2 : tabs2 l l 0 [] = none := by
      cases h : tabs2 l l 0 [] with
      | none => rfl
      | some T => rw [tabs_of h] at hT; cases hT
    refine ⟨false, 0, 0, fun _ => rfl, fun R k => ?_, fun R k => ?_⟩
    · rw [himp, hi6, hT]
      cases decide (-2 ≤ root ∧ root ≤ (l.length : Int) - 1) <;> rfl
    · unfold spec_l7Good
      rw [hspec, hs5, hT2]; rfl
  | some T =>
    have hTlen : T.length = l.length := by
      have gen : ∀ (r : List (Int × Int × Int)) (j : Nat) (T T' : List (BitVec 64)), tabs r j T = some T' → T'.length = T.length + r.length := by
        intro r
        induction r with
        | nil => intro j T T' h; cases h; simp
        | cons c r ih =>
          intro j T T' h
          rw [tabs] at h
          cases h2 : ok1 j c with
          | false => rw [h2] at h; cases h
          | true =>
            rw [h2, cond_true] at h
            have := ih _ _ _ h
            simp at this ⊢
            omega
      have := gen l 0 [] T hT
      simpa using this
    -- what the reference says of the root
    have hof : ∀ (R : Type) (k : Int → Bool → Option R), tabs2 l l 0 [] = some T → spec_l7Of n l root k = bif decide (-2 ≤ root ∧ root ≤ (l.length : Int) - 1) then (if root < 0 then k (U (tabAt T root)) (decide (l.length = 0)) else bif decide (root + 1 = l.length) then k (U (tabAt T root)) true else k 0 false) else k 0 false := fun R k h2 => by
      rw [hspec, hs5, h2]
      dsimp only
      have hz : (((T.map U).length : Int) == 0) = decide (l.length = 0) := by
        rw [List.length_map, hTlen, Bool.eq_iff_iff]
        simp
      rw [hz]
      by_cases a : root = -2
      · subst a
        rw [decide_eq_true (show -2 ≤ (-2 : Int) ∧ (-2 : Int) ≤ (l.length : Int) - 1 by omega), cond_true, if_pos (by omega), tabAt_no]; rfl
      · by_cases b : root = -1
        · subst b
          rw [decide_eq_true (show -2 ≤ (-1 : Int) ∧ (-1 : Int) ≤ (l.length : Int) - 1 by omega), cond_true, if_pos (by omega), tabAt_yes]; rfl
        · rw [beq_eq_false_iff_ne.2 a, beq_eq_false_iff_ne.2 b, cond_false, cond_false, List.length_map, hTlen, wrap64 (by omega) (by omega)]
          by_cases c : root = (l.length : Int) - 1
          · rw [show (root != (l.length : Int) - 1) = false by simp [c], cond_false, decide_eq_true (show 0 ≤ root by omega), decide_eq_true (show root < (l.length : Int) by omega), cond_true, cond_true, tabAt_map (by omega) (by omega), decide_eq_true (show -2 ≤ root ∧ root ≤ (l.length : Int) - 1 by omega), cond_true, if_neg (by omega), decide_eq_true (show root + 1 = (l.length : Int) by omega), cond_true]
          · rw [show (root != (l.length : Int) - 1) = true by simpa using c, cond_true]
            by_cases d : -2 ≤ root ∧ root ≤ (l.length : Int) - 1
            · rw [decide_eq_true d, cond_true, if_neg (by omega), decide_eq_false (show ¬ root + 1 = (l.length : Int) by omega), cond_false]
            · rw [decide_eq_false d, cond_false]
    by_cases hr : -2 ≤ root ∧ root ≤ (l.length : Int) - 1
    · obtain ⟨r, l2, T2, hB, htab, r0, r1, hl2, hlast, hdi, hds⟩ := diagram_ex (n := n) (tabAt T root) (by omega)
      have hi : ∀ (R : Type) (k : Int → Bool → Option R), impl_truthOf n l root k = k (U (tabAt T root)) (decide (r = root ∧ l2 = l)) := fun R k => by
        rw [himp, decide_eq_true hr, cond_true, hi6, hT]
        dsimp only
        rw [impl_at_eq n hr.1 (by omega), hdi, cond_true]
        by_cases e1 : r = root
        · subst e1
          rw [beq_self_eq_true, cond_true, equal_eq (by omega) (by omega)]
          congr 1
          exact decide_eq_decide.2 ⟨fun h => ⟨rfl, h⟩, fun h => h.2⟩
        · rw [beq_eq_false_iff_ne.2 e1, cond_false, decide_eq_false fun h => e1 h.1]
      -- the reference, once its first look has passed
      have hs : ∀ (R : Type) (k : Int → Bool → Option R), (∀ (k' : Int → Bool → Option R), spec_l7Of n l root k' = k' (U (tabAt T root)) true) → spec_l7Good n l root k = bif decide (r = root ∧ l2 = l) then k (U (tabAt T root)) true else k 0 false := fun R k h => by
        unfold spec_l7Good
        rw [h, Bool.not_true, cond_false, hds]
        by_cases e1 : r = root
        · subst e1
          rw [show (r != r) = false by simp, cond_false]
          by_cases e2 : l2.length = l.length
          · have := good_loop (R := R) e2 (by omega) (U (tabAt T r)) r r (fun r6 r7 => k r6 r7) (fun r8 => k r8 true) l2.length n 0 (by omega) (by omega)
            rw [show ((0 : Nat) : Int) = 0 from rfl, List.drop_zero, List.drop_zero] at this
            rw [show ((l2.length : Int) != (l.length : Int)) = false by simp [e2], cond_false, this]
            by_cases e3 : l2 = l
            · rw [if_pos e3, decide_eq_true ⟨rfl, e3⟩]; rfl
            · rw [if_neg e3, decide_eq_false fun h => e3 h.2]; rfl
          · rw [show ((l2.length : Int) != (l.length : Int)) = true by simp; omega, cond_true, decide_eq_false fun h => e2 (by rw [h.2])]; rfl
        · rw [show (r != root) = true by simpa using e1, cond_true, decide_eq_false fun h => e1 h.1]; rfl
      by_cases hok : r = root ∧ l2 = l
      · obtain ⟨e1, e2⟩ := hok
        subst e2
        have hbt := built_tabs hB l2.length 0 (by omega)
        rw [List.drop_zero, List.take_zero] at hbt
        have hTT : T = T2 := by
          have := tabs_of hbt
          rw [hT] at this
          exact Option.some.inj this
        refine ⟨true, tabAt T root, tabAt T root, fun _ => rfl, fun R k => ?_, fun R k => ?_⟩
        · rw [hi, decide_eq_true ⟨e1, rfl⟩]
        · rw [hs R k fun k' => ?_, decide_eq_true ⟨e1, rfl⟩, cond_true]
          rw [hof R k' (by rw [hbt, hTT]), decide_eq_true hr, cond_true]
          by_cases g : root < 0
          · have : l2.length = 0 := by
              rcases hlast with h | h
              · rw [h]; rfl
              · omega
            rw [if_pos g, decide_eq_true this]
          · have : root + 1 = (l2.length : Int) := by
              rcases hlast with h | h
              · rw [h] at r1; simp at r1; omega
              · omega
            rw [if_neg g, decide_eq_true this, cond_true]
      · cases hT2 : tabs2 l l 0 [] with
        | none =>
          refine ⟨false, tabAt T root, 0, fun h => (by cases h), fun R k => ?_, fun R k => ?_⟩
          · rw [hi, decide_eq_false hok]
          · unfold spec_l7Good
            rw [hspec, hs5, hT2]; rfl
        | some T' =>
          have e : T' = T := by
            have := tabs_of hT2
            rw [hT] at this
            exact (Option.some.inj this).symm
          subst e
          refine ⟨false, tabAt T' root, 0, fun h => (by cases h), fun R k => ?_, fun R k => ?_⟩
          · rw [hi, decide_eq_false hok]
          · by_cases g : (if root < 0 then l.length = 0 else root + 1 = (l.length : Int))
            · rw [hs R k fun k' => ?_, decide_eq_false hok]; rfl
              rw [hof R k' hT2, decide_eq_true hr, cond_true]
              by_cases g2 : root < 0
              · rw [if_pos g2] at g ⊢; rw [decide_eq_true g]
              · rw [if_neg g2] at g ⊢; rw [decide_eq_true g, cond_true]
            · unfold spec_l7Good
              rw [hof R _ hT2, decide_eq_true hr, cond_true]
              by_cases g2 : root < 0
              · rw [if_pos g2] at g ⊢; rw [decide_eq_false g]; rfl
              · rw [if_neg g2] at g ⊢; rw [decide_eq_false g]; rfl
    · refine ⟨false, 0, 0, fun _ => rfl, fun R k => ?_, fun R k => ?_⟩
      · rw [himp, decide_eq_false hr]; rfl
      · unfold spec_l7Good
        cases hT2 : tabs2 l l 0 [] with
        | none => rw [hspec, hs5, hT2]; rfl
        | some T' =>
          have e : T' = T := by
            have := tabs_of hT2
            rw [hT] at this
            exact (Option.some.inj this).symm
          subst e
          rw [hof R _ hT2, decide_eq_false hr]; rfl
theorem laws_sz_eq {R : Type} (n : Nat) (l : List (Int × Int × Int)) (x left : Int) (h0 : 0 ≤ left) (h1 : left ≤ 1048576) (hl : l.length ≤ 9223372036854775807) (k : Int → Option R) : laws_szDiagram n l x left k = if (l.length : Int) ≤ left then k (left - l.length) else k (-1) := by
  unfold laws_szDiagram laws_szChoiceS
  rw [wrap64 (by omega) (by omega)]
  by_cases c : (l.length : Int) ≤ left
  · simp only [decide_eq_false (show ¬ left - (l.length : Int) < 0 by omega), cond_false, if_pos c]
  · rw [decide_eq_true (show left - (l.length : Int) < 0 by omega), if_neg c]; rfl
theorem set_take_at3 {α : Type} {out l : List α} {j : Nat} (h : j < l.length) (ho : out.length = l.length) (ht : out.take j = l.take j) : (out.set j l[j]).take (j + 1) = l.take (j + 1) := by
  rw [List.take_set, List.take_succ_eq_append_getElem (by omega), List.take_succ_eq_append_getElem h, ht, List.set_append_right _ _ (by simp; omega)]
  rw [show j - (l.take j).length = 0 by simp; omega]
  rfl
theorem laws_to_loop {R : Type} (l : List (Int × Int × Int)) (hb : l.length ≤ 9223372036854775807) (ke : List (Int × Int × Int) → Option R) : ∀ (n j : Nat) (out : List (Int × Int × Int)), l.length - j < n → j ≤ l.length → out.length = l.length → out.take j = l.take j →
    laws_toChoiceS_l3 n l (j : Int) out ke = ke l
  | 0, _, _, h, _, _, _ => by omega
  | n + 1, j, out, hn, hj, ho, ht => by
    rw [laws_toChoiceS_l3]
    by_cases h : j < l.length
    · have h' : j < out.length := by omega
      have ih := laws_to_loop l hb ke n (j + 1) (out.set j l[j]) (by omega) (by omega) (by simpa using ho) (set_take_at3 h ho ht)
      rw [dlt h, dnn, getD_at _ _ h, dlt h', wrapS h hb, Int.toNat_natCast]
      unfold laws_toChoice
      exact ih
    · rw [dge (by omega), cond_false]
      rw [List.take_of_length_le (by omega), List.take_of_length_le (by omega)] at ht
      rw [ht]
theorem laws_to_eq {R : Type} {n : Nat} {l : List (Int × Int × Int)} (hl : l.length ≤ 1048576) (hn : l.length < n) (x : Int) (k : Int → List (Int × Int × Int) → Option R) : laws_toDiagram n l x k = k x l := by
  unfold laws_toDiagram laws_toChoiceS
  have := laws_to_loop l (by omega) (fun r4 => k x r4) n 0 (List.replicate (Int.toNat (l.length : Int)) (0, (0, 0))) (by omega) (by omega) (by simp) (by simp)
  rw [show ((0 : Nat) : Int) = 0 from rfl] at this
  rw [decide_eq_true (show (0 : Int) ≤ (l.length : Int) by omega), decide_eq_true (show (l.length : Int) ≤ (l.length : Int) by omega), decide_eq_true (show (l.length : Int) ≤ 1099511627776 by omega)]
  exact this
theorem laws_eqC_loop {R : Type} (l : List (Int × Int × Int)) (hb : l.length ≤ 9223372036854775807) (kr : Bool → Option R) (ke : Option R) : ∀ (n j : Nat), l.length - j < n → j ≤ l.length → laws_eqChoiceS_l4 n l l (j : Int) kr ke = ke
  | 0, _, h, _ => by omega
  | n + 1, j, hn, hj => by
    rw [laws_eqChoiceS_l4]
    by_cases h : j < l.length
    · rw [dlt h, dnn, getD_at _ _ h, wrapS h hb]
      unfold laws_eqChoice
      simp only [bne_self_eq_false, cond_false, cond_true, Bool.not_true]
      exact laws_eqC_loop l hb kr ke n (j + 1) (by omega) (by omega)
    · rw [dge (by omega), cond_false]
theorem laws_eqD_eq {R : Type} {n : Nat} {l : List (Int × Int × Int)} (hl : l.length ≤ 1048576) (hn : l.length < n) (x : Int) (k : Bool → Option R) : laws_eqDiagram n l x l x k = k true := by
  unfold laws_eqDiagram laws_eqChoiceS
  have := laws_eqC_loop l (by omega) (fun r2 => (fun r1 => (bif (!r1) then k false else (bif (x != x) then k false else k true))) r2) ((fun r1 => (bif (!r1) then k false else (bif (x != x) then k false else k true))) true) n 0 (by omega) (by omega)
  rw [show ((0 : Nat) : Int) = 0 from rfl] at this
  rw [bne_self_eq_false, cond_false, this]
  simp
def pcF : Nat → Nat → Nat
  | 0, _ => 0
  | f + 1, x => x % 2 + pcF f (x / 2)
theorem pcF_drop : ∀ (f x : Nat), 0 < x → x < 2 ^ f → pcF f (x &&& (x - 1)) + 1 = pcF f x
  | 0, x, h0, h1 => by simp at h1; omega
  | f + 1, x, h0, h1 => by
    have hd : (x &&& (x - 1)) / 2 = x / 2 &&& (x - 1) / 2 := Nat.and_div_two
    have hm : (x &&& (x - 1)) % 2 = x % 2 &&& (x - 1) % 2 := by
      have := Nat.and_mod_two_pow (a := x) (b := x - 1) (n := 1)
      simpa using this
    rw [pcF, pcF, hd, hm]
    have h2 : x / 2 < 2 ^ f := by rw [Nat.pow_succ] at h1; omega
    rcases Nat.mod_two_eq_zero_or_one x with e | e
    · have e1 : (x - 1) % 2 = 1 := by omega
      have e2 : (x - 1) / 2 = x / 2 - 1 := by omega
      rw [e, e1, e2]
      have := pcF_drop f (x / 2) (by omega) h2
      have z : (0 &&& 1 : Nat) = 0 := rfl
      omega
    · have e1 : (x - 1) % 2 = 0 := by omega
      have e2 : (x - 1) / 2 = x / 2 := by omega
      rw [e, e1, e2, Nat.and_self]
      have z : (1 &&& 0 : Nat) = 0 := rfl
      omega
theorem pcF_zero : ∀ f, pcF f 0 = 0
  | 0 => rfl
  | f + 1 => by rw [pcF]; simp [pcF_zero f]
theorem pcF_le : ∀ f x, pcF f x ≤ f
  | 0, _ => Nat.le_refl _
  | f + 1, x => by
    have := pcF_le f (x / 2)
    rw [pcF]; omega
theorem pcF_byte (f x : Nat) : pcF (f + 8) x = pcF 8 (x % 256) + pcF f (x / 256) := by
  simp only [pcF, Nat.div_div_eq_div_mul]
  have : (2 * 2 * 2 * 2 * 2 * 2 * 2 * 2 : Nat) = 256 := rfl
  simp only [Nat.reduceMul]
  omega
theorem spec_count_loop {R : Type} (pc : BitVec 64 → Nat) (pz : ∀ t, t.toNat = 0 → pc t = 0) (pd : ∀ t, 0 < t.toNat → pc (t &&& BitVec.ofNat 64 (t.toNat - 1)) + 1 = pc t) (pl : ∀ t, pc t ≤ 64) (k : Int → Option R) : ∀ (n : Nat) (t : BitVec 64) (c : Nat) (q : Int), pc t = c → c < n → 0 ≤ q → q + c ≤ 1000 → spec_CountYes_l5 n (U t) q k = k (q + c) := by
  intro n
  induction n with
  | zero => intro t c q _ h _ _; omega
  | succ n ih =>
    intro t c q hc hn h0 h1
    rw [spec_CountYes_l5]
    by_cases hz : t.toNat = 0
    · have : c = 0 := by rw [← hc, pz t hz]
      rw [decide_eq_false (show ¬ U t > 0 by unfold U; omega), cond_false, this]; simp
    · have hw : IntKind.wrap .u64 (U t - 1) = U (BitVec.ofNat 64 (t.toNat - 1)) := by
        have := t.isLt
        unfold U
        rw [wrap_u (by omega) (by omega), BitVec.toNat_ofNat, Nat.mod_eq_of_lt (by omega)]
        omega
      have hp := pd t (by omega)
      have hc64 := pl t
      rw [hc] at hp hc64
      obtain ⟨c', rfl⟩ : ∃ c', c = c' + 1 := ⟨c - 1, by omega⟩
      have hp' : pc (t &&& BitVec.ofNat 64 (t.toNat - 1)) = c' := Nat.succ.inj hp
      rw [decide_eq_true (show U t > 0 by unfold U; omega), cond_true, hw, and_U, wrap64 (x := q + 1) (by omega) (by omega), ih _ c' (q + 1) hp' (by omega) (by omega) (by omega)]
      congr 1
      omega
theorem and_byte (x y : Nat) : x &&& y = (x % 256 &&& y % 256) + 256 * (x / 256 &&& y / 256) := by
  have h1 : (x &&& y) / 256 = x / 256 &&& y / 256 := Nat.and_div_two_pow (n := 8)
  have h2 : (x &&& y) % 256 = x % 256 &&& y % 256 := Nat.and_mod_two_pow (n := 8)
  omega
def Mk : Nat → Nat → Nat
  | 0, _ => 0
  | k + 1, c => c + 256 * Mk k c
theorem Mk_mod {k c : Nat} (h : c < 256) : Mk (k + 1) c % 256 = c ∧ Mk (k + 1) c / 256 = Mk k c := by
  rw [Mk]; omega
def p1 (r : Nat) : Nat := (r / 2 &&& 85) + (r &&& 85)
def p2 (r : Nat) : Nat := (r / 4 &&& 51) + (r &&& 51)
def p3 (r : Nat) : Nat := r / 16 + r % 16
theorem c1 : ∀ r : Fin 512, (r.val / 2) % 256 &&& 85 = (r.val % 256) / 2 &&& 85 := by decide +kernel
theorem c2 : ∀ r : Fin 1024, (r.val / 4) % 256 &&& 51 = (r.val % 256) / 4 &&& 51 := by decide +kernel
theorem c3 : ∀ r : Fin 256, r.val &&& 15 = r.val % 16 := by decide +kernel
theorem c4 : ∀ r : Fin 256, p1 r.val < 256 ∧ p2 (p1 r.val) < 256 ∧ p2 (p1 r.val) / 16 ≤ 4 ∧ p2 (p1 r.val) % 16 ≤ 4 ∧ p3 (p2 (p1 r.val)) = pcF 8 r.val := by decide +kernel
def F1 (k x : Nat) : Nat := (x / 2 &&& Mk k 85) + (x &&& Mk k 85)
def F2 (k x : Nat) : Nat := (x / 4 &&& Mk k 51) + (x &&& Mk k 51)
def F3 (k x : Nat) : Nat := (x / 16 + x) &&& Mk k 15
theorem F1_step (k x : Nat) : F1 (k + 1) x = p1 (x % 256) + 256 * F1 k (x / 256) := by
  unfold F1
  rw [and_byte (x / 2), and_byte x, (Mk_mod (by omega)).1, (Mk_mod (by omega)).2]
  have h := c1 ⟨x % 512, by omega⟩
  dsimp only at h
  have e1 : x / 2 % 256 = x % 512 / 2 % 256 := by omega
  have e2 : x % 512 % 256 = x % 256 := by omega
  have e3 : x / 2 / 256 = x / 256 / 2 := by omega
  rw [e1, h, e2, e3]
  unfold p1
  omega
theorem F2_step (k x : Nat) : F2 (k + 1) x = p2 (x % 256) + 256 * F2 k (x / 256) := by
  unfold F2
  rw [and_byte (x / 4), and_byte x, (Mk_mod (by omega)).1, (Mk_mod (by omega)).2]
  have h := c2 ⟨x % 1024, by omega⟩
  dsimp only at h
  have e1 : x / 4 % 256 = x % 1024 / 4 % 256 := by omega
  have e2 : x % 1024 % 256 = x % 256 := by omega
  have e3 : x / 4 / 256 = x / 256 / 4 := by omega
  rw [e1, h, e2, e3]
  unfold p2
  omega
theorem F3_step (k y : Nat) (h1 : y % 256 / 16 ≤ 4) (h2 : y % 16 ≤ 4) (h3 : y / 256 % 16 ≤ 4) : F3 (k + 1) y = p3 (y % 256) + 256 * F3 k (y / 256) := by
  unfold F3
  rw [and_byte, (Mk_mod (by omega)).1, (Mk_mod (by omega)).2]
  have h := c3 ⟨(y / 16 + y) % 256, by omega⟩
  dsimp only at h
  have e1 : (y / 16 + y) % 256 % 16 = y % 256 / 16 + y % 256 % 16 := by omega
  have e2 : (y / 16 + y) / 256 = y / 256 / 16 + y / 256 := by omega
  rw [h, e1, e2]
  rfl
def G4 (k x : Nat) : Nat := F3 k (F2 k (F1 k x))
theorem F2_low (k x : Nat) : F2 k (F1 k x) % 16 ≤ 4 := by
  cases k with
  | zero => simp [F2, Mk]
  | succ k =>
    have h := c4 ⟨x % 256, by omega⟩
    dsimp only at h
    rw [F1_step, F2_step]
    have e : (p1 (x % 256) + 256 * F1 k (x / 256)) % 256 = p1 (x % 256) := by omega
    rw [e]
    omega
theorem G4_step (k x : Nat) : G4 (k + 1) x = pcF 8 (x % 256) + 256 * G4 k (x / 256) := by
  have h := c4 ⟨x % 256, by omega⟩
  dsimp only at h
  unfold G4
  have e1 := F1_step k x
  have m1 : F1 (k + 1) x % 256 = p1 (x % 256) := by omega
  have d1 : F1 (k + 1) x / 256 = F1 k (x / 256) := by omega
  have e2 := F2_step k (F1 (k + 1) x)
  rw [m1, d1] at e2
  have m2 : F2 (k + 1) (F1 (k + 1) x) % 256 = p2 (p1 (x % 256)) := by omega
  have d2 : F2 (k + 1) (F1 (k + 1) x) / 256 = F2 k (F1 k (x / 256)) := by omega
  rw [F3_step k _ (by rw [m2]; omega) (by omega) (by rw [d2]; exact F2_low k _), m2, d2, h.2.2.2.2]
theorem F_lt : ∀ k x, F1 k x < 256 ^ k ∧ F2 k (F1 k x) < 256 ^ k
  | 0, x => by simp [F1, F2, Mk]
  | k + 1, x => by
    have h := c4 ⟨x % 256, by omega⟩
    dsimp only at h
    have ih := F_lt k (x / 256)
    have e1 := F1_step k x
    have m1 : F1 (k + 1) x % 256 = p1 (x % 256) := by omega
    have d1 : F1 (k + 1) x / 256 = F1 k (x / 256) := by omega
    have e2 := F2_step k (F1 (k + 1) x)
    rw [m1, d1] at e2
    rw [Nat.pow_succ]
    omega
/-- All of it. -/
theorem sum_bytes (c d e f s0 s1 s2 s3 s4 s5 s6 s7 : Nat) (b0 : s0 ≤ 8) (b1 : s1 ≤ 8) (b2 : s2 ≤ 8) (b3 : s3 ≤ 8) (b4 : s4 ≤ 8) (b5 : s5 ≤ 8) (b6 : s6 ≤ 8) (b7 : s7 ≤ 8)
    (hc : c = s0 + 256 * (s1 + 256 * (s2 + 256 * (s3 + 256 * (s4 + 256 * (s5 + 256 * (s6 + 256 * s7)))))))
    (hd : d = c + c / 256) (he : e = d + d / 65536) (hf : f = e + e / 4294967296) :
    c < 2305843009213693952 ∧ d < 2305843009213693952 ∧ e < 2305843009213693952 ∧ f < 2305843009213693952 ∧ f % 128 = s0 + (s1 + (s2 + (s3 + (s4 + (s5 + (s6 + s7)))))) := by
  have q1 : c / 256 = s1 + 256 * (s2 + 256 * (s3 + 256 * (s4 + 256 * (s5 + 256 * (s6 + 256 * s7))))) := by omega
  have q2 : d = (s0 + s1) + 256 * ((s1 + s2) + 256 * ((s2 + s3) + 256 * ((s3 + s4) + 256 * ((s4 + s5) + 256 * ((s5 + s6) + 256 * ((s6 + s7) + 256 * s7)))))) := by omega
  have q3 : d / 65536 = (s2 + s3) + 256 * ((s3 + s4) + 256 * ((s4 + s5) + 256 * ((s5 + s6) + 256 * ((s6 + s7) + 256 * s7)))) := by
    clear hc hd q1 he hf
    omega
  have q4 : e = (s0 + s1 + s2 + s3) + 256 * ((s1 + s2 + s3 + s4) + 256 * ((s2 + s3 + s4 + s5) + 256 * ((s3 + s4 + s5 + s6) + 256 * ((s4 + s5 + s6 + s7) + 256 * ((s5 + s6 + s7) + 256 * ((s6 + s7) + 256 * s7)))))) := by
    rw [he, q3, q2]
    omega
  have q5 : e / 4294967296 = (s4 + s5 + s6 + s7) + 256 * ((s5 + s6 + s7) + 256 * ((s6 + s7) + 256 * s7)) := by
    clear hc hd q1 he hf q2 q3
    omega
  refine ⟨by clear hd q1 he hf q2 q3 q4 q5; omega, by clear hc hd q1 he hf q3 q4 q5; omega, by clear hc hd q1 he hf q2 q3 q5; omega, ?_, ?_⟩
  · rw [hf, q5]; clear hc hd q1 he hf q2 q3 q5; omega
  · rw [hf, q5, q4]; clear hc hd q1 he hf q2 q3 q4 q5; omega
theorem bytes8 (x : Nat) : ∃ s0 s1 s2 s3 s4 s5 s6 s7 : Nat, s0 ≤ 8 ∧ s1 ≤ 8 ∧ s2 ≤ 8 ∧ s3 ≤ 8 ∧ s4 ≤ 8 ∧ s5 ≤ 8 ∧ s6 ≤ 8 ∧ s7 ≤ 8 ∧
    G4 8 x = s0 + 256 * (s1 + 256 * (s2 + 256 * (s3 + 256 * (s4 + 256 * (s5 + 256 * (s6 + 256 * s7)))))) ∧ pcF 64 x = s0 + (s1 + (s2 + (s3 + (s4 + (s5 + (s6 + s7)))))) := by
  refine ⟨_, _, _, _, _, _, _, _, pcF_le 8 (x % 256), pcF_le 8 (x / 256 % 256), pcF_le 8 (x / 256 / 256 % 256), pcF_le 8 (x / 256 / 256 / 256 % 256), pcF_le 8 (x / 256 / 256 / 256 / 256 % 256), pcF_le 8 (x / 256 / 256 / 256 / 256 / 256 % 256), pcF_le 8 (x / 256 / 256 / 256 / 256 / 256 / 256 % 256), pcF_le 8 (x / 256 / 256 / 256 / 256 / 256 / 256 / 256 % 256), ?_, ?_⟩
  · rw [G4_step 7, G4_step 6, G4_step 5, G4_step 4, G4_step 3, G4_step 2, G4_step 1, G4_step 0]
    have h0 : G4 0 (x / 256 / 256 / 256 / 256 / 256 / 256 / 256 / 256) = 0 := by simp [G4, F3, Mk]
    rw [h0]
    rfl
  · have e0 : pcF 64 x = _ := pcF_byte 56 x
    have e1 : pcF 56 (x / 256) = _ := pcF_byte 48 (x / 256)
    have e2 : pcF 48 (x / 256 / 256) = _ := pcF_byte 40 (x / 256 / 256)
    have e3 : pcF 40 (x / 256 / 256 / 256) = _ := pcF_byte 32 (x / 256 / 256 / 256)
    have e4 : pcF 32 (x / 256 / 256 / 256 / 256) = _ := pcF_byte 24 (x / 256 / 256 / 256 / 256)
    have e5 : pcF 24 (x / 256 / 256 / 256 / 256 / 256) = _ := pcF_byte 16 (x / 256 / 256 / 256 / 256 / 256)
    have e6 : pcF 16 (x / 256 / 256 / 256 / 256 / 256 / 256) = _ := pcF_byte 8 (x / 256 / 256 / 256 / 256 / 256 / 256)
    have e7 : pcF 8 (x / 256 / 256 / 256 / 256 / 256 / 256 / 256) = _ := pcF_byte 0 (x / 256 / 256 / 256 / 256 / 256 / 256 / 256)
    rw [e0, e1, e2, e3, e4, e5, e6, e7]
    rfl
def m0 : BitVec 64 := 6148914691236517205#64
def m1 : BitVec 64 := 3689348814741910323#64
def m2 : BitVec 64 := 1085102592571150095#64
theorem m0_U : (6148914691236517205 : Int) = U m0 := rfl
theorem m1_U : (3689348814741910323 : Int) = U m1 := rfl
theorem m2_U : (1085102592571150095 : Int) = U m2 := rfl
theorem mn1 : min (Int.toNat 1) (IntKind.bits .u64) = 1 := rfl
theorem mn2 : min (Int.toNat 2) (IntKind.bits .u64) = 2 := rfl
theorem mn4 : min (Int.toNat 4) (IntKind.bits .u64) = 4 := rfl
theorem mn8 : min (Int.toNat 8) (IntKind.bits .u64) = 8 := rfl
theorem mn16 : min (Int.toNat 16) (IntKind.bits .u64) = 16 := rfl
theorem mn32 : min (Int.toNat 32) (IntKind.bits .u64) = 32 := rfl
theorem add_U (a b : BitVec 64) : IntKind.wrap .u64 (U a + U b) = U (a + b) := by
  have ha := a.isLt
  have hb := b.isLt
  unfold U
  rw [BitVec.toNat_add]
  simp only [IntKind.wrap, IntKind.bits]
  rw [show IntKind.signed .u64 = false from rfl]
  simp
def wA (t : BitVec 64) : BitVec 64 := (t >>> 1 &&& m0) + (t &&& m0)
def wB (t : BitVec 64) : BitVec 64 := (t >>> 2 &&& m1) + (t &&& m1)
def wC (t : BitVec 64) : BitVec 64 := (t >>> 4 + t) &&& m2
def wS (s : Nat) (t : BitVec 64) : BitVec 64 := t + t >>> s
def wF (t : BitVec 64) : BitVec 64 := wS 32 (wS 16 (wS 8 (wC (wB (wA t)))))
theorem wA_fold (t : BitVec 64) : (t >>> 1 &&& m0) + (t &&& m0) = wA t := rfl
theorem wB_fold (t : BitVec 64) : (t >>> 2 &&& m1) + (t &&& m1) = wB t := rfl
theorem wC_fold (t : BitVec 64) : (t >>> 4 + t) &&& m2 = wC t := rfl
theorem wS8_fold (t : BitVec 64) : t + t >>> 8 = wS 8 t := rfl
theorem wS16_fold (t : BitVec 64) : t + t >>> 16 = wS 16 t := rfl
theorem wS32_fold (t : BitVec 64) : t + t >>> 32 = wS 32 t := rfl
theorem ones_eq {R : Type} (n : Nat) (t : BitVec 64) (k : Int → Option R) : bits_OnesCount64 n (U t) k = k (IntKind.wrap .i64 (Int.ofNat (BitVec.toNat (BitVec.ofInt (IntKind.bits .i64) (IntKind.wrap .i64 (U (wF t))) &&& BitVec.ofInt (IntKind.bits .i64) 127)))) := by
  unfold bits_OnesCount64 wF
  rw [mn1, mn2, mn4, mn8, mn16, mn32, m0_U, m1_U, m2_U]
  rw [shr_U, and_U, and_U, add_U, wA_fold, shr_U, and_U, and_U, add_U, wB_fold, shr_U, add_U, and_U, wC_fold, shr_U, add_U, wS8_fold, shr_U, add_U, wS16_fold, shr_U, add_U, wS32_fold]
theorem Mk85 : m0.toNat = Mk 8 85 := by decide
theorem Mk51 : m1.toNat = Mk 8 51 := by decide
theorem Mk15 : m2.toNat = Mk 8 15 := by decide
theorem wA_nat (t : BitVec 64) : (wA t).toNat = F1 8 t.toNat := by
  have h := (F_lt 8 t.toNat).1
  unfold wA
  rw [BitVec.toNat_add, BitVec.toNat_and, BitVec.toNat_and, BitVec.toNat_ushiftRight, Nat.shiftRight_eq_div_pow, Mk85]
  exact Nat.mod_eq_of_lt (Nat.lt_of_lt_of_eq h (by decide))
theorem wB_nat (t a : BitVec 64) (e : a.toNat = F1 8 t.toNat) : (wB a).toNat = F2 8 (F1 8 t.toNat) := by
  have h := (F_lt 8 t.toNat).2
  unfold wB
  rw [BitVec.toNat_add, BitVec.toNat_and, BitVec.toNat_and, BitVec.toNat_ushiftRight, Nat.shiftRight_eq_div_pow, Mk51, e]
  exact Nat.mod_eq_of_lt (Nat.lt_of_lt_of_eq h (by decide))
theorem mod_and64 (x y : Nat) (h : y < 18446744073709551616) : x % 18446744073709551616 &&& y = x &&& y := by
  have h1 : (x &&& y) % 2 ^ 64 = x % 2 ^ 64 &&& y % 2 ^ 64 := Nat.and_mod_two_pow (n := 64)
  have h2 : x &&& y < 2 ^ 64 := Nat.lt_of_le_of_lt Nat.and_le_right h
  rw [Nat.mod_eq_of_lt h2, Nat.mod_eq_of_lt (a := y) h] at h1
  exact h1.symm
theorem wC_nat (b : BitVec 64) : (wC b).toNat = F3 8 b.toNat := by
  unfold wC F3
  rw [BitVec.toNat_and, BitVec.toNat_add, BitVec.toNat_ushiftRight, Nat.shiftRight_eq_div_pow, Mk15]
  exact mod_and64 _ _ (by decide)
theorem wS_nat (s : Nat) (c : BitVec 64) (h : c.toNat + c.toNat / 2 ^ s < 18446744073709551616) : (wS s c).toNat = c.toNat + c.toNat / 2 ^ s := by
  unfold wS
  rw [BitVec.toNat_add, BitVec.toNat_ushiftRight, Nat.shiftRight_eq_div_pow]
  exact Nat.mod_eq_of_lt h
theorem wF_nat (t : BitVec 64) : (wF t).toNat < 2305843009213693952 ∧ (wF t).toNat % 128 = pcF 64 t.toNat := by
  obtain ⟨s0, s1, s2, s3, s4, s5, s6, s7, b0, b1, b2, b3, b4, b5, b6, b7, hc, hp⟩ := bytes8 t.toNat
  obtain ⟨hc1, hd1, he1, hf1, hr⟩ := sum_bytes (G4 8 t.toNat) _ _ _ s0 s1 s2 s3 s4 s5 s6 s7 b0 b1 b2 b3 b4 b5 b6 b7 hc rfl rfl rfl
  rw [hp, ← hr]
  have e : (wC (wB (wA t))).toNat = G4 8 t.toNat := by rw [wC_nat, wB_nat t _ (wA_nat t)]; rfl
  unfold wF
  generalize wC (wB (wA t)) = w at e
  generalize G4 8 t.toNat = c at *
  have d1 : (wS 8 w).toNat = c + c / 256 := by rw [wS_nat, e]; exact Nat.lt_trans (by rw [e]; exact hd1) (by decide)
  have d2 : (wS 16 (wS 8 w)).toNat = c + c / 256 + (c + c / 256) / 65536 := by rw [wS_nat, d1]; exact Nat.lt_trans (by rw [d1]; exact he1) (by decide)
  have d3 : (wS 32 (wS 16 (wS 8 w))).toNat = c + c / 256 + (c + c / 256) / 65536 + (c + c / 256 + (c + c / 256) / 65536) / 4294967296 := by rw [wS_nat, d2]; exact Nat.lt_trans (by rw [d2]; exact hf1) (by decide)
  rw [d3]
  exact ⟨hf1, rfl⟩
theorem ones_val {R : Type} (n : Nat) (t : BitVec 64) (p : Nat) (h1 : (wF t).toNat < 2305843009213693952) (h2 : (wF t).toNat % 128 = p) (k : Int → Option R) : bits_OnesCount64 n (U t) k = k (p : Int) := by
  have hb : IntKind.wrap .i64 (U (wF t)) = U (wF t) := wrap64 (by unfold U; omega) (by unfold U; omega)
  have ha : (127 : Int) = U 127#64 := rfl
  rw [ones_eq, hb, ha]
  show k (IntKind.wrap .i64 (Int.ofNat (BitVec.toNat (BitVec.ofInt 64 (U (wF t)) &&& BitVec.ofInt 64 (U 127#64))))) = _
  rw [of_U, of_U, BitVec.toNat_and]
  have e : (wF t).toNat &&& (127#64).toNat = p := by
    rw [← h2]
    exact Nat.and_two_pow_sub_one_eq_mod _ 7
  rw [e]
  congr 1
  have hp : (Int.ofNat p : Int) = (p : Int) := rfl
  exact wrap64 (by omega) (by omega)
theorem cnt (t : BitVec 64) : ∃ p : Nat, (∀ (R : Type) (n : Nat) (k : Int → Option R), bits_OnesCount64 n (U t) k = k (p : Int)) ∧ ∀ (R : Type) (n : Nat) (k : Int → Option R), 100 ≤ n → spec_CountYes_l5 n (U t) 0 k = k (p : Int) := by
  obtain ⟨h1, h2⟩ := wF_nat t
  obtain ⟨pc, hpc⟩ : ∃ pc : BitVec 64 → Nat, ∀ t, pc t = pcF 64 t.toNat := ⟨fun t => pcF 64 t.toNat, fun t => rfl⟩
  rw [← hpc] at h2
  have pl : ∀ t, pc t ≤ 64 := fun t => by rw [hpc]; exact pcF_le 64 t.toNat
  have pz : ∀ t : BitVec 64, t.toNat = 0 → pc t = 0 := fun t e => by rw [hpc, e, pcF_zero]
  have pd : ∀ t : BitVec 64, 0 < t.toNat → pc (t &&& BitVec.ofNat 64 (t.toNat - 1)) + 1 = pc t := fun t e => by
    rw [hpc, hpc, BitVec.toNat_and, BitVec.toNat_ofNat, Nat.mod_eq_of_lt (by have := t.isLt; omega)]
    exact pcF_drop 64 t.toNat e t.isLt
  clear hpc
  refine ⟨pc t, fun R n k => ones_val n t _ h1 h2 k, fun R n k hn => ?_⟩
  have hl := pl t
  have := spec_count_loop pc pz pd pl k n t _ 0 rfl (by omega) (by omega) (by omega)
  rw [this]
  congr 1
  exact Int.zero_add _
theorem key {R : Type} {n : Nat} (l : List (Int × Int × Int)) (x : Int) (hl : l.length ≤ 9223372036854775807) (hn : 2000000 ≤ n) (k : Bool → Option R) : laws_FnExactCountYes n l x k = k true := by
  unfold laws_FnExactCountYes
  rw [laws_sz_eq n l x 1048576 (by omega) (by omega) hl]
  by_cases c : (l.length : Int) ≤ 1048576
  · obtain ⟨ok, ti, ts, he, hi, hs⟩ := truth_ex (n := n) l x (by omega) (by omega)
    have hto := fun k => laws_to_eq (R := R) (n := n) (l := l) (by omega) (by omega) x k
    rw [if_pos c, decide_eq_false (show ¬ 1048576 - (l.length : Int) < 0 by omega), cond_false, hto]
    unfold spec_CountYes impl_CountYes
    simp only [hs, hi, hto]
    cases ok with
    | false =>
      simp only [Bool.not_false, cond_true, hto, laws_eqD_eq (show l.length ≤ 1048576 by omega) (show l.length < n by omega)]
      rfl
    | true =>
      have := he rfl
      subst this
      obtain ⟨p, ci, cs⟩ := cnt ti
      simp only [Bool.not_true, cond_false, cs _ n _ (show 100 ≤ n by omega), ci, hto, laws_eqD_eq (show l.length ≤ 1048576 by omega) (show l.length < n by omega)]
      simp
  · rw [if_neg c]; rfl
theorem plain : Plain := fun d h R k => ⟨_, key d.1 d.2 h.1.1 (Nat.le_refl _) k⟩
end Go.Am.G
