/- The plain law: what the functions compute answers as the law says, for all arguments. -/
import Derived.Test.YtclmflfhhdcipaaF11
set_option linter.unusedVariables false
set_option linter.unusedSimpArgs false
namespace Go.Am.G
open Go Go.Am
theorem wrap64 {x : Int} (h1 : -9223372036854775808 ≤ x) (h2 : x ≤ 9223372036854775807) : IntKind.wrap .i64 x = x := by
  simp only [IntKind.wrap, IntKind.signed, IntKind.bits]
  simp
  omega
theorem getD_at {α : Type} (l : List α) (d : α) {j : Nat} (h : j < l.length) : l.getD (Int.toNat (j : Int)) d = l[j] := by
  rw [Int.toNat_natCast, List.getD_eq_getElem?_getD, List.getElem?_eq_getElem h]; rfl
theorem dlt {a b : Nat} (h : a < b) : decide ((a : Int) < (b : Int)) = true := decide_eq_true (by omega)
theorem dge {a b : Nat} (h : b ≤ a) : decide ((a : Int) < (b : Int)) = false := decide_eq_false (by omega)
theorem dnn (a : Nat) : decide (0 ≤ (a : Int)) = true := decide_eq_true (by omega)
theorem wrapS {j m : Nat} (h : j < m) (hm : m ≤ 9223372036854775807) : IntKind.wrap .i64 ((j : Int) + 1) = ((j + 1 : Nat) : Int) := by
  rw [wrap64 (by omega) (by omega)]; rfl
theorem impl_in_eq {R : Type} (n : Nat) (x a b : Int) (k : Bool → Option R) : impl_in n x a b k = k (decide (a ≤ x ∧ x ≤ b)) := by
  simp only [impl_in]
  by_cases h : x ≥ a
  · have : a ≤ x := h
    simp [this]
  · have : ¬ a ≤ x := h
    simp [this]
def U (b : BitVec 64) : Int := (b.toNat : Int)
theorem U_inj {a b : BitVec 64} (h : U a = U b) : a = b := BitVec.eq_of_toNat_eq (by unfold U at h; omega)
theorem U_beq (a b : BitVec 64) : (U a == U b) = decide (a = b) := by
  by_cases c : a = b
  · subst c; simp
  · rw [decide_eq_false c]
    simpa using fun h => c (U_inj h)
theorem of_U (b : BitVec 64) : BitVec.ofInt 64 (U b) = b := by
  show BitVec.ofInt 64 (b.toNat : Int) = b
  rw [BitVec.ofInt_natCast, BitVec.ofNat_toNat, BitVec.setWidth_eq]
theorem wrap_u {x : Int} (h0 : 0 ≤ x) (h1 : x < 18446744073709551616) : IntKind.wrap .u64 x = x := by
  simp only [IntKind.wrap, IntKind.signed, IntKind.bits]
  simp
  omega
theorem U_lt (b : BitVec 64) : 0 ≤ U b ∧ U b < 18446744073709551616 := by
  have := b.isLt
  unfold U
  omega
theorem wrap_U (b : BitVec 64) : IntKind.wrap .u64 (Int.ofNat b.toNat) = U b := wrap_u (U_lt b).1 (U_lt b).2
theorem wrap_U' (b : BitVec 64) : IntKind.wrap .u64 ((b.toNat : Nat) : Int) = U b := wrap_u (U_lt b).1 (U_lt b).2
theorem or_U (a b : BitVec 64) : IntKind.wrap .u64 (Int.ofNat (BitVec.toNat (BitVec.ofInt (IntKind.bits .u64) (U a) ||| BitVec.ofInt (IntKind.bits .u64) (U b)))) = U (a ||| b) := by
  show IntKind.wrap .u64 (Int.ofNat (BitVec.toNat (BitVec.ofInt 64 (U a) ||| BitVec.ofInt 64 (U b)))) = _
  rw [of_U, of_U, wrap_U]
theorem and_U (a b : BitVec 64) : IntKind.wrap .u64 (Int.ofNat (BitVec.toNat (BitVec.ofInt (IntKind.bits .u64) (U a) &&& BitVec.ofInt (IntKind.bits .u64) (U b)))) = U (a &&& b) := by
  show IntKind.wrap .u64 (Int.ofNat (BitVec.toNat (BitVec.ofInt 64 (U a) &&& BitVec.ofInt 64 (U b)))) = _
  rw [of_U, of_U, wrap_U]
theorem andn_U (a b : BitVec 64) : IntKind.wrap .u64 (Int.ofNat (BitVec.toNat (BitVec.ofInt (IntKind.bits .u64) (U a) &&& ~~~ BitVec.ofInt (IntKind.bits .u64) (U b)))) = U (a &&& ~~~ b) := by
  show IntKind.wrap .u64 (Int.ofNat (BitVec.toNat (BitVec.ofInt 64 (U a) &&& ~~~ BitVec.ofInt 64 (U b)))) = _
  rw [of_U, of_U, wrap_U]
theorem not_U (b : BitVec 64) : IntKind.wrap .u64 (BitVec.toNat (BitVec.ofInt (IntKind.bits .u64) (18446744073709551615) ^^^ BitVec.ofInt (IntKind.bits .u64) (U b))) = U (~~~ b) := by
  show IntKind.wrap .u64 ((BitVec.toNat (BitVec.ofInt 64 (U (BitVec.allOnes 64)) ^^^ BitVec.ofInt 64 (U b)) : Nat) : Int) = _
  rw [of_U, of_U, wrap_U', BitVec.allOnes_xor]
theorem shl_U (b : BitVec 64) (s : Nat) : IntKind.wrap .u64 (U b * 2 ^ s) = U (b <<< s) := by
  unfold U
  rw [BitVec.toNat_shiftLeft, Nat.shiftLeft_eq]
  simp only [IntKind.wrap, IntKind.signed, IntKind.bits]
  simp
theorem shr_U (b : BitVec 64) (s : Nat) : Int.fdiv (U b) (2 ^ s) = U (b >>> s) := by
  unfold U
  rw [BitVec.toNat_ushiftRight, Nat.shiftRight_eq_div_pow, Int.fdiv_eq_ediv_of_nonneg _ (Int.le_of_lt (Int.pow_pos (by omega)))]
  simp
theorem U_zero : U 0 = 0 := rfl
theorem U_all : U (BitVec.allOnes 64) = 18446744073709551615 := rfl
/-- A variable's table. -/
def mkM (v : Nat) : Nat → BitVec 64
  | 0 => 0
  | j + 1 => bif j.testBit v then mkM v j ||| BitVec.twoPow 64 j else mkM v j
def msk (v : Nat) : BitVec 64 := mkM v 64
theorem mkM_bit (v : Nat) : ∀ (j i : Nat), j ≤ 64 → i < 64 → (mkM v j).getLsbD i = (decide (i < j) && i.testBit v)
  | 0, i, _, _ => by simp [mkM]
  | j + 1, i, hj, hi => by
    have ih := mkM_bit v j i (by omega) hi
    unfold mkM
    cases hb : j.testBit v with
    | true =>
      simp only [cond_true]
      rw [BitVec.getLsbD_or, ih, BitVec.getLsbD_twoPow]
      by_cases c : i = j
      · subst c; simp [hb]; omega
      · have : (i < j + 1) = (i < j) := by rw [eq_iff_iff]; omega
        simp [this]; omega
    | false =>
      simp only [cond_false]
      rw [ih]
      by_cases c : i = j
      · subst c; simp [hb]
      · have : (i < j + 1) = (i < j) := by rw [eq_iff_iff]; omega
        simp [this]
theorem msk_bit {v i : Nat} (hi : i < 64) : (msk v).getLsbD i = i.testBit v := by
  unfold msk
  rw [mkM_bit v 64 i (by omega) hi]
  simp [hi]
theorem var_bit : ∀ j : Fin 64, ∀ v : Fin 6, ((IntKind.wrap .i64 (Int.ofNat (BitVec.toNat (BitVec.ofInt (IntKind.bits .i64) (Int.fdiv ((j.val : Nat) : Int) (2 ^ (min (Int.toNat ((v.val : Nat) : Int)) (IntKind.bits .i64)))) &&& BitVec.ofInt (IntKind.bits .i64) 1)))) == 1) = j.val.testBit v.val := by decide +kernel
theorem pow_U : ∀ j : Fin 64, IntKind.wrap .u64 (1 * 2 ^ (min (Int.toNat ((j.val : Nat) : Int)) (IntKind.bits .u64))) = U (BitVec.twoPow 64 j.val) := by decide +kernel
theorem var_u : ∀ v : Fin 7, IntKind.wrap .u64 ((v.val : Nat) : Int) = ((v.val : Nat) : Int) := by decide +kernel
theorem impl_var_loop {R : Type} {v : Nat} (hv : v < 6) (k : Int → Option R) : ∀ (c n j : Nat), c < n → j + c = 64 → impl_varTruth_l3 n (v : Int) (U (mkM v j)) (j : Int) k = k (U (msk v))
  | _, 0, _, h, _ => by omega
  | 0, n + 1, j, _, hj => by
    have : j = 64 := by omega
    subst this
    rw [impl_varTruth_l3, decide_eq_false (show ¬ ((64 : Nat) : Int) < 64 by omega)]; rfl
  | c + 1, n + 1, j, hn, hj => by
    have hlt : j < 64 := by omega
    have hb := var_bit ⟨j, hlt⟩ ⟨v, hv⟩
    have hp := pow_U ⟨j, hlt⟩
    dsimp only at hb hp
    rw [impl_varTruth_l3]
    rw [decide_eq_true (show (j : Int) < 64 by omega), dnn, dnn, hb, hp, or_U, wrapS hlt (by omega)]
    simp only [cond_true]
    have ih := impl_var_loop hv k c n (j + 1) (by omega) (by omega)
    unfold mkM at ih
    cases htb : j.testBit v with
    | true => rw [htb] at ih; exact ih
    | false => rw [htb] at ih; exact ih
theorem impl_var_eq {R : Type} {n v : Nat} (hv : v < 6) (hn : 70 ≤ n) (k : Int → Option R) : impl_varTruth n (v : Int) k = k (U (msk v)) := by
  have := impl_var_loop hv k 64 n 0 (by omega) (by omega)
  unfold impl_varTruth
  exact this
theorem spec_var_loop {R : Type} {v : Nat} (hv : v < 6) (k : Int → Option R) : ∀ (c n j : Nat), c < n → j + c = 64 → spec_l7Var_l3 n (v : Int) (U (mkM v j)) (j : Int) k = k (U (msk v))
  | _, 0, _, h, _ => by omega
  | 0, n + 1, j, _, hj => by
    have : j = 64 := by omega
    subst this
    rw [spec_l7Var_l3, decide_eq_false (show ¬ ((64 : Nat) : Int) < 64 by omega)]; rfl
  | c + 1, n + 1, j, hn, hj => by
    have hlt : j < 64 := by omega
    have hb := var_bit ⟨j, hlt⟩ ⟨v, hv⟩
    have hp := pow_U ⟨j, hlt⟩
    have hu := var_u ⟨v, by omega⟩
    dsimp only at hb hp hu
    rw [spec_l7Var_l3]
    rw [decide_eq_true (show (j : Int) < 64 by omega), hu, wrap_u (x := (j : Int)) (by omega) (by omega), dnn, dnn, hb, hp, or_U, wrapS hlt (by omega)]
    simp only [cond_true]
    have ih := spec_var_loop hv k c n (j + 1) (by omega) (by omega)
    unfold mkM at ih
    cases htb : j.testBit v with
    | true => rw [htb] at ih; exact ih
    | false => rw [htb] at ih; exact ih
theorem spec_var_eq {R : Type} {n v : Nat} (hv : v < 6) (hn : 70 ≤ n) (k : Int → Option R) : spec_l7Var n (v : Int) k = k (U (msk v)) := by
  have := spec_var_loop hv k 64 n 0 (by omega) (by omega)
  unfold spec_l7Var
  exact this
/-- A table with a variable no or yes. -/
def hv (t : BitVec 64) (v : Nat) : Bool → BitVec 64
  | true => (t &&& msk v) ||| ((t &&& msk v) >>> (2 ^ v))
  | false => (t &&& ~~~ msk v) ||| ((t &&& ~~~ msk v) <<< (2 ^ v))
theorem two_i : ∀ v : Fin 6, IntKind.wrap .i64 (1 * 2 ^ (min (Int.toNat ((v.val : Nat) : Int)) (IntKind.bits .i64))) = ((2 ^ v.val : Nat) : Int) := by decide +kernel
theorem two_u : ∀ v : Fin 6, IntKind.wrap .u64 (1 * 2 ^ (min (Int.toNat ((v.val : Nat) : Int)) (IntKind.bits .u64))) = ((2 ^ v.val : Nat) : Int) := by decide +kernel
theorem two_min : ∀ v : Fin 6, min (Int.toNat ((2 ^ v.val : Nat) : Int)) (IntKind.bits .u64) = 2 ^ v.val := by decide +kernel
theorem impl_with_eq {R : Type} {n v : Nat} (h6 : v < 6) (hn : 70 ≤ n) (t : BitVec 64) (b : Bool) (k : Int → Option R) : impl_truth_with n (U t) (v : Int) b k = k (U (hv t v b)) := by
  have h1 := two_i ⟨v, h6⟩
  have h2 := two_min ⟨v, h6⟩
  dsimp only at h1 h2
  unfold impl_truth_with
  rw [impl_var_eq h6 hn, dnn, h1, dnn, h2, and_U, andn_U, shr_U, shl_U, or_U, or_U]
  cases b <;> rfl
theorem spec_half_eq {R : Type} {n v : Nat} (h6 : v < 6) (hn : 70 ≤ n) (t : BitVec 64) (b : Bool) (k : Int → Option R) : spec_l7Half n (U t) (v : Int) b k = k (U (hv t v b)) := by
  have h1 := two_u ⟨v, h6⟩
  have h2 := two_min ⟨v, h6⟩
  have hu := var_u ⟨v, by omega⟩
  dsimp only at h1 h2 hu
  unfold spec_l7Half
  rw [spec_var_eq h6 hn, hu, dnn, h1, dnn, h2, and_U, andn_U, shr_U, shl_U, or_U, or_U]
  cases b <;> rfl
def st (i v : Nat) (b : Bool) : Nat := bif i.testBit v == b then i else bif b then i + 2 ^ v else i - 2 ^ v
theorem st_lt : ∀ i : Fin 64, ∀ v : Fin 6, ∀ b, st i.val v.val b < 64 := by decide +kernel
theorem st_same : ∀ i : Fin 64, ∀ v : Fin 6, ∀ b c, st (st i.val v.val b) v.val c = st i.val v.val c := by decide +kernel
theorem st_comm : ∀ i : Fin 64, ∀ u v : Fin 6, u ≠ v → ∀ b c, st (st i.val u.val b) v.val c = st (st i.val v.val c) u.val b := by decide +kernel
theorem st_low : ∀ i : Fin 64, st (st (st (st (st (st i.val 0 false) 1 false) 2 false) 3 false) 4 false) 5 false = 0 := by decide +kernel
theorem st_add : ∀ i : Fin 64, ∀ v : Fin 6, i.val.testBit v.val = false → i.val + 2 ^ v.val < 64 ∧ (i.val + 2 ^ v.val).testBit v.val = true := by decide +kernel
theorem st_add' : ∀ i : Fin 64, ∀ v : Fin 6, i.val.testBit v.val = true → i.val + 2 ^ v.val < 64 → (i.val + 2 ^ v.val).testBit v.val = false := by decide +kernel
theorem st_sub : ∀ i : Fin 64, ∀ v : Fin 6, i.val.testBit v.val = true → 2 ^ v.val ≤ i.val ∧ (i.val - 2 ^ v.val).testBit v.val = false := by decide +kernel
theorem st_sub' : ∀ i : Fin 64, ∀ v : Fin 6, i.val.testBit v.val = false → 2 ^ v.val ≤ i.val → (i.val - 2 ^ v.val).testBit v.val = true := by decide +kernel
theorem hv_bit {t : BitVec 64} {v i : Nat} (h6 : v < 6) (hi : i < 64) (b : Bool) : (hv t v b).getLsbD i = t.getLsbD (st i v b) := by
  cases b with
  | true =>
    unfold hv st
    rw [BitVec.getLsbD_or, BitVec.getLsbD_and, msk_bit hi, BitVec.getLsbD_ushiftRight, BitVec.getLsbD_and]
    cases hb : i.testBit v with
    | true =>
      have : (msk v).getLsbD (2 ^ v + i) = false := by
        by_cases c : i + 2 ^ v < 64
        · rw [Nat.add_comm, msk_bit c]; exact st_add' ⟨i, hi⟩ ⟨v, h6⟩ hb c
        · exact BitVec.getLsbD_of_ge _ _ (by omega)
      rw [this]; simp
    | false =>
      obtain ⟨h1, h2⟩ := st_add ⟨i, hi⟩ ⟨v, h6⟩ hb
      dsimp only at h1 h2
      rw [Nat.add_comm, msk_bit h1, h2]; simp
  | false =>
    unfold hv st
    rw [BitVec.getLsbD_or, BitVec.getLsbD_and, BitVec.getLsbD_not, msk_bit hi, BitVec.getLsbD_shiftLeft, BitVec.getLsbD_and, BitVec.getLsbD_not]
    cases hb : i.testBit v with
    | true =>
      obtain ⟨h1, h2⟩ := st_sub ⟨i, hi⟩ ⟨v, h6⟩ hb
      dsimp only at h1 h2
      have h3 : ¬ i < 2 ^ v := Nat.not_lt.2 h1
      have h4 : i - 2 ^ v < 64 := Nat.lt_of_le_of_lt (Nat.sub_le _ _) hi
      rw [msk_bit h4, h2]
      simp [hi, h3, h4]
    | false =>
      by_cases c : 2 ^ v ≤ i
      · have h2 := st_sub' ⟨i, hi⟩ ⟨v, h6⟩ hb c
        dsimp only at h2
        rw [msk_bit (Nat.lt_of_le_of_lt (Nat.sub_le _ _) hi), h2]
        simp [hi]
      · have : decide (i < 2 ^ v) = true := by simp; omega
        rw [this]
        simp [hi]
theorem bv_ext {a b : BitVec 64} (h : ∀ i, i < 64 → a.getLsbD i = b.getLsbD i) : a = b := BitVec.eq_of_getLsbD_eq h
def Ind (t : BitVec 64) (v : Nat) : Prop := hv t v false = hv t v true
theorem Ind.bit {t : BitVec 64} {v : Nat} (h6 : v < 6) (h : Ind t v) {i : Nat} (hi : i < 64) (b : Bool) : t.getLsbD (st i v b) = t.getLsbD i := by
  have e := fun i (hi : i < 64) => congrArg (fun x => BitVec.getLsbD x i) h
  have e1 : t.getLsbD (st i v false) = t.getLsbD (st i v true) := by
    have := e i hi
    rwa [hv_bit h6 hi, hv_bit h6 hi] at this
  have e2 : st i v (i.testBit v) = i := by unfold st; simp
  cases b <;> cases hb : i.testBit v <;> rw [hb] at e2
  · rw [e2]
  · rw [e1, e2]
  · rw [← e1, e2]
  · rw [e2]
theorem Ind.half {t : BitVec 64} {u v : Nat} (hu : u < 6) (h6 : v < 6) (h : Ind t u) (b : Bool) : Ind (hv t v b) u := by
  refine bv_ext fun i hi => ?_
  have l1 := st_lt ⟨i, hi⟩ ⟨u, hu⟩
  have l2 := st_lt ⟨i, hi⟩ ⟨v, h6⟩
  dsimp only at l1 l2
  rw [hv_bit hu hi, hv_bit hu hi, hv_bit h6 (l1 _), hv_bit h6 (l1 _)]
  by_cases c : u = v
  · subst c
    have s := st_same ⟨i, hi⟩ ⟨u, hu⟩
    dsimp only at s
    rw [s, s]
  · have s := st_comm ⟨i, hi⟩ ⟨u, hu⟩ ⟨v, h6⟩ (fun e => c (congrArg Fin.val e))
    dsimp only at s
    rw [s, s, h.bit hu (l2 _), h.bit hu (l2 _)]
theorem ind_own {t : BitVec 64} {v : Nat} (h6 : v < 6) (b : Bool) : Ind (hv t v b) v := by
  refine bv_ext fun i hi => ?_
  have l1 := st_lt ⟨i, hi⟩ ⟨v, h6⟩
  have s := st_same ⟨i, hi⟩ ⟨v, h6⟩
  dsimp only at l1 s
  rw [hv_bit h6 hi, hv_bit h6 hi, hv_bit h6 (l1 _), hv_bit h6 (l1 _), s, s]
theorem Ind.const {t : BitVec 64} (h : ∀ u, u < 6 → Ind t u) : t = 0 ∨ t = BitVec.allOnes 64 := by
  have key : ∀ i, i < 64 → t.getLsbD i = t.getLsbD 0 := fun i hi => by
    have lt := fun (i : Nat) (hi : i < 64) (v : Nat) (hv : v < 6) => st_lt ⟨i, hi⟩ ⟨v, hv⟩ false
    dsimp only at lt
    have l := st_low ⟨i, hi⟩
    dsimp only at l
    have h0 := lt i hi 0 (by omega)
    have h1 := lt _ h0 1 (by omega)
    have h2 := lt _ h1 2 (by omega)
    have h3 := lt _ h2 3 (by omega)
    have h4 := lt _ h3 4 (by omega)
    rw [← l, (h 5 (by omega)).bit (by omega) h4, (h 4 (by omega)).bit (by omega) h3, (h 3 (by omega)).bit (by omega) h2, (h 2 (by omega)).bit (by omega) h1, (h 1 (by omega)).bit (by omega) h0, (h 0 (by omega)).bit (by omega) hi]
  cases hb : t.getLsbD 0 with
  | false => exact .inl (bv_ext fun i hi => by rw [key i hi, hb]; simp)
  | true => exact .inr (bv_ext fun i hi => by rw [key i hi, hb, BitVec.getLsbD_allOnes, decide_eq_true hi])
/-- Out of its halves. -/
def ite64 (v : Nat) (a b : BitVec 64) : BitVec 64 := (a &&& ~~~ msk v) ||| (b &&& msk v)
theorem ite64_bit {v : Nat} {a b : BitVec 64} {i : Nat} (hi : i < 64) : (ite64 v a b).getLsbD i = bif i.testBit v then b.getLsbD i else a.getLsbD i := by
  unfold ite64
  rw [BitVec.getLsbD_or, BitVec.getLsbD_and, BitVec.getLsbD_and, BitVec.getLsbD_not, msk_bit hi]
  cases i.testBit v <;> simp [hi]
theorem ite64_half {t : BitVec 64} {v : Nat} (h6 : v < 6) : ite64 v (hv t v false) (hv t v true) = t := bv_ext fun i hi => by
  rw [ite64_bit hi, hv_bit h6 hi, hv_bit h6 hi]
  have e2 : st i v (i.testBit v) = i := by unfold st; simp
  cases hb : i.testBit v <;> rw [hb] at e2 <;> simp [e2]
def tabAt (T : List (BitVec 64)) (k : Int) : BitVec 64 := if k = -2 then 0 else if k = -1 then BitVec.allOnes 64 else T.getD k.toNat 0
theorem tabAt_no (T : List (BitVec 64)) : tabAt T (-2) = 0 := by unfold tabAt; rw [if_pos rfl]
theorem tabAt_yes (T : List (BitVec 64)) : tabAt T (-1) = BitVec.allOnes 64 := by unfold tabAt; rw [if_neg (by omega), if_pos rfl]
theorem tabAt_nat {T : List (BitVec 64)} {j : Nat} {t : BitVec 64} (h : T[j]? = some t) : tabAt T (j : Int) = t := by
  unfold tabAt
  rw [if_neg (by omega), if_neg (by omega), Int.toNat_natCast, List.getD_eq_getElem?_getD, h]; rfl
theorem tabAt_app {T e : List (BitVec 64)} {k : Int} (h0 : -2 ≤ k) (h : k < T.length) : tabAt (T ++ e) k = tabAt T k := by
  unfold tabAt
  split
  · rfl
  · split
    · rfl
    · rw [List.getD_eq_getElem?_getD, List.getD_eq_getElem?_getD, List.getElem?_append_left (by omega)]
structure Ent (l : List (Int × Int × Int)) (T : List (BitVec 64)) (j : Nat) (t : BitVec 64) (v : Nat) (a b : Int) : Prop where
  v6 : v < 6
  get : l[j]? = some ((v : Int), a, b)
  a0 : -2 ≤ a
  a1 : a < j
  b0 : -2 ≤ b
  b1 : b < j
  ind : ∀ u, u < v → Ind t u
  dep : ¬ Ind t v
  no : tabAt T a = hv t v false
  yes : tabAt T b = hv t v true
structure Built (l : List (Int × Int × Int)) (T : List (BitVec 64)) : Prop where
  len : l.length = T.length
  nd : ∀ (i j : Nat) (t : BitVec 64), T[i]? = some t → T[j]? = some t → i = j
  ne : ∀ (j : Nat) (t : BitVec 64), T[j]? = some t → t ≠ 0 ∧ t ≠ BitVec.allOnes 64
  ent : ∀ (j : Nat) (t : BitVec 64), T[j]? = some t → ∃ v a b, Ent l T j t v a b
theorem Ent.table {l : List (Int × Int × Int)} {T : List (BitVec 64)} {j : Nat} {t : BitVec 64} {v : Nat} {a b : Int} (h : Ent l T j t v a b) : t = ite64 v (tabAt T a) (tabAt T b) := by
  rw [h.no, h.yes, ite64_half h.v6]
def Kn (K : List (Int × Int)) (T : List (BitVec 64)) : Prop := (∀ (j : Nat) (t : BitVec 64), T[j]? = some t → List.lookup (U t) K = some (j : Int)) ∧ ∀ t, t ∉ T → List.lookup (U t) K = none
/-- What stands where, told by its table. -/
theorem Built.at' {l : List (Int × Int × Int)} {T : List (BitVec 64)} (h : Built l T) {k r : Int} (k0 : -2 ≤ k) (k1 : k < l.length) (r0 : -2 ≤ r) (r1 : r < l.length) (e : tabAt T k = tabAt T r) : k = r := by
  have hl := h.len
  have nat : ∀ {k : Int}, 0 ≤ k → k < l.length → ∃ t, T[k.toNat]? = some t ∧ tabAt T k = t := fun {k} h0 h1 => by
    have hlt : k.toNat < T.length := by omega
    refine ⟨T[k.toNat], List.getElem?_eq_getElem hlt, ?_⟩
    have := tabAt_nat (List.getElem?_eq_getElem hlt)
    rwa [Int.toNat_of_nonneg h0] at this
  have two : ∀ {k : Int}, -2 ≤ k → k < 0 → k = -2 ∨ k = -1 := fun h0 h1 => by omega
  have z : (0 : BitVec 64) ≠ BitVec.allOnes 64 := by decide
  by_cases c : 0 ≤ k
  · obtain ⟨t, h1, h2⟩ := nat c k1
    have hne := h.ne _ _ h1
    by_cases d : 0 ≤ r
    · obtain ⟨s, h3, h4⟩ := nat d r1
      rw [h2, h4] at e
      subst e
      have := h.nd _ _ _ h1 h3
      omega
    · rcases two r0 (by omega) with d | d <;> subst d
      · rw [h2, tabAt_no] at e; exact absurd e hne.1
      · rw [h2, tabAt_yes] at e; exact absurd e hne.2
  · by_cases d : 0 ≤ r
    · obtain ⟨s, h3, h4⟩ := nat d r1
      have hne := h.ne _ _ h3
      rcases two k0 (by omega) with c | c <;> subst c
      · rw [h4, tabAt_no] at e; exact absurd e.symm hne.1
      · rw [h4, tabAt_yes] at e; exact absurd e.symm hne.2
    · rcases two k0 (by omega) with c | c <;> rcases two r0 (by omega) with d | d <;> subst c <;> subst d
      · rfl
      · rw [tabAt_no, tabAt_yes] at e; exact absurd e z
      · rw [tabAt_no, tabAt_yes] at e; exact absurd e.symm z
      · rfl
theorem impl_l10 {R : Type} {t : BitVec 64} {d : Nat} (hd : d < 6) (hi : ∀ u, u < d → Ind t u) (hn : ¬ Ind t d) (l : List (Int × Int × Int)) (K : List (Int × Int)) (k : Int → Int → List (Int × Int × Int) → List (Int × Int) → Option R) : ∀ (c n j : Nat), c + 80 < n → j + c = d → impl_builder_node_l10 n (U t) (j : Int) l K k = k (U t) (d : Int) l K
  | _, 0, _, h, _ => by omega
  | 0, n + 1, j, h, hj => by
    have : j = d := by omega
    subst this
    rw [impl_builder_node_l10, impl_with_eq hd (by omega), impl_with_eq hd (by omega), U_beq, decide_eq_false (show ¬ hv t j false = hv t j true from hn)]; rfl
  | c + 1, n + 1, j, h, hj => by
    rw [impl_builder_node_l10, impl_with_eq (by omega) (by omega), impl_with_eq (by omega) (by omega), U_beq, decide_eq_true (show hv t j false = hv t j true from hi j (by omega)), cond_true, wrapS (m := 10) (by omega) (by omega)]
    exact impl_l10 hd hi hn l K k c n (j + 1) (by omega) (by omega)
theorem cho_eq (l : List (Int × Int × Int)) {j : Nat} (h : j < l.length) (v a b : Int) : ((l[j].1 == v) && ((l[j].2.1 == a) && ((l[j].2.2 == b) && true))) = decide (l[j] = (v, a, b)) := by
  rw [Bool.eq_iff_iff]
  simp [Prod.ext_iff]
theorem spec_l14_found {R : Type} {l : List (Int × Int × Int)} (hl : l.length ≤ 1000) (v a b : Int) {i : Nat} (hi : l[i]? = some (v, a, b)) (hu : ∀ i' : Nat, l[i']? = some (v, a, b) → i' = i) (kr : Int → List (Int × Int × Int) → Option R) (ke : List (Int × Int × Int) → Int → Int → Int → Option R) : ∀ (c n j : Nat), c < n → j + c = i → spec_l7Build_l14 n (l.length : Int) (j : Int) l v a b kr ke = kr (i : Int) l
  | _, 0, _, h, _ => by omega
  | 0, n + 1, j, h, hj => by
    have : j = i := by omega
    subst this
    obtain ⟨hlt, e⟩ := List.getElem?_eq_some_iff.1 hi
    rw [spec_l7Build_l14, dlt hlt, dnn, getD_at _ _ hlt, cho_eq l hlt, decide_eq_true e]; rfl
  | c + 1, n + 1, j, h, hj => by
    obtain ⟨hlt, e⟩ := List.getElem?_eq_some_iff.1 hi
    have hj' : j < l.length := by omega
    rw [spec_l7Build_l14, dlt hj', dnn, getD_at _ _ hj', cho_eq l hj', decide_eq_false (fun e => by have := hu j (by rw [List.getElem?_eq_getElem hj', e]); omega), wrapS hj' (by omega)]
    exact spec_l14_found hl v a b hi hu kr ke c n (j + 1) (by omega) (by omega)
theorem spec_l14_none {R : Type} {l : List (Int × Int × Int)} (hl : l.length ≤ 1000) (v a b : Int) (hu : ∀ i : Nat, l[i]? ≠ some (v, a, b)) (kr : Int → List (Int × Int × Int) → Option R) (ke : List (Int × Int × Int) → Int → Int → Int → Option R) : ∀ (c n j : Nat), c < n → j + c = l.length → spec_l7Build_l14 n (l.length : Int) (j : Int) l v a b kr ke = ke l v a b
  | _, 0, _, h, _ => by omega
  | 0, n + 1, j, h, hj => by rw [spec_l7Build_l14, dge (by omega)]; rfl
  | c + 1, n + 1, j, h, hj => by
    have hj' : j < l.length := by omega
    rw [spec_l7Build_l14, dlt hj', dnn, getD_at _ _ hj', cho_eq l hj', decide_eq_false (fun e => hu j (by rw [List.getElem?_eq_getElem hj', e])), wrapS hj' (by omega)]
    exact spec_l14_none hl v a b hu kr ke c n (j + 1) (by omega) (by omega)
/-- What building a table comes to. -/
structure Node (d c : Nat) (t : BitVec 64) (l : List (Int × Int × Int)) (T : List (BitVec 64)) (K : List (Int × Int)) (r : Int) (l' : List (Int × Int × Int)) (T' : List (BitVec 64)) (K' : List (Int × Int)) : Prop where
  built : Built l' T'
  kn : Kn K' T'
  ext : ∃ eL eT, l' = l ++ eL ∧ T' = T ++ eT ∧ ∀ x ∈ eT, ∀ u, u < d → Ind x u
  tab : tabAt T' r = t
  r0 : -2 ≤ r
  r1 : r < l'.length
  size : l'.length + 1 ≤ l.length + 2 ^ c
  old : ∀ r' : Int, -2 ≤ r' → r' < l.length → tabAt T r' = t → r = r' ∧ l' = l ∧ T' = T ∧ K' = K
  last : l' = l ∨ r + 1 = l'.length
  impl : ∀ (n : Nat), c + 100 ≤ n → ∀ (R : Type) (k : Int → List (Int × Int × Int) → List (Int × Int) → Option R), impl_builder_node n (U t) l K k = k r l' K'
  spec : ∀ (n : Nat), c + 1100 ≤ n → ∀ (R : Type) (k : Int → List (Int × Int × Int) → Option R), spec_l7Build n (U t) (d : Int) l k = k r l'
theorem node_const {d c : Nat} {t : BitVec 64} {l : List (Int × Int × Int)} {T : List (BitVec 64)} {K : List (Int × Int)} (hB : Built l T) (hK : Kn K T) (ht : t = 0 ∨ t = BitVec.allOnes 64) : ∃ r, Node d c t l T K r l T K := by
  have hp : 1 ≤ 2 ^ c := Nat.one_le_two_pow
  have z : (0 : BitVec 64) ≠ BitVec.allOnes 64 := by decide
  rcases ht with rfl | rfl
  · refine ⟨-2, hB, hK, ⟨[], [], by simp, by simp, fun x hx => by simp at hx⟩, tabAt_no T, by omega, by omega, by omega, fun r' h0 h1 e => ⟨hB.at' (by omega) (by omega) h0 h1 (by rw [e, tabAt_no]), rfl, rfl, rfl⟩, .inl rfl, fun n hn R k => ?_, fun n hn R k => ?_⟩
    · obtain ⟨m, rfl⟩ : ∃ m, n = m + 1 := ⟨n - 1, by omega⟩
      rw [impl_builder_node, U_zero]; rfl
    · obtain ⟨m, rfl⟩ : ∃ m, n = m + 1 := ⟨n - 1, by omega⟩
      rw [spec_l7Build, U_zero]; rfl
  · refine ⟨-1, hB, hK, ⟨[], [], by simp, by simp, fun x hx => by simp at hx⟩, tabAt_yes T, by omega, by omega, by omega, fun r' h0 h1 e => ⟨hB.at' (by omega) (by omega) h0 h1 (by rw [e, tabAt_yes]), rfl, rfl, rfl⟩, .inl rfl, fun n hn R k => ?_, fun n hn R k => ?_⟩
    · obtain ⟨m, rfl⟩ : ∃ m, n = m + 1 := ⟨n - 1, by omega⟩
      rw [impl_builder_node, U_all]; rfl
    · obtain ⟨m, rfl⟩ : ∃ m, n = m + 1 := ⟨n - 1, by omega⟩
      rw [spec_l7Build, U_all]; rfl
theorem U_ne {t : BitVec 64} (h : t ≠ 0) : (U t == 0) = false := by rw [← U_zero, U_beq, decide_eq_false h]
theorem U_na {t : BitVec 64} (h : t ≠ BitVec.allOnes 64) : (U t == 18446744073709551615) = false := by rw [← U_all, U_beq, decide_eq_false h]
theorem node_ex : ∀ (c d : Nat) (t : BitVec 64) (l : List (Int × Int × Int)) (T : List (BitVec 64)) (K : List (Int × Int)), c + d = 6 → (∀ u, u < d → Ind t u) → Built l T → Kn K T → l.length + 2 ^ c ≤ 500 → ∃ r l' T' K', Node d c t l T K r l' T' K'
  | 0, d, t, l, T, K, hcd, hi, hB, hK, hl => by
    obtain ⟨r, h⟩ := node_const (d := d) (c := 0) hB hK (Ind.const fun u hu => hi u (by omega))
    exact ⟨r, _, _, _, h⟩
  | c + 1, d, t, l, T, K, hcd, hi, hB, hK, hl => by
    have h2 : 2 ^ (c + 1) = 2 ^ c + 2 ^ c := by rw [Nat.pow_succ]; omega
    have hp : 1 ≤ 2 ^ c := Nat.one_le_two_pow
    have hd : d < 6 := by omega
    by_cases z0 : t = 0
    · obtain ⟨r, h⟩ := node_const (d := d) (c := c + 1) hB hK (.inl z0)
      exact ⟨r, _, _, _, h⟩
    by_cases z1 : t = BitVec.allOnes 64
    · obtain ⟨r, h⟩ := node_const (d := d) (c := c + 1) hB hK (.inr z1)
      exact ⟨r, _, _, _, h⟩
    by_cases hid : Ind t d
    · obtain ⟨r, l', T', K', h⟩ := node_ex c (d + 1) t l T K (by omega) (fun u hu => by
        by_cases e : u = d
        · rw [e]; exact hid
        · exact hi u (by omega)) hB hK (by omega)
      obtain ⟨eL, eT, x1, x2, x3⟩ := h.ext
      refine ⟨r, l', T', K', h.built, h.kn, ⟨eL, eT, x1, x2, fun x hx u hu => x3 x hx u (by omega)⟩, h.tab, h.r0, h.r1, by have := h.size; omega, h.old, h.last, fun n hn R k => h.impl n (by omega) R k, fun n hn R k => ?_⟩
      obtain ⟨m, rfl⟩ : ∃ m, n = m + 1 := ⟨n - 1, by omega⟩
      rw [spec_l7Build, U_ne z0, U_na z1, cond_false, cond_false, spec_half_eq hd (by omega), spec_half_eq hd (by omega), U_beq, decide_eq_true (show hv t d false = hv t d true from hid), cond_true, wrapS (m := 10) (by omega) (by omega)]
      exact h.spec m (by omega) R k
    · -- here it parts
      have hi0 : ∀ b, ∀ u, u < d + 1 → Ind (hv t d b) u := fun b u hu => by
        by_cases e : u = d
        · rw [e]; exact ind_own hd b
        · exact (hi u (by omega)).half (by omega) hd b
      obtain ⟨a, l1, T1, K1, h1⟩ := node_ex c (d + 1) (hv t d false) l T K (by omega) (hi0 false) hB hK (by omega)
      have s1 := h1.size
      obtain ⟨b, l2, T2, K2, hb⟩ := node_ex c (d + 1) (hv t d true) l1 T1 K1 (by omega) (hi0 true) h1.built h1.kn (by omega)
      have s2 := hb.size
      obtain ⟨eL1, eT1, x1, x2, x3⟩ := h1.ext
      obtain ⟨eL2, eT2, y1, y2, y3⟩ := hb.ext
      have hT2 : T2 = T ++ (eT1 ++ eT2) := by rw [y2, x2, List.append_assoc]
      have hl2 : l2 = l ++ (eL1 ++ eL2) := by rw [y1, x1, List.append_assoc]
      have hlen1 := h1.built.len
      have hlen2 := hb.built.len
      have hlen0 := hB.len
      have ha1 := h1.r1
      have ha2 : tabAt T2 a = hv t d false := by rw [y2, tabAt_app h1.r0 (by omega)]; exact h1.tab
      have hle : l1.length ≤ l2.length := by rw [y1]; simp
      have sp : ∀ (n : Nat), (c + 1) + 1100 ≤ n + 1 → ∀ (R : Type) (k : Int → List (Int × Int × Int) → Option R), spec_l7Build (n + 1) (U t) (d : Int) l k = spec_l7Build_l14 n (l2.length : Int) 0 l2 (d : Int) a b (fun r9 r10 => k r9 r10) (fun r11 r12 r13 r14 => (bif decide (r11.length + ([(r12, (r13, r14))]).length ≤ LIM) then k (r11.length : Int) (r11 ++ [(r12, (r13, r14))]) else none)) := fun n hn R k => by
        rw [spec_l7Build, U_ne z0, U_na z1, cond_false, cond_false, spec_half_eq hd (by omega), spec_half_eq hd (by omega), U_beq, decide_eq_false (show ¬ hv t d false = hv t d true from hid), cond_false, wrapS (m := 10) (by omega) (by omega), h1.spec n (by omega)]
        rw [hb.spec n (by omega)]
      by_cases hin : t ∈ T
      · obtain ⟨j, hjl, hj⟩ := List.mem_iff_getElem.1 hin
        have hj' : T[j]? = some t := by rw [List.getElem?_eq_getElem hjl, hj]
        obtain ⟨v, a', b', he⟩ := hB.ent j t hj'
        have hvd : v = d := by
          rcases Nat.lt_trichotomy v d with g | g | g
          · exact absurd (hi v g) he.dep
          · exact g
          · exact absurd (he.ind d g) hid
        subst hvd
        have ha1' := he.a1
        have hb1' := he.b1
        obtain ⟨p1, p2, p3, p4⟩ := h1.old a' he.a0 (by omega) he.no
        subst p1 p2 p3 p4
        obtain ⟨q1, q2, q3, q4⟩ := hb.old b' he.b0 (by omega) he.yes
        subst q1 q2 q3 q4
        refine ⟨(j : Int), _, _, _, hB, hK, ⟨[], [], by simp, by simp, fun x hx => by simp at hx⟩, tabAt_nat hj', by omega, by omega, by omega, fun r' g0 g1 e => ⟨hB.at' (by omega) (by omega) g0 g1 (by rw [e, tabAt_nat hj']), rfl, rfl, rfl⟩, .inl rfl, fun n hn R k => ?_, fun n hn R k => ?_⟩
        · obtain ⟨m, rfl⟩ : ∃ m, n = m + 1 := ⟨n - 1, by omega⟩
          rw [impl_builder_node, U_ne z0, U_na z1, cond_false, cond_false, hK.1 j t hj']; rfl
        · obtain ⟨m, rfl⟩ : ∃ m, n = m + 1 := ⟨n - 1, by omega⟩
          rw [sp m (by omega)]
          refine spec_l14_found (by omega) _ _ _ he.get (fun i' hi' => ?_) _ _ j m 0 (by omega) (by omega)
          have hlt := (List.getElem?_eq_some_iff.1 hi').1
          have hT' : T2[i']? = some T2[i'] := List.getElem?_eq_getElem (by omega)
          obtain ⟨v2, a2, b2, he2⟩ := hB.ent i' _ hT'
          have hg := he2.get
          rw [hi'] at hg
          simp only [Option.some.injEq, Prod.mk.injEq] at hg
          obtain ⟨g1, g2, g3⟩ := hg
          have g1 : v = v2 := by omega
          subst g1 g2 g3
          have := he2.table
          rw [← he.table] at this
          exact hB.nd i' j t (by rw [hT', this]) hj'
      · have hnT : t ∉ T2 := fun hm => by
          rw [hT2] at hm
          rcases List.mem_append.1 hm with hm | hm
          · exact hin hm
          · rcases List.mem_append.1 hm with hm | hm
            · exact hid (x3 t hm d (by omega))
            · exact hid (y3 t hm d (by omega))
        have hE : Ent (l2 ++ [((d : Int), a, b)]) (T2 ++ [t]) l2.length t d a b := ⟨hd, by simp, h1.r0, by omega, hb.r0, hb.r1, hi, hid, by rw [tabAt_app h1.r0 (by omega)]; exact ha2, by rw [tabAt_app hb.r0 (by have := hb.r1; omega)]; exact hb.tab⟩
        have split2 : ∀ {j : Nat} {x : BitVec 64}, (T2 ++ [t])[j]? = some x → T2[j]? = some x ∨ (j = l2.length ∧ x = t) := fun {j x} hx => by
          by_cases g : j < T2.length
          · rw [List.getElem?_append_left g] at hx; exact .inl hx
          · have hlt := (List.getElem?_eq_some_iff.1 hx).1
            have hje : j = T2.length := by simp at hlt; omega
            subst hje
            simp at hx
            exact .inr ⟨by omega, hx.symm⟩
        have hB3 : Built (l2 ++ [((d : Int), a, b)]) (T2 ++ [t]) := by
          refine ⟨by simp [hlen2], fun i j x hx hy => ?_, fun j x hx => ?_, fun j x hx => ?_⟩
          · rcases split2 hx with hx1 | ⟨e1, e2⟩
            · rcases split2 hy with hy1 | ⟨_, e3⟩
              · exact hb.built.nd i j x hx1 hy1
              · exact absurd (e3 ▸ List.mem_of_getElem? hx1) hnT
            · rcases split2 hy with hy1 | ⟨e3, _⟩
              · exact absurd (e2 ▸ List.mem_of_getElem? hy1) hnT
              · rw [e1, e3]
          · rcases split2 hx with hx | ⟨rfl, rfl⟩
            · exact hb.built.ne j x hx
            · exact ⟨z0, z1⟩
          · rcases split2 hx with hx | ⟨rfl, rfl⟩
            · obtain ⟨v, a', b', he⟩ := hb.built.ent j x hx
              have hjl := (List.getElem?_eq_some_iff.1 hx).1
              have ga := he.a1
              have gb := he.b1
              refine ⟨v, a', b', he.v6, ?_, he.a0, he.a1, he.b0, he.b1, he.ind, he.dep, ?_, ?_⟩
              · rw [List.getElem?_append_left (by omega)]; exact he.get
              · rw [tabAt_app he.a0 (by omega)]; exact he.no
              · rw [tabAt_app he.b0 (by omega)]; exact he.yes
            · exact ⟨d, a, b, hE⟩
        refine ⟨(l2.length : Int), l2 ++ [((d : Int), a, b)], T2 ++ [t], (U t, (l2.length : Int)) :: K2, hB3, ⟨fun j x hx => ?_, fun x hx => ?_⟩, ⟨eL1 ++ eL2 ++ [((d : Int), a, b)], eT1 ++ eT2 ++ [t], by rw [hl2]; simp, by rw [hT2]; simp, fun x hx u hu => ?_⟩, tabAt_nat (by rw [hlen2]; simp), by omega, by simp; omega, by simp; omega, fun r' g0 g1 e => ?_, .inr (by simp), fun n hn R k => ?_, fun n hn R k => ?_⟩
        · rw [List.lookup_cons, U_beq]
          rcases split2 hx with hx | ⟨rfl, rfl⟩
          · rw [decide_eq_false fun e : x = t => hnT (e ▸ List.mem_of_getElem? hx)]
            exact hb.kn.1 j x hx
          · rw [decide_eq_true rfl]
        · rw [List.lookup_cons, U_beq, decide_eq_false fun e => hx (by rw [e]; simp)]
          exact hb.kn.2 x fun h => hx (List.mem_append_left _ h)
        · rcases List.mem_append.1 hx with hx | hx
          · rcases List.mem_append.1 hx with hx | hx
            · exact x3 x hx u (by omega)
            · exact y3 x hx u (by omega)
          · rw [List.mem_singleton.1 hx]; exact hi u hu
        · exfalso
          by_cases g : 0 ≤ r'
          · have hlt : r'.toNat < T.length := by omega
            have := tabAt_nat (List.getElem?_eq_getElem hlt)
            rw [Int.toNat_of_nonneg g] at this
            rw [this] at e
            exact hin (e ▸ List.getElem_mem hlt)
          · rcases (show r' = -2 ∨ r' = -1 by omega) with g | g <;> subst g
            · rw [tabAt_no] at e; exact z0 e.symm
            · rw [tabAt_yes] at e; exact z1 e.symm
        · obtain ⟨m, rfl⟩ : ∃ m, n = m + 1 := ⟨n - 1, by omega⟩
          have hl10 := fun k => impl_l10 (R := R) hd hi hid l K k d m 0 (by omega) (by omega)
          rw [show ((0 : Nat) : Int) = 0 from rfl] at hl10
          rw [impl_builder_node, U_ne z0, U_na z1, cond_false, cond_false, hK.2 t hin, hl10, impl_with_eq hd (by omega)]
          simp only [Option.isSome_none, cond_false]
          rw [h1.impl m (by omega), impl_with_eq hd (by omega), hb.impl m (by omega), decide_eq_true (show l2.length + [((d : Int), (a, b))].length ≤ LIM by simp [LIM]; omega), cond_true]
          have hw : IntKind.wrap .i64 (((l2 ++ [((d : Int), (a, b))]).length : Int) - 1) = (l2.length : Int) := by
            rw [wrap64 (by simp) (by simp; omega)]; simp
          rw [hw]
        · obtain ⟨m, rfl⟩ : ∃ m, n = m + 1 := ⟨n - 1, by omega⟩
          rw [sp m (by omega)]
          have := spec_l14_none (R := R) (l := l2) (by omega) (d : Int) a b (fun i hi' => by
            have hlt := (List.getElem?_eq_some_iff.1 hi').1
            have hT' : T2[i]? = some T2[i] := List.getElem?_eq_getElem (by omega)
            obtain ⟨v2, a2, b2, he2⟩ := hb.built.ent i _ hT'
            have hg := he2.get
            rw [hi'] at hg
            simp only [Option.some.injEq, Prod.mk.injEq] at hg
            obtain ⟨g1, g2, g3⟩ := hg
            have g1 : d = v2 := by omega
            subst g1 g2 g3
            have := he2.table
            rw [ha2, hb.tab, ite64_half hd] at this
            exact hnT (this ▸ List.getElem_mem (by omega))) (fun r9 r10 => k r9 r10) (fun r11 r12 r13 r14 => (bif decide (r11.length + ([(r12, (r13, r14))]).length ≤ LIM) then k (r11.length : Int) (r11 ++ [(r12, (r13, r14))]) else none)) l2.length m 0 (by omega) (by omega)
          rw [show ((0 : Nat) : Int) = 0 from rfl] at this
          rw [this, decide_eq_true (show l2.length + [((d : Int), (a, b))].length ≤ LIM by simp [LIM]; omega)]
          rfl
theorem built_nil : Built [] [] := ⟨rfl, fun i j t h => by simp at h, fun j t h => by simp at h, fun j t h => by simp at h⟩
theorem kn_nil : Kn [] [] := ⟨fun j t h => by simp at h, fun t _ => rfl⟩
theorem tabAt_map {T : List (BitVec 64)} {k : Int} (h0 : 0 ≤ k) (h1 : k < T.length) : (T.map U).getD k.toNat 0 = U (tabAt T k) := by
  unfold tabAt
  rw [if_neg (by omega), if_neg (by omega), List.getD_eq_getElem?_getD, List.getD_eq_getElem?_getD, List.getElem?_map, List.getElem?_eq_getElem (show k.toNat < T.length by omega)]
  rfl
theorem impl_at_eq {R : Type} (n : Nat) {T : List (BitVec 64)} {x : Int} (h0 : -2 ≤ x) (h1 : x < T.length) (k : Int → Option R) : impl_truthOf_c1 n x (T.map U) k = k (U (tabAt T x)) := by
  unfold impl_truthOf_c1
  by_cases a : x = -2
  · subst a; rw [tabAt_no]; rfl
  · by_cases b : x = -1
    · subst b; rw [tabAt_yes]; rfl
    · rw [beq_eq_false_iff_ne.2 a, beq_eq_false_iff_ne.2 b, decide_eq_true (show 0 ≤ x by omega), List.length_map, decide_eq_true h1, tabAt_map (by omega) h1]
      rfl
def ok1 (j : Nat) (c : Int × Int × Int) : Bool := decide (0 ≤ c.1 ∧ c.1 ≤ 5) && (decide (-2 ≤ c.2.1 ∧ c.2.1 ≤ (j : Int) - 1) && decide (-2 ≤ c.2.2 ∧ c.2.2 ≤ (j : Int) - 1))
theorem ok1_iff {j : Nat} {c : Int × Int × Int} : ok1 j c = true ↔ (0 ≤ c.1 ∧ c.1 ≤ 5) ∧ (-2 ≤ c.2.1 ∧ c.2.1 ≤ (j : Int) - 1) ∧ (-2 ≤ c.2.2 ∧ c.2.2 ≤ (j : Int) - 1) := by
  unfold ok1
  rw [Bool.and_eq_true, Bool.and_eq_true, decide_eq_true_eq, decide_eq_true_eq, decide_eq_true_eq]
def nx (T : List (BitVec 64)) (c : Int × Int × Int) : BitVec 64 := ite64 c.1.toNat (tabAt T c.2.1) (tabAt T c.2.2)
def tabs : List (Int × Int × Int) → Nat → List (BitVec 64) → Option (List (BitVec 64))
  | [], _, T => some T
  | c :: r, j, T => bif ok1 j c then tabs r (j + 1) (T ++ [nx T c]) else none
theorem impl_l6_eq {R : Type} (l0 : List (Int × Int × Int)) {l : List (Int × Int × Int)} (hl : l.length ≤ 1000) (root : Int) (kr : Int → Bool → Option R) (k : List (Int × Int × Int) → Int → List Int → Option R) : ∀ (c n j : Nat) (T : List (BitVec 64)), c + 100 < n → j + c = l.length → T.length = j →
    impl_truthOf_l6 n l (l.length : Int) (j : Int) l0 root (T.map U) kr k = match tabs (l.drop j) j T with
      | some T' => k l0 root (T'.map U)
      | none => kr 0 false
  | _, 0, _, _, h, _, _ => by omega
  | 0, n + 1, j, T, _, hj, hT => by
    rw [impl_truthOf_l6, dge (by omega), List.drop_eq_nil_iff.2 (by omega)]; rfl
  | c + 1, n + 1, j, T, hn, hj, hT => by
    have h : j < l.length := by omega
    rw [impl_truthOf_l6, dlt h, dnn, getD_at _ _ h, List.drop_eq_getElem_cons h, wrap64 (x := (j : Int) - 1) (by omega) (by omega), wrapS h (by omega)]
    simp only [cond_true, impl_in_eq]
    by_cases c1 : 0 ≤ l[j].1 ∧ l[j].1 ≤ 5
    · by_cases c2 : -2 ≤ l[j].2.1 ∧ l[j].2.1 ≤ (j : Int) - 1
      · by_cases c3 : -2 ≤ l[j].2.2 ∧ l[j].2.2 ≤ (j : Int) - 1
        · have e : tabs (l[j] :: l.drop (j + 1)) j T = tabs (l.drop (j + 1)) (j + 1) (T ++ [nx T l[j]]) := by
            rw [tabs, ok1_iff.2 ⟨c1, c2, c3⟩, cond_true]
          have ev : l[j].1 = ((l[j].1.toNat : Nat) : Int) := by omega
          rw [decide_eq_true c1, decide_eq_true c2, decide_eq_true c3, e]
          simp only [Bool.not_true, cond_false]
          rw [ev, impl_var_eq (by omega) (by omega), impl_at_eq n c2.1 (by omega), impl_at_eq n c3.1 (by omega), and_U, andn_U, or_U, decide_eq_true (show (T.map U).length + [U (tabAt T l[j].2.1 &&& ~~~msk l[j].1.toNat ||| tabAt T l[j].2.2 &&& msk l[j].1.toNat)].length ≤ LIM by simp [LIM]; omega), cond_true]
          have ih := impl_l6_eq l0 hl root kr k c n (j + 1) (T ++ [nx T l[j]]) (by omega) (by omega) (by simp [hT])
          rw [List.map_append] at ih
          exact ih
        · have e : tabs (l[j] :: l.drop (j + 1)) j T = none := by
            rw [tabs, show ok1 j l[j] = false from Bool.eq_false_iff.2 fun h => c3 (ok1_iff.1 h).2.2, cond_false]
          rw [decide_eq_true c1, decide_eq_true c2, decide_eq_false c3, e]; rfl
      · have e : tabs (l[j] :: l.drop (j + 1)) j T = none := by
          rw [tabs, show ok1 j l[j] = false from Bool.eq_false_iff.2 fun h => c2 (ok1_iff.1 h).2.1, cond_false]
        rw [decide_eq_true c1, decide_eq_false c2, e]; rfl
    · have e : tabs (l[j] :: l.drop (j + 1)) j T = none := by
        rw [tabs, show ok1 j l[j] = false from Bool.eq_false_iff.2 fun h => c1 (ok1_iff.1 h).1, cond_false]
      rw [decide_eq_false c1, e]; rfl
def chk (l : List (Int × Int × Int)) (x v : Int) : Bool := decide (x < 0 ∨ v < (l.getD x.toNat (0, (0, 0))).1)
def ok2 (l : List (Int × Int × Int)) (j : Nat) (c : Int × Int × Int) : Bool := ok1 j c && (!(c.2.1 == c.2.2) && (chk l c.2.1 c.1 && chk l c.2.2 c.1))
def tabs2 (l : List (Int × Int × Int)) : List (Int × Int × Int) → Nat → List (BitVec 64) → Option (List (BitVec 64))
  | [], _, T => some T
  | c :: r, j, T => bif ok2 l j c then tabs2 l r (j + 1) (T ++ [nx T c]) else none
theorem tabs_of {l : List (Int × Int × Int)} : ∀ {r : List (Int × Int × Int)} {j : Nat} {T T' : List (BitVec 64)}, tabs2 l r j T = some T' → tabs r j T = some T'
  | [], _, _, _, h => h
  | c :: r, j, T, T', h => by
    rw [tabs2] at h
    rw [tabs]
    cases h2 : ok2 l j c with
    | false => rw [h2] at h; cases h
    | true =>
      rw [h2, cond_true] at h
      unfold ok2 at h2
      rw [Bool.and_eq_true] at h2
      rw [h2.1, cond_true]
      exact tabs_of h
/-- What was built passes both. -/
theorem built_tabs {l : List (Int × Int × Int)} {T : List (BitVec 64)} (hB : Built l T) : ∀ (c j : Nat), j + c = l.length → tabs2 l (l.drop j) j (T.take j) = some T
  | 0, j, hj => by
    have := hB.len
    rw [List.drop_eq_nil_iff.2 (by omega), List.take_of_length_le (by omega)]; rfl
  | c + 1, j, hj => by
    have hlen := hB.len
    have h : j < l.length := by omega
    have hT : j < T.length := by omega
    obtain ⟨v, a, b, he⟩ := hB.ent j _ (List.getElem?_eq_getElem hT)
    have hg := he.get
    rw [List.getElem?_eq_getElem h] at hg
    have hg : l[j] = ((v : Int), a, b) := Option.some.inj hg
    have hv6 := he.v6
    have a0 := he.a0
    have a1 := he.a1
    have b0 := he.b0
    have b1 := he.b1
    have take : ∀ {x : Int}, -2 ≤ x → x < j → tabAt (T.take j) x = tabAt T x := fun {x} h0 h1 => by
      have := tabAt_app (T := T.take j) (e := T.drop j) h0 (by simp; omega)
      rw [List.take_append_drop] at this
      exact this.symm
    have hne : a ≠ b := fun e => he.dep (by
      show hv _ v false = hv _ v true
      rw [← he.no, ← he.yes, e])
    have child : ∀ {x : Int} (bb : Bool), -2 ≤ x → x < j → tabAt T x = hv T[j] v bb → chk l x (v : Int) = true := fun {x} bb h0 h1 e => by
      unfold chk
      rw [decide_eq_true_eq]
      by_cases hx : x < 0
      · exact .inl hx
      · right
        have hxl : x.toNat < T.length := by omega
        have hxt := tabAt_nat (List.getElem?_eq_getElem hxl)
        rw [Int.toNat_of_nonneg (by omega), e] at hxt
        obtain ⟨v2, a2, b2, he2⟩ := hB.ent x.toNat _ (List.getElem?_eq_getElem hxl)
        rw [List.getD_eq_getElem?_getD, he2.get]
        show (v : Int) < (v2 : Int)
        rcases Nat.lt_trichotomy v v2 with g | g | g
        · omega
        · exfalso
          subst g
          exact he2.dep (by rw [← hxt]; exact ind_own hv6 bb)
        · exfalso
          have := he2.v6
          exact he2.dep (by rw [← hxt]; exact (he.ind v2 g).half (by omega) hv6 bb)
    have hok : ok2 l j l[j] = true := by
      unfold ok2
      rw [hg, ok1_iff.2 ⟨by dsimp only; omega, by dsimp only; omega, by dsimp only; omega⟩, child false a0 a1 he.no, child true b0 b1 he.yes, beq_eq_false_iff_ne.2 hne]; rfl
    have hnx : nx (T.take j) l[j] = T[j] := by
      unfold nx
      rw [hg]
      dsimp only
      rw [take a0 a1, take b0 b1, Int.toNat_natCast]
      exact he.table.symm
    rw [List.drop_eq_getElem_cons h, tabs2, hok, cond_true, hnx, ← List.take_succ_eq_append_getElem hT]
    exact built_tabs hB c (j + 1) (by omega)
theorem equal_loop {R : Type} {a b : List (Int × Int × Int)} (hl : a.length = b.length) (h : a.length ≤ 1000) (kr : Bool → Option R) (ke : Option R) : ∀ (c n j : Nat), c < n → j + c = a.length → slices_Equal_impl_Choice_l4 n a b (a.length : Int) (j : Int) kr ke = if a.drop j = b.drop j then ke else kr false
  | _, 0, _, h, _ => by omega
  | 0, n + 1, j, _, hj => by
    rw [slices_Equal_impl_Choice_l4, dge (by omega), List.drop_eq_nil_iff.2 (by omega), List.drop_eq_nil_iff.2 (by omega)]; simp
  | c + 1, n + 1, j, hn, hj => by
    have h1 : j < a.length := by omega
    have h2 : j < b.length := by omega
    rw [slices_Equal_impl_Choice_l4, dlt h1, dlt h2, dnn, getD_at _ _ h1, getD_at _ _ h2, cho_eq a h1, wrapS h1 (by omega), List.drop_eq_getElem_cons h1, List.drop_eq_getElem_cons h2, equal_loop hl h kr ke c n (j + 1) (by omega) (by omega)]
    simp only [cond_true, List.cons.injEq]
    by_cases g : a[j] = b[j]
    · rw [decide_eq_true (show a[j] = (b[j].1, b[j].2.1, b[j].2.2) from g)]
      simp [g]
    · rw [decide_eq_false (show ¬ a[j] = (b[j].1, b[j].2.1, b[j].2.2) from g)]
      simp [g]
theorem equal_eq {R : Type} {n : Nat} {a b : List (Int × Int × Int)} (h : a.length ≤ 1000) (hn : 1100 ≤ n) (k : Bool → Option R) : slices_Equal_impl_Choice n a b k = k (decide (a = b)) := by
  unfold slices_Equal_impl_Choice
  by_cases hl : a.length = b.length
  · have := equal_loop hl h (fun r1 => k r1) (k true) a.length n 0 (by omega) (by omega)
    rw [show ((0 : Nat) : Int) = 0 from rfl, List.drop_zero, List.drop_zero] at this
    rw [show ((a.length : Int) != (b.length : Int)) = false by simp [hl], cond_false, this]
    by_cases g : a = b
    · rw [if_pos g, decide_eq_true g]
    · rw [if_neg g, decide_eq_false g]
  · rw [show ((a.length : Int) != (b.length : Int)) = true by simp; omega, cond_true, decide_eq_false fun e => hl (by rw [e])]
structure Dg (l : List (Int × Int × Int)) (r : Int) (t : BitVec 64) : Prop where
  len : l.length ≤ 63
  truth : ∀ n, 3000 ≤ n → ∀ (R : Type) (k : Int → Bool → Option R), impl_truthOf n l r k = k (U t) true
  diag : ∀ n, 3000 ≤ n → ∀ (R : Type) (k : Int → Bool → List (Int × Int × Int) → Option R), impl_diagramOf n (U t) k = k r true l
theorem diagram_u (t : BitVec 64) : ∃ r l T, Built l T ∧ tabAt T r = t ∧ -2 ≤ r ∧ r < l.length ∧ l.length ≤ 63 ∧ (∀ n, 3000 ≤ n → ∀ (R : Type) (k : Int → Bool → List (Int × Int × Int) → Option R), impl_diagramOf n (U t) k = k r true l) ∧ ∀ n, 3000 ≤ n → ∀ (R : Type) (k : Int → Bool → List (Int × Int × Int) → Option R), spec_l7Diagram n (U t) k = k r true l := by
  obtain ⟨r, l, T, K, h⟩ := node_ex 6 0 t [] [] [] (by omega) (fun u hu => by omega) built_nil kn_nil (by simp)
  have hs := h.size
  have hl : l.length ≤ 63 := by simp at hs; omega
  refine ⟨r, l, T, h.built, h.tab, h.r0, h.r1, hl, fun n hn R k => ?_, fun n hn R k => ?_⟩
  · unfold impl_diagramOf
    rw [h.impl n (by omega), decide_eq_false (show ¬ (l.length : Int) > 70 by omega)]; rfl
  · have hsp := h.spec n (by omega)
    rw [show ((0 : Nat) : Int) = 0 from rfl] at hsp
    unfold spec_l7Diagram
    rw [hsp, decide_eq_true (show (l.length : Int) ≤ 70 by omega)]
theorem tabs_len : ∀ (r : List (Int × Int × Int)) (j : Nat) (T T' : List (BitVec 64)), tabs r j T = some T' → T'.length = T.length + r.length := by
  intro r
  induction r with
  | nil => intro j T T' h; cases h; simp
  | cons c r ih =>
    intro j T T' h
    rw [tabs] at h
    cases h2 : ok1 j c with
    | false => rw [h2] at h; cases h
    | true =>
      rw [h2, cond_true] at h
      have := ih _ _ _ h
      simp at this ⊢
      omega
theorem truth_open {n : Nat} (l : List (Int × Int × Int)) (root : Int) (hl : l.length ≤ 70) (hn : 3000 ≤ n) (hr : -2 ≤ root ∧ root ≤ (l.length : Int) - 1) (R : Type) (k : Int → Bool → Option R) : impl_truthOf n l root k = match tabs l 0 [] with
    | some T => (impl_diagramOf n (U (tabAt T root)) fun r14 r15 r16 => (bif r15 then (bif (r14 == root) then (slices_Equal_impl_Choice n r16 l fun r17 => k (U (tabAt T root)) r17) else k (U (tabAt T root)) false) else k (U (tabAt T root)) false))
    | none => k 0 false := by
  have hi6 := fun (R : Type) kr k => impl_l6_eq (R := R) l (l := l) (by omega) root kr k l.length n 0 [] (by omega) (by omega) rfl
  rw [List.drop_zero] at hi6
  simp only [show ((0 : Nat) : Int) = 0 from rfl, List.map_nil] at hi6
  unfold impl_truthOf
  rw [decide_eq_false (show ¬ (l.length : Int) > 70 by omega), cond_false, impl_in_eq, wrap64 (by omega) (by omega), decide_eq_true hr, Bool.not_true, cond_false, hi6]
  cases hT : tabs l 0 [] with
  | none => rfl
  | some T =>
    have := tabs_len _ _ _ _ hT
    simp only [List.length_nil] at this
    dsimp only
    rw [impl_at_eq n hr.1 (by omega)]
theorem truth_built {n : Nat} {l : List (Int × Int × Int)} {T : List (BitVec 64)} {r : Int} (hB : Built l T) (r0 : -2 ≤ r) (r1 : r < l.length) (hl : l.length ≤ 63) (hn : 3000 ≤ n) (hdi : ∀ (R : Type) (k : Int → Bool → List (Int × Int × Int) → Option R), impl_diagramOf n (U (tabAt T r)) k = k r true l) (R : Type) (k : Int → Bool → Option R) : impl_truthOf n l r k = k (U (tabAt T r)) true := by
  have hbt := built_tabs hB l.length 0 (by omega)
  rw [List.drop_zero, List.take_zero] at hbt
  rw [truth_open l r (by omega) hn ⟨r0, by omega⟩, tabs_of hbt]
  dsimp only
  rw [hdi, cond_true, beq_self_eq_true, cond_true, equal_eq (by omega) (by omega), decide_eq_true rfl]
theorem dg_ex (t : BitVec 64) : ∃ r l, Dg l r t ∧ (t = 0 → r = -2) ∧ ∀ n, 3000 ≤ n → ∀ (R : Type) (k : Int → Bool → List (Int × Int × Int) → Option R), spec_l7Diagram n (U t) k = k r true l := by
  obtain ⟨r, l, T, hB, htab, r0, r1, hl, hdi, hds⟩ := diagram_u t
  have ht : ∀ n, 3000 ≤ n → ∀ (R : Type) (k : Int → Bool → Option R), impl_truthOf n l r k = k (U (tabAt T r)) true := fun n hn => truth_built hB r0 r1 hl hn (by rw [htab]; exact hdi n hn)
  rw [htab] at ht
  refine ⟨r, l, ⟨hl, ht, hdi⟩, fun e => ?_, hds⟩
  subst e
  exact hB.at' r0 r1 (by omega) (by have := Int.natCast_nonneg l.length; omega) (by rw [htab, tabAt_no])
theorem bit_eq (t : BitVec 64) (i : Nat) : decide (t >>> i &&& 1#64 = 1#64) = t.getLsbD i := by
  rw [BitVec.and_one_eq_setWidth_ofBool_getLsbD, BitVec.getLsbD_ushiftRight, Nat.add_zero]
  cases t.getLsbD i <;> rfl
theorem decide_eq {n : Nat} (hn : 3000 ≤ n) {l : List (Int × Int × Int)} {r : Int} {t : BitVec 64} (h : Dg l r t) {i : Nat} (hi : i < 64) (R : Type) (k : Bool → Bool → Option R) : impl_Decide n l r (i : Int) k = k (t.getLsbD i) true := by
  have h1 : (1 : Int) = U 1#64 := rfl
  unfold impl_Decide
  rw [h.truth n hn, Bool.not_true, cond_false, impl_in_eq, decide_eq_true (show 0 ≤ (i : Int) ∧ (i : Int) ≤ 63 by omega), Bool.not_true, cond_false, decide_eq_true (show 0 ≤ (i : Int) by omega), cond_true, show min (Int.toNat (i : Int)) (IntKind.bits .u64) = i from Nat.min_eq_left (by simp [IntKind.bits]; omega), shr_U, h1, and_U, U_beq, bit_eq]
theorem and255 (x : Int) : 0 ≤ IntKind.wrap .i64 (IntKind.wrap .u64 (Int.ofNat (BitVec.toNat (BitVec.ofInt (IntKind.bits .u64) x &&& BitVec.ofInt (IntKind.bits .u64) 255)))) ∧ IntKind.wrap .i64 (IntKind.wrap .u64 (Int.ofNat (BitVec.toNat (BitVec.ofInt (IntKind.bits .u64) x &&& BitVec.ofInt (IntKind.bits .u64) 255)))) ≤ 255 := by
  have h : BitVec.toNat (BitVec.ofInt (IntKind.bits .u64) x &&& BitVec.ofInt (IntKind.bits .u64) 255) ≤ 255 := by
    rw [BitVec.toNat_and]
    exact Nat.le_trans Nat.and_le_right (by decide)
  generalize BitVec.toNat (BitVec.ofInt (IntKind.bits .u64) x &&& BitVec.ofInt (IntKind.bits .u64) 255) = y at h
  have h1 : IntKind.wrap .u64 (Int.ofNat y) = (y : Int) := by
    simp only [IntKind.wrap, IntKind.signed, IntKind.bits]
    simp
    omega
  rw [h1, wrap64 (by omega) (by omega)]
  omega
/-- Bytes. -/
def Bytes (l : List Int) : Prop := ∀ x ∈ l, 0 ≤ x ∧ x ≤ 255
theorem bytes_getD {l : List Int} (hl : Bytes l) {i : Nat} (h : i < l.length) : 0 ≤ l.getD i 0 ∧ l.getD i 0 ≤ 255 := by
  rw [List.getD_eq_getElem?_getD, List.getElem?_eq_getElem h]
  exact hl _ (List.getElem_mem h)
def seedN (s b : Int) : Int := IntKind.wrap .u64 ((IntKind.wrap .u64 ((IntKind.wrap .u64 (s * 6364136223846793005)) + b)) + 1442695040888963407)
theorem next_ex {l : List Int} (hl : Bytes l) (n : Nat) {p s : Int} (h0 : 0 ≤ p) (h1 : p ≤ 4611686018427387904) : ∃ r s', 0 ≤ r ∧ r ≤ 255 ∧ ∀ (R : Type) (k : Int → List Int → Int → Int → Option R), spec_l1Cur_next n l p s k = k r l (p + 1) s' := by
  have hw : IntKind.wrap .i64 (p + 1) = p + 1 := wrap64 (by omega) (by omega)
  by_cases c : p < (l.length : Int)
  · obtain ⟨b1, b2⟩ := bytes_getD hl (i := Int.toNat p) (by omega)
    have hg : IntKind.wrap .i64 (l.getD (Int.toNat p) 0) = l.getD (Int.toNat p) 0 := wrap64 (by omega) (by omega)
    refine ⟨l.getD (Int.toNat p) 0, seedN s (IntKind.wrap .u64 (l.getD (Int.toNat p) 0)), b1, b2, fun R k => ?_⟩
    unfold spec_l1Cur_next
    rw [decide_eq_true c, decide_eq_true h0, hw, decide_eq_true (show p + 1 ≤ (l.length : Int) by omega), hg]
    rfl
  · have hn := and255 (Int.fdiv (seedN s 0) (2 ^ (min (Int.toNat 40) (IntKind.bits .u64))))
    refine ⟨_, seedN s 0, hn.1, hn.2, fun R k => ?_⟩
    unfold spec_l1Cur_next
    rw [decide_eq_false c, hw, decide_eq_false (show ¬ p + 1 ≤ (l.length : Int) by omega)]
    rfl
theorem pick_ex {l : List Int} (hl : Bytes l) (n : Nat) {m p s : Int} (hm : m ≤ 60000) (h0 : 0 ≤ p) (h1 : p ≤ 4611686018427387000) : ∃ r p' s', 0 ≤ r ∧ (r < m ∨ (m ≤ 1 ∧ r = 0)) ∧ p ≤ p' ∧ p' ≤ p + 2 ∧ ∀ (R : Type) (k : Int → List Int → Int → Int → Option R), spec_l1Cur_pick n m l p s k = k r l p' s' := by
  by_cases c : m ≤ 1
  · exact ⟨0, p, s, by omega, .inr ⟨c, rfl⟩, by omega, by omega, fun R k => by unfold spec_l1Cur_pick; rw [decide_eq_true c]; rfl⟩
  · obtain ⟨r, s1, r0, r1, hr⟩ := next_ex hl n (s := s) h0 (by omega)
    by_cases c2 : m > 200
    · obtain ⟨q, s2, q0, q1, hq⟩ := next_ex hl n (p := p + 1) (s := s1) (by omega) (by omega)
      have e : IntKind.wrap .i64 (IntKind.wrap .i64 (r * 256) + q) = r * 256 + q := by rw [wrap64 (x := r * 256) (by omega) (by omega), wrap64 (by omega) (by omega)]
      have t0 := Int.tmod_nonneg m (show 0 ≤ r * 256 + q by omega)
      have t1 := Int.tmod_lt_of_pos (r * 256 + q) (show 0 < m by omega)
      refine ⟨Int.tmod (r * 256 + q) m, p + 1 + 1, s2, t0, .inl t1, by omega, by omega, fun R k => ?_⟩
      unfold spec_l1Cur_pick
      rw [decide_eq_false c, hr, decide_eq_true c2, hq, decide_eq_true (show m ≠ 0 by omega), e]
      rfl
    · have t0 := Int.tmod_nonneg m (show 0 ≤ r by omega)
      have t1 := Int.tmod_lt_of_pos r (show 0 < m by omega)
      refine ⟨Int.tmod r m, p + 1, s1, t0, .inl t1, by omega, by omega, fun R k => ?_⟩
      unfold spec_l1Cur_pick
      rw [decide_eq_false c, hr, decide_eq_false c2, decide_eq_true (show m ≠ 0 by omega)]
      rfl
theorem one_ex {l : List Int} (hl : Bytes l) (n : Nat) {m p s : Int} (hm : m ≤ 60000) (h0 : 0 ≤ p) (h1 : p ≤ 4611686018427387000) : ∃ b p' s', p ≤ p' ∧ p' ≤ p + 2 ∧ ∀ (R : Type) (k : Bool → List Int → Int → Int → Option R), spec_l1Cur_one n m l p s k = k b l p' s' := by
  obtain ⟨r, p', s', _, _, a, b, h⟩ := pick_ex hl n (s := s) hm h0 h1
  exact ⟨_, p', s', a, b, fun R k => by unfold spec_l1Cur_one; rw [h]⟩
theorem of_ex {l : List Int} (hl : Bytes l) (n : Nat) {xs : List ByteArray} (hx : xs ≠ []) (hx2 : xs.length ≤ 200) (hs : ∀ b ∈ xs, b.size = 1) {p s : Int} (h0 : 0 ≤ p) (h1 : p ≤ 4611686018427387000) : ∃ r p' s', r.size = 1 ∧ p ≤ p' ∧ p' ≤ p + 2 ∧ ∀ (R : Type) (k : ByteArray → List Int → Int → Int → Option R), spec_l1Cur_of n xs l p s k = k r l p' s' := by
  have hp := List.length_pos_iff.2 hx
  obtain ⟨i, p', s', i0, i1, q0, q1, hi⟩ := pick_ex hl n (m := (xs.length : Int)) (s := s) (by omega) h0 h1
  have hlt : Int.toNat i < xs.length := by omega
  refine ⟨xs.getD (Int.toNat i) ByteArray.empty, p', s', ?_, q0, q1, fun R k => ?_⟩
  · rw [List.getD_eq_getElem?_getD, List.getElem?_eq_getElem hlt]
    exact hs _ (List.getElem_mem hlt)
  · unfold spec_l1Cur_of
    rw [hi, decide_eq_true i0, decide_eq_true (show i < (xs.length : Int) by omega)]
    rfl
theorem form_ex {l : List Int} (hl : Bytes l) : ∀ (d n : Nat) (p s : Int), d < n → 0 ≤ p → p + 100 * 4 ^ d ≤ 4000000 → ∃ (f : ByteArray) (p' s' : Int), f.size ≤ 4 ^ (d + 1) ∧ p ≤ p' ∧ p' ≤ p + 100 * 4 ^ d ∧ ∀ (R : Type) (k : ByteArray → List Int → Int → Int → Option R), spec_l1Cur_form n (d : Int) l p s k = k f l p' s' := by
  intro d
  induction d with
  | zero =>
    intro n p s hn h0 h1
    obtain ⟨n, rfl⟩ : ∃ m, n = m + 1 := ⟨n - 1, by omega⟩
    obtain ⟨r, p', s', hr, q0, q1, h⟩ := of_ex hl n (xs := [(ByteArray.mk #[97]), (ByteArray.mk #[98]), (ByteArray.mk #[99]), (ByteArray.mk #[100]), (ByteArray.mk #[101]), (ByteArray.mk #[102]), (ByteArray.mk #[48]), (ByteArray.mk #[49]), (ByteArray.mk #[97]), (ByteArray.mk #[98])]) (by simp) (by simp) (by decide) (s := s) h0 (by omega)
    refine ⟨r, p', s', by omega, q0, by omega, fun R k => ?_⟩
    rw [spec_l1Cur_form, decide_eq_true (show ((0 : Nat) : Int) ≤ 0 by omega), cond_true, h]
  | succ d ih =>
    intro n p s hn h0 h1
    obtain ⟨n, rfl⟩ : ∃ m, n = m + 1 := ⟨n - 1, by omega⟩
    have hpow : (4 : Int) ^ (d + 1) = 4 * 4 ^ d := by rw [Int.pow_succ]; omega
    have hpn : (4 : Nat) ^ (d + 1 + 1) = 4 * 4 ^ (d + 1) := by rw [Nat.pow_succ]; omega
    have hpn1 : (4 : Nat) ^ (d + 1) = 4 * 4 ^ d := by rw [Nat.pow_succ]; omega
    have hpos : (1 : Int) ≤ 4 ^ d := Int.pow_pos (by omega)
    have hposn : 1 ≤ (4 : Nat) ^ d := Nat.one_le_iff_ne_zero.2 (by simp)
    have hcast : ((4 ^ (d + 1) : Nat) : Int) = 4 * 4 ^ d := by rw [← hpow]; simp
    have hle : (4 : Int) ^ d ≤ 40000 := by omega
    have e1 : IntKind.wrap .i64 (((d + 1 : Nat) : Int) - 1) = (d : Int) := by
      have : (d : Int) ≤ 4000000 := by
        have : d < 4 ^ d := Nat.lt_pow_self (by omega)
        have : ((4 ^ d : Nat) : Int) = 4 ^ d := by simp
        omega
      rw [wrap64 (by omega) (by omega)]
      omega
    obtain ⟨b1, p1, s1, g1, g2, hb1⟩ := one_ex hl n (m := 6) (s := s) (by omega) h0 (by omega)
    obtain ⟨r2, p2, s2, hr2, g3, g4, hb2⟩ := of_ex hl n (xs := [(ByteArray.mk #[97]), (ByteArray.mk #[98]), (ByteArray.mk #[99]), (ByteArray.mk #[100]), (ByteArray.mk #[101]), (ByteArray.mk #[102]), (ByteArray.mk #[48]), (ByteArray.mk #[49]), (ByteArray.mk #[97]), (ByteArray.mk #[98])]) (by simp) (by simp) (by decide) (s := s1) (show 0 ≤ p1 by omega) (by omega)
    obtain ⟨b3, p3, s3, g5, g6, hb3⟩ := one_ex hl n (m := 4) (s := s1) (by omega) (show 0 ≤ p1 by omega) (by omega)
    obtain ⟨f4, p4, s4, z4, g7, g8, hb4⟩ := ih n p3 s3 (by omega) (by omega) (by omega)
    obtain ⟨r5, p5, s5, hr5, g9, g10, hb5⟩ := of_ex hl n (xs := [(ByteArray.mk #[38]), (ByteArray.mk #[124]), (ByteArray.mk #[94])]) (by simp) (by simp) (by decide) (s := s4) (show 0 ≤ p4 by omega) (by omega)
    obtain ⟨f6, p6, s6, z6, g11, g12, hb6⟩ := ih n p5 s5 (by omega) (by omega) (by omega)
    have zl : (4 : Nat) ^ (d + 1) ≤ 200000 := by omega
    have q33 : (ByteArray.mk #[33]).size = 1 := rfl
    have q40 : (ByteArray.mk #[40]).size = 1 := rfl
    have q41 : (ByteArray.mk #[41]).size = 1 := rfl
    cases b1 with
    | true =>
      refine ⟨r2, p2, s2, by omega, by omega, by omega, fun R k => ?_⟩
      rw [spec_l1Cur_form, decide_eq_false (show ¬ ((d + 1 : Nat) : Int) ≤ 0 by omega), cond_false, hb1, cond_true, hb2]
    | false =>
      cases b3 with
      | true =>
        refine ⟨(ByteArray.mk #[33]) ++ f4, p4, s4, by rw [ByteArray.size_append]; omega, by omega, by omega, fun R k => ?_⟩
        rw [spec_l1Cur_form, decide_eq_false (show ¬ ((d + 1 : Nat) : Int) ≤ 0 by omega), cond_false, hb1, cond_false, hb3, cond_true, e1, hb4, decide_eq_true (show (ByteArray.mk #[33]).size + f4.size ≤ STR by unfold STR; omega), cond_true]
      | false =>
        refine ⟨((((ByteArray.mk #[40]) ++ f4) ++ r5) ++ f6) ++ (ByteArray.mk #[41]), p6, s6, by simp only [ByteArray.size_append]; omega, by omega, by omega, fun R k => ?_⟩
        rw [spec_l1Cur_form, decide_eq_false (show ¬ ((d + 1 : Nat) : Int) ≤ 0 by omega), cond_false, hb1, cond_false, hb3, cond_false, e1, hb4, decide_eq_true (show (ByteArray.mk #[40]).size + f4.size ≤ STR by unfold STR; omega), cond_true, hb5, decide_eq_true (show ((ByteArray.mk #[40]) ++ f4).size + r5.size ≤ STR by simp only [ByteArray.size_append]; unfold STR; omega), cond_true, hb6, decide_eq_true (show (((ByteArray.mk #[40]) ++ f4) ++ r5).size + f6.size ≤ STR by simp only [ByteArray.size_append]; unfold STR; omega), cond_true, decide_eq_true (show ((((ByteArray.mk #[40]) ++ f4) ++ r5) ++ f6).size + (ByteArray.mk #[41]).size ≤ STR by simp only [ByteArray.size_append]; unfold STR; omega), cond_true]
theorem rnext_ex (n : Nat) (s : ByteArray) {pos : Int} (h : 0 ≤ pos) (fl : Bool) : ∃ c : Int, 0 ≤ c ∧ c ≤ 255 ∧ ((s.size : Int) ≤ pos → c = 0) ∧ ∀ (R : Type) (k : Int → ByteArray → Int → Bool → Option R), spec_l7R_next n s pos fl k = k c s pos fl := by
  by_cases c : pos < (s.size : Int)
  · have := (s.data.getD (Int.toNat pos) 0).toNat_lt
    refine ⟨((s.data.getD (Int.toNat pos) 0).toNat : Int), by omega, by omega, fun h => by omega, fun R k => ?_⟩
    unfold spec_l7R_next
    rw [decide_eq_true c, decide_eq_true h]; rfl
  · refine ⟨0, by omega, by omega, fun _ => rfl, fun R k => ?_⟩
    unfold spec_l7R_next
    rw [decide_eq_false c]; rfl
theorem bne' {a b : Int} (h : a ≠ b) : (a == b) = false := beq_eq_false_iff_ne.2 h
theorem rform_bad {n : Nat} {s : ByteArray} {pos : Int} {fl : Bool} {c : Int} (h0 : 0 ≤ pos) (h1 : pos ≤ 1000) (hc : ∀ (R : Type) (k : Int → ByteArray → Int → Bool → Option R), spec_l7R_next n s pos fl k = k c s pos fl) (hb : fl = true ∨ (c ≠ 48 ∧ c ≠ 49 ∧ ¬ (97 ≤ c ∧ c ≤ 102) ∧ c ≠ 33 ∧ c ≠ 40)) (R : Type) (k : Int → ByteArray → Int → Bool → Option R) : spec_l7R_form (n + 1) s pos fl k = k (U 0) s (pos + 1) true := by
  rw [spec_l7R_form, hc, wrap64 (by omega) (by omega), U_zero]
  cases fl with
  | true => rfl
  | false =>
    rcases hb with h | ⟨h48, h49, h97, h33, h40⟩
    · cases h
    · rw [cond_false, bne' h48, bne' h49, bne' h33, bne' h40, cond_false, cond_false]
      by_cases g : c ≥ 97
      · rw [decide_eq_true g, decide_eq_false (show ¬ c ≤ 102 by omega)]; rfl
      · rw [decide_eq_false g]; rfl
theorem xor_U (a b : BitVec 64) : IntKind.wrap .u64 (Int.ofNat (BitVec.toNat (BitVec.ofInt (IntKind.bits .u64) (U a) ^^^ BitVec.ofInt (IntKind.bits .u64) (U b)))) = U (a ^^^ b) := by
  show IntKind.wrap .u64 (Int.ofNat (BitVec.toNat (BitVec.ofInt 64 (U a) ^^^ BitVec.ofInt 64 (U b)))) = _
  rw [of_U, of_U, wrap_U]
theorem rest_ext (s : ByteArray) (p : Nat) : (s.extract p s.size).extract 1 (Int.toNat (((s.extract p s.size).size : Nat) : Int)) = s.extract (p + 1) s.size := by
  apply ByteArray.ext
  rw [Int.toNat_natCast, ByteArray.data_extract, ByteArray.data_extract, ByteArray.data_extract, ByteArray.size_extract, Array.extract_extract]
  congr 1
  omega
theorem rest_get (s : ByteArray) (p : Nat) (h : p < s.size) : (s.extract p s.size).data.getD 0 0 = s.data.getD p 0 := by
  rw [ByteArray.data_extract, Array.getD_eq_getD_getElem?, Array.getD_eq_getD_getElem?, Array.getElem?_extract]
  have : s.data.size = s.size := rfl
  rw [if_pos (by omega), Nat.add_zero]
theorem toList_len (b : ByteArray) : ∀ (m i : Nat) (r : List UInt8), b.size - i ≤ m → (ByteArray.toList.loop b i r).length = r.length + (b.size - i) := by
  intro m
  induction m with
  | zero =>
    intro i r h
    unfold ByteArray.toList.loop
    rw [if_neg (by omega), List.length_reverse]; omega
  | succ m ih =>
    intro i r h
    unfold ByteArray.toList.loop
    by_cases c : i < b.size
    · rw [if_pos c, ih _ _ (by omega), List.length_cons]; omega
    · rw [if_neg c, List.length_reverse]; omega
theorem toList_length (b : ByteArray) : b.toList.length = b.size := by
  unfold ByteArray.toList
  rw [toList_len b b.size 0 [] (by omega)]
  simp
theorem rest_nil (b : ByteArray) : ((ByteArray.toList b) == (ByteArray.toList (ByteArray.mk #[]))) = decide (b.size = 0) := by
  have e0 : (ByteArray.toList (ByteArray.mk #[])) = [] := List.length_eq_zero_iff.1 (toList_length _)
  rw [e0]
  by_cases c : b.size = 0
  · rw [decide_eq_true c, List.length_eq_zero_iff.1 ((toList_length b).trans c)]; rfl
  · rw [decide_eq_false c, beq_eq_false_iff_ne]
    intro h
    have := toList_length b
    rw [h] at this
    exact c this.symm
theorem idx_abc : ∀ c : Fin 256, idxF (ByteArray.mk #[97, 98, 99, 100, 101, 102]).data.toList ((c.val : Nat) : Int).toNat.toUInt8 = if 97 ≤ c.val ∧ c.val ≤ 102 then ((c.val : Nat) : Int) - 97 else -1 := by decide +kernel
theorem inext_end {R : Type} (n : Nat) (s : ByteArray) (fl : Bool) (h : s.size = 0) (k : Int → ByteArray → Bool → Option R) : impl_formReader_next n s fl k = k 0 s true := by
  unfold impl_formReader_next
  rw [rest_nil, decide_eq_true h]; rfl
theorem inext_at {R : Type} (n : Nat) (s : ByteArray) (fl : Bool) {p : Nat} (h : p < s.size) (k : Int → ByteArray → Bool → Option R) : impl_formReader_next n (s.extract p s.size) fl k = k ((s.data.getD p 0).toNat : Int) (s.extract (p + 1) s.size) fl := by
  have hz : (s.extract p s.size).size = s.size - p := by rw [ByteArray.size_extract]; omega
  unfold impl_formReader_next
  rw [rest_nil, rest_ext, rest_get s p h, hz, decide_eq_false (show ¬ s.size - p = 0 by omega), decide_eq_true (show 0 < ((s.size - p : Nat) : Int) by omega), decide_eq_true (show 1 ≤ ((s.size - p : Nat) : Int) by omega), decide_eq_true (show ((s.size - p : Nat) : Int) ≤ ((s.size - p : Nat) : Int) by omega)]
  rfl
theorem inext_any (n : Nat) (s : ByteArray) (fl : Bool) : ∃ c s' fl', (fl = true → fl' = true) ∧ ∀ (R : Type) (k : Int → ByteArray → Bool → Option R), impl_formReader_next n s fl k = k c s' fl' := by
  by_cases h : s.size = 0
  · exact ⟨0, s, true, fun _ => rfl, fun R k => inext_end n s fl h k⟩
  · refine ⟨((s.data.getD 0 0).toNat : Int), ByteArray.extract s 1 (Int.toNat (s.size : Int)), fl, fun h => h, fun R k => ?_⟩
    unfold impl_formReader_next
    rw [rest_nil, decide_eq_false h, decide_eq_true (show 0 < (s.size : Int) by omega), decide_eq_true (show 1 ≤ (s.size : Int) by omega), decide_eq_true (show (s.size : Int) ≤ (s.size : Int) by omega), cond_false, cond_true, cond_true, cond_true]
theorem snext_at {R : Type} (n : Nat) (s : ByteArray) (fl : Bool) {p : Nat} (h : p < s.size) (k : Int → ByteArray → Int → Bool → Option R) : spec_l7R_next n s (p : Int) fl k = k ((s.data.getD p 0).toNat : Int) s (p : Int) fl := by
  unfold spec_l7R_next
  rw [decide_eq_true (show (p : Int) < (s.size : Int) by omega), decide_eq_true (show 0 ≤ (p : Int) by omega), Int.toNat_natCast]; rfl
theorem snext_end {R : Type} (n : Nat) (s : ByteArray) (fl : Bool) {pos : Int} (h : (s.size : Int) ≤ pos) (k : Int → ByteArray → Int → Bool → Option R) : spec_l7R_next n s pos fl k = k 0 s pos fl := by
  unfold spec_l7R_next
  rw [decide_eq_false (show ¬ pos < (s.size : Int) by omega)]; rfl
theorem iform_true (n : Nat) (s : ByteArray) : ∃ s', ∀ (R : Type) (k : Int → ByteArray → Bool → Option R), impl_formReader_form (n + 1) s true k = k (U 0) s' true := by
  obtain ⟨c, s', fl', h1, h2⟩ := inext_any n s true
  have := h1 rfl
  subst this
  exact ⟨s', fun R k => by rw [impl_formReader_form, h2]; rfl⟩
theorem idx_at {R : Type} (n : Nat) (b : UInt8) (k : Int → Option R) : strings_IndexByte n (ByteArray.mk #[97, 98, 99, 100, 101, 102]) (b.toNat : Int) k = k (if 97 ≤ b.toNat ∧ b.toNat ≤ 102 then (b.toNat : Int) - 97 else -1) := by
  have := idx_abc ⟨b.toNat, b.toNat_lt⟩
  dsimp only at this
  unfold strings_IndexByte stringslite_IndexByte bytealg_IndexByteString
  rw [this]
def Tied (s : ByteArray) (p : Nat) (t t' : BitVec 64) (pos : Int) (rest : ByteArray) : Prop := t = t' ∧ ∃ q : Nat, p < q ∧ q ≤ s.size ∧ pos = (q : Int) ∧ rest = s.extract q s.size
structure Two (s : ByteArray) (n p : Nat) (t t' : BitVec 64) (fl : Bool) (pos : Int) (rest : ByteArray) : Prop where
  lo : 0 ≤ pos
  hi : pos ≤ 70 + 3 * ((s.size : Int) - p)
  tied : fl = false → Tied s p t t' pos rest
  spec : ∀ (R : Type) (k : Int → ByteArray → Int → Bool → Option R), spec_l7R_form n s (p : Int) false k = k (U t) s pos fl
  impl : ∀ (R : Type) (k : Int → ByteArray → Bool → Option R), impl_formReader_form n (s.extract p s.size) false k = k (U t') rest fl
theorem two_end {s : ByteArray} (hs : s.size ≤ 60) {n : Nat} : ∃ t t' fl pos rest, Two s (n + 1) s.size t t' fl pos rest := by
  have hz : (s.extract s.size s.size).size = 0 := by rw [ByteArray.size_extract]; omega
  refine ⟨0, 0, true, (s.size : Int) + 1, s.extract s.size s.size, by omega, by omega, fun h => (by cases h), ?_, fun R k => ?_⟩
  · exact rform_bad (c := 0) (by omega) (by omega) (fun R k => snext_end n s false (by omega) k) (.inr (by omega))
  · rw [impl_formReader_form, inext_end n _ _ hz]; rfl
theorem sform_true {s : ByteArray} {n : Nat} {pos : Int} (h0 : 0 ≤ pos) (h1 : pos ≤ 1000) (R : Type) (k : Int → ByteArray → Int → Bool → Option R) : spec_l7R_form (n + 1) s pos true k = k (U 0) s (pos + 1) true := by
  obtain ⟨c, _, _, _, hc⟩ := rnext_ex n s h0 true
  exact rform_bad h0 h1 hc (.inl rfl) R k
theorem rwant_true (n : Nat) (x : Int) (s : ByteArray) {pos : Int} (h : 0 ≤ pos) (h1 : pos ≤ 1000) (R : Type) (k : ByteArray → Int → Bool → Option R) : spec_l7R_want n x s pos true k = k s (pos + 1) true := by
  obtain ⟨c, c0, c1, c2, hc⟩ := rnext_ex n s h true
  unfold spec_l7R_want
  rw [hc, wrap64 (by omega) (by omega)]
  cases c != x <;> rfl
def ops (c : Int) (a b : BitVec 64) : BitVec 64 := bif c == 38 then a &&& b else bif c == 124 then a ||| b else bif c == 94 then a ^^^ b else 0
def okop (c : Int) : Bool := c == 38 || (c == 124 || c == 94)
theorem ops_s {R : Type} (c : Int) (a b : BitVec 64) (s : ByteArray) (p : Int) (fl : Bool) (k : Int → ByteArray → Int → Bool → Option R) : (bif (c == 38) then k (IntKind.wrap .u64 (Int.ofNat (BitVec.toNat (BitVec.ofInt (IntKind.bits .u64) (U a) &&& BitVec.ofInt (IntKind.bits .u64) (U b))))) s p fl else (bif (c == 124) then k (IntKind.wrap .u64 (Int.ofNat (BitVec.toNat (BitVec.ofInt (IntKind.bits .u64) (U a) ||| BitVec.ofInt (IntKind.bits .u64) (U b))))) s p fl else (bif (c == 94) then k (IntKind.wrap .u64 (Int.ofNat (BitVec.toNat (BitVec.ofInt (IntKind.bits .u64) (U a) ^^^ BitVec.ofInt (IntKind.bits .u64) (U b))))) s p fl else k 0 s p true))) = k (U (ops c a b)) s p (bif okop c then fl else true) := by
  rw [and_U, or_U, xor_U]
  unfold ops okop
  cases c == 38 <;> cases c == 124 <;> cases c == 94 <;> rfl
theorem ops_i {R : Type} (c : Int) (a b : BitVec 64) (s : ByteArray) (fl : Bool) (k : Int → ByteArray → Bool → Option R) : (bif (c == 38) then k (IntKind.wrap .u64 (Int.ofNat (BitVec.toNat (BitVec.ofInt (IntKind.bits .u64) (U a) &&& BitVec.ofInt (IntKind.bits .u64) (U b))))) s fl else (bif (c == 124) then k (IntKind.wrap .u64 (Int.ofNat (BitVec.toNat (BitVec.ofInt (IntKind.bits .u64) (U a) ||| BitVec.ofInt (IntKind.bits .u64) (U b))))) s fl else (bif (c == 94) then k (IntKind.wrap .u64 (Int.ofNat (BitVec.toNat (BitVec.ofInt (IntKind.bits .u64) (U a) ^^^ BitVec.ofInt (IntKind.bits .u64) (U b))))) s fl else k 0 s true))) = k (U (ops c a b)) s (bif okop c then fl else true) := by
  rw [and_U, or_U, xor_U]
  unfold ops okop
  cases c == 38 <;> cases c == 124 <;> cases c == 94 <;> rfl
theorem okop_true (c : Int) : (bif okop c then true else true) = true := by cases okop c <;> rfl
theorem two_ex {s : ByteArray} (hs : s.size ≤ 60) : ∀ (m n p : Nat), m + 100 ≤ n → p ≤ s.size → s.size - p ≤ m → ∃ t t' fl pos rest, Two s n p t t' fl pos rest := by
  intro m
  induction m with
  | zero =>
    intro n p hn hp hm
    obtain ⟨n, rfl⟩ : ∃ m, n = m + 1 := ⟨n - 1, by omega⟩
    have : p = s.size := by omega
    subst this
    exact two_end hs
  | succ m ih =>
    intro n p hn hp hm
    obtain ⟨n, rfl⟩ : ∃ m, n = m + 1 + 1 := ⟨n - 2, by omega⟩
    by_cases hps : p = s.size
    · subst hps
      exact two_end hs
    have hlt : p < s.size := by omega
    have hw : IntKind.wrap .i64 ((p : Int) + 1) = ((p + 1 : Nat) : Int) := wrap64 (by omega) (by omega)
    have hb := (s.data.getD p 0).toNat_lt
    have hix := fun (R : Type) (k : Int → Option R) => idx_at (n + 1) (s.data.getD p 0) k
    have hsn := fun (R : Type) fl (k : Int → ByteArray → Int → Bool → Option R) => snext_at (n + 1) s fl hlt k
    have hin := fun (R : Type) fl (k : Int → ByteArray → Bool → Option R) => inext_at (n + 1) s fl hlt k
    generalize (s.data.getD p 0).toNat = c at hb hix hsn hin
    by_cases h48 : (c : Int) = 48
    · refine ⟨0, 0, false, ((p + 1 : Nat) : Int), s.extract (p + 1) s.size, by omega, by omega, fun _ => ⟨rfl, p + 1, by omega, by omega, rfl, rfl⟩, fun R k => ?_, fun R k => ?_⟩
      · rw [spec_l7R_form, hsn, hw, h48]; rfl
      · rw [impl_formReader_form, hin, cond_false, hix, h48]; rfl
    by_cases h49 : (c : Int) = 49
    · refine ⟨BitVec.allOnes 64, BitVec.allOnes 64, false, ((p + 1 : Nat) : Int), s.extract (p + 1) s.size, by omega, by omega, fun _ => ⟨rfl, p + 1, by omega, by omega, rfl, rfl⟩, fun R k => ?_, fun R k => ?_⟩
      · rw [spec_l7R_form, hsn, hw, h49]; rfl
      · rw [impl_formReader_form, hin, cond_false, hix, h49]; rfl
    by_cases h97 : 97 ≤ c ∧ c ≤ 102
    · obtain ⟨v, hv⟩ : ∃ v : Nat, (c : Int) - 97 = (v : Int) := ⟨c - 97, by omega⟩
      have hv6 : v < 6 := by omega
      have hwu : IntKind.wrap .i64 (IntKind.wrap .u8 ((c : Int) - 97)) = (v : Int) := by
        have : IntKind.wrap .u8 (v : Int) = (v : Int) := by
          simp only [IntKind.wrap, IntKind.signed, IntKind.bits]
          simp
          omega
        rw [hv, this, wrap64 (by omega) (by omega)]
      refine ⟨msk v, msk v, false, ((p + 1 : Nat) : Int), s.extract (p + 1) s.size, by omega, by omega, fun _ => ⟨rfl, p + 1, by omega, by omega, rfl, rfl⟩, fun R k => ?_, fun R k => ?_⟩
      · rw [spec_l7R_form, hsn, hw, cond_false, bne' h48, bne' h49, cond_false, cond_false, decide_eq_true (show (c : Int) ≥ 97 by omega), decide_eq_true (show (c : Int) ≤ 102 by omega), cond_true, cond_true, hwu, spec_var_eq hv6 (by omega)]
      · rw [impl_formReader_form, hin, cond_false, hix, if_pos h97, bne' h48, bne' h49, cond_false, cond_false, hv, decide_eq_true (show (v : Int) ≥ 0 by omega), cond_true, impl_var_eq hv6 (by omega)]
    have himp : ∀ (R : Type) (k : Int → ByteArray → Bool → Option R), impl_formReader_form (n + 1 + 1) (s.extract p s.size) false k = _ := fun R k => by
      rw [impl_formReader_form, hin, cond_false, hix, if_neg h97, bne' h48, bne' h49, cond_false, cond_false, decide_eq_false (show ¬ (-1 : Int) ≥ 0 by omega), cond_false]
    have d97 : ((c : Int) = 33 ∨ (c : Int) = 40) → decide ((c : Int) ≥ 97) = false := fun h => decide_eq_false (by omega)
    obtain ⟨t1, t1', fl1, p1, rest1, w1⟩ := ih (n + 1) (p + 1) (by omega) (by omega) (by omega)
    have wlo := w1.lo
    have whi := w1.hi
    by_cases h33 : (c : Int) = 33
    · refine ⟨~~~ t1, ~~~ t1', fl1, p1, rest1, by omega, by omega, fun e => ?_, fun R k => ?_, fun R k => ?_⟩
      · obtain ⟨e1, q, q1, q2, q3, q4⟩ := w1.tied e
        exact ⟨by rw [e1], q, by omega, q2, q3, q4⟩
      · rw [spec_l7R_form, hsn, hw, cond_false, bne' h48, bne' h49, cond_false, cond_false, d97 (.inl h33), cond_false, beq_iff_eq.2 h33, cond_true, w1.spec, not_U]
      · rw [himp, beq_iff_eq.2 h33, cond_true, w1.impl, not_U]
    by_cases h40 : (c : Int) = 40
    · have hsp : ∀ (R : Type) (k : Int → ByteArray → Int → Bool → Option R), spec_l7R_form (n + 1 + 1) s (p : Int) false k = (spec_l7R_form (n + 1) s ((p + 1 : Nat) : Int) false fun r10 r11 r12 r13 => (spec_l7R_next (n + 1) r11 r12 r13 fun r14 r15 r16 r17 => (spec_l7R_form (n + 1) r15 (IntKind.wrap .i64 (r16 + 1)) r17 fun r18 r19 r20 r21 => (spec_l7R_want (n + 1) 41 r19 r20 r21 fun r22 r23 r24 => (bif (r14 == 38) then k (IntKind.wrap .u64 (Int.ofNat (BitVec.toNat (BitVec.ofInt (IntKind.bits .u64) r10 &&& BitVec.ofInt (IntKind.bits .u64) r18)))) r22 r23 r24 else (bif (r14 == 124) then k (IntKind.wrap .u64 (Int.ofNat (BitVec.toNat (BitVec.ofInt (IntKind.bits .u64) r10 ||| BitVec.ofInt (IntKind.bits .u64) r18)))) r22 r23 r24 else (bif (r14 == 94) then k (IntKind.wrap .u64 (Int.ofNat (BitVec.toNat (BitVec.ofInt (IntKind.bits .u64) r10 ^^^ BitVec.ofInt (IntKind.bits .u64) r18)))) r22 r23 r24 else k 0 r22 r23 true))))))) := fun R k => by
        rw [spec_l7R_form, hsn, hw, cond_false, bne' h48, bne' h49, cond_false, cond_false, d97 (.inr h40), cond_false, bne' h33, cond_false, beq_iff_eq.2 h40, cond_true]
      have himp' : ∀ (R : Type) (k : Int → ByteArray → Bool → Option R), impl_formReader_form (n + 1 + 1) (s.extract p s.size) false k = (impl_formReader_form (n + 1) (s.extract (p + 1) s.size) false fun r9 r10 r11 => (impl_formReader_next (n + 1) r10 r11 fun r12 r13 r14 => (impl_formReader_form (n + 1) r13 r14 fun r15 r16 r17 => (bif r17 then (bif (r12 == 38) then k (IntKind.wrap .u64 (Int.ofNat (BitVec.toNat (BitVec.ofInt (IntKind.bits .u64) r9 &&& BitVec.ofInt (IntKind.bits .u64) r15)))) r16 true else (bif (r12 == 124) then k (IntKind.wrap .u64 (Int.ofNat (BitVec.toNat (BitVec.ofInt (IntKind.bits .u64) r9 ||| BitVec.ofInt (IntKind.bits .u64) r15)))) r16 true else (bif (r12 == 94) then k (IntKind.wrap .u64 (Int.ofNat (BitVec.toNat (BitVec.ofInt (IntKind.bits .u64) r9 ^^^ BitVec.ofInt (IntKind.bits .u64) r15)))) r16 true else k 0 r16 true))) else (impl_formReader_next (n + 1) r16 r17 fun r18 r19 r20 => (bif (r12 == 38) then k (IntKind.wrap .u64 (Int.ofNat (BitVec.toNat (BitVec.ofInt (IntKind.bits .u64) r9 &&& BitVec.ofInt (IntKind.bits .u64) r15)))) r19 (r18 != 41) else (bif (r12 == 124) then k (IntKind.wrap .u64 (Int.ofNat (BitVec.toNat (BitVec.ofInt (IntKind.bits .u64) r9 ||| BitVec.ofInt (IntKind.bits .u64) r15)))) r19 (r18 != 41) else (bif (r12 == 94) then k (IntKind.wrap .u64 (Int.ofNat (BitVec.toNat (BitVec.ofInt (IntKind.bits .u64) r9 ^^^ BitVec.ofInt (IntKind.bits .u64) r15)))) r19 (r18 != 41) else k 0 r19 true)))))))) := fun R k => by
        rw [himp, bne' h33, cond_false, show ((c : Int) != 40) = false by simp [h40], cond_false]
      have sw : ∀ {x : Int}, 0 ≤ x → x ≤ 900 → IntKind.wrap .i64 (x + 1) = x + 1 := fun h1 h2 => wrap64 (by omega) (by omega)
      cases fl1 with
      | true =>
        obtain ⟨c2, _, _, _, hc2⟩ := rnext_ex (n + 1) s wlo true
        obtain ⟨c3, s3, fl3, hf3, hc3⟩ := inext_any (n + 1) rest1 true
        have := hf3 rfl
        subst this
        obtain ⟨s4, h4⟩ := iform_true n s3
        refine ⟨ops c2 t1 0, ops c3 t1' 0, true, p1 + 1 + 1 + 1, s4, by omega, by omega, fun h => (by cases h), fun R k => ?_, fun R k => ?_⟩
        · rw [hsp, w1.spec, hc2, sw (by omega) (by omega), sform_true (by omega) (by omega), rwant_true (n + 1) 41 s (by omega) (by omega), ops_s, okop_true]
        · rw [himp', w1.impl, hc3, h4, cond_true, ops_i, okop_true]
      | false =>
        obtain ⟨e1, q, q1, q2, q3, q4⟩ := w1.tied rfl
        subst e1 q3 q4
        by_cases hq : q = s.size
        · subst hq
          have hz : (s.extract s.size s.size).size = 0 := by rw [ByteArray.size_extract]; omega
          obtain ⟨s4, h4⟩ := iform_true n (s.extract s.size s.size)
          refine ⟨ops 0 t1 0, ops 0 t1 0, true, (s.size : Int) + 1 + 1 + 1, s4, by omega, by omega, fun h => (by cases h), fun R k => ?_, fun R k => ?_⟩
          · rw [hsp, w1.spec, snext_end (n + 1) s false (by omega), sw (by omega) (by omega), rform_bad (c := 0) (by omega) (by omega) (fun R k => snext_end n s false (by omega) k) (.inr (by omega)), rwant_true (n + 1) 41 s (by omega) (by omega), ops_s, okop_true]
          · rw [himp', w1.impl, inext_end (n + 1) _ _ hz, h4, cond_true, ops_i, okop_true]
        · have hqlt : q < s.size := by omega
          obtain ⟨t2, t2', fl2, p2, rest2, w2⟩ := ih (n + 1) (q + 1) (by omega) (by omega) (by omega)
          have vlo := w2.lo
          have vhi := w2.hi
          have hwq : IntKind.wrap .i64 ((q : Int) + 1) = ((q + 1 : Nat) : Int) := wrap64 (by omega) (by omega)
          cases fl2 with
          | true =>
            refine ⟨ops ((s.data.getD q 0).toNat : Int) t1 t2, ops ((s.data.getD q 0).toNat : Int) t1 t2', true, p2 + 1, rest2, by omega, by omega, fun h => (by cases h), fun R k => ?_, fun R k => ?_⟩
            · rw [hsp, w1.spec, snext_at (n + 1) s false hqlt, hwq, w2.spec, rwant_true (n + 1) 41 s (by omega) (by omega), ops_s, okop_true]
            · rw [himp', w1.impl, inext_at (n + 1) s false hqlt, w2.impl, cond_true, ops_i, okop_true]
          | false =>
            obtain ⟨e2, r, r1, r2, r3, r4⟩ := w2.tied rfl
            subst e2 r3 r4
            have hwr : IntKind.wrap .i64 ((r : Int) + 1) = ((r + 1 : Nat) : Int) := wrap64 (by omega) (by omega)
            by_cases hr : r = s.size
            · subst hr
              have hz : (s.extract s.size s.size).size = 0 := by rw [ByteArray.size_extract]; omega
              refine ⟨ops ((s.data.getD q 0).toNat : Int) t1 t2, ops ((s.data.getD q 0).toNat : Int) t1 t2, true, (s.size + 1 : Nat), s.extract s.size s.size, by omega, by omega, fun h => (by cases h), fun R k => ?_, fun R k => ?_⟩
              · rw [hsp, w1.spec, snext_at (n + 1) s false hqlt, hwq, w2.spec]
                unfold spec_l7R_want
                rw [snext_end (n + 1) s false (by omega), hwr, show ((0 : Int) != 41) = true from rfl, cond_true]
                exact (ops_s _ t1 t2 s _ true k).trans (by rw [okop_true])
              · rw [himp', w1.impl, inext_at (n + 1) s false hqlt, w2.impl, cond_false, inext_end (n + 1) _ _ hz, show ((0 : Int) != 41) = true from rfl, ops_i, okop_true]
            · have hrlt : r < s.size := by omega
              refine ⟨ops ((s.data.getD q 0).toNat : Int) t1 t2, ops ((s.data.getD q 0).toNat : Int) t1 t2, bif okop ((s.data.getD q 0).toNat : Int) then (((s.data.getD r 0).toNat : Int) != 41) else true, (r + 1 : Nat), s.extract (r + 1) s.size, by omega, by omega, fun _ => ⟨rfl, r + 1, by omega, by omega, rfl, rfl⟩, fun R k => ?_, fun R k => ?_⟩
              · rw [hsp, w1.spec, snext_at (n + 1) s false hqlt, hwq, w2.spec]
                unfold spec_l7R_want
                rw [snext_at (n + 1) s false hrlt, hwr]
                cases ((s.data.getD r 0).toNat : Int) != 41
                · exact ops_s _ t1 t2 s _ false k
                · exact ops_s _ t1 t2 s _ true k
              · rw [himp', w1.impl, inext_at (n + 1) s false hqlt, w2.impl, cond_false, inext_at (n + 1) s false hrlt, ops_i]
    · refine ⟨0, 0, true, ((p : Int) + 1), s.extract (p + 1) s.size, by omega, by omega, fun h => (by cases h), ?_, fun R k => ?_⟩
      · exact rform_bad (c := c) (by omega) (by omega) (fun R k => hsn R false k) (.inr (by omega))
      · rw [himp, bne' h33, cond_false, show ((c : Int) != 40) = true by simpa using h40, cond_true]; rfl
theorem extract_all (s : ByteArray) : s.extract 0 s.size = s := by
  apply ByteArray.ext
  rw [ByteArray.data_extract]
  exact Array.extract_size
def pcF : Nat → Nat → Nat
  | 0, _ => 0
  | f + 1, x => x % 2 + pcF f (x / 2)
theorem pcF_le : ∀ f x, pcF f x ≤ f
  | 0, _ => Nat.le_refl _
  | f + 1, x => by
    have := pcF_le f (x / 2)
    rw [pcF]; omega
theorem pcF_byte (f x : Nat) : pcF (f + 8) x = pcF 8 (x % 256) + pcF f (x / 256) := by
  simp only [pcF, Nat.div_div_eq_div_mul]
  have : (2 * 2 * 2 * 2 * 2 * 2 * 2 * 2 : Nat) = 256 := rfl
  simp only [Nat.reduceMul]
  omega
theorem and_byte (x y : Nat) : x &&& y = (x % 256 &&& y % 256) + 256 * (x / 256 &&& y / 256) := by
  have h1 : (x &&& y) / 256 = x / 256 &&& y / 256 := Nat.and_div_two_pow (n := 8)
  have h2 : (x &&& y) % 256 = x % 256 &&& y % 256 := Nat.and_mod_two_pow (n := 8)
  omega
def Mk : Nat → Nat → Nat
  | 0, _ => 0
  | k + 1, c => c + 256 * Mk k c
theorem Mk_mod {k c : Nat} (h : c < 256) : Mk (k + 1) c % 256 = c ∧ Mk (k + 1) c / 256 = Mk k c := by
  rw [Mk]; omega
def p1 (r : Nat) : Nat := (r / 2 &&& 85) + (r &&& 85)
def p2 (r : Nat) : Nat := (r / 4 &&& 51) + (r &&& 51)
def p3 (r : Nat) : Nat := r / 16 + r % 16
theorem c1 : ∀ r : Fin 512, (r.val / 2) % 256 &&& 85 = (r.val % 256) / 2 &&& 85 := by decide +kernel
theorem c2 : ∀ r : Fin 1024, (r.val / 4) % 256 &&& 51 = (r.val % 256) / 4 &&& 51 := by decide +kernel
theorem c3 : ∀ r : Fin 256, r.val &&& 15 = r.val % 16 := by decide +kernel
theorem c4 : ∀ r : Fin 256, p1 r.val < 256 ∧ p2 (p1 r.val) < 256 ∧ p2 (p1 r.val) / 16 ≤ 4 ∧ p2 (p1 r.val) % 16 ≤ 4 ∧ p3 (p2 (p1 r.val)) = pcF 8 r.val := by decide +kernel
def F1 (k x : Nat) : Nat := (x / 2 &&& Mk k 85) + (x &&& Mk k 85)
def F2 (k x : Nat) : Nat := (x / 4 &&& Mk k 51) + (x &&& Mk k 51)
def F3 (k x : Nat) : Nat := (x / 16 + x) &&& Mk k 15
theorem F1_step (k x : Nat) : F1 (k + 1) x = p1 (x % 256) + 256 * F1 k (x / 256) := by
  unfold F1
  rw [and_byte (x / 2), and_byte x, (Mk_mod (by omega)).1, (Mk_mod (by omega)).2]
  have h := c1 ⟨x % 512, by omega⟩
  dsimp only at h
  have e1 : x / 2 % 256 = x % 512 / 2 % 256 := by omega
  have e2 : x % 512 % 256 = x % 256 := by omega
  have e3 : x / 2 / 256 = x / 256 / 2 := by omega
  rw [e1, h, e2, e3]
  unfold p1
  omega
theorem F2_step (k x : Nat) : F2 (k + 1) x = p2 (x % 256) + 256 * F2 k (x / 256) := by
  unfold F2
  rw [and_byte (x / 4), and_byte x, (Mk_mod (by omega)).1, (Mk_mod (by omega)).2]
  have h := c2 ⟨x % 1024, by omega⟩
  dsimp only at h
  have e1 : x / 4 % 256 = x % 1024 / 4 % 256 := by omega
  have e2 : x % 1024 % 256 = x % 256 := by omega
  have e3 : x / 4 / 256 = x / 256 / 4 := by omega
  rw [e1, h, e2, e3]
  unfold p2
  omega
theorem F3_step (k y : Nat) (h1 : y % 256 / 16 ≤ 4) (h2 : y % 16 ≤ 4) (h3 : y / 256 % 16 ≤ 4) : F3 (k + 1) y = p3 (y % 256) + 256 * F3 k (y / 256) := by
  unfold F3
  rw [and_byte, (Mk_mod (by omega)).1, (Mk_mod (by omega)).2]
  have h := c3 ⟨(y / 16 + y) % 256, by omega⟩
  dsimp only at h
  have e1 : (y / 16 + y) % 256 % 16 = y % 256 / 16 + y % 256 % 16 := by omega
  have e2 : (y / 16 + y) / 256 = y / 256 / 16 + y / 256 := by omega
  rw [h, e1, e2]
  rfl
def G4 (k x : Nat) : Nat := F3 k (F2 k (F1 k x))
theorem F2_low (k x : Nat) : F2 k (F1 k x) % 16 ≤ 4 := by
  cases k with
  | zero => simp [F2, Mk]
  | succ k =>
    have h := c4 ⟨x % 256, by omega⟩
    dsimp only at h
    rw [F1_step, F2_step]
    have e : (p1 (x % 256) + 256 * F1 k (x / 256)) % 256 = p1 (x % 256) := by omega
    rw [e]
    omega
theorem G4_step (k x : Nat) : G4 (k + 1) x = pcF 8 (x % 256) + 256 * G4 k (x / 256) := by
  have h := c4 ⟨x % 256, by omega⟩
  dsimp only at h
  unfold G4
  have e1 := F1_step k x
  have m1 : F1 (k + 1) x % 256 = p1 (x % 256) := by omega
  have d1 : F1 (k + 1) x / 256 = F1 k (x / 256) := by omega
  have e2 := F2_step k (F1 (k + 1) x)
  rw [m1, d1] at e2
  have m2 : F2 (k + 1) (F1 (k + 1) x) % 256 = p2 (p1 (x % 256)) := by omega
  have d2 : F2 (k + 1) (F1 (k + 1) x) / 256 = F2 k (F1 k (x / 256)) := by omega
  rw [F3_step k _ (by rw [m2]; omega) (by omega) (by rw [d2]; exact F2_low k _), m2, d2, h.2.2.2.2]
theorem F_lt : ∀ k x, F1 k x < 256 ^ k ∧ F2 k (F1 k x) < 256 ^ k
  | 0, x => by simp [F1, F2, Mk]
  | k + 1, x => by
    have h := c4 ⟨x % 256, by omega⟩
    dsimp only at h
    have ih := F_lt k (x / 256)
    have e1 := F1_step k x
    have m1 : F1 (k + 1) x % 256 = p1 (x % 256) := by omega
    have d1 : F1 (k + 1) x / 256 = F1 k (x / 256) := by omega
    have e2 := F2_step k (F1 (k + 1) x)
    rw [m1, d1] at e2
    rw [Nat.pow_succ]
    omega
/-- All of it. -/
theorem sum_bytes (c d e f s0 s1 s2 s3 s4 s5 s6 s7 : Nat) (b0 : s0 ≤ 8) (b1 : s1 ≤ 8) (b2 : s2 ≤ 8) (b3 : s3 ≤ 8) (b4 : s4 ≤ 8) (b5 : s5 ≤ 8) (b6 : s6 ≤ 8) (b7 : s7 ≤ 8)
    (hc : c = s0 + 256 * (s1 + 256 * (s2 + 256 * (s3 + 256 * (s4 + 256 * (s5 + 256 * (s6 + 256 * s7)))))))
    (hd : d = c + c / 256) (he : e = d + d / 65536) (hf : f = e + e / 4294967296) :
    c < 2305843009213693952 ∧ d < 2305843009213693952 ∧ e < 2305843009213693952 ∧ f < 2305843009213693952 ∧ f % 128 = s0 + (s1 + (s2 + (s3 + (s4 + (s5 + (s6 + s7)))))) := by
  have q1 : c / 256 = s1 + 256 * (s2 + 256 * (s3 + 256 * (s4 + 256 * (s5 + 256 * (s6 + 256 * s7))))) := by omega
  have q2 : d = (s0 + s1) + 256 * ((s1 + s2) + 256 * ((s2 + s3) + 256 * ((s3 + s4) + 256 * ((s4 + s5) + 256 * ((s5 + s6) + 256 * ((s6 + s7) + 256 * s7)))))) := by omega
  have q3 : d / 65536 = (s2 + s3) + 256 * ((s3 + s4) + 256 * ((s4 + s5) + 256 * ((s5 + s6) + 256 * ((s6 + s7) + 256 * s7)))) := by
    clear hc hd q1 he hf
    omega
  have q4 : e = (s0 + s1 + s2 + s3) + 256 * ((s1 + s2 + s3 + s4) + 256 * ((s2 + s3 + s4 + s5) + 256 * ((s3 + s4 + s5 + s6) + 256 * ((s4 + s5 + s6 + s7) + 256 * ((s5 + s6 + s7) + 256 * ((s6 + s7) + 256 * s7)))))) := by
    rw [he, q3, q2]
    omega
  have q5 : e / 4294967296 = (s4 + s5 + s6 + s7) + 256 * ((s5 + s6 + s7) + 256 * ((s6 + s7) + 256 * s7)) := by
    clear hc hd q1 he hf q2 q3
    omega
  refine ⟨by clear hd q1 he hf q2 q3 q4 q5; omega, by clear hc hd q1 he hf q3 q4 q5; omega, by clear hc hd q1 he hf q2 q3 q5; omega, ?_, ?_⟩
  · rw [hf, q5]; clear hc hd q1 he hf q2 q3 q5; omega
  · rw [hf, q5, q4]; clear hc hd q1 he hf q2 q3 q4 q5; omega
theorem bytes8 (x : Nat) : ∃ s0 s1 s2 s3 s4 s5 s6 s7 : Nat, s0 ≤ 8 ∧ s1 ≤ 8 ∧ s2 ≤ 8 ∧ s3 ≤ 8 ∧ s4 ≤ 8 ∧ s5 ≤ 8 ∧ s6 ≤ 8 ∧ s7 ≤ 8 ∧
    G4 8 x = s0 + 256 * (s1 + 256 * (s2 + 256 * (s3 + 256 * (s4 + 256 * (s5 + 256 * (s6 + 256 * s7)))))) ∧ pcF 64 x = s0 + (s1 + (s2 + (s3 + (s4 + (s5 + (s6 + s7)))))) := by
  refine ⟨_, _, _, _, _, _, _, _, pcF_le 8 (x % 256), pcF_le 8 (x / 256 % 256), pcF_le 8 (x / 256 / 256 % 256), pcF_le 8 (x / 256 / 256 / 256 % 256), pcF_le 8 (x / 256 / 256 / 256 / 256 % 256), pcF_le 8 (x / 256 / 256 / 256 / 256 / 256 % 256), pcF_le 8 (x / 256 / 256 / 256 / 256 / 256 / 256 % 256), pcF_le 8 (x / 256 / 256 / 256 / 256 / 256 / 256 / 256 % 256), ?_, ?_⟩
  · rw [G4_step 7, G4_step 6, G4_step 5, G4_step 4, G4_step 3, G4_step 2, G4_step 1, G4_step 0]
    have h0 : G4 0 (x / 256 / 256 / 256 / 256 / 256 / 256 / 256 / 256) = 0 := by simp [G4, F3, Mk]
    rw [h0]
    rfl
  · have e0 : pcF 64 x = _ := pcF_byte 56 x
    have e1 : pcF 56 (x / 256) = _ := pcF_byte 48 (x / 256)
    have e2 : pcF 48 (x / 256 / 256) = _ := pcF_byte 40 (x / 256 / 256)
    have e3 : pcF 40 (x / 256 / 256 / 256) = _ := pcF_byte 32 (x / 256 / 256 / 256)
    have e4 : pcF 32 (x / 256 / 256 / 256 / 256) = _ := pcF_byte 24 (x / 256 / 256 / 256 / 256)
    have e5 : pcF 24 (x / 256 / 256 / 256 / 256 / 256) = _ := pcF_byte 16 (x / 256 / 256 / 256 / 256 / 256)
    have e6 : pcF 16 (x / 256 / 256 / 256 / 256 / 256 / 256) = _ := pcF_byte 8 (x / 256 / 256 / 256 / 256 / 256 / 256)
    have e7 : pcF 8 (x / 256 / 256 / 256 / 256 / 256 / 256 / 256) = _ := pcF_byte 0 (x / 256 / 256 / 256 / 256 / 256 / 256 / 256)
    rw [e0, e1, e2, e3, e4, e5, e6, e7]
    rfl
def m0 : BitVec 64 := 6148914691236517205#64
def m1 : BitVec 64 := 3689348814741910323#64
def m2 : BitVec 64 := 1085102592571150095#64
theorem m0_U : (6148914691236517205 : Int) = U m0 := rfl
theorem m1_U : (3689348814741910323 : Int) = U m1 := rfl
theorem m2_U : (1085102592571150095 : Int) = U m2 := rfl
theorem mn1 : min (Int.toNat 1) (IntKind.bits .u64) = 1 := rfl
theorem mn2 : min (Int.toNat 2) (IntKind.bits .u64) = 2 := rfl
theorem mn4 : min (Int.toNat 4) (IntKind.bits .u64) = 4 := rfl
theorem mn8 : min (Int.toNat 8) (IntKind.bits .u64) = 8 := rfl
theorem mn16 : min (Int.toNat 16) (IntKind.bits .u64) = 16 := rfl
theorem mn32 : min (Int.toNat 32) (IntKind.bits .u64) = 32 := rfl
theorem add_U (a b : BitVec 64) : IntKind.wrap .u64 (U a + U b) = U (a + b) := by
  have ha := a.isLt
  have hb := b.isLt
  unfold U
  rw [BitVec.toNat_add]
  simp only [IntKind.wrap, IntKind.bits]
  rw [show IntKind.signed .u64 = false from rfl]
  simp
def wA (t : BitVec 64) : BitVec 64 := (t >>> 1 &&& m0) + (t &&& m0)
def wB (t : BitVec 64) : BitVec 64 := (t >>> 2 &&& m1) + (t &&& m1)
def wC (t : BitVec 64) : BitVec 64 := (t >>> 4 + t) &&& m2
def wS (s : Nat) (t : BitVec 64) : BitVec 64 := t + t >>> s
def wF (t : BitVec 64) : BitVec 64 := wS 32 (wS 16 (wS 8 (wC (wB (wA t)))))
theorem wA_fold (t : BitVec 64) : (t >>> 1 &&& m0) + (t &&& m0) = wA t := rfl
theorem wB_fold (t : BitVec 64) : (t >>> 2 &&& m1) + (t &&& m1) = wB t := rfl
theorem wC_fold (t : BitVec 64) : (t >>> 4 + t) &&& m2 = wC t := rfl
theorem wS8_fold (t : BitVec 64) : t + t >>> 8 = wS 8 t := rfl
theorem wS16_fold (t : BitVec 64) : t + t >>> 16 = wS 16 t := rfl
theorem wS32_fold (t : BitVec 64) : t + t >>> 32 = wS 32 t := rfl
theorem ones_eq {R : Type} (n : Nat) (t : BitVec 64) (k : Int → Option R) : bits_OnesCount64 n (U t) k = k (IntKind.wrap .i64 (Int.ofNat (BitVec.toNat (BitVec.ofInt (IntKind.bits .i64) (IntKind.wrap .i64 (U (wF t))) &&& BitVec.ofInt (IntKind.bits .i64) 127)))) := by
  unfold bits_OnesCount64 wF
  rw [mn1, mn2, mn4, mn8, mn16, mn32, m0_U, m1_U, m2_U]
  rw [shr_U, and_U, and_U, add_U, wA_fold, shr_U, and_U, and_U, add_U, wB_fold, shr_U, add_U, and_U, wC_fold, shr_U, add_U, wS8_fold, shr_U, add_U, wS16_fold, shr_U, add_U, wS32_fold]
theorem Mk85 : m0.toNat = Mk 8 85 := by decide
theorem Mk51 : m1.toNat = Mk 8 51 := by decide
theorem Mk15 : m2.toNat = Mk 8 15 := by decide
theorem wA_nat (t : BitVec 64) : (wA t).toNat = F1 8 t.toNat := by
  have h := (F_lt 8 t.toNat).1
  unfold wA
  rw [BitVec.toNat_add, BitVec.toNat_and, BitVec.toNat_and, BitVec.toNat_ushiftRight, Nat.shiftRight_eq_div_pow, Mk85]
  exact Nat.mod_eq_of_lt (Nat.lt_of_lt_of_eq h (by decide))
theorem wB_nat (t a : BitVec 64) (e : a.toNat = F1 8 t.toNat) : (wB a).toNat = F2 8 (F1 8 t.toNat) := by
  have h := (F_lt 8 t.toNat).2
  unfold wB
  rw [BitVec.toNat_add, BitVec.toNat_and, BitVec.toNat_and, BitVec.toNat_ushiftRight, Nat.shiftRight_eq_div_pow, Mk51, e]
  exact Nat.mod_eq_of_lt (Nat.lt_of_lt_of_eq h (by decide))
theorem mod_and64 (x y : Nat) (h : y < 18446744073709551616) : x % 18446744073709551616 &&& y = x &&& y := by
  have h1 : (x &&& y) % 2 ^ 64 = x % 2 ^ 64 &&& y % 2 ^ 64 := Nat.and_mod_two_pow (n := 64)
  have h2 : x &&& y < 2 ^ 64 := Nat.lt_of_le_of_lt Nat.and_le_right h
  rw [Nat.mod_eq_of_lt h2, Nat.mod_eq_of_lt (a := y) h] at h1
  exact h1.symm
theorem wC_nat (b : BitVec 64) : (wC b).toNat = F3 8 b.toNat := by
  unfold wC F3
  rw [BitVec.toNat_and, BitVec.toNat_add, BitVec.toNat_ushiftRight, Nat.shiftRight_eq_div_pow, Mk15]
  exact mod_and64 _ _ (by decide)
theorem wS_nat (s : Nat) (c : BitVec 64) (h : c.toNat + c.toNat / 2 ^ s < 18446744073709551616) : (wS s c).toNat = c.toNat + c.toNat / 2 ^ s := by
  unfold wS
  rw [BitVec.toNat_add, BitVec.toNat_ushiftRight, Nat.shiftRight_eq_div_pow]
  exact Nat.mod_eq_of_lt h
theorem wF_nat (t : BitVec 64) : (wF t).toNat < 2305843009213693952 ∧ (wF t).toNat % 128 = pcF 64 t.toNat := by
  obtain ⟨s0, s1, s2, s3, s4, s5, s6, s7, b0, b1, b2, b3, b4, b5, b6, b7, hc, hp⟩ := bytes8 t.toNat
  obtain ⟨hc1, hd1, he1, hf1, hr⟩ := sum_bytes (G4 8 t.toNat) _ _ _ s0 s1 s2 s3 s4 s5 s6 s7 b0 b1 b2 b3 b4 b5 b6 b7 hc rfl rfl rfl
  rw [hp, ← hr]
  have e : (wC (wB (wA t))).toNat = G4 8 t.toNat := by rw [wC_nat, wB_nat t _ (wA_nat t)]; rfl
  unfold wF
  generalize wC (wB (wA t)) = w at e
  generalize G4 8 t.toNat = c at *
  have d1 : (wS 8 w).toNat = c + c / 256 := by rw [wS_nat, e]; exact Nat.lt_trans (by rw [e]; exact hd1) (by decide)
  have d2 : (wS 16 (wS 8 w)).toNat = c + c / 256 + (c + c / 256) / 65536 := by rw [wS_nat, d1]; exact Nat.lt_trans (by rw [d1]; exact he1) (by decide)
  have d3 : (wS 32 (wS 16 (wS 8 w))).toNat = c + c / 256 + (c + c / 256) / 65536 + (c + c / 256 + (c + c / 256) / 65536) / 4294967296 := by rw [wS_nat, d2]; exact Nat.lt_trans (by rw [d2]; exact hf1) (by decide)
  rw [d3]
  exact ⟨hf1, rfl⟩
theorem ones_val {R : Type} (n : Nat) (t : BitVec 64) (p : Nat) (h1 : (wF t).toNat < 2305843009213693952) (h2 : (wF t).toNat % 128 = p) (k : Int → Option R) : bits_OnesCount64 n (U t) k = k (p : Int) := by
  have hb : IntKind.wrap .i64 (U (wF t)) = U (wF t) := wrap64 (by unfold U; omega) (by unfold U; omega)
  have ha : (127 : Int) = U 127#64 := rfl
  rw [ones_eq, hb, ha]
  show k (IntKind.wrap .i64 (Int.ofNat (BitVec.toNat (BitVec.ofInt 64 (U (wF t)) &&& BitVec.ofInt 64 (U 127#64))))) = _
  rw [of_U, of_U, BitVec.toNat_and]
  have e : (wF t).toNat &&& (127#64).toNat = p := by
    rw [← h2]
    exact Nat.and_two_pow_sub_one_eq_mod _ 7
  rw [e]
  congr 1
  have hp : (Int.ofNat p : Int) = (p : Int) := rfl
  exact wrap64 (by omega) (by omega)
def bitB (t : BitVec 64) (i : Nat) : Int := bif t.getLsbD i then 49 else 48
def tabL (t : BitVec 64) (j : Nat) : List Int := (List.range j).map (bitB t)
theorem tabL_succ (t : BitVec 64) (j : Nat) : tabL t (j + 1) = tabL t j ++ [bitB t j] := by
  unfold tabL
  rw [List.range_succ, List.map_append]; rfl
theorem tabL_length (t : BitVec 64) (j : Nat) : (tabL t j).length = j := by
  unfold tabL; simp
theorem bit_byte (t : BitVec 64) {i : Nat} (hi : i < 64) : IntKind.wrap .u8 (48 + (IntKind.wrap .u8 ((IntKind.wrap .u64 (Int.ofNat (BitVec.toNat (BitVec.ofInt (IntKind.bits .u64) (Int.fdiv (U t) (2 ^ (min (Int.toNat (i : Int)) (IntKind.bits .u64)))) &&& BitVec.ofInt (IntKind.bits .u64) 1))))))) = bitB t i := by
  have h1 : (1 : Int) = U 1#64 := rfl
  rw [show min (Int.toNat (i : Int)) (IntKind.bits .u64) = i from Nat.min_eq_left (by simp [IntKind.bits]; omega), shr_U, h1, and_U, BitVec.and_one_eq_setWidth_ofBool_getLsbD, BitVec.getLsbD_ushiftRight, Nat.add_zero]
  unfold bitB
  cases t.getLsbD i <;> rfl
theorem impl_tab_loop {R : Type} (t : BitVec 64) (k : List Int → Option R) : ∀ (c n j : Nat), c < n → j + c = 64 → impl_TableOf_l6 n (U t) (j : Int) (tabL t j) k = k (tabL t 64) := by
  intro c
  induction c with
  | zero =>
    intro n j hn hj
    obtain ⟨n, rfl⟩ : ∃ m, n = m + 1 := ⟨n - 1, by omega⟩
    have : j = 64 := by omega
    subst this
    rw [impl_TableOf_l6]; rfl
  | succ c ih =>
    intro n j hn hj
    obtain ⟨n, rfl⟩ : ∃ m, n = m + 1 := ⟨n - 1, by omega⟩
    have := ih n (j + 1) (by omega) (by omega)
    rw [impl_TableOf_l6, decide_eq_true (show (j : Int) < 64 by omega), cond_true, dnn, cond_true, bit_byte t (by omega), decide_eq_true (show (tabL t j).length + [bitB t j].length ≤ LIM by rw [tabL_length]; simp [LIM]; omega), cond_true, ← tabL_succ, wrap64 (by omega) (by omega)]
    exact this
theorem spec_tab_loop {R : Type} (t : BitVec 64) (k : List Int → Option R) : ∀ (c n j : Nat), c < n → j + c = 64 → spec_TableOf_l6 n (U t) 64 (j : Int) (tabL t j ++ List.replicate c 0) k = k (tabL t 64) := by
  intro c
  induction c with
  | zero =>
    intro n j hn hj
    obtain ⟨n, rfl⟩ : ∃ m, n = m + 1 := ⟨n - 1, by omega⟩
    have : j = 64 := by omega
    subst this
    rw [spec_TableOf_l6]
    simp
  | succ c ih =>
    intro n j hn hj
    obtain ⟨n, rfl⟩ : ∃ m, n = m + 1 := ⟨n - 1, by omega⟩
    have := ih n (j + 1) (by omega) (by omega)
    have hu : IntKind.wrap .u64 (j : Int) = (j : Int) := wrap_u (by omega) (by omega)
    have hl : (tabL t j ++ List.replicate (c + 1) (0 : Int)).length = 64 := by rw [List.length_append, tabL_length, List.length_replicate]; omega
    have hset : (tabL t j ++ List.replicate (c + 1) (0 : Int)).set j (bitB t j) = tabL t (j + 1) ++ List.replicate c 0 := by
      rw [List.set_append_right _ _ (by rw [tabL_length]; omega), tabL_length, Nat.sub_self, List.replicate_succ, List.set_cons_zero, tabL_succ, List.append_assoc]; rfl
    rw [spec_TableOf_l6, decide_eq_true (show (j : Int) < 64 by omega), cond_true, hu, dnn, cond_true, cond_true, hl, decide_eq_true (show (j : Int) < ((64 : Nat) : Int) by omega), cond_true, bit_byte t (by omega), Int.toNat_natCast, hset, wrap64 (by omega) (by omega)]
    exact this
def tabS (t : BitVec 64) : ByteArray := bytesOf (tabL t 64)
theorem read_ex {n : Nat} (hn : 3000 ≤ n) (s : ByteArray) : ∃ (ti ts : BitVec 64) (ok : Bool), (ok = true → ti = ts) ∧ (∀ (R : Type) (k : Int → Bool → Option R), impl_readForm n s k = k (U ti) ok) ∧ ∀ (R : Type) (k : Int → Bool → Option R), spec_l7Table n s k = k (U ts) ok := by
  by_cases h : (s.size : Int) > 60
  · exact ⟨0, 0, false, fun _ => rfl, fun R k => by unfold impl_readForm; rw [decide_eq_true h]; rfl, fun R k => by unfold spec_l7Table; rw [decide_eq_true h]; rfl⟩
  · obtain ⟨t, t', fl, pos, rest, w⟩ := two_ex (s := s) (by omega) 60 n 0 (by omega) (by omega) (by omega)
    have wi := w.impl
    have ws := w.spec
    rw [extract_all] at wi
    rw [show ((0 : Nat) : Int) = 0 from rfl] at ws
    cases fl with
    | true => exact ⟨t', t, false, fun h => (by cases h), fun R k => by unfold impl_readForm; rw [decide_eq_false h, cond_false, wi]; rfl, fun R k => by unfold spec_l7Table; rw [decide_eq_false h, cond_false, ws]; rfl⟩
    | false =>
      obtain ⟨e1, q, q1, q2, q3, q4⟩ := w.tied rfl
      subst e1 q3 q4
      have hz : (s.extract q s.size).size = s.size - q := by rw [ByteArray.size_extract]; omega
      refine ⟨t, t, decide (q = s.size), fun _ => rfl, fun R k => ?_, fun R k => ?_⟩
      · unfold impl_readForm
        rw [decide_eq_false h, cond_false, wi, Bool.not_false, cond_true, rest_nil, hz]
        congr 1
        exact decide_eq_decide.2 ⟨fun h => by omega, fun h => by omega⟩
      · unfold spec_l7Table
        rw [decide_eq_false h, cond_false, ws, Bool.not_false, cond_true]
        congr 1
        rw [Bool.eq_iff_iff, beq_iff_eq, decide_eq_true_iff]
        omega
theorem tabS_size (t : BitVec 64) : (tabS t).size = 64 := by
  show ((tabL t 64).map _).toArray.size = 64
  rw [List.size_toArray, List.length_map, tabL_length]
theorem tabS_get (t : BitVec 64) {i : Nat} (hi : i < 64) : (((tabS t).data.getD i 0).toNat : Int) = bitB t i := by
  have : (tabS t).data = ((tabL t 64).map fun n => UInt8.ofNat n.toNat).toArray := rfl
  rw [this, Array.getD_eq_getD_getElem?, List.getElem?_toArray, List.getElem?_map]
  unfold tabL
  rw [List.getElem?_map, List.getElem?_range hi]
  unfold bitB
  simp only [Option.map_some, Option.getD_some]
  cases t.getLsbD i <;> rfl
theorem tabS_inj {t s : BitVec 64} (h : tabS t = tabS s) : t = s := bv_ext fun i hi => by
  have h1 := tabS_get t hi
  rw [h, tabS_get s hi] at h1
  unfold bitB at h1
  cases ht : t.getLsbD i <;> cases hs : s.getLsbD i <;> rw [ht, hs] at h1 <;> first | rfl | (exact absurd h1 (by decide))
theorem toList_eq' (b : ByteArray) : ∀ (m i : Nat) (r : List UInt8), b.size - i ≤ m → ByteArray.toList.loop b i r = r.reverse ++ (b.data.toList.drop i) := by
  intro m
  induction m with
  | zero =>
    intro i r h
    unfold ByteArray.toList.loop
    have : b.data.toList.length = b.size := rfl
    rw [if_neg (by omega), List.drop_eq_nil_iff.2 (by omega), List.append_nil]
  | succ m ih =>
    intro i r h
    unfold ByteArray.toList.loop
    have hl : b.data.toList.length = b.size := rfl
    by_cases c : i < b.size
    · rw [if_pos c, ih _ _ (by omega), List.reverse_cons, List.append_assoc, List.drop_eq_getElem_cons (show i < b.data.toList.length by omega)]
      have : b.get! i = b.data.toList[i] := by
        show b.data[i]! = _
        rw [getElem!_pos b.data i c]; rfl
      rw [this]; rfl
    · rw [if_neg c, List.drop_eq_nil_iff.2 (by omega), List.append_nil]
theorem toList_inj {a b : ByteArray} (h : ByteArray.toList a = ByteArray.toList b) : a = b := by
  unfold ByteArray.toList at h
  rw [toList_eq' a a.size 0 [] (by omega), toList_eq' b b.size 0 [] (by omega)] at h
  apply ByteArray.ext
  apply Array.toList_inj.1
  simpa using h
theorem same_gen {R : Type} {a b : List (Int × Int × Int)} (hl : a.length = b.length) (h : a.length ≤ 1000) (x y : Int) (kr : Bool → Option R) (ke : Option R) : ∀ (c n j : Nat), c < n → j + c = a.length → laws_sameDiagrams_l4 n (a.length : Int) (j : Int) a x b y kr ke = if a.drop j = b.drop j then ke else kr false
  | _, 0, _, h, _ => by omega
  | 0, n + 1, j, hn, hj => by
    rw [laws_sameDiagrams_l4, dge (by omega), List.drop_eq_nil_iff.2 (by omega), List.drop_eq_nil_iff.2 (by omega)]; rfl
  | c + 1, n + 1, j, hn, hj => by
    have h1 : j < a.length := by omega
    have h2 : j < b.length := by omega
    have ih := same_gen hl h x y kr ke c n (j + 1) (by omega) (by omega)
    rw [laws_sameDiagrams_l4, dlt h1, dlt h2, dnn, getD_at _ _ h1, getD_at _ _ h2, wrapS h1 (by omega), List.drop_eq_getElem_cons h1, List.drop_eq_getElem_cons h2]
    simp only [cond_true]
    have e : ((a[j].1 == b[j].1) && ((a[j].2.1 == b[j].2.1) && ((a[j].2.2 == b[j].2.2) && true))) = decide (a[j] = b[j]) := cho_eq a h1 b[j].1 b[j].2.1 b[j].2.2
    rw [e]
    by_cases g : a[j] = b[j]
    · rw [decide_eq_true g, Bool.not_true, cond_false, ih, g]
      simp only [List.cons.injEq, true_and]
    · rw [decide_eq_false g, Bool.not_false, cond_true, if_neg (fun h => g (List.cons.inj h).1)]
theorem same_dec {R : Type} {n : Nat} {a b : List (Int × Int × Int)} (h : a.length ≤ 1000) (hn : 3000 ≤ n) (x y : Int) (k : Bool → Option R) : laws_sameDiagrams n a x b y k = k (decide (x = y ∧ a = b)) := by
  unfold laws_sameDiagrams
  by_cases c : x = y
  · subst c
    by_cases d : a.length = b.length
    · have := same_gen d h x x (fun r1 => k r1) (k true) a.length n 0 (by omega) (by omega)
      rw [show ((0 : Nat) : Int) = 0 from rfl, List.drop_zero, List.drop_zero] at this
      rw [bne_self_eq_false, cond_false, show ((a.length : Int) != (b.length : Int)) = false by simp [d], cond_false, this]
      by_cases e : a = b
      · rw [if_pos e, decide_eq_true ⟨rfl, e⟩]
      · rw [if_neg e, decide_eq_false fun h => e h.2]
    · rw [bne_self_eq_false, cond_false, show ((a.length : Int) != (b.length : Int)) = true by simp; omega, cond_true, decide_eq_false fun h => d (by rw [h.2])]
  · rw [show (x != y) = true by simpa using c, cond_true, decide_eq_false fun h => c h.1]
theorem bry_loop {R : Type} {l : List (Int × Int × Int)} {r : Int} {t : BitVec 64} (d : Dg l r t) (kr : Bool → Option R) (ke : Int → List (Int × Int × Int) → Int → Option R) : ∀ (c n j a : Nat), c + 4000 < n → j + c = 64 → a ≤ j → laws_FnBryant_l19 n (tabS t) (a : Int) (j : Int) l r kr ke = ke ((a + pcF c (t.toNat / 2 ^ j) : Nat) : Int) l r := by
  intro c
  induction c with
  | zero =>
    intro n j a hn hj ha
    obtain ⟨n, rfl⟩ : ∃ m, n = m + 1 := ⟨n - 1, by omega⟩
    rw [laws_FnBryant_l19, decide_eq_false (show ¬ (j : Int) < 64 by omega), cond_false]; rfl
  | succ c ih =>
    intro n j a hn hj ha
    obtain ⟨n, rfl⟩ : ∃ m, n = m + 1 := ⟨n - 1, by omega⟩
    have hj64 : j < 64 := by omega
    have hbit : ((((tabS t).data.getD (Int.toNat (j : Int)) 0).toNat : Int) == 49) = t.getLsbD j := by
      rw [Int.toNat_natCast, tabS_get t hj64]
      unfold bitB
      cases t.getLsbD j <;> rfl
    have hdiv : t.toNat / 2 ^ j / 2 = t.toNat / 2 ^ (j + 1) := by rw [Nat.div_div_eq_div_mul, Nat.pow_succ]
    have hm : t.toNat / 2 ^ j % 2 = (bif t.getLsbD j then 1 else 0) := by
      have : t.getLsbD j = t.toNat.testBit j := rfl
      rw [this, Nat.testBit_eq_decide_div_mod_eq]
      rcases Nat.mod_two_eq_zero_or_one (t.toNat / 2 ^ j) with e | e <;> rw [e] <;> rfl
    rw [laws_FnBryant_l19, decide_eq_true (show (j : Int) < 64 by omega), cond_true, decide_eq (by omega) d hj64, Bool.not_true, cond_false, dnn, cond_true, tabS_size, decide_eq_true (show (j : Int) < ((64 : Nat) : Int) by omega), cond_true, hbit, beq_self_eq_true, Bool.not_true, cond_false, pcF, hdiv, hm]
    cases t.getLsbD j with
    | true =>
      have := ih n (j + 1) (a + 1) (by omega) (by omega) (by omega)
      rw [cond_true, cond_true, wrap64 (x := (a : Int) + 1) (by omega) (by omega), wrap64 (x := (j : Int) + 1) (by omega) (by omega), ← Nat.add_assoc]
      exact this
    | false =>
      have := ih n (j + 1) a (by omega) (by omega) (by omega)
      rw [cond_false, cond_false, wrap64 (x := (j : Int) + 1) (by omega) (by omega), Nat.zero_add]
      exact this
theorem bytes_size (l : List Int) : (bytesOf l).size = l.length := by
  show ((l.map _).toArray).size = l.length
  rw [List.size_toArray, List.length_map]
theorem spoilt_loop {l : List Int} (hl : Bytes l) (x1 : ByteArray) (hx : 0 < x1.size ∧ x1.size ≤ 10) : ∀ (c n : Nat) (f : ByteArray) (p s : Int), c < n → f.size + c ≤ 2000 → 0 ≤ p → p + 6 * c ≤ 4000000 → ∃ (g : ByteArray) (p' s' : Int), ∀ (R : Type) (k : ByteArray → List Int → Int → Int → Option R), spec_l1Cur_spoilt_l2 n f x1 (c : Int) l p s k = k g l p' s' := by
  intro c
  induction c with
  | zero =>
    intro n f p s hn hf h0 h1
    obtain ⟨n, rfl⟩ : ∃ m, n = m + 1 := ⟨n - 1, by omega⟩
    exact ⟨f, p, s, fun R k => by rw [spec_l1Cur_spoilt_l2]; rfl⟩
  | succ c ih =>
    intro n f p s hn hf h0 h1
    obtain ⟨n, rfl⟩ : ∃ m, n = m + 1 := ⟨n - 1, by omega⟩
    by_cases hz : (f.size : Int) > 0
    · obtain ⟨i, p1, s1, i0, i1, a1, a2, hb1⟩ := pick_ex hl n (m := (f.size : Int)) (s := s) (by omega) h0 (by omega)
      obtain ⟨j, p2, s2, j0, j1, a3, a4, hb2⟩ := pick_ex hl n (m := (x1.size : Int)) (s := s1) (by omega) (show 0 ≤ p1 by omega) (by omega)
      obtain ⟨w, p3, s3, w0, w1, a5, a6, hb3⟩ := pick_ex hl n (m := 3) (s := s2) (by omega) (show 0 ≤ p2 by omega) (by omega)
      have hi : i < (f.size : Int) := by omega
      have hj : j < (x1.size : Int) := by omega
      have hw1 : IntKind.wrap .i64 (i + 1) = i + 1 := wrap64 (by omega) (by omega)
      have hwc : IntKind.wrap .i64 (((c + 1 : Nat) : Int) - 1) = (c : Int) := by rw [wrap64 (by omega) (by omega)]; omega
      have st : ∀ a b : ByteArray, a.size ≤ 5000 → b.size ≤ 5000 → decide (a.size + b.size ≤ STR) = true := fun a b h1 h2 => decide_eq_true (by unfold STR; omega)
      have z1 : (ByteArray.extract f 0 (Int.toNat i)).size = Int.toNat i := by rw [ByteArray.size_extract]; omega
      have z2 : (ByteArray.extract f (Int.toNat i) (Int.toNat (f.size : Int))).size = f.size - Int.toNat i := by rw [ByteArray.size_extract]; omega
      have z3 : (ByteArray.extract f (Int.toNat (i + 1)) (Int.toNat (f.size : Int))).size = f.size - Int.toNat (i + 1) := by rw [ByteArray.size_extract]; omega
      have z4 : (bytesOf ([((x1.data.getD (Int.toNat j) 0).toNat : Int)])).size = 1 := bytes_size _
      by_cases w2 : w = 0
      · subst w2
        obtain ⟨g, p', s', hg⟩ := ih n (((ByteArray.extract f 0 (Int.toNat i)) ++ (bytesOf ([((x1.data.getD (Int.toNat j) 0).toNat : Int)]))) ++ (ByteArray.extract f (Int.toNat i) (Int.toNat (f.size : Int)))) p3 s3 (by omega) (by simp only [ByteArray.size_append]; omega) (by omega) (by omega)
        refine ⟨g, p', s', fun R k => ?_⟩
        rw [spec_l1Cur_spoilt_l2, decide_eq_true (show ((c + 1 : Nat) : Int) > 0 by omega), cond_true, decide_eq_true hz, cond_true, hb1, hb2, decide_eq_true j0, cond_true, decide_eq_true hj, cond_true, hb3, beq_self_eq_true, cond_true, decide_eq_true i0, cond_true, decide_eq_true (show i ≤ (f.size : Int) by omega), cond_true, st _ _ (by omega) (by omega), cond_true, cond_true, cond_true, decide_eq_true (Int.le_refl _), cond_true, st _ _ (by rw [ByteArray.size_append]; omega) (by omega), cond_true, hwc]
        exact hg R k
      · by_cases w3 : w = 1
        · subst w3
          obtain ⟨g, p', s', hg⟩ := ih n (((ByteArray.extract f 0 (Int.toNat i)) ++ (bytesOf ([((x1.data.getD (Int.toNat j) 0).toNat : Int)]))) ++ (ByteArray.extract f (Int.toNat (i + 1)) (Int.toNat (f.size : Int)))) p3 s3 (by omega) (by simp only [ByteArray.size_append]; omega) (by omega) (by omega)
          refine ⟨g, p', s', fun R k => ?_⟩
          rw [spec_l1Cur_spoilt_l2, decide_eq_true (show ((c + 1 : Nat) : Int) > 0 by omega), cond_true, decide_eq_true hz, cond_true, hb1, hb2, decide_eq_true j0, cond_true, decide_eq_true hj, cond_true, hb3, bne' w2, cond_false, beq_self_eq_true, cond_true, decide_eq_true i0, cond_true, decide_eq_true (show i ≤ (f.size : Int) by omega), cond_true, st _ _ (by omega) (by omega), cond_true, hw1, decide_eq_true (show 0 ≤ i + 1 by omega), cond_true, decide_eq_true (show i + 1 ≤ (f.size : Int) by omega), cond_true, decide_eq_true (Int.le_refl _), cond_true, st _ _ (by rw [ByteArray.size_append]; omega) (by omega), cond_true, hwc]
          exact hg R k
        · obtain ⟨g, p', s', hg⟩ := ih n ((ByteArray.extract f 0 (Int.toNat i)) ++ (ByteArray.extract f (Int.toNat (i + 1)) (Int.toNat (f.size : Int)))) p3 s3 (by omega) (by simp only [ByteArray.size_append]; omega) (by omega) (by omega)
          refine ⟨g, p', s', fun R k => ?_⟩
          rw [spec_l1Cur_spoilt_l2, decide_eq_true (show ((c + 1 : Nat) : Int) > 0 by omega), cond_true, decide_eq_true hz, cond_true, hb1, hb2, decide_eq_true j0, cond_true, decide_eq_true hj, cond_true, hb3, bne' w2, cond_false, bne' w3, cond_false, decide_eq_true i0, cond_true, decide_eq_true (show i ≤ (f.size : Int) by omega), cond_true, hw1, decide_eq_true (show 0 ≤ i + 1 by omega), cond_true, decide_eq_true (show i + 1 ≤ (f.size : Int) by omega), cond_true, decide_eq_true (Int.le_refl _), cond_true, st _ _ (by omega) (by omega), cond_true, hwc]
          exact hg R k
    · exact ⟨f, p, s, fun R k => by rw [spec_l1Cur_spoilt_l2, decide_eq_true (show ((c + 1 : Nat) : Int) > 0 by omega), cond_true, decide_eq_false hz, cond_false]⟩
theorem drawForm_ex {l : List Int} (hl : Bytes l) {n : Nat} (hn : 4000 ≤ n) : ∃ f : ByteArray, ∀ (R : Type) (k : ByteArray → Option R), spec_DrawGoodForm n l k = k f := by
  obtain ⟨i, p1, s1, i0, i1, g1, g2, hb1⟩ := pick_ex hl n (m := 5) (p := 0) (s := 0) (by omega) (by omega) (by omega)
  obtain ⟨d, rfl⟩ : ∃ d : Nat, i = (d : Int) := ⟨i.toNat, by omega⟩
  have hd4 : d = 0 ∨ d = 1 ∨ d = 2 ∨ d = 3 ∨ d = 4 := by omega
  have hd : (4 : Int) ^ d ≤ 256 := by
    rcases hd4 with h | h | h | h | h <;> subst h <;> decide
  have hdn : (4 : Nat) ^ (d + 1) ≤ 1024 := by
    rcases hd4 with h | h | h | h | h <;> subst h <;> decide
  obtain ⟨f, p2, s2, hf, g3, g4, hb2⟩ := form_ex hl d n p1 s1 (by omega) (by omega) (by omega)
  obtain ⟨b3, p3, s3, g5, g6, hb3⟩ := one_ex hl n (m := 12) (s := s2) (by omega) (show 0 ≤ p2 by omega) (by omega)
  cases b3 with
  | false => exact ⟨f, fun R k => by unfold spec_DrawGoodForm; rw [hb1, hb2, hb3]; rfl⟩
  | true =>
    obtain ⟨c, p4, s4, c0, c1, g7, g8, hb4⟩ := pick_ex hl n (m := 3) (s := s3) (by omega) (show 0 ≤ p3 by omega) (by omega)
    obtain ⟨c, rfl⟩ : ∃ d : Nat, c = (d : Int) := ⟨c.toNat, by omega⟩
    obtain ⟨g, p', s', hg⟩ := spoilt_loop hl (ByteArray.mk #[33, 40, 38, 41, 97]) ⟨by decide, by decide⟩ c n f p4 s4 (by omega) (by omega) (by omega) (by omega)
    exact ⟨g, fun R k => by unfold spec_DrawGoodForm spec_l1Cur_spoilt; rw [hb1, hb2, hb3, cond_true, hb4, hg]⟩
theorem diag_both {n : Nat} (hn : 3000 ≤ n) {s : ByteArray} {ti ts : BitVec 64} {ok : Bool} (he : ok = true → ti = ts) (hi : ∀ (R : Type) (k : Int → Bool → Option R), impl_readForm n s k = k (U ti) ok) (hs : ∀ (R : Type) (k : Int → Bool → Option R), spec_l7Table n s k = k (U ts) ok) : ∃ (r : Int) (g : List (Int × Int × Int)), g.length ≤ 63 ∧ (ok = true → Dg g r ti) ∧ (∀ (R : Type) (k : Int → Bool → List (Int × Int × Int) → Option R), impl_DiagramOf n s k = k r ok g) ∧ ∀ (R : Type) (k : Int → Bool → List (Int × Int × Int) → Option R), spec_DiagramOf n s k = k r ok g := by
  cases ok with
  | false =>
    refine ⟨0, [], by simp, fun h => (by cases h), fun R k => ?_, fun R k => ?_⟩
    · unfold impl_DiagramOf; rw [hi]; rfl
    · unfold spec_DiagramOf; rw [hs]; rfl
  | true =>
    have := he rfl
    subst this
    obtain ⟨r, g, d, _, hd⟩ := dg_ex ti
    refine ⟨r, g, d.len, fun _ => d, fun R k => ?_, fun R k => ?_⟩
    · unfold impl_DiagramOf; rw [hi, Bool.not_true, cond_false, d.diag n hn]
    · unfold spec_DiagramOf; rw [hs, Bool.not_true, cond_false, hd n hn]; rfl
theorem tab_both {n : Nat} (hn : 3000 ≤ n) {s : ByteArray} {ti ts : BitVec 64} {ok : Bool} (he : ok = true → ti = ts) (hi : ∀ (R : Type) (k : Int → Bool → Option R), impl_readForm n s k = k (U ti) ok) (hs : ∀ (R : Type) (k : Int → Bool → Option R), spec_l7Table n s k = k (U ts) ok) : ∃ S : ByteArray, (ok = true → S = tabS ti) ∧ (∀ (R : Type) (k : ByteArray → Bool → Option R), impl_TableOf n s k = k S ok) ∧ ∀ (R : Type) (k : ByteArray → Bool → Option R), spec_TableOf n s k = k S ok := by
  cases ok with
  | false =>
    refine ⟨ByteArray.mk #[], fun h => (by cases h), fun R k => ?_, fun R k => ?_⟩
    · unfold impl_TableOf; rw [hi]; rfl
    · unfold spec_TableOf; rw [hs]; rfl
  | true =>
    have := he rfl
    subst this
    refine ⟨tabS ti, fun _ => rfl, fun R k => ?_, fun R k => ?_⟩
    · unfold impl_TableOf
      rw [hi, Bool.not_true, cond_false]
      exact impl_tab_loop ti (fun r3 => k (bytesOf r3) true) 64 n 0 (by omega) (by omega)
    · unfold spec_TableOf
      rw [hs, Bool.not_true, cond_false]
      exact spec_tab_loop ti (fun r3 => k (bytesOf r3) true) 64 n 0 (by omega) (by omega)
theorem key {R : Type} {n : Nat} {l m : List Int} (hl : Bytes l) (hm : Bytes m) (hn : 20000 ≤ n) (k : Bool → Option R) : laws_FnBryant n l m k = k true := by
  have hn3 : 3000 ≤ n := by omega
  unfold laws_FnBryant
  cases decide (IntKind.wrap .i64 ((l.length : Int) + (m.length : Int)) > 1048576) with
  | true => rfl
  | false =>
  obtain ⟨a, ha⟩ := drawForm_ex hl (n := n) (by omega)
  obtain ⟨b, hb⟩ := drawForm_ex hm (n := n) (by omega)
  obtain ⟨ti, ts, ok, he, hi, hs⟩ := read_ex hn3 a
  obtain ⟨ui, us, ok', he', hi', hs'⟩ := read_ex hn3 b
  obtain ⟨r, g, hg, hd, hdi, hds⟩ := diag_both hn3 he hi hs
  obtain ⟨r', g', hg', hd', hdi', hds'⟩ := diag_both hn3 he' hi' hs'
  obtain ⟨S, hS, hti, hts⟩ := tab_both hn3 he hi hs
  obtain ⟨S', hS', hti', hts'⟩ := tab_both hn3 he' hi' hs'
  rw [cond_false]
  unfold spec_DrawDiagramOf spec_DrawTableOf impl_GoodForm
  simp only [ha, hb, hdi, hds, hdi', hti, hts, hti', hi, beq_self_eq_true, Bool.not_true, cond_false, same_dec (show g.length ≤ 1000 by omega) hn3, true_and, decide_true]
  cases ok with
  | false => rfl
  | true =>
    cases ok' with
    | false => rfl
    | true =>
      have d := hd rfl
      have d' := hd' rfl
      have e1 := hS rfl
      have e2 := hS' rfl
      subst e1 e2
      have heq : ((ByteArray.toList (tabS ti)) == (ByteArray.toList (tabS ui))) = decide (r = r' ∧ g = g') := by
        by_cases c : ti = ui
        · subst c
          have h1 : some (r, true, g) = some (r', true, g') := by
            rw [← d.diag n hn3 _ fun a b c => some (a, b, c), d'.diag n hn3]
          have h2 := Option.some.inj h1
          rw [beq_self_eq_true, decide_eq_true ⟨congrArg Prod.fst h2, congrArg (fun x => x.2.2) h2⟩]
        · rw [decide_eq_false, beq_eq_false_iff_ne]
          · exact fun h => c (tabS_inj (toList_inj h))
          · rintro ⟨h1, h2⟩
            subst h1 h2
            have h3 : some (U ti, true) = some (U ui, true) := by
              rw [← d.truth n hn3 _ fun a b => some (a, b), d'.truth n hn3]
            exact c (U_inj (congrArg Prod.fst (Option.some.inj h3)))
      have hloop := fun kr ke => bry_loop (R := R) d kr ke 64 n 0 0 (by omega) (by omega) (by omega)
      rw [show ((0 : Nat) : Int) = 0 from rfl] at hloop
      obtain ⟨f1, f2⟩ := wF_nat ti
      rw [heq, beq_self_eq_true]
      unfold impl_GoodDiagram impl_CountYes
      simp only [Bool.not_true, cond_false, d.truth n hn3, hloop, ones_val n ti _ f1 f2, cond_true, Nat.pow_zero, Nat.div_one, Nat.zero_add, beq_self_eq_true]
theorem plain : Plain := fun d e h h' R k => ⟨20000, key (fun x hx => h.2 x hx) (fun x hx => h'.2 x hx) (by omega) k⟩
end Go.Am.G
