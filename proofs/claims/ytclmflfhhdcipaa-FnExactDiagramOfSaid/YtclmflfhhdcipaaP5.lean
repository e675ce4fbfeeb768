/- The plain law: what the functions compute answers as the law says, for all arguments. -/
import Derived.Test.YtclmflfhhdcipaaF5
set_option linter.unusedVariables false
set_option linter.unusedSimpArgs false
namespace Go.Am.G
open Go Go.Am
theorem wrap64 {x : Int} (h1 : -9223372036854775808 ≤ x) (h2 : x ≤ 9223372036854775807) : IntKind.wrap .i64 x = x := by
  simp only [IntKind.wrap, IntKind.signed, IntKind.bits]
  simp
  omega
theorem getD_at {α : Type} (l : List α) (d : α) {j : Nat} (h : j < l.length) : l.getD (Int.toNat (j : Int)) d = l[j] := by
  rw [Int.toNat_natCast, List.getD_eq_getElem?_getD, List.getElem?_eq_getElem h]; rfl
theorem dlt {a b : Nat} (h : a < b) : decide ((a : Int) < (b : Int)) = true := decide_eq_true (by omega)
theorem dge {a b : Nat} (h : b ≤ a) : decide ((a : Int) < (b : Int)) = false := decide_eq_false (by omega)
theorem dnn (a : Nat) : decide (0 ≤ (a : Int)) = true := decide_eq_true (by omega)
theorem wrapS {j m : Nat} (h : j < m) (hm : m ≤ 9223372036854775807) : IntKind.wrap .i64 ((j : Int) + 1) = ((j + 1 : Nat) : Int) := by
  rw [wrap64 (by omega) (by omega)]; rfl
def U (b : BitVec 64) : Int := (b.toNat : Int)
theorem U_inj {a b : BitVec 64} (h : U a = U b) : a = b := BitVec.eq_of_toNat_eq (by unfold U at h; omega)
theorem U_beq (a b : BitVec 64) : (U a == U b) = decide (a = b) := by
  by_cases c : a = b
  · subst c; simp
  · rw [decide_eq_false c]
    simpa using fun h => c (U_inj h)
theorem of_U (b : BitVec 64) : BitVec.ofInt 64 (U b) = b := by
  show BitVec.ofInt 64 (b.toNat : Int) = b
  rw [BitVec.ofInt_natCast, BitVec.ofNat_toNat, BitVec.setWidth_eq]
theorem wrap_u {x : Int} (h0 : 0 ≤ x) (h1 : x < 18446744073709551616) : IntKind.wrap .u64 x = x := by
  simp only [IntKind.wrap, IntKind.signed, IntKind.bits]
  simp
  omega
theorem U_lt (b : BitVec 64) : 0 ≤ U b ∧ U b < 18446744073709551616 := by
  have := b.isLt
  unfold U
  omega
theorem wrap_U (b : BitVec 64) : IntKind.wrap .u64 (Int.ofNat b.toNat) = U b := wrap_u (U_lt b).1 (U_lt b).2
theorem wrap_U' (b : BitVec 64) : IntKind.wrap .u64 ((b.toNat : Nat) : Int) = U b := wrap_u (U_lt b).1 (U_lt b).2
theorem or_U (a b : BitVec 64) : IntKind.wrap .u64 (Int.ofNat (BitVec.toNat (BitVec.ofInt (IntKind.bits .u64) (U a) ||| BitVec.ofInt (IntKind.bits .u64) (U b)))) = U (a ||| b) := by
  show IntKind.wrap .u64 (Int.ofNat (BitVec.toNat (BitVec.ofInt 64 (U a) ||| BitVec.ofInt 64 (U b)))) = _
  rw [of_U, of_U, wrap_U]
theorem and_U (a b : BitVec 64) : IntKind.wrap .u64 (Int.ofNat (BitVec.toNat (BitVec.ofInt (IntKind.bits .u64) (U a) &&& BitVec.ofInt (IntKind.bits .u64) (U b)))) = U (a &&& b) := by
  show IntKind.wrap .u64 (Int.ofNat (BitVec.toNat (BitVec.ofInt 64 (U a) &&& BitVec.ofInt 64 (U b)))) = _
  rw [of_U, of_U, wrap_U]
theorem andn_U (a b : BitVec 64) : IntKind.wrap .u64 (Int.ofNat (BitVec.toNat (BitVec.ofInt (IntKind.bits .u64) (U a) &&& ~~~ BitVec.ofInt (IntKind.bits .u64) (U b)))) = U (a &&& ~~~ b) := by
  show IntKind.wrap .u64 (Int.ofNat (BitVec.toNat (BitVec.ofInt 64 (U a) &&& ~~~ BitVec.ofInt 64 (U b)))) = _
  rw [of_U, of_U, wrap_U]
theorem not_U (b : BitVec 64) : IntKind.wrap .u64 (BitVec.toNat (BitVec.ofInt (IntKind.bits .u64) (18446744073709551615) ^^^ BitVec.ofInt (IntKind.bits .u64) (U b))) = U (~~~ b) := by
  show IntKind.wrap .u64 ((BitVec.toNat (BitVec.ofInt 64 (U (BitVec.allOnes 64)) ^^^ BitVec.ofInt 64 (U b)) : Nat) : Int) = _
  rw [of_U, of_U, wrap_U', BitVec.allOnes_xor]
theorem shl_U (b : BitVec 64) (s : Nat) : IntKind.wrap .u64 (U b * 2 ^ s) = U (b <<< s) := by
  unfold U
  rw [BitVec.toNat_shiftLeft, Nat.shiftLeft_eq]
  simp only [IntKind.wrap, IntKind.signed, IntKind.bits]
  simp
theorem shr_U (b : BitVec 64) (s : Nat) : Int.fdiv (U b) (2 ^ s) = U (b >>> s) := by
  unfold U
  rw [BitVec.toNat_ushiftRight, Nat.shiftRight_eq_div_pow, Int.fdiv_eq_ediv_of_nonneg _ (Int.le_of_lt (Int.pow_pos (by omega)))]
  simp
theorem U_zero : U 0 = 0 := rfl
theorem U_all : U (BitVec.allOnes 64) = 18446744073709551615 := rfl
/-- A variable's table. -/
def mkM (v : Nat) : Nat → BitVec 64
  | 0 => 0
  | j + 1 => bif j.testBit v then mkM v j ||| BitVec.twoPow 64 j else mkM v j
def msk (v : Nat) : BitVec 64 := mkM v 64
theorem mkM_bit (v : Nat) : ∀ (j i : Nat), j ≤ 64 → i < 64 → (mkM v j).getLsbD i = (decide (i < j) && i.testBit v)
  | 0, i, _, _ => by simp [mkM]
  | j + 1, i, hj, hi => by
    have ih := mkM_bit v j i (by omega) hi
    unfold mkM
    cases hb : j.testBit v with
    | true =>
      simp only [cond_true]
      rw [BitVec.getLsbD_or, ih, BitVec.getLsbD_twoPow]
      by_cases c : i = j
      · subst c; simp [hb]; omega
      · have : (i < j + 1) = (i < j) := by rw [eq_iff_iff]; omega
        simp [this]; omega
    | false =>
      simp only [cond_false]
      rw [ih]
      by_cases c : i = j
      · subst c; simp [hb]
      · have : (i < j + 1) = (i < j) := by rw [eq_iff_iff]; omega
        simp [this]
theorem msk_bit {v i : Nat} (hi : i < 64) : (msk v).getLsbD i = i.testBit v := by
  unfold msk
  rw [mkM_bit v 64 i (by omega) hi]
  simp [hi]
theorem var_bit : ∀ j : Fin 64, ∀ v : Fin 6, ((IntKind.wrap .i64 (Int.ofNat (BitVec.toNat (BitVec.ofInt (IntKind.bits .i64) (Int.fdiv ((j.val : Nat) : Int) (2 ^ (min (Int.toNat ((v.val : Nat) : Int)) (IntKind.bits .i64)))) &&& BitVec.ofInt (IntKind.bits .i64) 1)))) == 1) = j.val.testBit v.val := by decide +kernel
theorem pow_U : ∀ j : Fin 64, IntKind.wrap .u64 (1 * 2 ^ (min (Int.toNat ((j.val : Nat) : Int)) (IntKind.bits .u64))) = U (BitVec.twoPow 64 j.val) := by decide +kernel
theorem var_u : ∀ v : Fin 7, IntKind.wrap .u64 ((v.val : Nat) : Int) = ((v.val : Nat) : Int) := by decide +kernel
theorem impl_var_loop {R : Type} {v : Nat} (hv : v < 6) (k : Int → Option R) : ∀ (c n j : Nat), c < n → j + c = 64 → impl_varTruth_l3 n (v : Int) (U (mkM v j)) (j : Int) k = k (U (msk v))
  | _, 0, _, h, _ => by omega
  | 0, n + 1, j, _, hj => by
    have : j = 64 := by omega
    subst this
    rw [impl_varTruth_l3, decide_eq_false (show ¬ ((64 : Nat) : Int) < 64 by omega)]; rfl
  | c + 1, n + 1, j, hn, hj => by
    have hlt : j < 64 := by omega
    have hb := var_bit ⟨j, hlt⟩ ⟨v, hv⟩
    have hp := pow_U ⟨j, hlt⟩
    dsimp only at hb hp
    rw [impl_varTruth_l3]
    rw [decide_eq_true (show (j : Int) < 64 by omega), dnn, dnn, hb, hp, or_U, wrapS hlt (by omega)]
    simp only [cond_true]
    have ih := impl_var_loop hv k c n (j + 1) (by omega) (by omega)
    unfold mkM at ih
    cases htb : j.testBit v with
    | true => rw [htb] at ih; exact ih
    | false => rw [htb] at ih; exact ih
theorem impl_var_eq {R : Type} {n v : Nat} (hv : v < 6) (hn : 70 ≤ n) (k : Int → Option R) : impl_varTruth n (v : Int) k = k (U (msk v)) := by
  have := impl_var_loop hv k 64 n 0 (by omega) (by omega)
  unfold impl_varTruth
  exact this
theorem spec_var_loop {R : Type} {v : Nat} (hv : v < 6) (k : Int → Option R) : ∀ (c n j : Nat), c < n → j + c = 64 → spec_l7Var_l3 n (v : Int) (U (mkM v j)) (j : Int) k = k (U (msk v))
  | _, 0, _, h, _ => by omega
  | 0, n + 1, j, _, hj => by
    have : j = 64 := by omega
    subst this
    rw [spec_l7Var_l3, decide_eq_false (show ¬ ((64 : Nat) : Int) < 64 by omega)]; rfl
  | c + 1, n + 1, j, hn, hj => by
    have hlt : j < 64 := by omega
    have hb := var_bit ⟨j, hlt⟩ ⟨v, hv⟩
    have hp := pow_U ⟨j, hlt⟩
    have hu := var_u ⟨v, by omega⟩
    dsimp only at hb hp hu
    rw [spec_l7Var_l3]
    rw [decide_eq_true (show (j : Int) < 64 by omega), hu, wrap_u (x := (j : Int)) (by omega) (by omega), dnn, dnn, hb, hp, or_U, wrapS hlt (by omega)]
    simp only [cond_true]
    have ih := spec_var_loop hv k c n (j + 1) (by omega) (by omega)
    unfold mkM at ih
    cases htb : j.testBit v with
    | true => rw [htb] at ih; exact ih
    | false => rw [htb] at ih; exact ih
theorem spec_var_eq {R : Type} {n v : Nat} (hv : v < 6) (hn : 70 ≤ n) (k : Int → Option R) : spec_l7Var n (v : Int) k = k (U (msk v)) := by
  have := spec_var_loop hv k 64 n 0 (by omega) (by omega)
  unfold spec_l7Var
  exact this
/-- A table with a variable no or yes. -/
def hv (t : BitVec 64) (v : Nat) : Bool → BitVec 64
  | true => (t &&& msk v) ||| ((t &&& msk v) >>> (2 ^ v))
  | false => (t &&& ~~~ msk v) ||| ((t &&& ~~~ msk v) <<< (2 ^ v))
theorem two_i : ∀ v : Fin 6, IntKind.wrap .i64 (1 * 2 ^ (min (Int.toNat ((v.val : Nat) : Int)) (IntKind.bits .i64))) = ((2 ^ v.val : Nat) : Int) := by decide +kernel
theorem two_u : ∀ v : Fin 6, IntKind.wrap .u64 (1 * 2 ^ (min (Int.toNat ((v.val : Nat) : Int)) (IntKind.bits .u64))) = ((2 ^ v.val : Nat) : Int) := by decide +kernel
theorem two_min : ∀ v : Fin 6, min (Int.toNat ((2 ^ v.val : Nat) : Int)) (IntKind.bits .u64) = 2 ^ v.val := by decide +kernel
theorem impl_with_eq {R : Type} {n v : Nat} (h6 : v < 6) (hn : 70 ≤ n) (t : BitVec 64) (b : Bool) (k : Int → Option R) : impl_truth_with n (U t) (v : Int) b k = k (U (hv t v b)) := by
  have h1 := two_i ⟨v, h6⟩
  have h2 := two_min ⟨v, h6⟩
  dsimp only at h1 h2
  unfold impl_truth_with
  rw [impl_var_eq h6 hn, dnn, h1, dnn, h2, and_U, andn_U, shr_U, shl_U, or_U, or_U]
  cases b <;> rfl
theorem spec_half_eq {R : Type} {n v : Nat} (h6 : v < 6) (hn : 70 ≤ n) (t : BitVec 64) (b : Bool) (k : Int → Option R) : spec_l7Half n (U t) (v : Int) b k = k (U (hv t v b)) := by
  have h1 := two_u ⟨v, h6⟩
  have h2 := two_min ⟨v, h6⟩
  have hu := var_u ⟨v, by omega⟩
  dsimp only at h1 h2 hu
  unfold spec_l7Half
  rw [spec_var_eq h6 hn, hu, dnn, h1, dnn, h2, and_U, andn_U, shr_U, shl_U, or_U, or_U]
  cases b <;> rfl
def st (i v : Nat) (b : Bool) : Nat := bif i.testBit v == b then i else bif b then i + 2 ^ v else i - 2 ^ v
theorem st_lt : ∀ i : Fin 64, ∀ v : Fin 6, ∀ b, st i.val v.val b < 64 := by decide +kernel
theorem st_same : ∀ i : Fin 64, ∀ v : Fin 6, ∀ b c, st (st i.val v.val b) v.val c = st i.val v.val c := by decide +kernel
theorem st_comm : ∀ i : Fin 64, ∀ u v : Fin 6, u ≠ v → ∀ b c, st (st i.val u.val b) v.val c = st (st i.val v.val c) u.val b := by decide +kernel
theorem st_low : ∀ i : Fin 64, st (st (st (st (st (st i.val 0 false) 1 false) 2 false) 3 false) 4 false) 5 false = 0 := by decide +kernel
theorem st_add : ∀ i : Fin 64, ∀ v : Fin 6, i.val.testBit v.val = false → i.val + 2 ^ v.val < 64 ∧ (i.val + 2 ^ v.val).testBit v.val = true := by decide +kernel
theorem st_add' : ∀ i : Fin 64, ∀ v : Fin 6, i.val.testBit v.val = true → i.val + 2 ^ v.val < 64 → (i.val + 2 ^ v.val).testBit v.val = false := by decide +kernel
theorem st_sub : ∀ i : Fin 64, ∀ v : Fin 6, i.val.testBit v.val = true → 2 ^ v.val ≤ i.val ∧ (i.val - 2 ^ v.val).testBit v.val = false := by decide +kernel
theorem st_sub' : ∀ i : Fin 64, ∀ v : Fin 6, i.val.testBit v.val = false → 2 ^ v.val ≤ i.val → (i.val - 2 ^ v.val).testBit v.val = true := by decide +kernel
theorem hv_bit {t : BitVec 64} {v i : Nat} (h6 : v < 6) (hi : i < 64) (b : Bool) : (hv t v b).getLsbD i = t.getLsbD (st i v b) := by
  cases b with
  | true =>
    unfold hv st
    rw [BitVec.getLsbD_or, BitVec.getLsbD_and, msk_bit hi, BitVec.getLsbD_ushiftRight, BitVec.getLsbD_and]
    cases hb : i.testBit v with
    | true =>
      have : (msk v).getLsbD (2 ^ v + i) = false := by
        by_cases c : i + 2 ^ v < 64
        · rw [Nat.add_comm, msk_bit c]; exact st_add' ⟨i, hi⟩ ⟨v, h6⟩ hb c
        · exact BitVec.getLsbD_of_ge _ _ (by omega)
      rw [this]; simp
    | false =>
      obtain ⟨h1, h2⟩ := st_add ⟨i, hi⟩ ⟨v, h6⟩ hb
      dsimp only at h1 h2
      rw [Nat.add_comm, msk_bit h1, h2]; simp
  | false =>
    unfold hv st
    rw [BitVec.getLsbD_or, BitVec.getLsbD_and, BitVec.getLsbD_not, msk_bit hi, BitVec.getLsbD_shiftLeft, BitVec.getLsbD_and, BitVec.getLsbD_not]
    cases hb : i.testBit v with
    | true =>
      obtain ⟨h1, h2⟩ := st_sub ⟨i, hi⟩ ⟨v, h6⟩ hb
      dsimp only at h1 h2
      have h3 : ¬ i < 2 ^ v := Nat.not_lt.2 h1
      have h4 : i - 2 ^ v < 64 := Nat.lt_of_le_of_lt (Nat.sub_le _ _) hi
      rw [msk_bit h4, h2]
      simp [hi, h3, h4]
    | false =>
      by_cases c : 2 ^ v ≤ i
      · have h2 := st_sub' ⟨i, hi⟩ ⟨v, h6⟩ hb c
        dsimp only at h2
        rw [msk_bit (Nat.lt_of_le_of_lt (Nat.sub_le _ _) hi), h2]
        simp [hi]
      · have : decide (i < 2 ^ v) = true := by simp; omega
        rw [this]
        simp [hi]
theorem bv_ext {a b : BitVec 64} (h : ∀ i, i < 64 → a.getLsbD i = b.getLsbD i) : a = b := BitVec.eq_of_getLsbD_eq h
def Ind (t : BitVec 64) (v : Nat) : Prop := hv t v false = hv t v true
theorem Ind.bit {t : BitVec 64} {v : Nat} (h6 : v < 6) (h : Ind t v) {i : Nat} (hi : i < 64) (b : Bool) : t.getLsbD (st i v b) = t.getLsbD i := by
  have e := fun i (hi : i < 64) => congrArg (fun x => BitVec.getLsbD x i) h
  have e1 : t.getLsbD (st i v false) = t.getLsbD (st i v true) := by
    have := e i hi
    rwa [hv_bit h6 hi, hv_bit h6 hi] at this
  have e2 : st i v (i.testBit v) = i := by unfold st; simp
  cases b <;> cases hb : i.testBit v <;> rw [hb] at e2
  · rw [e2]
  · rw [e1, e2]
  · rw [← e1, e2]
  · rw [e2]
theorem Ind.half {t : BitVec 64} {u v : Nat} (hu : u < 6) (h6 : v < 6) (h : Ind t u) (b : Bool) : Ind (hv t v b) u := by
  refine bv_ext fun i hi => ?_
  have l1 := st_lt ⟨i, hi⟩ ⟨u, hu⟩
  have l2 := st_lt ⟨i, hi⟩ ⟨v, h6⟩
  dsimp only at l1 l2
  rw [hv_bit hu hi, hv_bit hu hi, hv_bit h6 (l1 _), hv_bit h6 (l1 _)]
  by_cases c : u = v
  · subst c
    have s := st_same ⟨i, hi⟩ ⟨u, hu⟩
    dsimp only at s
    rw [s, s]
  · have s := st_comm ⟨i, hi⟩ ⟨u, hu⟩ ⟨v, h6⟩ (fun e => c (congrArg Fin.val e))
    dsimp only at s
    rw [s, s, h.bit hu (l2 _), h.bit hu (l2 _)]
theorem ind_own {t : BitVec 64} {v : Nat} (h6 : v < 6) (b : Bool) : Ind (hv t v b) v := by
  refine bv_ext fun i hi => ?_
  have l1 := st_lt ⟨i, hi⟩ ⟨v, h6⟩
  have s := st_same ⟨i, hi⟩ ⟨v, h6⟩
  dsimp only at l1 s
  rw [hv_bit h6 hi, hv_bit h6 hi, hv_bit h6 (l1 _), hv_bit h6 (l1 _), s, s]
theorem Ind.const {t : BitVec 64} (h : ∀ u, u < 6 → Ind t u) : t = 0 ∨ t = BitVec.allOnes 64 := by
  have key : ∀ i, i < 64 → t.getLsbD i = t.getLsbD 0 := fun i hi => by
    have lt := fun (i : Nat) (hi : i < 64) (v : Nat) (hv : v < 6) => st_lt ⟨i, hi⟩ ⟨v, hv⟩ false
    dsimp only at lt
    have l := st_low ⟨i, hi⟩
    dsimp only at l
    have h0 := lt i hi 0 (by omega)
    have h1 := lt _ h0 1 (by omega)
    have h2 := lt _ h1 2 (by omega)
    have h3 := lt _ h2 3 (by omega)
    have h4 := lt _ h3 4 (by omega)
    rw [← l, (h 5 (by omega)).bit (by omega) h4, (h 4 (by omega)).bit (by omega) h3, (h 3 (by omega)).bit (by omega) h2, (h 2 (by omega)).bit (by omega) h1, (h 1 (by omega)).bit (by omega) h0, (h 0 (by omega)).bit (by omega) hi]
  cases hb : t.getLsbD 0 with
  | false => exact .inl (bv_ext fun i hi => by rw [key i hi, hb]; simp)
  | true => exact .inr (bv_ext fun i hi => by rw [key i hi, hb, BitVec.getLsbD_allOnes, decide_eq_true hi])
/-- Out of its halves. -/
def ite64 (v : Nat) (a b : BitVec 64) : BitVec 64 := (a &&& ~~~ msk v) ||| (b &&& msk v)
theorem ite64_bit {v : Nat} {a b : BitVec 64} {i : Nat} (hi : i < 64) : (ite64 v a b).getLsbD i = bif i.testBit v then b.getLsbD i else a.getLsbD i := by
  unfold ite64
  rw [BitVec.getLsbD_or, BitVec.getLsbD_and, BitVec.getLsbD_and, BitVec.getLsbD_not, msk_bit hi]
  cases i.testBit v <;> simp [hi]
theorem ite64_half {t : BitVec 64} {v : Nat} (h6 : v < 6) : ite64 v (hv t v false) (hv t v true) = t := bv_ext fun i hi => by
  rw [ite64_bit hi, hv_bit h6 hi, hv_bit h6 hi]
  have e2 : st i v (i.testBit v) = i := by unfold st; simp
  cases hb : i.testBit v <;> rw [hb] at e2 <;> simp [e2]
def tabAt (T : List (BitVec 64)) (k : Int) : BitVec 64 := if k = -2 then 0 else if k = -1 then BitVec.allOnes 64 else T.getD k.toNat 0
theorem tabAt_no (T : List (BitVec 64)) : tabAt T (-2) = 0 := by unfold tabAt; rw [if_pos rfl]
theorem tabAt_yes (T : List (BitVec 64)) : tabAt T (-1) = BitVec.allOnes 64 := by unfold tabAt; rw [if_neg (by omega), if_pos rfl]
theorem tabAt_nat {T : List (BitVec 64)} {j : Nat} {t : BitVec 64} (h : T[j]? = some t) : tabAt T (j : Int) = t := by
  unfold tabAt
  rw [if_neg (by omega), if_neg (by omega), Int.toNat_natCast, List.getD_eq_getElem?_getD, h]; rfl
theorem tabAt_app {T e : List (BitVec 64)} {k : Int} (h0 : -2 ≤ k) (h : k < T.length) : tabAt (T ++ e) k = tabAt T k := by
  unfold tabAt
  split
  · rfl
  · split
    · rfl
    · rw [List.getD_eq_getElem?_getD, List.getD_eq_getElem?_getD, List.getElem?_append_left (by omega)]
structure Ent (l : List (Int × Int × Int)) (T : List (BitVec 64)) (j : Nat) (t : BitVec 64) (v : Nat) (a b : Int) : Prop where
  v6 : v < 6
  get : l[j]? = some ((v : Int), a, b)
  a0 : -2 ≤ a
  a1 : a < j
  b0 : -2 ≤ b
  b1 : b < j
  ind : ∀ u, u < v → Ind t u
  dep : ¬ Ind t v
  no : tabAt T a = hv t v false
  yes : tabAt T b = hv t v true
structure Built (l : List (Int × Int × Int)) (T : List (BitVec 64)) : Prop where
  len : l.length = T.length
  nd : ∀ (i j : Nat) (t : BitVec 64), T[i]? = some t → T[j]? = some t → i = j
  ne : ∀ (j : Nat) (t : BitVec 64), T[j]? = some t → t ≠ 0 ∧ t ≠ BitVec.allOnes 64
  ent : ∀ (j : Nat) (t : BitVec 64), T[j]? = some t → ∃ v a b, Ent l T j t v a b
theorem Ent.table {l : List (Int × Int × Int)} {T : List (BitVec 64)} {j : Nat} {t : BitVec 64} {v : Nat} {a b : Int} (h : Ent l T j t v a b) : t = ite64 v (tabAt T a) (tabAt T b) := by
  rw [h.no, h.yes, ite64_half h.v6]
def Kn (K : List (Int × Int)) (T : List (BitVec 64)) : Prop := (∀ (j : Nat) (t : BitVec 64), T[j]? = some t → List.lookup (U t) K = some (j : Int)) ∧ ∀ t, t ∉ T → List.lookup (U t) K = none
/-- What stands where, told by its table. -/
theorem Built.at' {l : List (Int × Int × Int)} {T : List (BitVec 64)} (h : Built l T) {k r : Int} (k0 : -2 ≤ k) (k1 : k < l.length) (r0 : -2 ≤ r) (r1 : r < l.length) (e : tabAt T k = tabAt T r) : k = r := by
  have hl := h.len
  have nat : ∀ {k : Int}, 0 ≤ k → k < l.length → ∃ t, T[k.toNat]? = some t ∧ tabAt T k = t := fun {k} h0 h1 => by
    have hlt : k.toNat < T.length := by omega
    refine ⟨T[k.toNat], List.getElem?_eq_getElem hlt, ?_⟩
    have := tabAt_nat (List.getElem?_eq_getElem hlt)
    rwa [Int.toNat_of_nonneg h0] at this
  have two : ∀ {k : Int}, -2 ≤ k → k < 0 → k = -2 ∨ k = -1 := fun h0 h1 => by omega
  have z : (0 : BitVec 64) ≠ BitVec.allOnes 64 := by decide
  by_cases c : 0 ≤ k
  · obtain ⟨t, h1, h2⟩ := nat c k1
    have hne := h.ne _ _ h1
    by_cases d : 0 ≤ r
    · obtain ⟨s, h3, h4⟩ := nat d r1
      rw [h2, h4] at e
      subst e
      have := h.nd _ _ _ h1 h3
      omega
    · rcases two r0 (by omega) with d | d <;> subst d
      · rw [h2, tabAt_no] at e; exact absurd e hne.1
      · rw [h2, tabAt_yes] at e; exact absurd e hne.2
  · by_cases d : 0 ≤ r
    · obtain ⟨s, h3, h4⟩ := nat d r1
      have hne := h.ne _ _ h3
      rcases two k0 (by omega) with c | c <;> subst c
      · rw [h4, tabAt_no] at e; exact absurd e.symm hne.1
      · rw [h4, tabAt_yes] at e; exact absurd e.symm hne.2
    · rcases two k0 (by omega) with c | c <;> rcases two r0 (by omega) with d | d <;> subst c <;> subst d
      · rfl
      · rw [tabAt_no, tabAt_yes] at e; exact absurd e z
      · rw [tabAt_no, tabAt_yes] at e; exact absurd e.symm z
      · rfl
theorem impl_l10 {R : Type} {t : BitVec 64} {d : Nat} (hd : d < 6) (hi : ∀ u, u < d → Ind t u) (hn : ¬ Ind t d) (l : List (Int × Int × Int)) (K : List (Int × Int)) (k : Int → Int → List (Int × Int × Int) → List (Int × Int) → Option R) : ∀ (c n j : Nat), c + 80 < n → j + c = d → impl_builder_node_l10 n (U t) (j : Int) l K k = k (U t) (d : Int) l K
  | _, 0, _, h, _ => by omega
  | 0, n + 1, j, h, hj => by
    have : j = d := by omega
    subst this
    rw [impl_builder_node_l10, impl_with_eq hd (by omega), impl_with_eq hd (by omega), U_beq, decide_eq_false (show ¬ hv t j false = hv t j true from hn)]; rfl
  | c + 1, n + 1, j, h, hj => by
    rw [impl_builder_node_l10, impl_with_eq (by omega) (by omega), impl_with_eq (by omega) (by omega), U_beq, decide_eq_true (show hv t j false = hv t j true from hi j (by omega)), cond_true, wrapS (m := 10) (by omega) (by omega)]
    exact impl_l10 hd hi hn l K k c n (j + 1) (by omega) (by omega)
theorem cho_eq (l : List (Int × Int × Int)) {j : Nat} (h : j < l.length) (v a b : Int) : ((l[j].1 == v) && ((l[j].2.1 == a) && ((l[j].2.2 == b) && true))) = decide (l[j] = (v, a, b)) := by
  rw [Bool.eq_iff_iff]
  simp [Prod.ext_iff]
theorem spec_l14_found {R : Type} {l : List (Int × Int × Int)} (hl : l.length ≤ 1000) (v a b : Int) {i : Nat} (hi : l[i]? = some (v, a, b)) (hu : ∀ i' : Nat, l[i']? = some (v, a, b) → i' = i) (kr : Int → List (Int × Int × Int) → Option R) (ke : List (Int × Int × Int) → Int → Int → Int → Option R) : ∀ (c n j : Nat), c < n → j + c = i → spec_l7Build_l14 n (l.length : Int) (j : Int) l v a b kr ke = kr (i : Int) l
  | _, 0, _, h, _ => by omega
  | 0, n + 1, j, h, hj => by
    have : j = i := by omega
    subst this
    obtain ⟨hlt, e⟩ := List.getElem?_eq_some_iff.1 hi
    rw [spec_l7Build_l14, dlt hlt, dnn, getD_at _ _ hlt, cho_eq l hlt, decide_eq_true e]; rfl
  | c + 1, n + 1, j, h, hj => by
    obtain ⟨hlt, e⟩ := List.getElem?_eq_some_iff.1 hi
    have hj' : j < l.length := by omega
    rw [spec_l7Build_l14, dlt hj', dnn, getD_at _ _ hj', cho_eq l hj', decide_eq_false (fun e => by have := hu j (by rw [List.getElem?_eq_getElem hj', e]); omega), wrapS hj' (by omega)]
    exact spec_l14_found hl v a b hi hu kr ke c n (j + 1) (by omega) (by omega)
theorem spec_l14_none {R : Type} {l : List (Int × Int × Int)} (hl : l.length ≤ 1000) (v a b : Int) (hu : ∀ i : Nat, l[i]? ≠ some (v, a, b)) (kr : Int → List (Int × Int × Int) → Option R) (ke : List (Int × Int × Int) → Int → Int → Int → Option R) : ∀ (c n j : Nat), c < n → j + c = l.length → spec_l7Build_l14 n (l.length : Int) (j : Int) l v a b kr ke = ke l v a b
  | _, 0, _, h, _ => by omega
  | 0, n + 1, j, h, hj => by rw [spec_l7Build_l14, dge (by omega)]; rfl
  | c + 1, n + 1, j, h, hj => by
    have hj' : j < l.length := by omega
    rw [spec_l7Build_l14, dlt hj', dnn, getD_at _ _ hj', cho_eq l hj', decide_eq_false (fun e => hu j (by rw [List.getElem?_eq_getElem hj', e])), wrapS hj' (by omega)]
    exact spec_l14_none hl v a b hu kr ke c n (j + 1) (by omega) (by omega)
/-- What building a table comes to. -/
structure Node (d c : Nat) (t : BitVec 64) (l : List (Int × Int × Int)) (T : List (BitVec 64)) (K : List (Int × Int)) (r : Int) (l' : List (Int × Int × Int)) (T' : List (BitVec 64)) (K' : List (Int × Int)) : Prop where
  built : Built l' T'
  kn : Kn K' T'
  ext : ∃ eL eT, l' = l ++ eL ∧ T' = T ++ eT ∧ ∀ x ∈ eT, ∀ u, u < d → Ind x u
  tab : tabAt T' r = t
  r0 : -2 ≤ r
  r1 : r < l'.length
  size : l'.length + 1 ≤ l.length + 2 ^ c
  old : ∀ r' : Int, -2 ≤ r' → r' < l.length → tabAt T r' = t → r = r' ∧ l' = l ∧ T' = T ∧ K' = K
  last : l' = l ∨ r + 1 = l'.length
  impl : ∀ (n : Nat), c + 100 ≤ n → ∀ (R : Type) (k : Int → List (Int × Int × Int) → List (Int × Int) → Option R), impl_builder_node n (U t) l K k = k r l' K'
  spec : ∀ (n : Nat), c + 1100 ≤ n → ∀ (R : Type) (k : Int → List (Int × Int × Int) → Option R), spec_l7Build n (U t) (d : Int) l k = k r l'
theorem node_const {d c : Nat} {t : BitVec 64} {l : List (Int × Int × Int)} {T : List (BitVec 64)} {K : List (Int × Int)} (hB : Built l T) (hK : Kn K T) (ht : t = 0 ∨ t = BitVec.allOnes 64) : ∃ r, Node d c t l T K r l T K := by
  have hp : 1 ≤ 2 ^ c := Nat.one_le_two_pow
  have z : (0 : BitVec 64) ≠ BitVec.allOnes 64 := by decide
  rcases ht with rfl | rfl
  · refine ⟨-2, hB, hK, ⟨[], [], by simp, by simp, fun x hx => by simp at hx⟩, tabAt_no T, by omega, by omega, by omega, fun r' h0 h1 e => ⟨hB.at' (by omega) (by omega) h0 h1 (by rw [e, tabAt_no]), rfl, rfl, rfl⟩, .inl rfl, fun n hn R k => ?_, fun n hn R k => ?_⟩
    · obtain ⟨m, rfl⟩ : ∃ m, n = m + 1 := ⟨n - 1, by omega⟩
      rw [impl_builder_node, U_zero]; rfl
    · obtain ⟨m, rfl⟩ : ∃ m, n = m + 1 := ⟨n - 1, by omega⟩
      rw [spec_l7Build, U_zero]; rfl
  · refine ⟨-1, hB, hK, ⟨[], [], by simp, by simp, fun x hx => by simp at hx⟩, tabAt_yes T, by omega, by omega, by omega, fun r' h0 h1 e => ⟨hB.at' (by omega) (by omega) h0 h1 (by rw [e, tabAt_yes]), rfl, rfl, rfl⟩, .inl rfl, fun n hn R k => ?_, fun n hn R k => ?_⟩
    · obtain ⟨m, rfl⟩ : ∃ m, n = m + 1 := ⟨n - 1, by omega⟩
      rw [impl_builder_node, U_all]; rfl
    · obtain ⟨m, rfl⟩ : ∃ m, n = m + 1 := ⟨n - 1, by omega⟩
      rw [spec_l7Build, U_all]; rfl
theorem U_ne {t : BitVec 64} (h : t ≠ 0) : (U t == 0) = false := by rw [← U_zero, U_beq, decide_eq_false h]
theorem U_na {t : BitVec 64} (h : t ≠ BitVec.allOnes 64) : (U t == 18446744073709551615) = false := by rw [← U_all, U_beq, decide_eq_false h]
theorem node_ex : ∀ (c d : Nat) (t : BitVec 64) (l : List (Int × Int × Int)) (T : List (BitVec 64)) (K : List (Int × Int)), c + d = 6 → (∀ u, u < d → Ind t u) → Built l T → Kn K T → l.length + 2 ^ c ≤ 500 → ∃ r l' T' K', Node d c t l T K r l' T' K'
  | 0, d, t, l, T, K, hcd, hi, hB, hK, hl => by
    obtain ⟨r, h⟩ := node_const (d := d) (c := 0) hB hK (Ind.const fun u hu => hi u (by omega))
    exact ⟨r, _, _, _, h⟩
  | c + 1, d, t, l, T, K, hcd, hi, hB, hK, hl => by
    have h2 : 2 ^ (c + 1) = 2 ^ c + 2 ^ c := by rw [Nat.pow_succ]; omega
    have hp : 1 ≤ 2 ^ c := Nat.one_le_two_pow
    have hd : d < 6 := by omega
    by_cases z0 : t = 0
    · obtain ⟨r, h⟩ := node_const (d := d) (c := c + 1) hB hK (.inl z0)
      exact ⟨r, _, _, _, h⟩
    by_cases z1 : t = BitVec.allOnes 64
    · obtain ⟨r, h⟩ := node_const (d := d) (c := c + 1) hB hK (.inr z1)
      exact ⟨r, _, _, _, h⟩
    by_cases hid : Ind t d
    · obtain ⟨r, l', T', K', h⟩ := node_ex c (d + 1) t l T K (by omega) (fun u hu => by
        by_cases e : u = d
        · rw [e]; exact hid
        · exact hi u (by omega)) hB hK (by omega)
      obtain ⟨eL, eT, x1, x2, x3⟩ := h.ext
      refine ⟨r, l', T', K', h.built, h.kn, ⟨eL, eT, x1, x2, fun x hx u hu => x3 x hx u (by omega)⟩, h.tab, h.r0, h.r1, by have := h.size; omega, h.old, h.last, fun n hn R k => h.impl n (by omega) R k, fun n hn R k => ?_⟩
      obtain ⟨m, rfl⟩ : ∃ m, n = m + 1 := ⟨n - 1, by omega⟩
      rw [spec_l7Build, U_ne z0, U_na z1, cond_false, cond_false, spec_half_eq hd (by omega), spec_half_eq hd (by omega), U_beq, decide_eq_true (show hv t d false = hv t d true from hid), cond_true, wrapS (m := 10) (by omega) (by omega)]
      exact h.spec m (by omega) R k
    · -- here it parts
      have hi0 : ∀ b, ∀ u, u < d + 1 → Ind (hv t d b) u := fun b u hu => by
        by_cases e : u = d
        · rw [e]; exact ind_own hd b
        · exact (hi u (by omega)).half (by omega) hd b
      obtain ⟨a, l1, T1, K1, h1⟩ := node_ex c (d + 1) (hv t d false) l T K (by omega) (hi0 false) hB hK (by omega)
      have s1 := h1.size
      obtain ⟨b, l2, T2, K2, hb⟩ := node_ex c (d + 1) (hv t d true) l1 T1 K1 (by omega) (hi0 true) h1.built h1.kn (by omega)
      have s2 := hb.size
      obtain ⟨eL1, eT1, x1, x2, x3⟩ := h1.ext
      obtain ⟨eL2, eT2, y1, y2, y3⟩ := hb.ext
      have hT2 : T2 = T ++ (eT1 ++ eT2) := by rw [y2, x2, List.append_assoc]
      have hl2 : l2 = l ++ (eL1 ++ eL2) := by rw [y1, x1, List.append_assoc]
      have hlen1 := h1.built.len
      have hlen2 := hb.built.len
      have hlen0 := hB.len
      have ha1 := h1.r1
      have ha2 : tabAt T2 a = hv t d false := by rw [y2, tabAt_app h1.r0 (by omega)]; exact h1.tab
      have hle : l1.length ≤ l2.length := by rw [y1]; simp
      have sp : ∀ (n : Nat), (c + 1) + 1100 ≤ n + 1 → ∀ (R : Type) (k : Int → List (Int × Int × Int) → Option R), spec_l7Build (n + 1) (U t) (d : Int) l k = spec_l7Build_l14 n (l2.length : Int) 0 l2 (d : Int) a b (fun r9 r10 => k r9 r10) (fun r11 r12 r13 r14 => (bif decide (r11.length + ([(r12, (r13, r14))]).length ≤ LIM) then k (r11.length : Int) (r11 ++ [(r12, (r13, r14))]) else none)) := fun n hn R k => by
        rw [spec_l7Build, U_ne z0, U_na z1, cond_false, cond_false, spec_half_eq hd (by omega), spec_half_eq hd (by omega), U_beq, decide_eq_false (show ¬ hv t d false = hv t d true from hid), cond_false, wrapS (m := 10) (by omega) (by omega), h1.spec n (by omega)]
        rw [hb.spec n (by omega)]
      by_cases hin : t ∈ T
      · obtain ⟨j, hjl, hj⟩ := List.mem_iff_getElem.1 hin
        have hj' : T[j]? = some t := by rw [List.getElem?_eq_getElem hjl, hj]
        obtain ⟨v, a', b', he⟩ := hB.ent j t hj'
        have hvd : v = d := by
          rcases Nat.lt_trichotomy v d with g | g | g
          · exact absurd (hi v g) he.dep
          · exact g
          · exact absurd (he.ind d g) hid
        subst hvd
        have ha1' := he.a1
        have hb1' := he.b1
        obtain ⟨p1, p2, p3, p4⟩ := h1.old a' he.a0 (by omega) he.no
        subst p1 p2 p3 p4
        obtain ⟨q1, q2, q3, q4⟩ := hb.old b' he.b0 (by omega) he.yes
        subst q1 q2 q3 q4
        refine ⟨(j : Int), _, _, _, hB, hK, ⟨[], [], by simp, by simp, fun x hx => by simp at hx⟩, tabAt_nat hj', by omega, by omega, by omega, fun r' g0 g1 e => ⟨hB.at' (by omega) (by omega) g0 g1 (by rw [e, tabAt_nat hj']), rfl, rfl, rfl⟩, .inl rfl, fun n hn R k => ?_, fun n hn R k => ?_⟩
        · obtain ⟨m, rfl⟩ : ∃ m, n = m + 1 := ⟨n - 1, by omega⟩
          rw [impl_builder_node, U_ne z0, U_na z1, cond_false, cond_false, hK.1 j t hj']; rfl
        · obtain ⟨m, rfl⟩ : ∃ m, n = m + 1 := ⟨n - 1, by omega⟩
          rw [sp m (by omega)]
          refine spec_l14_found (by omega) _ _ _ he.get (fun i' hi' => ?_) _ _ j m 0 (by omega) (by omega)
          have hlt := (List.getElem?_eq_some_iff.1 hi').1
          have hT' : T2[i']? = some T2[i'] := List.getElem?_eq_getElem (by omega)
          obtain ⟨v2, a2, b2, he2⟩ := hB.ent i' _ hT'
          have hg := he2.get
          rw [hi'] at hg
          simp only [Option.some.injEq, Prod.mk.injEq] at hg
          obtain ⟨g1, g2, g3⟩ := hg
          have g1 : v = v2 := by omega
          subst g1 g2 g3
          have := he2.table
          rw [← he.table] at this
          exact hB.nd i' j t (by rw [hT', this]) hj'
      · have hnT : t ∉ T2 := fun hm => by
          rw [hT2] at hm
          rcases List.mem_append.1 hm with hm | hm
          · exact hin hm
          · rcases List.mem_append.1 hm with hm | hm
            · exact hid (x3 t hm d (by omega))
            · exact hid (y3 t hm d (by omega))
        have hE : Ent (l2 ++ [((d : Int), a, b)]) (T2 ++ [t]) l2.length t d a b := ⟨hd, by simp, h1.r0, by omega, hb.r0, hb.r1, hi, hid, by rw [tabAt_app h1.r0 (by omega)]; exact ha2, by rw [tabAt_app hb.r0 (by have := hb.r1; omega)]; exact hb.tab⟩
        have split2 : ∀ {j : Nat} {x : BitVec 64}, (T2 ++ [t])[j]? = some x → T2[j]? = some x ∨ (j = l2.length ∧ x = t) := fun {j x} hx => by
          by_cases g : j < T2.length
          · rw [List.getElem?_append_left g] at hx; exact .inl hx
          · have hlt := (List.getElem?_eq_some_iff.1 hx).1
            have hje : j = T2.length := by simp at hlt; omega
            subst hje
            simp at hx
            exact .inr ⟨by omega, hx.symm⟩
        have hB3 : Built (l2 ++ [((d : Int), a, b)]) (T2 ++ [t]) := by
          refine ⟨by simp [hlen2], fun i j x hx hy => ?_, fun j x hx => ?_, fun j x hx => ?_⟩
          · rcases split2 hx with hx1 | ⟨e1, e2⟩
            · rcases split2 hy with hy1 | ⟨_, e3⟩
              · exact hb.built.nd i j x hx1 hy1
              · exact absurd (e3 ▸ List.mem_of_getElem? hx1) hnT
            · rcases split2 hy with hy1 | ⟨e3, _⟩
              · exact absurd (e2 ▸ List.mem_of_getElem? hy1) hnT
              · rw [e1, e3]
          · rcases split2 hx with hx | ⟨rfl, rfl⟩
            · exact hb.built.ne j x hx
            · exact ⟨z0, z1⟩
          · rcases split2 hx with hx | ⟨rfl, rfl⟩
            · obtain ⟨v, a', b', he⟩ := hb.built.ent j x hx
              have hjl := (List.getElem?_eq_some_iff.1 hx).1
              have ga := he.a1
              have gb := he.b1
              refine ⟨v, a', b', he.v6, ?_, he.a0, he.a1, he.b0, he.b1, he.ind, he.dep, ?_, ?_⟩
              · rw [List.getElem?_append_left (by omega)]; exact he.get
              · rw [tabAt_app he.a0 (by omega)]; exact he.no
              · rw [tabAt_app he.b0 (by omega)]; exact he.yes
            · exact ⟨d, a, b, hE⟩
        refine ⟨(l2.length : Int), l2 ++ [((d : Int), a, b)], T2 ++ [t], (U t, (l2.length : Int)) :: K2, hB3, ⟨fun j x hx => ?_, fun x hx => ?_⟩, ⟨eL1 ++ eL2 ++ [((d : Int), a, b)], eT1 ++ eT2 ++ [t], by rw [hl2]; simp, by rw [hT2]; simp, fun x hx u hu => ?_⟩, tabAt_nat (by rw [hlen2]; simp), by omega, by simp; omega, by simp; omega, fun r' g0 g1 e => ?_, .inr (by simp), fun n hn R k => ?_, fun n hn R k => ?_⟩
        · rw [List.lookup_cons, U_beq]
          rcases split2 hx with hx | ⟨rfl, rfl⟩
          · rw [decide_eq_false fun e : x = t => hnT (e ▸ List.mem_of_getElem? hx)]
            exact hb.kn.1 j x hx
          · rw [decide_eq_true rfl]
        · rw [List.lookup_cons, U_beq, decide_eq_false fun e => hx (by rw [e]; simp)]
          exact hb.kn.2 x fun h => hx (List.mem_append_left _ h)
        · rcases List.mem_append.1 hx with hx | hx
          · rcases List.mem_append.1 hx with hx | hx
            · exact x3 x hx u (by omega)
            · exact y3 x hx u (by omega)
          · rw [List.mem_singleton.1 hx]; exact hi u hu
        · exfalso
          by_cases g : 0 ≤ r'
          · have hlt : r'.toNat < T.length := by omega
            have := tabAt_nat (List.getElem?_eq_getElem hlt)
            rw [Int.toNat_of_nonneg g] at this
            rw [this] at e
            exact hin (e ▸ List.getElem_mem hlt)
          · rcases (show r' = -2 ∨ r' = -1 by omega) with g | g <;> subst g
            · rw [tabAt_no] at e; exact z0 e.symm
            · rw [tabAt_yes] at e; exact z1 e.symm
        · obtain ⟨m, rfl⟩ : ∃ m, n = m + 1 := ⟨n - 1, by omega⟩
          have hl10 := fun k => impl_l10 (R := R) hd hi hid l K k d m 0 (by omega) (by omega)
          rw [show ((0 : Nat) : Int) = 0 from rfl] at hl10
          rw [impl_builder_node, U_ne z0, U_na z1, cond_false, cond_false, hK.2 t hin, hl10, impl_with_eq hd (by omega)]
          simp only [Option.isSome_none, cond_false]
          rw [h1.impl m (by omega), impl_with_eq hd (by omega), hb.impl m (by omega), decide_eq_true (show l2.length + [((d : Int), (a, b))].length ≤ LIM by simp [LIM]; omega), cond_true]
          have hw : IntKind.wrap .i64 (((l2 ++ [((d : Int), (a, b))]).length : Int) - 1) = (l2.length : Int) := by
            rw [wrap64 (by simp) (by simp; omega)]; simp
          rw [hw]
        · obtain ⟨m, rfl⟩ : ∃ m, n = m + 1 := ⟨n - 1, by omega⟩
          rw [sp m (by omega)]
          have := spec_l14_none (R := R) (l := l2) (by omega) (d : Int) a b (fun i hi' => by
            have hlt := (List.getElem?_eq_some_iff.1 hi').1
            have hT' : T2[i]? = some T2[i] := List.getElem?_eq_getElem (by omega)
            obtain ⟨v2, a2, b2, he2⟩ := hb.built.ent i _ hT'
            have hg := he2.get
            rw [hi'] at hg
            simp only [Option.some.injEq, Prod.mk.injEq] at hg
            obtain ⟨g1, g2, g3⟩ := hg
            have g1 : d = v2 := by omega
            subst g1 g2 g3
            have := he2.table
            rw [ha2, hb.tab, ite64_half hd] at this
            exact hnT (this ▸ List.getElem_mem (by omega))) (fun r9 r10 => k r9 r10) (fun r11 r12 r13 r14 => (bif decide (r11.length + ([(r12, (r13, r14))]).length ≤ LIM) then k (r11.length : Int) (r11 ++ [(r12, (r13, r14))]) else none)) l2.length m 0 (by omega) (by omega)
          rw [show ((0 : Nat) : Int) = 0 from rfl] at this
          rw [this, decide_eq_true (show l2.length + [((d : Int), (a, b))].length ≤ LIM by simp [LIM]; omega)]
          rfl
theorem built_nil : Built [] [] := ⟨rfl, fun i j t h => by simp at h, fun j t h => by simp at h, fun j t h => by simp at h⟩
theorem kn_nil : Kn [] [] := ⟨fun j t h => by simp at h, fun t _ => rfl⟩
theorem laws_eqC_loop {R : Type} (l : List (Int × Int × Int)) (hb : l.length ≤ 9223372036854775807) (kr : Bool → Option R) (ke : Option R) : ∀ (n j : Nat), l.length - j < n → j ≤ l.length → laws_eqChoiceS_l4 n l l (j : Int) kr ke = ke
  | 0, _, h, _ => by omega
  | n + 1, j, hn, hj => by
    rw [laws_eqChoiceS_l4]
    by_cases h : j < l.length
    · rw [dlt h, dnn, getD_at _ _ h, wrapS h hb]
      unfold laws_eqChoice
      simp only [bne_self_eq_false, cond_false, cond_true, Bool.not_true]
      exact laws_eqC_loop l hb kr ke n (j + 1) (by omega) (by omega)
    · rw [dge (by omega), cond_false]
theorem laws_eqD_eq {R : Type} {n : Nat} {l : List (Int × Int × Int)} (hl : l.length ≤ 1048576) (hn : l.length < n) (x : Int) (k : Bool → Option R) : laws_eqDiagram n l x l x k = k true := by
  unfold laws_eqDiagram laws_eqChoiceS
  have := laws_eqC_loop l (by omega) (fun r2 => (fun r1 => (bif (!r1) then k false else (bif (x != x) then k false else k true))) r2) ((fun r1 => (bif (!r1) then k false else (bif (x != x) then k false else k true))) true) n 0 (by omega) (by omega)
  rw [show ((0 : Nat) : Int) = 0 from rfl] at this
  rw [bne_self_eq_false, cond_false, this]
  simp
theorem diagram_u (t : BitVec 64) : ∃ r l T, Built l T ∧ tabAt T r = t ∧ -2 ≤ r ∧ r < l.length ∧ l.length ≤ 63 ∧ (∀ n, 3000 ≤ n → ∀ (R : Type) (k : Int → Bool → List (Int × Int × Int) → Option R), impl_diagramOf n (U t) k = k r true l) ∧ ∀ n, 3000 ≤ n → ∀ (R : Type) (k : Int → Bool → List (Int × Int × Int) → Option R), spec_l7Diagram n (U t) k = k r true l := by
  obtain ⟨r, l, T, K, h⟩ := node_ex 6 0 t [] [] [] (by omega) (fun u hu => by omega) built_nil kn_nil (by simp)
  have hs := h.size
  have hl : l.length ≤ 63 := by simp at hs; omega
  refine ⟨r, l, T, h.built, h.tab, h.r0, h.r1, hl, fun n hn R k => ?_, fun n hn R k => ?_⟩
  · unfold impl_diagramOf
    rw [h.impl n (by omega), decide_eq_false (show ¬ (l.length : Int) > 70 by omega)]; rfl
  · have hsp := h.spec n (by omega)
    rw [show ((0 : Nat) : Int) = 0 from rfl] at hsp
    unfold spec_l7Diagram
    rw [hsp, decide_eq_true (show (l.length : Int) ≤ 70 by omega)]
theorem rnext_ex (n : Nat) (s : ByteArray) {pos : Int} (h : 0 ≤ pos) (fl : Bool) : ∃ c : Int, 0 ≤ c ∧ c ≤ 255 ∧ ((s.size : Int) ≤ pos → c = 0) ∧ ∀ (R : Type) (k : Int → ByteArray → Int → Bool → Option R), spec_l7R_next n s pos fl k = k c s pos fl := by
  by_cases c : pos < (s.size : Int)
  · have := (s.data.getD (Int.toNat pos) 0).toNat_lt
    refine ⟨((s.data.getD (Int.toNat pos) 0).toNat : Int), by omega, by omega, fun h => by omega, fun R k => ?_⟩
    unfold spec_l7R_next
    rw [decide_eq_true c, decide_eq_true h]; rfl
  · refine ⟨0, by omega, by omega, fun _ => rfl, fun R k => ?_⟩
    unfold spec_l7R_next
    rw [decide_eq_false c]; rfl
theorem bne' {a b : Int} (h : a ≠ b) : (a == b) = false := beq_eq_false_iff_ne.2 h
theorem rform_bad {n : Nat} {s : ByteArray} {pos : Int} {fl : Bool} {c : Int} (h0 : 0 ≤ pos) (h1 : pos ≤ 1000) (hc : ∀ (R : Type) (k : Int → ByteArray → Int → Bool → Option R), spec_l7R_next n s pos fl k = k c s pos fl) (hb : fl = true ∨ (c ≠ 48 ∧ c ≠ 49 ∧ ¬ (97 ≤ c ∧ c ≤ 102) ∧ c ≠ 33 ∧ c ≠ 40)) (R : Type) (k : Int → ByteArray → Int → Bool → Option R) : spec_l7R_form (n + 1) s pos fl k = k (U 0) s (pos + 1) true := by
  rw [spec_l7R_form, hc, wrap64 (by omega) (by omega), U_zero]
  cases fl with
  | true => rfl
  | false =>
    rcases hb with h | ⟨h48, h49, h97, h33, h40⟩
    · cases h
    · rw [cond_false, bne' h48, bne' h49, bne' h33, bne' h40, cond_false, cond_false]
      by_cases g : c ≥ 97
      · rw [decide_eq_true g, decide_eq_false (show ¬ c ≤ 102 by omega)]; rfl
      · rw [decide_eq_false g]; rfl
theorem xor_U (a b : BitVec 64) : IntKind.wrap .u64 (Int.ofNat (BitVec.toNat (BitVec.ofInt (IntKind.bits .u64) (U a) ^^^ BitVec.ofInt (IntKind.bits .u64) (U b)))) = U (a ^^^ b) := by
  show IntKind.wrap .u64 (Int.ofNat (BitVec.toNat (BitVec.ofInt 64 (U a) ^^^ BitVec.ofInt 64 (U b)))) = _
  rw [of_U, of_U, wrap_U]
theorem rest_ext (s : ByteArray) (p : Nat) : (s.extract p s.size).extract 1 (Int.toNat (((s.extract p s.size).size : Nat) : Int)) = s.extract (p + 1) s.size := by
  apply ByteArray.ext
  rw [Int.toNat_natCast, ByteArray.data_extract, ByteArray.data_extract, ByteArray.data_extract, ByteArray.size_extract, Array.extract_extract]
  congr 1
  omega
theorem rest_get (s : ByteArray) (p : Nat) (h : p < s.size) : (s.extract p s.size).data.getD 0 0 = s.data.getD p 0 := by
  rw [ByteArray.data_extract, Array.getD_eq_getD_getElem?, Array.getD_eq_getD_getElem?, Array.getElem?_extract]
  have : s.data.size = s.size := rfl
  rw [if_pos (by omega), Nat.add_zero]
theorem toList_len (b : ByteArray) : ∀ (m i : Nat) (r : List UInt8), b.size - i ≤ m → (ByteArray.toList.loop b i r).length = r.length + (b.size - i) := by
  intro m
  induction m with
  | zero =>
    intro i r h
    unfold ByteArray.toList.loop
    rw [if_neg (by omega), List.length_reverse]; omega
  | succ m ih =>
    intro i r h
    unfold ByteArray.toList.loop
    by_cases c : i < b.size
    · rw [if_pos c, ih _ _ (by omega), List.length_cons]; omega
    · rw [if_neg c, List.length_reverse]; omega
theorem toList_length (b : ByteArray) : b.toList.length = b.size := by
  unfold ByteArray.toList
  rw [toList_len b b.size 0 [] (by omega)]
  simp
theorem rest_nil (b : ByteArray) : ((ByteArray.toList b) == (ByteArray.toList (ByteArray.mk #[]))) = decide (b.size = 0) := by
  have e0 : (ByteArray.toList (ByteArray.mk #[])) = [] := List.length_eq_zero_iff.1 (toList_length _)
  rw [e0]
  by_cases c : b.size = 0
  · rw [decide_eq_true c, List.length_eq_zero_iff.1 ((toList_length b).trans c)]; rfl
  · rw [decide_eq_false c, beq_eq_false_iff_ne]
    intro h
    have := toList_length b
    rw [h] at this
    exact c this.symm
theorem idx_abc : ∀ c : Fin 256, idxF (ByteArray.mk #[97, 98, 99, 100, 101, 102]).data.toList ((c.val : Nat) : Int).toNat.toUInt8 = if 97 ≤ c.val ∧ c.val ≤ 102 then ((c.val : Nat) : Int) - 97 else -1 := by decide +kernel
theorem inext_end {R : Type} (n : Nat) (s : ByteArray) (fl : Bool) (h : s.size = 0) (k : Int → ByteArray → Bool → Option R) : impl_formReader_next n s fl k = k 0 s true := by
  unfold impl_formReader_next
  rw [rest_nil, decide_eq_true h]; rfl
theorem inext_at {R : Type} (n : Nat) (s : ByteArray) (fl : Bool) {p : Nat} (h : p < s.size) (k : Int → ByteArray → Bool → Option R) : impl_formReader_next n (s.extract p s.size) fl k = k ((s.data.getD p 0).toNat : Int) (s.extract (p + 1) s.size) fl := by
  have hz : (s.extract p s.size).size = s.size - p := by rw [ByteArray.size_extract]; omega
  unfold impl_formReader_next
  rw [rest_nil, rest_ext, rest_get s p h, hz, decide_eq_false (show ¬ s.size - p = 0 by omega), decide_eq_true (show 0 < ((s.size - p : Nat) : Int) by omega), decide_eq_true (show 1 ≤ ((s.size - p : Nat) : Int) by omega), decide_eq_true (show ((s.size - p : Nat) : Int) ≤ ((s.size - p : Nat) : Int) by omega)]
  rfl
theorem inext_any (n : Nat) (s : ByteArray) (fl : Bool) : ∃ c s' fl', (fl = true → fl' = true) ∧ ∀ (R : Type) (k : Int → ByteArray → Bool → Option R), impl_formReader_next n s fl k = k c s' fl' := by
  by_cases h : s.size = 0
  · exact ⟨0, s, true, fun _ => rfl, fun R k => inext_end n s fl h k⟩
  · refine ⟨((s.data.getD 0 0).toNat : Int), ByteArray.extract s 1 (Int.toNat (s.size : Int)), fl, fun h => h, fun R k => ?_⟩
    unfold impl_formReader_next
    rw [rest_nil, decide_eq_false h, decide_eq_true (show 0 < (s.size : Int) by omega), decide_eq_true (show 1 ≤ (s.size : Int) by omega), decide_eq_true (show (s.size : Int) ≤ (s.size : Int) by omega), cond_false, cond_true, cond_true, cond_true]
theorem snext_at {R : Type} (n : Nat) (s : ByteArray) (fl : Bool) {p : Nat} (h : p < s.size) (k : Int → ByteArray → Int → Bool → Option R) : spec_l7R_next n s (p : Int) fl k = k ((s.data.getD p 0).toNat : Int) s (p : Int) fl := by
  unfold spec_l7R_next
  rw [decide_eq_true (show (p : Int) < (s.size : Int) by omega), decide_eq_true (show 0 ≤ (p : Int) by omega), Int.toNat_natCast]; rfl
theorem snext_end {R : Type} (n : Nat) (s : ByteArray) (fl : Bool) {pos : Int} (h : (s.size : Int) ≤ pos) (k : Int → ByteArray → Int → Bool → Option R) : spec_l7R_next n s pos fl k = k 0 s pos fl := by
  unfold spec_l7R_next
  rw [decide_eq_false (show ¬ pos < (s.size : Int) by omega)]; rfl
theorem iform_true (n : Nat) (s : ByteArray) : ∃ s', ∀ (R : Type) (k : Int → ByteArray → Bool → Option R), impl_formReader_form (n + 1) s true k = k (U 0) s' true := by
  obtain ⟨c, s', fl', h1, h2⟩ := inext_any n s true
  have := h1 rfl
  subst this
  exact ⟨s', fun R k => by rw [impl_formReader_form, h2]; rfl⟩
theorem idx_at {R : Type} (n : Nat) (b : UInt8) (k : Int → Option R) : strings_IndexByte n (ByteArray.mk #[97, 98, 99, 100, 101, 102]) (b.toNat : Int) k = k (if 97 ≤ b.toNat ∧ b.toNat ≤ 102 then (b.toNat : Int) - 97 else -1) := by
  have := idx_abc ⟨b.toNat, b.toNat_lt⟩
  dsimp only at this
  unfold strings_IndexByte stringslite_IndexByte bytealg_IndexByteString
  rw [this]
def Tied (s : ByteArray) (p : Nat) (t t' : BitVec 64) (pos : Int) (rest : ByteArray) : Prop := t = t' ∧ ∃ q : Nat, p < q ∧ q ≤ s.size ∧ pos = (q : Int) ∧ rest = s.extract q s.size
structure Two (s : ByteArray) (n p : Nat) (t t' : BitVec 64) (fl : Bool) (pos : Int) (rest : ByteArray) : Prop where
  lo : 0 ≤ pos
  hi : pos ≤ 70 + 3 * ((s.size : Int) - p)
  tied : fl = false → Tied s p t t' pos rest
  spec : ∀ (R : Type) (k : Int → ByteArray → Int → Bool → Option R), spec_l7R_form n s (p : Int) false k = k (U t) s pos fl
  impl : ∀ (R : Type) (k : Int → ByteArray → Bool → Option R), impl_formReader_form n (s.extract p s.size) false k = k (U t') rest fl
theorem two_end {s : ByteArray} (hs : s.size ≤ 60) {n : Nat} : ∃ t t' fl pos rest, Two s (n + 1) s.size t t' fl pos rest := by
  have hz : (s.extract s.size s.size).size = 0 := by rw [ByteArray.size_extract]; omega
  refine ⟨0, 0, true, (s.size : Int) + 1, s.extract s.size s.size, by omega, by omega, fun h => (by cases h), ?_, fun R k => ?_⟩
  · exact rform_bad (c := 0) (by omega) (by omega) (fun R k => snext_end n s false (by omega) k) (.inr (by omega))
  · rw [impl_formReader_form, inext_end n _ _ hz]; rfl
theorem sform_true {s : ByteArray} {n : Nat} {pos : Int} (h0 : 0 ≤ pos) (h1 : pos ≤ 1000) (R : Type) (k : Int → ByteArray → Int → Bool → Option R) : spec_l7R_form (n + 1) s pos true k = k (U 0) s (pos + 1) true := by
  obtain ⟨c, _, _, _, hc⟩ := rnext_ex n s h0 true
  exact rform_bad h0 h1 hc (.inl rfl) R k
theorem rwant_true (n : Nat) (x : Int) (s : ByteArray) {pos : Int} (h : 0 ≤ pos) (h1 : pos ≤ 1000) (R : Type) (k : ByteArray → Int → Bool → Option R) : spec_l7R_want n x s pos true k = k s (pos + 1) true := by
  obtain ⟨c, c0, c1, c2, hc⟩ := rnext_ex n s h true
  unfold spec_l7R_want
  rw [hc, wrap64 (by omega) (by omega)]
  cases c != x <;> rfl
def ops (c : Int) (a b : BitVec 64) : BitVec 64 := bif c == 38 then a &&& b else bif c == 124 then a ||| b else bif c == 94 then a ^^^ b else 0
def okop (c : Int) : Bool := c == 38 || (c == 124 || c == 94)
theorem ops_s {R : Type} (c : Int) (a b : BitVec 64) (s : ByteArray) (p : Int) (fl : Bool) (k : Int → ByteArray → Int → Bool → Option R) : (bif (c == 38) then k (IntKind.wrap .u64 (Int.ofNat (BitVec.toNat (BitVec.ofInt (IntKind.bits .u64) (U a) &&& BitVec.ofInt (IntKind.bits .u64) (U b))))) s p fl else (bif (c == 124) then k (IntKind.wrap .u64 (Int.ofNat (BitVec.toNat (BitVec.ofInt (IntKind.bits .u64) (U a) ||| BitVec.ofInt (IntKind.bits .u64) (U b))))) s p fl else (bif (c == 94) then k (IntKind.wrap .u64 (Int.ofNat (BitVec.toNat (BitVec.ofInt (IntKind.bits .u64) (U a) ^^^ BitVec.ofInt (IntKind.bits .u64) (U b))))) s p fl else k 0 s p true))) = k (U (ops c a b)) s p (bif okop c then fl else true) := by
  rw [and_U, or_U, xor_U]
  unfold ops okop
  cases c == 38 <;> cases c == 124 <;> cases c == 94 <;> rfl
theorem ops_i {R : Type} (c : Int) (a b : BitVec 64) (s : ByteArray) (fl : Bool) (k : Int → ByteArray → Bool → Option R) : (bif (c == 38) then k (IntKind.wrap .u64 (Int.ofNat (BitVec.toNat (BitVec.ofInt (IntKind.bits .u64) (U a) &&& BitVec.ofInt (IntKind.bits .u64) (U b))))) s fl else (bif (c == 124) then k (IntKind.wrap .u64 (Int.ofNat (BitVec.toNat (BitVec.ofInt (IntKind.bits .u64) (U a) ||| BitVec.ofInt (IntKind.bits .u64) (U b))))) s fl else (bif (c == 94) then k (IntKind.wrap .u64 (Int.ofNat (BitVec.toNat (BitVec.ofInt (IntKind.bits .u64) (U a) ^^^ BitVec.ofInt (IntKind.bits .u64) (U b))))) s fl else k 0 s true))) = k (U (ops c a b)) s (bif okop c then fl else true) := by
  rw [and_U, or_U, xor_U]
  unfold ops okop
  cases c == 38 <;> cases c == 124 <;> cases c == 94 <;> rfl
theorem okop_true (c : Int) : (bif okop c then true else true) = true := by cases okop c <;> rfl
theorem two_ex {s : ByteArray} (hs : s.size ≤ 60) : ∀ (m n p : Nat), m + 100 ≤ n → p ≤ s.size → s.size - p ≤ m → ∃ t t' fl pos rest, Two s n p t t' fl pos rest := by
  intro m
  induction m with
  | zero =>
    intro n p hn hp hm
    obtain ⟨n, rfl⟩ : ∃ m, n = m + 1 := ⟨n - 1, by omega⟩
    have : p = s.size := by omega
    subst this
    exact two_end hs
  | succ m ih =>
    intro n p hn hp hm
    obtain ⟨n, rfl⟩ : ∃ m, n = m + 1 + 1 := ⟨n - 2, by omega⟩
    by_cases hps : p = s.size
    · subst hps
      exact two_end hs
    have hlt : p < s.size := by omega
    have hw : IntKind.wrap .i64 ((p : Int) + 1) = ((p + 1 : Nat) : Int) := wrap64 (by omega) (by omega)
    have hb := (s.data.getD p 0).toNat_lt
    have hix := fun (R : Type) (k : Int → Option R) => idx_at (n + 1) (s.data.getD p 0) k
    have hsn := fun (R : Type) fl (k : Int → ByteArray → Int → Bool → Option R) => snext_at (n + 1) s fl hlt k
    have hin := fun (R : Type) fl (k : Int → ByteArray → Bool → Option R) => inext_at (n + 1) s fl hlt k
    generalize (s.data.getD p 0).toNat = c at hb hix hsn hin
    by_cases h48 : (c : Int) = 48
    · refine ⟨0, 0, false, ((p + 1 : Nat) : Int), s.extract (p + 1) s.size, by omega, by omega, fun _ => ⟨rfl, p + 1, by omega, by omega, rfl, rfl⟩, fun R k => ?_, fun R k => ?_⟩
      · rw [spec_l7R_form, hsn, hw, h48]; rfl
      · rw [impl_formReader_form, hin, cond_false, hix, h48]; rfl
    by_cases h49 : (c : Int) = 49
    · refine ⟨BitVec.allOnes 64, BitVec.allOnes 64, false, ((p + 1 : Nat) : Int), s.extract (p + 1) s.size, by omega, by omega, fun _ => ⟨rfl, p + 1, by omega, by omega, rfl, rfl⟩, fun R k => ?_, fun R k => ?_⟩
      · rw [spec_l7R_form, hsn, hw, h49]; rfl
      · rw [impl_formReader_form, hin, cond_false, hix, h49]; rfl
    by_cases h97 : 97 ≤ c ∧ c ≤ 102
    · obtain ⟨v, hv⟩ : ∃ v : Nat, (c : Int) - 97 = (v : Int) := ⟨c - 97, by omega⟩
      have hv6 : v < 6 := by omega
      have hwu : IntKind.wrap .i64 (IntKind.wrap .u8 ((c : Int) - 97)) = (v : Int) := by
        have : IntKind.wrap .u8 (v : Int) = (v : Int) := by
          simp only [IntKind.wrap, IntKind.signed, IntKind.bits]
          simp
          omega
        rw [hv, this, wrap64 (by omega) (by omega)]
      refine ⟨msk v, msk v, false, ((p + 1 : Nat) : Int), s.extract (p + 1) s.size, by omega, by omega, fun _ => ⟨rfl, p + 1, by omega, by omega, rfl, rfl⟩, fun R k => ?_, fun R k => ?_⟩
      · rw [spec_l7R_form, hsn, hw, cond_false, bne' h48, bne' h49, cond_false, cond_false, decide_eq_true (show (c : Int) ≥ 97 by omega), decide_eq_true (show (c : Int) ≤ 102 by omega), cond_true, cond_true, hwu, spec_var_eq hv6 (by omega)]
      · rw [impl_formReader_form, hin, cond_false, hix, if_pos h97, bne' h48, bne' h49, cond_false, cond_false, hv, decide_eq_true (show (v : Int) ≥ 0 by omega), cond_true, impl_var_eq hv6 (by omega)]
    have himp : ∀ (R : Type) (k : Int → ByteArray → Bool → Option R), impl_formReader_form (n + 1 + 1) (s.extract p s.size) false k = _ := fun R k => by
      rw [impl_formReader_form, hin, cond_false, hix, if_neg h97, bne' h48, bne' h49, cond_false, cond_false, decide_eq_false (show ¬ (-1 : Int) ≥ 0 by omega), cond_false]
    have d97 : ((c : Int) = 33 ∨ (c : Int) = 40) → decide ((c : Int) ≥ 97) = false := fun h => decide_eq_false (by omega)
    obtain ⟨t1, t1', fl1, p1, rest1, w1⟩ := ih (n + 1) (p + 1) (by omega) (by omega) (by omega)
    have wlo := w1.lo
    have whi := w1.hi
    by_cases h33 : (c : Int) = 33
    · refine ⟨~~~ t1, ~~~ t1', fl1, p1, rest1, by omega, by omega, fun e => ?_, fun R k => ?_, fun R k => ?_⟩
      · obtain ⟨e1, q, q1, q2, q3, q4⟩ := w1.tied e
        exact ⟨by rw [e1], q, by omega, q2, q3, q4⟩
      · rw [spec_l7R_form, hsn, hw, cond_false, bne' h48, bne' h49, cond_false, cond_false, d97 (.inl h33), cond_false, beq_iff_eq.2 h33, cond_true, w1.spec, not_U]
      · rw [himp, beq_iff_eq.2 h33, cond_true, w1.impl, not_U]
    by_cases h40 : (c : Int) = 40
    · have hsp : ∀ (R : Type) (k : Int → ByteArray → Int → Bool → Option R), spec_l7R_form (n + 1 + 1) s (p : Int) false k = (spec_l7R_form (n + 1) s ((p + 1 : Nat) : Int) false fun r10 r11 r12 r13 => (spec_l7R_next (n + 1) r11 r12 r13 fun r14 r15 r16 r17 => (spec_l7R_form (n + 1) r15 (IntKind.wrap .i64 (r16 + 1)) r17 fun r18 r19 r20 r21 => (spec_l7R_want (n + 1) 41 r19 r20 r21 fun r22 r23 r24 => (bif (r14 == 38) then k (IntKind.wrap .u64 (Int.ofNat (BitVec.toNat (BitVec.ofInt (IntKind.bits .u64) r10 &&& BitVec.ofInt (IntKind.bits .u64) r18)))) r22 r23 r24 else (bif (r14 == 124) then k (IntKind.wrap .u64 (Int.ofNat (BitVec.toNat (BitVec.ofInt (IntKind.bits .u64) r10 ||| BitVec.ofInt (IntKind.bits .u64) r18)))) r22 r23 r24 else (bif (r14 == 94) then k (IntKind.wrap .u64 (Int.ofNat (BitVec.toNat (BitVec.ofInt (IntKind.bits .u64) r10 ^^^ BitVec.ofInt (IntKind.bits .u64) r18)))) r22 r23 r24 else k 0 r22 r23 true))))))) := fun R k => by
        rw [spec_l7R_form, hsn, hw, cond_false, bne' h48, bne' h49, cond_false, cond_false, d97 (.inr h40), cond_false, bne' h33, cond_false, beq_iff_eq.2 h40, cond_true]
      have himp' : ∀ (R : Type) (k : Int → ByteArray → Bool → Option R), impl_formReader_form (n + 1 + 1) (s.extract p s.size) false k = (impl_formReader_form (n + 1) (s.extract (p + 1) s.size) false fun r9 r10 r11 => (impl_formReader_next (n + 1) r10 r11 fun r12 r13 r14 => (impl_formReader_form (n + 1) r13 r14 fun r15 r16 r17 => (bif r17 then (bif (r12 == 38) then k (IntKind.wrap .u64 (Int.ofNat (BitVec.toNat (BitVec.ofInt (IntKind.bits .u64) r9 &&& BitVec.ofInt (IntKind.bits .u64) r15)))) r16 true else (bif (r12 == 124) then k (IntKind.wrap .u64 (Int.ofNat (BitVec.toNat (BitVec.ofInt (IntKind.bits .u64) r9 ||| BitVec.ofInt (IntKind.bits .u64) r15)))) r16 true else (bif (r12 == 94) then k (IntKind.wrap .u64 (Int.ofNat (BitVec.toNat (BitVec.ofInt (IntKind.bits .u64) r9 ^^^ BitVec.ofInt (IntKind.bits .u64) r15)))) r16 true else k 0 r16 true))) else (impl_formReader_next (n + 1) r16 r17 fun r18 r19 r20 => (bif (r12 == 38) then k (IntKind.wrap .u64 (Int.ofNat (BitVec.toNat (BitVec.ofInt (IntKind.bits .u64) r9 &&& BitVec.ofInt (IntKind.bits .u64) r15)))) r19 (r18 != 41) else (bif (r12 == 124) then k (IntKind.wrap .u64 (Int.ofNat (BitVec.toNat (BitVec.ofInt (IntKind.bits .u64) r9 ||| BitVec.ofInt (IntKind.bits .u64) r15)))) r19 (r18 != 41) else (bif (r12 == 94) then k (IntKind.wrap .u64 (Int.ofNat (BitVec.toNat (BitVec.ofInt (IntKind.bits .u64) r9 ^^^ BitVec.ofInt (IntKind.bits .u64) r15)))) r19 (r18 != 41) else k 0 r19 true)))))))) := fun R k => by
        rw [himp, bne' h33, cond_false, show ((c : Int) != 40) = false by simp [h40], cond_false]
      have sw : ∀ {x : Int}, 0 ≤ x → x ≤ 900 → IntKind.wrap .i64 (x + 1) = x + 1 := fun h1 h2 => wrap64 (by omega) (by omega)
      cases fl1 with
      | true =>
        obtain ⟨c2, _, _, _, hc2⟩ := rnext_ex (n + 1) s wlo true
        obtain ⟨c3, s3, fl3, hf3, hc3⟩ := inext_any (n + 1) rest1 true
        have := hf3 rfl
        subst this
        obtain ⟨s4, h4⟩ := iform_true n s3
        refine ⟨ops c2 t1 0, ops c3 t1' 0, true, p1 + 1 + 1 + 1, s4, by omega, by omega, fun h => (by cases h), fun R k => ?_, fun R k => ?_⟩
        · rw [hsp, w1.spec, hc2, sw (by omega) (by omega), sform_true (by omega) (by omega), rwant_true (n + 1) 41 s (by omega) (by omega), ops_s, okop_true]
        · rw [himp', w1.impl, hc3, h4, cond_true, ops_i, okop_true]
      | false =>
        obtain ⟨e1, q, q1, q2, q3, q4⟩ := w1.tied rfl
        subst e1 q3 q4
        by_cases hq : q = s.size
        · subst hq
          have hz : (s.extract s.size s.size).size = 0 := by rw [ByteArray.size_extract]; omega
          obtain ⟨s4, h4⟩ := iform_true n (s.extract s.size s.size)
          refine ⟨ops 0 t1 0, ops 0 t1 0, true, (s.size : Int) + 1 + 1 + 1, s4, by omega, by omega, fun h => (by cases h), fun R k => ?_, fun R k => ?_⟩
          · rw [hsp, w1.spec, snext_end (n + 1) s false (by omega), sw (by omega) (by omega), rform_bad (c := 0) (by omega) (by omega) (fun R k => snext_end n s false (by omega) k) (.inr (by omega)), rwant_true (n + 1) 41 s (by omega) (by omega), ops_s, okop_true]
          · rw [himp', w1.impl, inext_end (n + 1) _ _ hz, h4, cond_true, ops_i, okop_true]
        · have hqlt : q < s.size := by omega
          obtain ⟨t2, t2', fl2, p2, rest2, w2⟩ := ih (n + 1) (q + 1) (by omega) (by omega) (by omega)
          have vlo := w2.lo
          have vhi := w2.hi
          have hwq : IntKind.wrap .i64 ((q : Int) + 1) = ((q + 1 : Nat) : Int) := wrap64 (by omega) (by omega)
          cases fl2 with
          | true =>
            refine ⟨ops ((s.data.getD q 0).toNat : Int) t1 t2, ops ((s.data.getD q 0).toNat : Int) t1 t2', true, p2 + 1, rest2, by omega, by omega, fun h => (by cases h), fun R k => ?_, fun R k => ?_⟩
            · rw [hsp, w1.spec, snext_at (n + 1) s false hqlt, hwq, w2.spec, rwant_true (n + 1) 41 s (by omega) (by omega), ops_s, okop_true]
            · rw [himp', w1.impl, inext_at (n + 1) s false hqlt, w2.impl, cond_true, ops_i, okop_true]
          | false =>
            obtain ⟨e2, r, r1, r2, r3, r4⟩ := w2.tied rfl
            subst e2 r3 r4
            have hwr : IntKind.wrap .i64 ((r : Int) + 1) = ((r + 1 : Nat) : Int) := wrap64 (by omega) (by omega)
            by_cases hr : r = s.size
            · subst hr
              have hz : (s.extract s.size s.size).size = 0 := by rw [ByteArray.size_extract]; omega
              refine ⟨ops ((s.data.getD q 0).toNat : Int) t1 t2, ops ((s.data.getD q 0).toNat : Int) t1 t2, true, (s.size + 1 : Nat), s.extract s.size s.size, by omega, by omega, fun h => (by cases h), fun R k => ?_, fun R k => ?_⟩
              · rw [hsp, w1.spec, snext_at (n + 1) s false hqlt, hwq, w2.spec]
                unfold spec_l7R_want
                rw [snext_end (n + 1) s false (by omega), hwr, show ((0 : Int) != 41) = true from rfl, cond_true]
                exact (ops_s _ t1 t2 s _ true k).trans (by rw [okop_true])
              · rw [himp', w1.impl, inext_at (n + 1) s false hqlt, w2.impl, cond_false, inext_end (n + 1) _ _ hz, show ((0 : Int) != 41) = true from rfl, ops_i, okop_true]
            · have hrlt : r < s.size := by omega
              refine ⟨ops ((s.data.getD q 0).toNat : Int) t1 t2, ops ((s.data.getD q 0).toNat : Int) t1 t2, bif okop ((s.data.getD q 0).toNat : Int) then (((s.data.getD r 0).toNat : Int) != 41) else true, (r + 1 : Nat), s.extract (r + 1) s.size, by omega, by omega, fun _ => ⟨rfl, r + 1, by omega, by omega, rfl, rfl⟩, fun R k => ?_, fun R k => ?_⟩
              · rw [hsp, w1.spec, snext_at (n + 1) s false hqlt, hwq, w2.spec]
                unfold spec_l7R_want
                rw [snext_at (n + 1) s false hrlt, hwr]
                cases ((s.data.getD r 0).toNat : Int) != 41
                · exact ops_s _ t1 t2 s _ false k
                · exact ops_s _ t1 t2 s _ true k
              · rw [himp', w1.impl, inext_at (n + 1) s false hqlt, w2.impl, cond_false, inext_at (n + 1) s false hrlt, ops_i]
    · refine ⟨0, 0, true, ((p : Int) + 1), s.extract (p + 1) s.size, by omega, by omega, fun h => (by cases h), ?_, fun R k => ?_⟩
      · exact rform_bad (c := c) (by omega) (by omega) (fun R k => hsn R false k) (.inr (by omega))
      · rw [himp, bne' h33, cond_false, show ((c : Int) != 40) = true by simpa using h40, cond_true]; rfl
theorem extract_all (s : ByteArray) : s.extract 0 s.size = s := by
  apply ByteArray.ext
  rw [ByteArray.data_extract]
  exact Array.extract_size
theorem formDiagram_ex {n : Nat} (hn : 3000 ≤ n) (s : ByteArray) : ∃ (r : Int) (ok : Bool) (g : List (Int × Int × Int)), g.length ≤ 63 ∧ (∀ (R : Type) (k : Int → Bool → List (Int × Int × Int) → Option R), impl_DiagramOf n s k = k r ok g) ∧ ∀ (R : Type) (k : Int → Bool → List (Int × Int × Int) → Option R), spec_DiagramOf n s k = k r ok g := by
  have bad : (∀ (R : Type) (k : Int → Bool → Option R), ∃ x, impl_readForm n s k = k x false) → (∀ (R : Type) (k : Int → Bool → Option R), ∃ x, spec_l7Table n s k = k x false) → ∃ (r : Int) (ok : Bool) (g : List (Int × Int × Int)), g.length ≤ 63 ∧ (∀ (R : Type) (k : Int → Bool → List (Int × Int × Int) → Option R), impl_DiagramOf n s k = k r ok g) ∧ ∀ (R : Type) (k : Int → Bool → List (Int × Int × Int) → Option R), spec_DiagramOf n s k = k r ok g := fun h1 h2 => by
    refine ⟨0, false, [], by simp, fun R k => ?_, fun R k => ?_⟩
    · unfold impl_DiagramOf
      obtain ⟨x, hx⟩ := h1 R fun r1 r2 => (bif (!r2) then k 0 false ([] : List (Int × Int × Int)) else (impl_diagramOf n r1 fun r3 r4 r5 => k r3 r4 r5))
      rw [hx]; rfl
    · unfold spec_DiagramOf
      obtain ⟨x, hx⟩ := h2 R fun r1 r2 => (bif (!r2) then k 0 false ([] : List (Int × Int × Int)) else (spec_l7Diagram n r1 fun r3 r4 r5 => (bif (!r4) then k 0 false ([] : List (Int × Int × Int)) else k r3 true r5)))
      rw [hx]; rfl
  by_cases h : (s.size : Int) > 60
  · exact bad (fun R k => ⟨0, by unfold impl_readForm; rw [decide_eq_true h]; rfl⟩) (fun R k => ⟨0, by unfold spec_l7Table; rw [decide_eq_true h]; rfl⟩)
  · obtain ⟨t, t', fl, pos, rest, w⟩ := two_ex (s := s) (by omega) 60 n 0 (by omega) (by omega) (by omega)
    have wi := w.impl
    have ws := w.spec
    rw [extract_all] at wi
    rw [show ((0 : Nat) : Int) = 0 from rfl] at ws
    cases fl with
    | true => exact bad (fun R k => ⟨U t', by unfold impl_readForm; rw [decide_eq_false h, cond_false, wi]; rfl⟩) (fun R k => ⟨U t, by unfold spec_l7Table; rw [decide_eq_false h, cond_false, ws]; rfl⟩)
    | false =>
      obtain ⟨e1, q, q1, q2, q3, q4⟩ := w.tied rfl
      subst e1 q3 q4
      have hz : (s.extract q s.size).size = s.size - q := by rw [ByteArray.size_extract]; omega
      have hi : ∀ (R : Type) (k : Int → Bool → Option R), impl_readForm n s k = k (U t) (decide (q = s.size)) := fun R k => by
        unfold impl_readForm
        rw [decide_eq_false h, cond_false, wi, Bool.not_false, cond_true, rest_nil, hz]
        congr 1
        exact decide_eq_decide.2 ⟨fun h => by omega, fun h => by omega⟩
      have hsp : ∀ (R : Type) (k : Int → Bool → Option R), spec_l7Table n s k = k (U t) (decide (q = s.size)) := fun R k => by
        unfold spec_l7Table
        rw [decide_eq_false h, cond_false, ws, Bool.not_false, cond_true]
        congr 1
        rw [Bool.eq_iff_iff, beq_iff_eq, decide_eq_true_iff]
        omega
      by_cases hq : q = s.size
      · rw [decide_eq_true hq] at hi hsp
        obtain ⟨r, g, T, _, _, _, _, hg, hdi, hds⟩ := diagram_u t
        refine ⟨r, true, g, hg, fun R k => ?_, fun R k => ?_⟩
        · unfold impl_DiagramOf
          rw [hi, Bool.not_true, cond_false, hdi n hn]
        · unfold spec_DiagramOf
          rw [hsp, Bool.not_true, cond_false, hds n hn]; rfl
      · rw [decide_eq_false hq] at hi hsp
        exact bad (fun R k => ⟨U t, hi R k⟩) (fun R k => ⟨U t, hsp R k⟩)
def marksC : Nat → Int → List (Int × Int × Int)
  | 0, _ => []
  | m + 1, k => (k, k + 1, k + 2) :: marksC m (k + 3)
theorem marksC_length : ∀ m k, (marksC m k).length = m
  | 0, _ => rfl
  | m + 1, k => by simp [marksC, marksC_length m]
theorem set_take_dropC {α : Type} {l : List α} {j : Nat} (h : j < l.length) (x : α) : (l.set j x).take (j + 1) = l.take j ++ [x] := by
  rw [List.take_set, List.take_succ_eq_append_getElem h, List.set_append_right _ _ (by simp; omega)]
  rw [show j - (l.take j).length = 0 by simp; omega]
  rfl
theorem getD_setC {l : List (Int × Int × Int)} {j : Nat} (h : j < l.length) (x : Int × Int × Int) : (l.set j x).getD j (0, (0, 0)) = x := by
  rw [List.getD_eq_getElem?_getD, List.getElem?_set_self (by omega)]; rfl
theorem laws_markC_loop {R : Type} (ke : Int → List (Int × Int × Int) → Option R) : ∀ (n j : Nat) (l : List (Int × Int × Int)) (q : Int), l.length - j < n → j ≤ l.length → 0 ≤ q → q + 3 * (l.length - j : Nat) ≤ 9223372036854775000 → l.length ≤ 9223372036854775000 →
    laws_markChoiceS_l2 n q (j : Int) l ke = ke (q + 3 * (l.length - j : Nat)) (l.take j ++ marksC (l.length - j) q)
  | 0, _, _, _, h, _, _, _, _ => by omega
  | n + 1, j, l, q, hn, hj, h0, h1, h2 => by
    unfold laws_markChoiceS_l2
    by_cases h : j < l.length
    · rw [dlt h, dnn, wrapS h (by omega), wrap64 (x := q + 1) (by omega) (by omega), wrap64 (x := q + 1 + 1) (by omega) (by omega), wrap64 (x := q + 1 + 1 + 1) (by omega) (by omega), Int.toNat_natCast]
      simp only [List.length_set, dlt h, cond_true]
      rw [getD_setC h]
      dsimp only
      rw [getD_setC (by simpa using h)]
      dsimp only
      rw [List.set_set, List.set_set, laws_markC_loop ke n (j + 1) _ (q + 1 + 1 + 1) (by simp; omega) (by simp; omega) (by omega) (by simp; omega) (by simp; omega)]
      rw [List.length_set, set_take_dropC h, List.append_assoc, show l.length - j = (l.length - (j + 1)) + 1 by omega, marksC, show q + 1 + 1 + 1 = q + 3 by omega, show q + 1 + 1 = q + 2 by omega]
      congr 1
      omega
    · rw [dge (by omega), cond_false, show l.length - j = 0 by omega, List.take_of_length_le (by omega)]
      simp [marksC]
theorem laws_mark_eq {R : Type} {n : Nat} {l : List (Int × Int × Int)} (x : Int) {q : Int} (hl : l.length ≤ 1048576) (hn : l.length < n) (h0 : 0 ≤ q) (h1 : q ≤ 100000000) (k : Int → Int → List (Int × Int × Int) → Option R) : laws_markDiagram n x q l k = k (q + 3 * l.length) x (marksC l.length q) := by
  unfold laws_markDiagram laws_markChoiceS
  have := laws_markC_loop (fun r1 r2 => k r1 x r2) n 0 l q (by omega) (by omega) h0 (by omega) (by omega)
  simp only [List.take_zero, List.nil_append, Nat.sub_zero] at this
  exact this
theorem laws_heldC_loop {R : Type} (l : List (Int × Int × Int)) (kr ke : Int → Option R) : ∀ (n j : Nat) (q : Int), l.length - j < n → j ≤ l.length → 0 ≤ q → q + 3 * (l.length - j : Nat) ≤ 9223372036854775000 → l.length ≤ 9223372036854775000 → l.drop j = marksC (l.length - j) q →
    laws_heldChoiceS_l2 n l q (j : Int) kr ke = ke (q + 3 * (l.length - j : Nat))
  | 0, _, _, h, _, _, _, _, _ => by omega
  | n + 1, j, q, hn, hj, h0, h1, h2, h3 => by
    unfold laws_heldChoiceS_l2
    by_cases h : j < l.length
    · rw [show l.length - j = (l.length - (j + 1)) + 1 by omega, List.drop_eq_getElem_cons h, marksC] at h3
      injection h3 with h4 h5
      rw [dlt h, dnn, getD_at _ _ h, wrapS h (by omega), wrap64 (x := q + 1) (by omega) (by omega), wrap64 (x := q + 1 + 1) (by omega) (by omega), wrap64 (x := q + 1 + 1 + 1) (by omega) (by omega), h4]
      rw [show q + 1 + 1 = q + 2 by omega, bne_self_eq_false, bne_self_eq_false, bne_self_eq_false]
      simp only [cond_true, cond_false]
      rw [show q + 2 + 1 = q + 3 by omega, laws_heldC_loop l kr ke n (j + 1) (q + 3) (by omega) (by omega) (by omega) (by omega) h2 h5]
      congr 1
      omega
    · rw [dge (by omega), cond_false, show l.length - j = 0 by omega]
      simp
theorem laws_held_eq {R : Type} {n m : Nat} (x : Int) {q : Int} (hm : m ≤ 1048576) (hn : m < n) (h0 : 0 ≤ q) (h1 : q ≤ 100000000) (k : Int → Option R) : laws_heldDiagram n (marksC m q) x q k = k (q + 3 * m) := by
  unfold laws_heldDiagram laws_heldChoiceS
  have := laws_heldC_loop (marksC m q) (fun r1 => (fun r1 => (bif (decide (r1 < 0)) then k (-1) else k r1)) r1) (fun r1 => (fun r1 => (bif (decide (r1 < 0)) then k (-1) else k r1)) r1) n 0 q (by rw [marksC_length]; omega) (by omega) h0 (by rw [marksC_length]; omega) (by rw [marksC_length]; omega) (by rw [marksC_length]; simp)
  rw [marksC_length, Nat.sub_zero, show ((0 : Nat) : Int) = 0 from rfl] at this
  rw [this]
  dsimp only
  rw [decide_eq_false (show ¬ q + 3 * (m : Int) < 0 by omega), cond_false]
theorem key {R : Type} {n : Nat} (s : ByteArray) (hn : 2000000 ≤ n) (k : Bool → Option R) : laws_FnExactDiagramOf n s k = k true := by
  unfold laws_FnExactDiagramOf
  by_cases c : (s.size : Int) > 1048576
  · rw [decide_eq_true c]; rfl
  · obtain ⟨r0, ok, l0, h0, hi, hs⟩ := formDiagram_ex (n := n) (by omega) s
    rw [decide_eq_false c, cond_false]
    simp only [hi, hs, laws_eqD_eq (show l0.length ≤ 1048576 by omega) (show l0.length < n by omega), beq_self_eq_true, Bool.not_true, cond_false,
      laws_mark_eq r0 (show l0.length ≤ 1048576 by omega) (show l0.length < n by omega) (show (0 : Int) ≤ 1 by omega) (show (1 : Int) ≤ 100000000 by omega),
      laws_held_eq r0 (show l0.length ≤ 1048576 by omega) (show l0.length < n by omega) (show (0 : Int) ≤ 1 by omega) (show (1 : Int) ≤ 100000000 by omega), decide_eq_false (show ¬ 1 + 3 * (l0.length : Int) < 0 by omega), bne_self_eq_false]
theorem plain : Plain := fun s h R k => ⟨_, key s (Nat.le_refl _) k⟩
end Go.Am.G
