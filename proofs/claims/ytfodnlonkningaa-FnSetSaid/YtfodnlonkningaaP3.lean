/- The plain law: what the functions compute answers as the law says, for all arguments. -/
import Derived.Test.YtfodnlonkningaaF3
set_option linter.unusedVariables false
set_option linter.unusedSimpArgs false
namespace Go.Am.G
open Go Go.Am
theorem wrap64 {x : Int} (h1 : -9223372036854775808 ≤ x) (h2 : x ≤ 9223372036854775807) : IntKind.wrap .i64 x = x := by
  simp only [IntKind.wrap, IntKind.signed, IntKind.bits]
  simp
  omega
theorem getD_at {α : Type} (l : List α) (d : α) {j : Nat} (h : j < l.length) : l.getD (Int.toNat (j : Int)) d = l[j] := by
  rw [Int.toNat_natCast, List.getD_eq_getElem?_getD, List.getElem?_eq_getElem h]; rfl
theorem dlt {a b : Nat} (h : a < b) : decide ((a : Int) < (b : Int)) = true := decide_eq_true (by omega)
theorem dge {a b : Nat} (h : b ≤ a) : decide ((a : Int) < (b : Int)) = false := decide_eq_false (by omega)
theorem dnn (a : Nat) : decide (0 ≤ (a : Int)) = true := decide_eq_true (by omega)
theorem wrapS {j m : Nat} (h : j < m) (hm : m ≤ 9223372036854775807) : IntKind.wrap .i64 ((j : Int) + 1) = ((j + 1 : Nat) : Int) := by
  rw [wrap64 (by omega) (by omega)]; rfl
theorem spec_l1In_eq {R : Type} (n : Nat) (x a b : Int) (k : Bool → Option R) : spec_l1In n x a b k = k (decide (a ≤ x ∧ x ≤ b)) := by
  simp only [spec_l1In]
  by_cases h : x ≥ a
  · have : a ≤ x := h
    simp [this]
  · have : ¬ a ≤ x := h
    simp [this]
theorem impl_in_eq {R : Type} (n : Nat) (x a b : Int) (k : Bool → Option R) : impl_in n x a b k = k (decide (a ≤ x ∧ x ≤ b)) := by
  simp only [impl_in]
  by_cases h : x ≥ a
  · have : a ≤ x := h
    simp [this]
  · have : ¬ a ≤ x := h
    simp [this]
theorem loop_fold {α σ R : Type} (l : List α) (B : Nat) (F : Nat → Int → σ → Option R) (f : σ → α → Option σ) (ke : σ → Option R) (kr : Option R) (I : Nat → σ → Prop)
    (step : ∀ (n j : Nat) (s : σ) (h : j < l.length), B ≤ n → I j s → (∀ s', f s l[j] = some s' → F (n + 1) (j : Int) s = F n ((j + 1 : Nat) : Int) s' ∧ I (j + 1) s') ∧ (f s l[j] = none → F (n + 1) (j : Int) s = kr))
    (stop : ∀ n s, I l.length s → F (n + 1) (l.length : Int) s = ke s) : ∀ (n j : Nat) (s : σ), B + (l.length - j) < n → j ≤ l.length → I j s → F n (j : Int) s = match (l.drop j).foldlM f s with
      | some s' => ke s'
      | none => kr
  | 0, _, _, h, _, _ => by omega
  | n + 1, j, s, hn, hj, hI => by
    by_cases h : j < l.length
    · obtain ⟨h1, h2⟩ := step n j s h (by omega) hI
      rw [List.drop_eq_getElem_cons h, List.foldlM_cons]
      cases hf : f s l[j] with
      | none => rw [h2 hf]; rfl
      | some s' =>
        obtain ⟨h3, h4⟩ := h1 s' hf
        rw [h3]
        exact loop_fold l B F f ke kr I step stop n (j + 1) s' (by omega) (by omega) h4
    · have : j = l.length := by omega
      subst this
      rw [stop n s hI, List.drop_length]; rfl
theorem loop_foldl {α σ R : Type} (l : List α) (B : Nat) (F : Nat → Int → σ → Option R) (f : σ → α → σ) (ke : σ → Option R) (I : Nat → σ → Prop)
    (step : ∀ (n j : Nat) (s : σ) (h : j < l.length), B ≤ n → I j s → F (n + 1) (j : Int) s = F n ((j + 1 : Nat) : Int) (f s l[j]) ∧ I (j + 1) (f s l[j]))
    (stop : ∀ n s, I l.length s → F (n + 1) (l.length : Int) s = ke s) : ∀ (n j : Nat) (s : σ), B + (l.length - j) < n → j ≤ l.length → I j s → F n (j : Int) s = ke ((l.drop j).foldl f s)
  | 0, _, _, h, _, _ => by omega
  | n + 1, j, s, hn, hj, hI => by
    by_cases h : j < l.length
    · obtain ⟨h1, h2⟩ := step n j s h (by omega) hI
      rw [List.drop_eq_getElem_cons h, List.foldl_cons, h1]
      exact loop_foldl l B F f ke I step stop n (j + 1) _ (by omega) (by omega) h2
    · have : j = l.length := by omega
      subst this
      rw [stop n s hI, List.drop_length]; rfl
abbrev Tm := Int × Int
def pw : Nat → Int
  | 0 => 1
  | 1 => 8
  | 2 => 64
  | _ => 512
abbrev FitL (now at_ : Int) (L : Nat) : Prop := 1 ≤ at_ / pw L - now / pw L ∧ at_ / pw L - now / pw L ≤ 7
def slotL (at_ : Int) (L : Nat) : Nat := L * 8 + (at_ / pw L % 8).toNat
def slotO (now at_ : Int) : Option Nat := if FitL now at_ 0 then some (slotL at_ 0) else if FitL now at_ 1 then some (slotL at_ 1) else if FitL now at_ 2 then some (slotL at_ 2) else none
theorem pw_pos (L : Nat) : 0 < pw L := by
  match L with
  | 0 => decide
  | 1 => decide
  | 2 => decide
  | n + 3 => exact (show (0 : Int) < 512 by decide)
theorem slotL_lt (at_ : Int) {L : Nat} (h : L < 3) : slotL at_ L < 24 := by
  unfold slotL
  have h1 := Int.emod_nonneg (at_ / pw L) (show (8 : Int) ≠ 0 by decide)
  have h2 := Int.emod_lt_of_pos (at_ / pw L) (show (0 : Int) < 8 by decide)
  omega
theorem slotO_lt {now at_ : Int} {s : Nat} (h : slotO now at_ = some s) : s < 24 := by
  unfold slotO at h
  split at h
  · cases h; exact slotL_lt at_ (by omega)
  · split at h
    · cases h; exact slotL_lt at_ (by omega)
    · split at h
      · cases h; exact slotL_lt at_ (by omega)
      · cases h
/-- The reference's powers. -/
theorem spec_l5Pow_loop {R : Type} (ke : Int → Option R) : ∀ (c n : Nat) (y : Int), c < n → c ≤ 3 → 0 ≤ y → y * 8 ^ c ≤ 1000000 → spec_l5Pow_l2 n (c : Int) y ke = ke (y * 8 ^ c)
  | c, 0, y, h, _, _, _ => by omega
  | 0, n + 1, y, _, _, h0, _ => by
    unfold spec_l5Pow_l2
    simp
  | c + 1, n + 1, y, hn, hc3, h0, h1 => by
    unfold spec_l5Pow_l2
    have h2 : y * 8 * 8 ^ c = y * 8 ^ (c + 1) := by rw [Int.pow_succ]; rw [Int.mul_assoc, Int.mul_comm 8]
    have h8 : (1 : Int) ≤ 8 ^ c := Int.pow_pos (by decide)
    have h3 : y * 8 ≤ 1000000 := by
      have : y * 8 * 1 ≤ y * 8 * 8 ^ c := Int.mul_le_mul_of_nonneg_left h8 (by omega)
      omega
    rw [decide_eq_true (show ((c + 1 : Nat) : Int) > 0 by omega), cond_true, wrap64 (x := ((c + 1 : Nat) : Int) - 1) (by omega) (by omega), wrap64 (x := y * 8) (by omega) (by omega)]
    rw [show ((c + 1 : Nat) : Int) - 1 = (c : Int) by omega, spec_l5Pow_loop ke c n (y * 8) (by omega) (by omega) (by omega) (by omega), h2]
theorem spec_l5Pow_eq {R : Type} {n : Nat} (hn : 10 ≤ n) {L : Nat} (hL : L ≤ 3) (k : Int → Option R) : spec_l5Pow n (L : Int) k = k (pw L) := by
  unfold spec_l5Pow
  have h : (8 : Int) ^ L = pw L ∧ (8 : Int) ^ L ≤ 512 := by
    match L, hL with
    | 0, _ => exact ⟨rfl, by decide⟩
    | 1, _ => exact ⟨rfl, by decide⟩
    | 2, _ => exact ⟨rfl, by decide⟩
    | 3, _ => exact ⟨rfl, by decide⟩
  rw [spec_l5Pow_loop _ L n 1 (by omega) hL (by omega) (by omega), Int.one_mul, h.1]
theorem impl_units_loop {R : Type} (ke : Int → Option R) (L : Nat) (hL : L ≤ 3) : ∀ (n j : Nat), (L - j) < n → j ≤ L → impl_units_l3 n (8 ^ j) (L : Int) (j : Int) ke = ke (8 ^ L)
  | 0, j, h, _ => by omega
  | n + 1, j, hn, hj => by
    unfold impl_units_l3
    by_cases h : j < L
    · have h8 : (8 : Int) ^ (j + 1) ≤ 512 := by
        match j, h with
        | 0, _ => decide
        | 1, _ => decide
        | 2, _ => decide
        | j + 3, _ => omega
      have h9 : (0 : Int) < 8 ^ (j + 1) := Int.pow_pos (by decide)
      rw [dlt h, cond_true, wrapS h (by omega), ← Int.pow_succ, wrap64 (by omega) (by omega)]
      exact impl_units_loop ke L hL n (j + 1) (by omega) (by omega)
    · have : j = L := by omega
      subst this
      rw [dge (Nat.le_refl _), cond_false]
theorem impl_units_eq {R : Type} {n : Nat} (hn : 10 ≤ n) {L : Nat} (hL : L ≤ 3) (k : Int → Option R) : impl_units n (L : Int) k = k (pw L) := by
  unfold impl_units
  have h : (8 : Int) ^ L = pw L := by
    match L, hL with
    | 0, _ => rfl
    | 1, _ => rfl
    | 2, _ => rfl
    | 3, _ => rfl
  have := impl_units_loop k L hL n 0 (by omega) (by omega)
  rw [show (8 : Int) ^ 0 = 1 from rfl, show ((0 : Nat) : Int) = 0 from rfl, h] at this
  exact this
/-- Numbers as times are. -/
def TimeB (x : Int) : Prop := 0 ≤ x ∧ x ≤ 1000000000
theorem div_b {x : Int} (h : TimeB x) (L : Nat) : 0 ≤ x / pw L ∧ x / pw L ≤ 1000000000 := by
  have := h.1; have := h.2
  match L with
  | 0 => simp only [pw]; omega
  | 1 => simp only [pw]; omega
  | 2 => simp only [pw]; omega
  | _ + 3 => simp only [pw]; omega
theorem tdiv_pw {x : Int} (h : TimeB x) (L : Nat) : IntKind.wrap .i64 (Int.tdiv x (pw L)) = x / pw L := by
  rw [Int.tdiv_eq_ediv_of_nonneg h.1]
  have := div_b h L
  exact wrap64 (by omega) (by omega)
theorem ne_pw (L : Nat) : decide (pw L ≠ 0) = true := decide_eq_true (by have := pw_pos L; omega)
theorem spec_l5Fits_eq {R : Type} {n : Nat} (hn : 10 ≤ n) {L : Nat} (hL : L ≤ 3) {now at_ : Int} (h0 : TimeB now) (h1 : TimeB at_) (k : Bool → Option R) : spec_l5Fits n now at_ (L : Int) k = k (decide (FitL now at_ L)) := by
  unfold spec_l5Fits
  have d1 := div_b h0 L
  have d2 := div_b h1 L
  rw [spec_l5Pow_eq hn hL, ne_pw, cond_true, spec_l5Pow_eq hn hL, ne_pw, cond_true, tdiv_pw h1, tdiv_pw h0, wrap64 (x := at_ / pw L - now / pw L) (by omega) (by omega), spec_l1In_eq]
theorem impl_fitsLevel_eq {R : Type} {n : Nat} (hn : 10 ≤ n) {L : Nat} (hL : L ≤ 3) {now at_ : Int} (h0 : TimeB now) (h1 : TimeB at_) (k : Bool → Option R) : impl_fitsLevel n now at_ (L : Int) k = k (decide (FitL now at_ L)) := by
  unfold impl_fitsLevel
  have d1 := div_b h0 L
  have d2 := div_b h1 L
  rw [impl_units_eq hn hL, ne_pw, cond_true, impl_units_eq hn hL, ne_pw, cond_true, tdiv_pw h1, tdiv_pw h0, wrap64 (x := at_ / pw L - now / pw L) (by omega) (by omega), impl_in_eq]
theorem slot_int {at_ : Int} (h1 : TimeB at_) {L : Nat} (hL : L ≤ 3) : IntKind.wrap .i64 (IntKind.wrap .i64 ((L : Int) * 8) + Int.tmod (IntKind.wrap .i64 (Int.tdiv at_ (pw L))) 8) = ((slotL at_ L : Nat) : Int) := by
  have d := div_b h1 L
  rw [tdiv_pw h1, Int.tmod_eq_emod_of_nonneg d.1, wrap64 (x := (L : Int) * 8) (by omega) (by omega)]
  have m1 := Int.emod_nonneg (at_ / pw L) (show (8 : Int) ≠ 0 by decide)
  have m2 := Int.emod_lt_of_pos (at_ / pw L) (show (0 : Int) < 8 by decide)
  rw [wrap64 (by omega) (by omega)]
  unfold slotL
  omega
theorem impl_slotAt_eq {R : Type} {n : Nat} (hn : 10 ≤ n) {L : Nat} (hL : L ≤ 3) {at_ : Int} (h1 : TimeB at_) (k : Int → Option R) : impl_slotAt n at_ (L : Int) k = k ((slotL at_ L : Nat) : Int) := by
  unfold impl_slotAt
  rw [impl_units_eq hn hL, ne_pw, cond_true, slot_int h1 hL]
abbrev TimerOk (now : Int) (t : Tm) : Prop := 0 ≤ t.2 ∧ t.2 ≤ 1000 ∧ now < t.1 ∧ t.1 < now + 512
theorem spec_l5Timer_eq {R : Type} {n : Nat} (hn : 10 ≤ n) {now at_ id : Int} (h0 : TimeB now) (k : Bool → Option R) : spec_l5Timer n at_ id now k = k (decide (TimerOk now (at_, id))) := by
  have := h0.1; have := h0.2
  unfold spec_l5Timer
  rw [spec_l1In_eq]
  by_cases c : 0 ≤ id ∧ id ≤ 1000
  · rw [decide_eq_true c, cond_true]
    by_cases c2 : at_ > now
    · rw [decide_eq_true c2, cond_true]
      have := spec_l5Pow_eq (R := R) hn (L := 3) (Nat.le_refl _) (fun r2 => k (decide (at_ < IntKind.wrap .i64 (now + r2))))
      rw [show ((3 : Nat) : Int) = 3 from rfl] at this
      rw [this, show pw 3 = 512 from rfl, wrap64 (by omega) (by omega)]
      congr 1
      apply decide_eq_decide.2
      unfold TimerOk
      exact ⟨fun h => ⟨c.1, c.2, c2, h⟩, fun h => h.2.2.2⟩
    · rw [decide_eq_false c2, cond_false, decide_eq_false]
      exact fun h => c2 h.2.2.1
  · rw [decide_eq_false c, cond_false, decide_eq_false]
    exact fun h => c ⟨h.1, h.2.1⟩
theorem impl_reach_eq {R : Type} {n : Nat} {now at_ : Int} (h0 : TimeB now) (k : Bool → Option R) : impl_reach n now at_ k = k (decide (now < at_ ∧ at_ < now + 512)) := by
  have := h0.1; have := h0.2
  unfold impl_reach
  rw [wrap64 (by omega) (by omega)]
  by_cases c2 : at_ > now
  · rw [decide_eq_true c2, cond_true]
    congr 1
    apply decide_eq_decide.2
    exact ⟨fun h => ⟨c2, h⟩, fun h => h.2⟩
  · rw [decide_eq_false c2, cond_false, decide_eq_false]
    exact fun h => c2 h.1
theorem spec_l5Slot_eq {R : Type} {n : Nat} (hn : 20 ≤ n) {now at_ : Int} (h0 : TimeB now) (h1 : TimeB at_) (k : Int → Option R) : spec_l5Slot n now at_ k = k (match slotO now at_ with
    | some s => (s : Int)
    | none => -1) := by
  obtain ⟨m, rfl⟩ : ∃ m, n = m + 4 := ⟨n - 4, by omega⟩
  have st : ∀ (m L : Nat) (hL : L ≤ 2) (hm : 10 ≤ m) (kr : Int → Option R) (ke : Option R), spec_l5Slot_l2 (m + 1) now at_ (L : Int) kr ke = if FitL now at_ L then kr (slotL at_ L : Nat) else spec_l5Slot_l2 m now at_ ((L + 1 : Nat) : Int) kr ke := by
    intro m L hL hm kr ke
    rw [spec_l5Slot_l2, decide_eq_true (show (L : Int) < 3 by omega), cond_true, spec_l5Fits_eq hm (by omega) h0 h1]
    by_cases c : FitL now at_ L
    · rw [decide_eq_true c, cond_true, if_pos c, spec_l5Pow_eq hm (by omega), ne_pw, cond_true, slot_int h1 (by omega)]
    · rw [decide_eq_false c, cond_false, if_neg c, wrap64 (by omega) (by omega)]; rfl
  unfold spec_l5Slot slotO
  have s0 := st (m + 3) 0 (by omega) (by omega) (fun r3 => k r3) (k (-1))
  rw [show ((0 : Nat) : Int) = 0 from rfl] at s0
  rw [s0, st (m + 2) 1 (by omega) (by omega), st (m + 1) 2 (by omega) (by omega)]
  rw [spec_l5Slot_l2, decide_eq_false (show ¬ ((2 + 1 : Nat) : Int) < 3 by omega), cond_false]
  split
  · rfl
  · split
    · rfl
    · split <;> rfl
theorem impl_slotFor_eq {R : Type} {n : Nat} (hn : 20 ≤ n) {now at_ : Int} (h0 : TimeB now) (h1 : TimeB at_) (k : Int → Bool → Option R) : impl_slotFor n now at_ k = k (match slotO now at_ with
    | some s => (s : Int)
    | none => 0) (slotO now at_).isSome := by
  obtain ⟨m, rfl⟩ : ∃ m, n = m + 4 := ⟨n - 4, by omega⟩
  have st : ∀ (m L : Nat) (hL : L ≤ 2) (hm : 10 ≤ m) (kr : Int → Bool → Option R) (ke : Option R), impl_slotFor_l2 (m + 1) now at_ (L : Int) kr ke = if FitL now at_ L then kr (slotL at_ L : Nat) true else impl_slotFor_l2 m now at_ ((L + 1 : Nat) : Int) kr ke := by
    intro m L hL hm kr ke
    rw [impl_slotFor_l2, decide_eq_true (show (L : Int) < 3 by omega), cond_true, impl_fitsLevel_eq hm (by omega) h0 h1]
    by_cases c : FitL now at_ L
    · rw [decide_eq_true c, cond_true, if_pos c, impl_slotAt_eq hm (by omega) h1]
    · rw [decide_eq_false c, cond_false, if_neg c, wrap64 (by omega) (by omega)]; rfl
  unfold impl_slotFor slotO
  have s0 := st (m + 3) 0 (by omega) (by omega) (fun r3 r4 => k r3 r4) (k 0 false)
  rw [show ((0 : Nat) : Int) = 0 from rfl] at s0
  rw [s0, st (m + 2) 1 (by omega) (by omega), st (m + 1) 2 (by omega) (by omega)]
  rw [impl_slotFor_l2, decide_eq_false (show ¬ ((2 + 1 : Nat) : Int) < 3 by omega), cond_false]
  split
  · rfl
  · split
    · rfl
    · split <;> rfl
abbrev OkT (now : Int) (i : Nat) (t : Tm) : Prop := TimerOk now t ∧ FitL now t.1 (i / 8) ∧ slotL t.1 (i / 8) = i
def okB (now : Int) (i : Nat) (t : Tm) : Bool := decide (TimerOk now t) && (decide (FitL now t.1 (i / 8)) && decide (slotL t.1 (i / 8) = i))
theorem okB_iff {now : Int} {i : Nat} {t : Tm} : okB now i t = true ↔ OkT now i t := by simp only [okB, OkT, Bool.and_eq_true, decide_eq_true_eq]
def okStep (now : Int) (i : Nat) (acc : List Int) (t : Tm) : Option (List Int) := if okB now i t = true ∧ t.2 ∉ acc then some (acc ++ [t.2]) else none
def rowStep (now : Int) (s : Nat × List Int) (row : List Tm) : Option (Nat × List Int) := (row.foldlM (okStep now s.1) s.2).map fun a => (s.1 + 1, a)
def goodO (now : Int) (rows : List (List Tm)) : Option (Nat × List Int) := rows.foldlM (rowStep now) (0, [])
def goodB (now : Int) (rows : List (List Tm)) : Bool := decide (0 ≤ now ∧ now ≤ 100000) && (decide (rows.length = 24) && match goodO now rows with
  | some s => decide (s.2.length ≤ 60)
  | none => false)
theorem row_fold {now : Int} {i : Nat} : ∀ (row : List Tm) (acc : List Int), row.foldlM (okStep now i) acc = if (∀ t ∈ row, OkT now i t) ∧ (row.map (·.2)).Nodup ∧ (∀ t ∈ row, t.2 ∉ acc) then some (acc ++ row.map (·.2)) else none
  | [], acc => by simp
  | t :: row, acc => by
    rw [List.foldlM_cons]
    unfold okStep
    by_cases h : okB now i t = true ∧ t.2 ∉ acc
    · rw [if_pos h]
      show row.foldlM (okStep now i) (acc ++ [t.2]) = _
      rw [row_fold row (acc ++ [t.2])]
      by_cases c : (∀ t ∈ row, OkT now i t) ∧ (row.map (·.2)).Nodup ∧ (∀ u ∈ row, u.2 ∉ acc ++ [t.2])
      · rw [if_pos c, if_pos]
        · simp
        · refine ⟨fun u hu => ?_, ?_, fun u hu => ?_⟩
          · rcases List.mem_cons.1 hu with rfl | hu
            · exact okB_iff.1 h.1
            · exact c.1 u hu
          · rw [List.map_cons, List.nodup_cons]
            refine ⟨fun hm => ?_, c.2.1⟩
            obtain ⟨u, hu, he⟩ := List.mem_map.1 hm
            exact c.2.2 u hu (by rw [he]; simp)
          · rcases List.mem_cons.1 hu with rfl | hu
            · exact h.2
            · exact fun hm => c.2.2 u hu (List.mem_append_left _ hm)
      · rw [if_neg c, if_neg]
        rintro ⟨h1, h2, h3⟩
        rw [List.map_cons, List.nodup_cons] at h2
        refine c ⟨fun u hu => h1 u (List.mem_cons_of_mem _ hu), h2.2, fun u hu hm => ?_⟩
        rcases List.mem_append.1 hm with hm | hm
        · exact h3 u (List.mem_cons_of_mem _ hu) hm
        · exact h2.1 (List.mem_map.2 ⟨u, hu, by simpa using hm⟩)
    · rw [if_neg h, if_neg]
      · rfl
      · rintro ⟨h1, _, h3⟩
        exact h ⟨okB_iff.2 (h1 t (List.mem_cons_self ..)), h3 t (List.mem_cons_self ..)⟩
/-- The rows from a slot on. -/
def AllOkT (now : Int) (i : Nat) (rows : List (List Tm)) : Prop := ∀ (j : Nat) row, rows[j]? = some row → ∀ t ∈ row, OkT now (i + j) t
theorem rows_fold {now : Int} : ∀ (rows : List (List Tm)) (i : Nat) (acc : List Int), rows.foldlM (rowStep now) (i, acc) = some (i + rows.length, acc ++ rows.flatten.map (·.2)) ∧ AllOkT now i rows ∧ (rows.flatten.map (·.2)).Nodup ∧ (∀ t ∈ rows.flatten, t.2 ∉ acc) ∨
    rows.foldlM (rowStep now) (i, acc) = none ∧ ¬ (AllOkT now i rows ∧ (rows.flatten.map (·.2)).Nodup ∧ (∀ t ∈ rows.flatten, t.2 ∉ acc))
  | [], i, acc => .inl ⟨by simp, fun j row h => by simp at h, by simp, by simp⟩
  | row :: rows, i, acc => by
    rw [List.foldlM_cons]
    show ((rowStep now (i, acc) row).bind fun s => rows.foldlM (rowStep now) s) = _ ∧ _ ∨ _
    unfold rowStep
    rw [row_fold row acc]
    by_cases h : (∀ t ∈ row, OkT now i t) ∧ (row.map (·.2)).Nodup ∧ (∀ t ∈ row, t.2 ∉ acc)
    · rw [if_pos h]
      show (rows.foldlM (rowStep now) (i + 1, acc ++ row.map (·.2))) = _ ∧ _ ∨ _
      rcases rows_fold rows (i + 1) (acc ++ row.map (·.2)) with ⟨h1, h2, h3, h4⟩ | ⟨h1, h2⟩
      · refine .inl ⟨?_, fun j r hr t ht => ?_, ?_, fun t ht => ?_⟩
        · rw [h1]; simp; omega
        · cases j with
          | zero => cases hr; exact h.1 t ht
          | succ j =>
            have := h2 j r (by simpa using hr) t ht
            rw [show i + (j + 1) = i + 1 + j by omega]; exact this
        · rw [List.flatten_cons, List.map_append, List.nodup_append]
          refine ⟨h.2.1, h3, fun a ha b hb e => ?_⟩
          obtain ⟨u, hu, rfl⟩ := List.mem_map.1 hb
          exact h4 u hu (List.mem_append_right _ (by rw [← e]; exact ha))
        · rw [List.flatten_cons] at ht
          rcases List.mem_append.1 ht with ht | ht
          · exact h.2.2 t ht
          · exact fun hm => h4 t ht (List.mem_append_left _ hm)
      · refine .inr ⟨h1, fun ⟨k1, k2, k3⟩ => h2 ⟨fun j r hr t ht => ?_, ?_, fun t ht hm => ?_⟩⟩
        · have := k1 (j + 1) r (by simpa using hr) t ht
          rw [show i + 1 + j = i + (j + 1) by omega]; exact this
        · rw [List.flatten_cons, List.map_append, List.nodup_append] at k2
          exact k2.2.1
        · rcases List.mem_append.1 hm with hm | hm
          · exact k3 t (by rw [List.flatten_cons]; exact List.mem_append_right _ ht) hm
          · rw [List.flatten_cons, List.map_append, List.nodup_append] at k2
            exact k2.2.2 _ hm _ (List.mem_map_of_mem ht) rfl
    · rw [if_neg h]
      refine .inr ⟨rfl, fun ⟨k1, k2, k3⟩ => h ⟨fun t ht => k1 0 row rfl t ht, ?_, fun t ht => k3 t (by rw [List.flatten_cons]; exact List.mem_append_left _ ht)⟩⟩
      rw [List.flatten_cons, List.map_append, List.nodup_append] at k2
      exact k2.1
structure GoodW (now : Int) (rows : List (List Tm)) : Prop where
  n0 : 0 ≤ now
  n1 : now ≤ 100000
  len : rows.length = 24
  ok : ∀ (i : Nat) row, rows[i]? = some row → ∀ t ∈ row, OkT now i t
  nd : (rows.flatten.map (·.2)).Nodup
  cnt : rows.flatten.length ≤ 60
theorem goodB_iff {now : Int} {rows : List (List Tm)} : goodB now rows = true ↔ GoodW now rows := by
  unfold goodB goodO
  simp only [Bool.and_eq_true, decide_eq_true_eq]
  have key := rows_fold (now := now) rows 0 []
  constructor
  · rintro ⟨h1, h2, h3⟩
    rcases key with ⟨k1, k2, k3, _⟩ | ⟨k1, _⟩
    · rw [k1] at h3
      have h4 := of_decide_eq_true (show decide (([] ++ rows.flatten.map (fun t : Tm => t.2)).length ≤ 60) = true from h3)
      rw [List.nil_append, List.length_map] at h4
      exact ⟨h1.1, h1.2, h2, fun i row hr t ht => by have := k2 i row hr t ht; rwa [Nat.zero_add] at this, k3, h4⟩
    · rw [k1] at h3; cases h3
  · intro h
    refine ⟨⟨h.n0, h.n1⟩, h.len, ?_⟩
    rcases key with ⟨k1, _⟩ | ⟨_, k2⟩
    · rw [k1]
      show decide (([] ++ rows.flatten.map (fun t : Tm => t.2)).length ≤ 60) = true
      rw [List.nil_append, List.length_map]
      exact decide_eq_true h.cnt
    · exact absurd ⟨fun j r hr t ht => by rw [Nat.zero_add]; exact h.ok j r hr t ht, h.nd, fun _ _ hm => by cases hm⟩ k2
theorem spec_l1Has_loop {R : Type} (l : List Int) (x : Int) (hb : l.length ≤ 1000000) (kr : Bool → Option R) (ke : Option R) : ∀ (n j : Nat), l.length - j < n → j ≤ l.length → spec_l1Has_l2 n x l (l.length : Int) (j : Int) kr ke = if x ∈ l.drop j then kr true else ke
  | 0, _, h, _ => by omega
  | n + 1, j, hn, hj => by
    unfold spec_l1Has_l2
    by_cases h : j < l.length
    · rw [dlt h, dnn, getD_at _ _ h, wrapS h (by omega), List.drop_eq_getElem_cons h]
      simp only [cond_true]
      by_cases he : l[j] = x
      · rw [show (l[j] == x) = true by simpa using he, cond_true, if_pos (by rw [he]; exact List.mem_cons_self ..)]
      · rw [show (l[j] == x) = false by simpa using he, cond_false, spec_l1Has_loop l x hb kr ke n (j + 1) (by omega) (by omega)]
        by_cases hm : x ∈ l.drop (j + 1)
        · rw [if_pos hm, if_pos (List.mem_cons_of_mem _ hm)]
        · rw [if_neg hm, if_neg]
          intro h2
          rcases List.mem_cons.1 h2 with h2 | h2
          · exact he h2.symm
          · exact hm h2
    · rw [dge (by omega), cond_false, List.drop_eq_nil_of_le (by omega)]
      simp
theorem spec_l1Has_eq {R : Type} {n : Nat} {l : List Int} {x : Int} (hn : l.length < n) (hb : l.length ≤ 1000000) (k : Bool → Option R) : spec_l1Has n l x k = k (decide (x ∈ l)) := by
  unfold spec_l1Has
  have := spec_l1Has_loop l x hb (fun r1 => k r1) (k false) n 0 (by omega) (by omega)
  rw [show ((0 : Nat) : Int) = 0 from rfl, List.drop_zero] at this
  rw [this]
  by_cases h : x ∈ l
  · rw [if_pos h, decide_eq_true h]
  · rw [if_neg h, decide_eq_false h]
theorem lev_int {i : Nat} (hi : i < 24) : IntKind.wrap .i64 (Int.tdiv (i : Int) 8) = ((i / 8 : Nat) : Int) := by
  rw [Int.tdiv_eq_ediv_of_nonneg (by omega), wrap64 (by omega) (by omega)]
  omega
theorem slotL_mod {at_ : Int} {i : Nat} : slotL at_ (i / 8) = i ↔ (at_ / pw (i / 8)) % 8 = ((i : Int)) % 8 := by
  unfold slotL
  have m1 := Int.emod_nonneg (at_ / pw (i / 8)) (show (8 : Int) ≠ 0 by decide)
  have m2 := Int.emod_lt_of_pos (at_ / pw (i / 8)) (show (0 : Int) < 8 by decide)
  omega
theorem LIMok {a b : Nat} (h : a + b ≤ 1000000) : decide (a + b ≤ LIM) = true := decide_eq_true (by unfold LIM; omega)
theorem spec_Good_row {R : Type} {now : Int} (h0 : 0 ≤ now) (h1 : now ≤ 100000) {i : Nat} (hi : i < 24) (A rows : List (List Tm)) (b c : Int) (row : List Tm) (hr : row.length ≤ 1000) (kr : Bool → Option R) (ke : List (List Tm) → Int → Int → Int → List (List Tm) → List Int → Option R) {n : Nat} {acc : List Int} (hn : 5000 ≤ n) (ha : acc.length ≤ 2000) :
    spec_GoodWheel_l9 n (i : Int) ((i / 8 : Nat) : Int) A b c row (row.length : Int) 0 now rows acc kr ke = match row.foldlM (okStep now i) acc with
      | some s => ke A b c now rows s
      | none => kr false := by
  have := loop_fold row 3500 (fun n j s => spec_GoodWheel_l9 n (i : Int) ((i / 8 : Nat) : Int) A b c row (row.length : Int) j now rows s kr ke) (okStep now i) (fun s => ke A b c now rows s) (kr false) (fun j s => s.length = acc.length + j)
    (fun n j s h hB hI => ?_) (fun n s _ => by simp only [spec_GoodWheel_l9]; rw [dge (Nat.le_refl _), cond_false]) n 0 acc (by omega) (by omega) (by omega)
  · rw [List.drop_zero, show ((0 : Nat) : Int) = 0 from rfl] at this
    rw [this]
    cases row.foldlM (okStep now i) acc <;> rfl
  · have tb : TimeB now := ⟨h0, by omega⟩
    have hstep : spec_GoodWheel_l9 (n + 1) (i : Int) ((i / 8 : Nat) : Int) A b c row (row.length : Int) (j : Int) now rows s kr ke = if okB now i row[j] = true ∧ row[j].2 ∉ s then spec_GoodWheel_l9 n (i : Int) ((i / 8 : Nat) : Int) A b c row (row.length : Int) ((j + 1 : Nat) : Int) now rows (s ++ [row[j].2]) kr ke else kr false := by
      simp only [spec_GoodWheel_l9]
      rw [dlt h, dnn]
      simp only [cond_true]
      rw [getD_at _ _ h, spec_l5Timer_eq (by omega) tb]
      by_cases c1 : TimerOk now (row[j].1, row[j].2)
      · have ta : TimeB row[j].1 := by have := c1.2.2.1; have := c1.2.2.2; exact ⟨by simp only at *; omega, by simp only at *; omega⟩
        rw [decide_eq_true c1, Bool.not_true, cond_false, spec_l1Has_eq (by omega) (by omega)]
        by_cases c2 : row[j].2 ∈ s
        · rw [decide_eq_true c2, cond_true, if_neg (fun h => h.2 c2)]
        · rw [decide_eq_false c2, cond_false, spec_l5Fits_eq (by omega) (by omega) tb ta]
          by_cases c3 : FitL now row[j].1 (i / 8)
          · rw [decide_eq_true c3, Bool.not_true, cond_false, spec_l5Pow_eq (by omega) (by omega), ne_pw, cond_true, tdiv_pw ta, Int.tmod_eq_emod_of_nonneg (div_b ta _).1, Int.tmod_eq_emod_of_nonneg (show (0 : Int) ≤ (i : Int) by omega)]
            by_cases c4 : slotL row[j].1 (i / 8) = i
            · have e1 : (row[j].1 / pw (i / 8) % 8 != (i : Int) % 8) = false := by simpa using slotL_mod.1 c4
              rw [e1, cond_false, if_pos ⟨okB_iff.2 ⟨c1, c3, c4⟩, c2⟩, wrapS h (by omega), LIMok (by simp; omega), cond_true]
            · have e1 : (row[j].1 / pw (i / 8) % 8 != (i : Int) % 8) = true := by simpa using fun e => c4 (slotL_mod.2 e)
              rw [e1, cond_true, if_neg (fun h => c4 (okB_iff.1 h.1).2.2)]
          · rw [decide_eq_false c3, Bool.not_false, cond_true, if_neg (fun h => c3 (okB_iff.1 h.1).2.1)]
      · rw [decide_eq_false c1, Bool.not_false, cond_true, if_neg (fun h => c1 (okB_iff.1 h.1).1)]
    refine ⟨fun s' hs' => ?_, fun hs' => ?_⟩
    · unfold okStep at hs'
      split at hs'
      · rename_i hc
        cases hs'
        exact ⟨by rw [hstep, if_pos hc], by simp; omega⟩
      · cases hs'
    · unfold okStep at hs'
      split at hs'
      · cases hs'
      · rename_i hc
        rw [hstep, if_neg hc]
theorem impl_Good_row {R : Type} {now : Int} (h0 : 0 ≤ now) (h1 : now ≤ 100000) {i : Nat} (hi : i < 24) (A rows : List (List Tm)) (b c : Int) (row : List Tm) (hr : row.length ≤ 1000) (kr : Bool → Option R) (ke : List (List Tm) → Int → Int → Int → List (List Tm) → List Int → Option R) {n : Nat} {acc : List Int} (hn : 5000 ≤ n) :
    impl_GoodWheel_l9 n (i : Int) ((i / 8 : Nat) : Int) A b c row (row.length : Int) 0 now rows acc.reverse kr ke = match row.foldlM (okStep now i) acc with
      | some s => ke A b c now rows s.reverse
      | none => kr false := by
  have := loop_fold row 3500 (fun n j s => impl_GoodWheel_l9 n (i : Int) ((i / 8 : Nat) : Int) A b c row (row.length : Int) j now rows (List.reverse s) kr ke) (okStep now i) (fun s => ke A b c now rows s.reverse) (kr false) (fun j s => True)
    (fun n j s h hB hI => ?_) (fun n s _ => by simp only [impl_GoodWheel_l9]; rw [dge (Nat.le_refl _), cond_false]) n 0 acc (by omega) (by omega) trivial
  · rw [List.drop_zero, show ((0 : Nat) : Int) = 0 from rfl] at this
    rw [this]
    cases row.foldlM (okStep now i) acc <;> rfl
  · have tb : TimeB now := ⟨h0, by omega⟩
    have hstep : impl_GoodWheel_l9 (n + 1) (i : Int) ((i / 8 : Nat) : Int) A b c row (row.length : Int) (j : Int) now rows s.reverse kr ke = if okB now i row[j] = true ∧ row[j].2 ∉ s then impl_GoodWheel_l9 n (i : Int) ((i / 8 : Nat) : Int) A b c row (row.length : Int) ((j + 1 : Nat) : Int) now rows (s ++ [row[j].2]).reverse kr ke else kr false := by
      simp only [impl_GoodWheel_l9]
      rw [dlt h, dnn]
      simp only [cond_true]
      rw [getD_at _ _ h, impl_reach_eq tb]
      by_cases c1 : now < row[j].1 ∧ row[j].1 < now + 512
      · have ta : TimeB row[j].1 := ⟨by omega, by omega⟩
        rw [decide_eq_true c1, cond_true, impl_fitsLevel_eq (by omega) (by omega) tb ta]
        by_cases c3 : FitL now row[j].1 (i / 8)
        · rw [decide_eq_true c3, cond_true, impl_slotAt_eq (by omega) (by omega) ta, impl_in_eq]
          by_cases c5 : 0 ≤ row[j].2 ∧ row[j].2 ≤ 1000
          · rw [decide_eq_true c5, Bool.not_true, cond_false]
            by_cases c4 : slotL row[j].1 (i / 8) = i
            · rw [c4, show ((i : Int) == (i : Int)) = true by simp, Bool.not_true, cond_false]
              by_cases c2 : row[j].2 ∈ s
              · rw [show List.contains s.reverse row[j].2 = true by simpa using c2, cond_true, if_neg (fun h => h.2 c2)]
              · rw [show List.contains s.reverse row[j].2 = false by simpa using c2, cond_false, Bool.not_false, cond_true, if_pos ⟨okB_iff.2 ⟨⟨c5.1, c5.2, c1.1, c1.2⟩, c3, c4⟩, c2⟩, wrapS h (by omega), List.reverse_append]
                rfl
            · rw [show (((slotL row[j].1 (i / 8) : Nat) : Int) == (i : Int)) = false by simp only [beq_eq_false_iff_ne]; omega, Bool.not_false, cond_true, if_neg (fun h => c4 (okB_iff.1 h.1).2.2)]
          · rw [decide_eq_false c5, Bool.not_false, cond_true, if_neg (fun h => c5 ⟨(okB_iff.1 h.1).1.1, (okB_iff.1 h.1).1.2.1⟩)]
        · rw [decide_eq_false c3, cond_false, impl_in_eq, if_neg (fun h => c3 (okB_iff.1 h.1).2.1)]
          cases decide (0 ≤ row[j].2 ∧ row[j].2 ≤ 1000) <;> rfl
      · rw [decide_eq_false c1, cond_false, impl_in_eq, if_neg (fun h => c1 ⟨(okB_iff.1 h.1).1.2.2.1, (okB_iff.1 h.1).1.2.2.2⟩)]
        cases decide (0 ≤ row[j].2 ∧ row[j].2 ≤ 1000) <;> rfl
    refine ⟨fun s' hs' => ?_, fun hs' => ?_⟩
    · unfold okStep at hs'
      split at hs'
      · rename_i hc
        cases hs'
        exact ⟨by rw [hstep, if_pos hc], trivial⟩
      · cases hs'
    · unfold okStep at hs'
      split at hs'
      · cases hs'
      · rename_i hc
        rw [hstep, if_neg hc]
theorem flat_row {rows : List (List Tm)} {j : Nat} (h : j < rows.length) : rows[j].length ≤ rows.flatten.length := by
  have := List.Sublist.length_le (List.sublist_flatten_of_mem (List.getElem_mem h))
  exact this
theorem fold_len {now : Int} {i : Nat} {row : List Tm} {acc s : List Int} (h : row.foldlM (okStep now i) acc = some s) : s.length = acc.length + row.length := by
  rw [row_fold] at h
  split at h
  · cases h; simp
  · cases h
theorem flat_drop {rows : List (List Tm)} {j : Nat} (h : j < rows.length) : (rows.take (j + 1)).flatten.length = (rows.take j).flatten.length + rows[j].length := by
  rw [List.take_succ_eq_append_getElem h, List.flatten_append]; simp
theorem flat_take {rows : List (List Tm)} (j : Nat) : (rows.take j).flatten.length ≤ rows.flatten.length := by
  have := congrArg (fun l => (List.flatten l).length) (List.take_append_drop j rows)
  simp only [List.flatten_append, List.length_append] at this
  omega
theorem spec_GoodWheel_eq {R : Type} {n : Nat} {now : Int} {rows : List (List Tm)} (hn : 6000 ≤ n) (hr : rows.flatten.length ≤ 1000) (hl : rows.length ≤ 1000) (k : Bool → Option R) : spec_GoodWheel n now rows k = k (goodB now rows) := by
  unfold spec_GoodWheel goodB
  rw [spec_l1In_eq]
  by_cases c : 0 ≤ now ∧ now ≤ 100000
  · rw [decide_eq_true c, Bool.not_true, cond_false, Bool.true_and]
    by_cases c2 : rows.length = 24
    · rw [show ((rows.length : Int) != 24) = false by simp; omega, cond_false, decide_eq_true c2, Bool.true_and]
      have := loop_fold rows 5000 (fun n j (s : Nat × List Int) => spec_GoodWheel_l5 n rows (rows.length : Int) j now rows s.2 (fun r13 => k r13) (fun r14 => k (decide ((r14.length : Int) ≤ 60)))) (rowStep now) (fun s => k (decide ((s.2.length : Int) ≤ 60))) (k false) (fun j s => s.1 = j ∧ s.2.length = (rows.take j).flatten.length)
        (fun n j s h hB hI => ?_) (fun n s _ => by simp only [spec_GoodWheel_l5]; rw [dge (Nat.le_refl _), cond_false]) n 0 (0, []) (by omega) (by omega) ⟨rfl, by simp⟩
      · rw [List.drop_zero] at this
        rw [show ((0 : Nat) : Int) = 0 from rfl] at this
        rw [this]
        unfold goodO
        cases rows.foldlM (rowStep now) (0, []) with
        | none => rfl
        | some s => 
          simp only
          congr 1
          apply decide_eq_decide.2
          omega
      · obtain ⟨i, acc⟩ := s
        obtain ⟨hij, hal⟩ := hI
        have hij : i = j := hij
        subst hij
        have hj24 : i < 24 := by omega
        have hal' : acc.length = (rows.take i).flatten.length := hal
        have ht := flat_take (rows := rows) i
        have hrl := flat_row h
        have hstep : spec_GoodWheel_l5 (n + 1) rows (rows.length : Int) (i : Int) now rows acc (fun r13 => k r13) (fun r14 => k (decide ((r14.length : Int) ≤ 60))) = match rows[i].foldlM (okStep now i) acc with
            | some s => spec_GoodWheel_l5 n rows (rows.length : Int) ((i + 1 : Nat) : Int) now rows s (fun r13 => k r13) (fun r14 => k (decide ((r14.length : Int) ≤ 60)))
            | none => k false := by
          simp only [spec_GoodWheel_l5]
          rw [dlt h, dnn]
          simp only [cond_true]
          rw [getD_at _ _ h, lev_int hj24, spec_Good_row c.1 c.2 hj24 rows rows (rows.length : Int) (i : Int) rows[i] (by omega) _ _ (by omega) (by omega)]
          simp only [wrapS h (show rows.length ≤ 9223372036854775807 by omega)]
        refine ⟨fun s' hs' => ?_, fun hs' => ?_⟩
        · unfold rowStep at hs'
          obtain ⟨a, ha, rfl⟩ := Option.map_eq_some_iff.1 hs'
          refine ⟨by rw [hstep, ha], rfl, ?_⟩
          show a.length = _
          rw [fold_len ha, flat_drop h, hal']
        · unfold rowStep at hs'
          rw [hstep, Option.map_eq_none_iff.1 hs']
    · rw [show ((rows.length : Int) != 24) = true by simp; omega, cond_true, decide_eq_false c2, Bool.false_and]
  · rw [decide_eq_false c, Bool.not_false, cond_true, Bool.false_and]
theorem impl_isNow_eq {R : Type} (n : Nat) (x : Int) (k : Bool → Option R) : impl_isNow n x k = k (decide (0 ≤ x ∧ x ≤ 100000)) := by
  unfold impl_isNow; rw [impl_in_eq]
theorem impl_GoodWheel_eq {R : Type} {n : Nat} {now : Int} {rows : List (List Tm)} (hn : 6000 ≤ n) (hr : rows.flatten.length ≤ 1000) (hl : rows.length ≤ 1000) (k : Bool → Option R) : impl_GoodWheel n now rows k = k (goodB now rows) := by
  unfold impl_GoodWheel goodB
  rw [impl_isNow_eq]
  by_cases c : 0 ≤ now ∧ now ≤ 100000
  · rw [decide_eq_true c, Bool.not_true, cond_false, Bool.true_and]
    by_cases c2 : rows.length = 24
    · rw [show ((rows.length : Int) != 24) = false by simp; omega, cond_false, decide_eq_true c2, Bool.true_and]
      have := loop_fold rows 5000 (fun n j (s : Nat × List Int) => impl_GoodWheel_l5 n rows (rows.length : Int) j now rows s.2.reverse (fun r13 => k r13) (fun r14 => k (decide ((r14.length : Int) ≤ 60)))) (rowStep now) (fun s => k (decide ((s.2.reverse.length : Int) ≤ 60))) (k false) (fun j s => s.1 = j)
        (fun n j s h hB hI => ?_) (fun n s _ => by simp only [impl_GoodWheel_l5]; rw [dge (Nat.le_refl _), cond_false]) n 0 (0, []) (by omega) (by omega) rfl
      · rw [List.drop_zero] at this
        rw [show ((0 : Nat) : Int) = 0 from rfl, List.reverse_nil] at this
        rw [this]
        unfold goodO
        cases rows.foldlM (rowStep now) (0, []) with
        | none => rfl
        | some s => 
          simp only [List.length_reverse]
          congr 1
          apply decide_eq_decide.2
          omega
      · obtain ⟨i, acc⟩ := s
        have hij : i = j := hI
        subst hij
        have hj24 : i < 24 := by omega
        have hrl := flat_row h
        have hstep : impl_GoodWheel_l5 (n + 1) rows (rows.length : Int) (i : Int) now rows acc.reverse (fun r13 => k r13) (fun r14 => k (decide ((r14.length : Int) ≤ 60))) = match rows[i].foldlM (okStep now i) acc with
            | some s => impl_GoodWheel_l5 n rows (rows.length : Int) ((i + 1 : Nat) : Int) now rows s.reverse (fun r13 => k r13) (fun r14 => k (decide ((r14.length : Int) ≤ 60)))
            | none => k false := by
          simp only [impl_GoodWheel_l5]
          rw [dlt h, dnn]
          simp only [cond_true]
          rw [getD_at _ _ h, lev_int hj24, impl_Good_row c.1 c.2 hj24 rows rows (rows.length : Int) (i : Int) rows[i] (by omega) _ _ (by omega)]
          simp only [wrapS h (show rows.length ≤ 9223372036854775807 by omega)]
        refine ⟨fun s' hs' => ?_, fun hs' => ?_⟩
        · unfold rowStep at hs'
          obtain ⟨a, ha, rfl⟩ := Option.map_eq_some_iff.1 hs'
          exact ⟨by rw [hstep, ha], rfl⟩
        · unfold rowStep at hs'
          rw [hstep, Option.map_eq_none_iff.1 hs']
    · rw [show ((rows.length : Int) != 24) = true by simp; omega, cond_true, decide_eq_false c2, Bool.false_and]
  · rw [decide_eq_false c, Bool.not_false, cond_true, Bool.false_and]
theorem getD_nn {α : Type} (l : List α) (d : α) {j : Nat} (h : j < l.length) : l.getD j d = l[j] := by
  rw [List.getD_eq_getElem?_getD, List.getElem?_eq_getElem h]; rfl
theorem snoc_fold {α : Type} (g : α → α) (hg : ∀ x, g x = x) : ∀ (l acc : List α), l.foldl (fun s x => s ++ [g x]) acc = acc ++ l
  | [], acc => by simp
  | x :: l, acc => by rw [List.foldl_cons, snoc_fold g hg l, hg]; simp
theorem LIMk {a : Nat} (h : a ≤ 1000000) : decide (a ≤ LIM) = true := decide_eq_true (by unfold LIM; omega)
theorem spec_l5Own_eq {R : Type} {n : Nat} {now : Int} {rows : List (List Tm)} (hn : 3000 ≤ n) (hr : rows.flatten.length ≤ 1000) (hl : rows.length ≤ 1000) (k : Int → List (List Tm) → Option R) : spec_l5Own n now rows k = k now rows := by
  unfold spec_l5Own
  have := loop_foldl rows 1000 (fun n j s => spec_l5Own_l3 n rows (rows.length : Int) j now rows [] 0 s (fun r1 r2 r3 r4 r5 => k r1 r5)) (fun s x => s ++ [[] ++ x]) (fun s => k now s) (fun j s => s.length = j)
    (fun n j s h hB hI => ?_) (fun n s _ => by simp only [spec_l5Own_l3]; rw [dge (Nat.le_refl _), cond_false]) n 0 [] (by omega) (by omega) rfl
  · rw [List.drop_zero, snoc_fold (fun x => [] ++ x) (fun x => rfl)] at this
    exact this
  · have hrl := flat_row h
    have hs : s.length = j := hI
    refine ⟨?_, by simp [hs]⟩
    simp only [spec_l5Own_l3]
    rw [dlt h, dnn]
    simp only [cond_true]
    rw [getD_at _ _ h, LIMok (by simp; omega), LIMok (by simp; omega), wrapS h (by omega)]
    rfl
theorem impl_cloneWheel_eq {R : Type} {n : Nat} {now : Int} {rows : List (List Tm)} (hn : 3000 ≤ n) (hr : rows.flatten.length ≤ 1000) (hl : rows.length ≤ 1000) (k : Int → List (List Tm) → Option R) : impl_cloneWheel n now rows k = k now rows := by
  unfold impl_cloneWheel
  have := loop_foldl rows 1000 (fun n j s => impl_cloneWheel_l3 n rows (rows.length : Int) j [] 0 s now (fun r2 r3 r4 r5 => k r5 r4)) (fun s x => s ++ [id x]) (fun s => k now s) (fun j s => s.length = j)
    (fun n j s h hB hI => ?_) (fun n s _ => by simp only [impl_cloneWheel_l3]; rw [dge (Nat.le_refl _), cond_false]) n 0 [] (by omega) (by omega) rfl
  · rw [List.drop_zero, snoc_fold id (fun x => rfl)] at this
    exact this
  · have hrl := flat_row h
    have hs : s.length = j := hI
    refine ⟨?_, by simp [hs]⟩
    simp only [impl_cloneWheel_l3, slices_Clone_impl_Timer]
    rw [dlt h, dnn]
    simp only [cond_true]
    rw [getD_at _ _ h, LIMok (by omega), cond_true, LIMok (by simp; omega), wrapS h (by omega)]
    rfl
theorem cat_fold {α : Type} : ∀ (l : List (List α)) (acc : List α), l.foldl (fun s x => s ++ x) acc = acc ++ l.flatten
  | [], acc => by simp
  | x :: l, acc => by rw [List.foldl_cons, cat_fold l]; simp
theorem len_fold {α : Type} : ∀ (l : List (List α)) (m : Nat), l.foldl (fun s x => s + x.length) m = m + l.flatten.length
  | [], m => by simp
  | x :: l, m => by rw [List.foldl_cons, len_fold l, List.flatten_cons, List.length_append]; omega
theorem spec_l5Many_eq {R : Type} {n : Nat} {now : Int} {rows : List (List Tm)} (hn : 3000 ≤ n) (hr : rows.flatten.length ≤ 1000) (hl : rows.length ≤ 1000) (k : Int → Option R) : spec_l5Many n now rows k = k (rows.flatten.length : Nat) := by
  unfold spec_l5Many
  have := loop_foldl rows 1000 (fun n j (s : Nat) => spec_l5Many_l3 n (s : Int) rows (rows.length : Int) j (fun r1 => k r1)) (fun s x => s + x.length) (fun s => k (s : Nat)) (fun j s => s = (rows.take j).flatten.length)
    (fun n j s h hB hI => ?_) (fun n s _ => by simp only [spec_l5Many_l3]; rw [dge (Nat.le_refl _), cond_false]) n 0 0 (by omega) (by omega) (by simp)
  · rw [List.drop_zero, len_fold, Nat.zero_add] at this
    exact this
  · have hrl := flat_drop h
    have ht := flat_take (rows := rows) (j + 1)
    have hs : s = (rows.take j).flatten.length := hI
    refine ⟨?_, by show s + rows[j].length = _; omega⟩
    simp only [spec_l5Many_l3]
    rw [dlt h, dnn]
    simp only [cond_true]
    rw [getD_at _ _ h, wrapS h (by omega), wrap64 (by omega) (by omega)]
    rfl
theorem slices_Concat_eq {R : Type} {n : Nat} {rows : List (List Tm)} (hn : 3000 ≤ n) (hr : rows.flatten.length ≤ 1000) (hl : rows.length ≤ 1000) (k : List Tm → Option R) : slices_Concat_impl_Timer n rows k = k rows.flatten := by
  unfold slices_Concat_impl_Timer
  have := loop_foldl rows 1000 (fun n j (s : Nat) => slices_Concat_impl_Timer_l3 n rows (s : Int) rows (rows.length : Int) j (fun r1 r2 => (slices_Grow_impl_Timer n r2 ([] : List (Int × Int)) fun r3 => (slices_Concat_impl_Timer_l11 n r1 (r1.length : Int) 0 r3 (fun r4 => k r4))))) (fun s x => s + x.length) (fun s => slices_Grow_impl_Timer n (s : Nat) ([] : List (Int × Int)) fun r3 => (slices_Concat_impl_Timer_l11 n rows (rows.length : Int) 0 r3 (fun r4 => k r4))) (fun j s => s = (rows.take j).flatten.length ∧ True)
  have grow : ∀ (n m : Nat), m ≤ 1000 → ∀ (k' : List Tm → Option R), slices_Grow_impl_Timer n (m : Int) ([] : List (Int × Int)) k' = k' [] := by
    intro n m hm k'
    unfold slices_Grow_impl_Timer
    rw [dnn, Bool.true_and, LIMok (by simp; omega)]; rfl
  have l3 : ∀ (kk : List (List Tm) → Int → Option R) (n : Nat), 2000 ≤ n → slices_Concat_impl_Timer_l3 n rows 0 rows (rows.length : Int) 0 kk = kk rows (rows.flatten.length : Nat) := by
    intro kk n hn
    have := loop_foldl rows 500 (fun n j (s : Nat) => slices_Concat_impl_Timer_l3 n rows (s : Int) rows (rows.length : Int) j kk) (fun s x => s + x.length) (fun s => kk rows (s : Nat)) (fun j s => s = (rows.take j).flatten.length)
      (fun n j s h hB hI => ?_) (fun n s _ => by simp only [slices_Concat_impl_Timer_l3]; rw [dge (Nat.le_refl _), cond_false]) n 0 0 (by omega) (by omega) (by simp)
    · rw [List.drop_zero, len_fold, Nat.zero_add] at this
      exact this
    · have hrl := flat_drop h
      have ht := flat_take (rows := rows) (j + 1)
      have hs : s = (rows.take j).flatten.length := hI
      refine ⟨?_, by show s + rows[j].length = _; omega⟩
      simp only [slices_Concat_impl_Timer_l3]
      rw [dlt h, dnn]
      simp only [cond_true]
      rw [getD_at _ _ h, wrapS h (by omega), wrap64 (by omega) (by omega), decide_eq_false (by omega), cond_false]
      rfl
  have l11 : ∀ (n : Nat), 2000 ≤ n → slices_Concat_impl_Timer_l11 n rows (rows.length : Int) 0 [] (fun r4 => k r4) = k rows.flatten := by
    intro n hn
    have := loop_foldl rows 500 (fun n j s => slices_Concat_impl_Timer_l11 n rows (rows.length : Int) j s (fun r4 => k r4)) (fun s x => s ++ x) (fun s => k s) (fun j s => s = (rows.take j).flatten)
      (fun n j s h hB hI => ?_) (fun n s _ => by simp only [slices_Concat_impl_Timer_l11]; rw [dge (Nat.le_refl _), cond_false]) n 0 [] (by omega) (by omega) (by simp)
    · rw [List.drop_zero, cat_fold, List.nil_append] at this
      exact this
    · have hrl := flat_drop h
      have ht := flat_take (rows := rows) (j + 1)
      have hs : s = (rows.take j).flatten := hI
      refine ⟨?_, by show s ++ rows[j] = _; rw [List.take_succ_eq_append_getElem h, List.flatten_append, hs]; simp⟩
      simp only [slices_Concat_impl_Timer_l11]
      rw [dlt h, dnn]
      simp only [cond_true]
      rw [getD_at _ _ h, wrapS h (by omega), LIMok (by rw [hs]; omega), cond_true]
  rw [l3 _ n (by omega), grow n _ (by omega), l11 n (by omega)]
theorem impl_Wheel_timers_eq {R : Type} {n : Nat} {now : Int} {rows : List (List Tm)} (hn : 3000 ≤ n) (hr : rows.flatten.length ≤ 1000) (hl : rows.length ≤ 1000) (k : List Tm → Int → List (List Tm) → Option R) : impl_Wheel_timers n now rows k = k rows.flatten now rows := by
  unfold impl_Wheel_timers
  rw [slices_Concat_eq hn hr hl]
theorem take_tw {α : Type} (p : α → Bool) : ∀ l : List α, l.take (l.takeWhile p).length = l.takeWhile p
  | [] => rfl
  | x :: l => by
    rw [List.takeWhile_cons]
    cases h : p x with
    | true => simp [take_tw p l]
    | false => simp
theorem drop_tw {α : Type} (p : α → Bool) : ∀ l : List α, l.drop (l.takeWhile p).length = l.dropWhile p
  | [] => rfl
  | x :: l => by
    rw [List.takeWhile_cons, List.dropWhile_cons]
    cases h : p x with
    | true => simp [drop_tw p l]
    | false => simp
def insW {α : Type} (p : α → Bool) (l : List α) (x : α) : List α := (l.takeWhile p ++ [x]) ++ l.dropWhile p
theorem insW_perm {α : Type} (p : α → Bool) (l : List α) (x : α) : (insW p l x).Perm (x :: l) := by
  unfold insW
  have h : (x :: l).Perm (x :: (l.takeWhile p ++ l.dropWhile p)) := by rw [List.takeWhile_append_dropWhile]
  refine List.Perm.trans ?_ h.symm
  rw [List.append_assoc]
  exact List.perm_middle
theorem insW_sorted {α : Type} {le : α → α → Bool} (tr : ∀ a b c, le a b = true → le b c = true → le a c = true) (tt : ∀ a b, (le a b || le b a) = true) {p : α → Bool} {x : α} (hp : ∀ u, p u = !le x u) :
    ∀ {l : List α}, l.Pairwise (fun a b => le a b = true) → (insW p l x).Pairwise (fun a b => le a b = true)
  | [], _ => by simp [insW]
  | u :: l, h => by
    rw [List.pairwise_cons] at h
    cases hu : p u with
    | true =>
      have e : insW p (u :: l) x = u :: insW p l x := by simp [insW, List.takeWhile_cons, List.dropWhile_cons, hu]
      rw [e, List.pairwise_cons]
      refine ⟨fun v hv => ?_, insW_sorted tr tt hp h.2⟩
      rcases List.mem_cons.1 ((insW_perm p l x).mem_iff.1 hv) with rfl | hv
      · have h1 := tt u v
        have h2 := hp u
        rw [hu] at h2
        have h3 : le v u = false := by simpa using h2.symm
        rw [h3, Bool.or_false] at h1
        exact h1
      · exact h.1 v hv
    | false =>
      have e : insW p (u :: l) x = x :: u :: l := by simp [insW, List.takeWhile_cons, List.dropWhile_cons, hu]
      have h2 := hp u
      rw [hu] at h2
      have h3 : le x u = true := by simpa using h2.symm
      rw [e, List.pairwise_cons]
      refine ⟨fun v hv => ?_, List.pairwise_cons.2 h⟩
      rcases List.mem_cons.1 hv with rfl | hv
      · exact h3
      · exact tr _ _ _ h3 (h.1 v hv)
theorem ins_fold {α : Type} {le : α → α → Bool} (tr : ∀ a b c, le a b = true → le b c = true → le a c = true) (tt : ∀ a b, (le a b || le b a) = true) {p : α → α → Bool} (hp : ∀ x u, p x u = !le x u) :
    ∀ (l acc : List α), acc.Pairwise (fun a b => le a b = true) → (l.foldl (fun s x => insW (p x) s x) acc).Pairwise (fun a b => le a b = true) ∧ (l.foldl (fun s x => insW (p x) s x) acc).Perm (l ++ acc)
  | [], acc, h => ⟨h, List.Perm.refl _⟩
  | x :: l, acc, h => by
    rw [List.foldl_cons]
    obtain ⟨h1, h2⟩ := ins_fold tr tt hp l (insW (p x) acc x) (insW_sorted tr tt (hp x) h)
    refine ⟨h1, h2.trans ?_⟩
    refine ((insW_perm (p x) acc x).append_left l).trans ?_
    rw [List.cons_append]
    exact List.perm_middle
theorem leT_iff {a b : Tm} : leT a b = true ↔ a.1 < b.1 ∨ a.1 = b.1 ∧ a.2 ≤ b.2 := by simp [leT]
theorem leT_tr (a b c : Tm) (h : leT a b = true) (k : leT b c = true) : leT a c = true := by
  rw [leT_iff] at *; omega
theorem leT_tt (a b : Tm) : (leT a b || leT b a) = true := by
  rw [Bool.or_eq_true, leT_iff, leT_iff]; omega
theorem sortT_perm (l : List Tm) : (sortT l).Perm l := List.mergeSort_perm l leT
theorem sortT_sorted (l : List Tm) : (sortT l).Pairwise (fun a b => leT a b = true) := List.pairwise_mergeSort leT_tr leT_tt l
def leI (a b : Int) : Bool := decide (a ≤ b)
theorem leI_tr (a b c : Int) (h : leI a b = true) (k : leI b c = true) : leI a c = true := by simp [leI] at *; omega
theorem leI_tt (a b : Int) : (leI a b || leI b a) = true := by simp [leI]; omega
theorem sortI_eq {l m : List Int} (hs : m.Pairwise (fun a b => leI a b = true)) (hp : m.Perm l) : m = sortI l :=
  List.Perm.eq_of_pairwise (le := fun a b => leI a b = true) (fun a b _ _ h k => by simp [leI] at h k; omega) hs (List.pairwise_mergeSort leI_tr leI_tt l) (hp.trans (List.mergeSort_perm l _).symm)
theorem sortI_perm (l : List Int) : (sortI l).Perm l := List.mergeSort_perm l _
theorem impl_TimersIn_eq {R : Type} {n : Nat} {now : Int} {rows : List (List Tm)} (hn : 6000 ≤ n) (hr : rows.flatten.length ≤ 1000) (hl : rows.length ≤ 1000) (k : Bool → List Tm → Option R) : impl_TimersIn n now rows k = bif goodB now rows then k true (sortT rows.flatten) else k false [] := by
  unfold impl_TimersIn
  rw [impl_GoodWheel_eq hn hr hl]
  cases goodB now rows with
  | false => rfl
  | true =>
    rw [Bool.not_true, cond_false, cond_true, impl_Wheel_timers_eq (by omega) hr hl]
    unfold slices_SortFunc_impl_Timer_impl_TimersIn_c1
    rw [LIMk (by omega), cond_true]
theorem tw_le {α : Type} (p : α → Bool) (l : List α) : (l.takeWhile p).length ≤ l.length := (List.takeWhile_sublist p).length_le
theorem set_perm {α : Type} : ∀ (rows : List (List α)) (k : Nat) (new : List α), k < rows.length → ((rows.set k new).flatten ++ rows.getD k []).Perm (new ++ rows.flatten)
  | [], k, _, h => by simp at h
  | r :: rows, 0, new, _ => by
    simp only [List.set_cons_zero, List.flatten_cons, List.getD_cons_zero]
    rw [List.append_assoc]
    refine List.Perm.append_left new ?_
    exact List.perm_append_comm
  | r :: rows, k + 1, new, h => by
    simp only [List.set_cons_succ, List.flatten_cons, List.getD_cons_succ]
    rw [List.append_assoc]
    refine ((set_perm rows k new (by simpa using h)).append_left r).trans ?_
    rw [← List.append_assoc, ← List.append_assoc]
    exact List.perm_append_comm.append_right _
def slotN (w at_ : Int) : Nat := (slotO w at_).getD 0
def mv (w : Int) (rows : List (List Tm)) (t : Tm) : List (List Tm) := rows.set (slotN w t.1) (rows.getD (slotN w t.1) [] ++ [t])
def tstep (w : Int) (s : List (List Tm) × List Tm) (t : Tm) : List (List Tm) × List Tm := if t.1 = w then (s.1, s.2 ++ [t]) else (mv w s.1 t, s.2)
def tickC (w : Int) (L : Nat) (s : List (List Tm) × List Tm) : List (List Tm) × List Tm := if w % pw L = 0 then (s.1.getD (slotL w L) []).foldl (tstep w) (s.1.set (slotL w L) [], s.2) else s
def workC (w : Int) (L : Nat) (s : List (List Tm) × List Tm) : Nat := if w % pw L = 0 then (s.1.getD (slotL w L) []).length else 0
def tick2 (w : Int) (rows : List (List Tm)) : List (List Tm) × List Tm := tickC w 1 (tickC w 2 (rows, []))
def tickR (w : Int) (rows : List (List Tm)) : List (List Tm) := (tick2 w rows).1.set (slotL w 0) []
def tickD (w : Int) (rows : List (List Tm)) : List Tm := (tick2 w rows).2 ++ (tick2 w rows).1.getD (slotL w 0) []
def tickW (w : Int) (rows : List (List Tm)) : Nat := workC w 2 (rows, []) + workC w 1 (tickC w 2 (rows, [])) + ((tick2 w rows).1.getD (slotL w 0) []).length
theorem mv_perm {w : Int} {rows : List (List Tm)} {t : Tm} (h : slotN w t.1 < rows.length) : (mv w rows t).flatten.Perm (t :: rows.flatten) := by
  have h1 := set_perm rows (slotN w t.1) (rows.getD (slotN w t.1) [] ++ [t]) h
  rw [List.append_assoc] at h1
  have h2 : ((mv w rows t).flatten ++ rows.getD (slotN w t.1) []).Perm (rows.getD (slotN w t.1) [] ++ (t :: rows.flatten)) := h1
  exact (List.perm_append_left_iff _).1 (List.perm_append_comm.trans h2)
theorem mv_length (w : Int) (rows : List (List Tm)) (t : Tm) : (mv w rows t).length = rows.length := by simp [mv]
theorem slotN_lt (w at_ : Int) : slotN w at_ < 24 := by
  unfold slotN
  cases h : slotO w at_ with
  | none => decide
  | some s => exact slotO_lt h
theorem row_len {rows : List (List Tm)} (k : Nat) : (rows.getD k []).length ≤ rows.flatten.length := by
  by_cases h : k < rows.length
  · rw [getD_nn _ _ h]; exact flat_row h
  · rw [List.getD_eq_getElem?_getD, List.getElem?_eq_none (by omega)]; simp
def insI (l : List Int) (x : Int) : List Int := insW (fun u => decide (u < x)) l x
def insAll (d : List Tm) : List Int := (d.map (·.2)).foldl insI []
theorem insAll_snoc (d : List Tm) (t : Tm) : insAll (d ++ [t]) = insI (insAll d) t.2 := by simp [insAll]
theorem insAll_eq (d : List Tm) : insAll d = sortI (d.map (·.2)) := by
  have hp : ∀ x u : Int, (fun u => decide (u < x)) u = !leI x u := by
    intro x u
    simp only [leI]
    rw [Bool.eq_iff_iff]
    simp only [decide_eq_true_eq, Bool.not_eq_true', decide_eq_false_iff_not]
    omega
  obtain ⟨h1, h2⟩ := ins_fold leI_tr leI_tt (p := fun x u => decide (u < x)) hp (d.map (·.2)) [] List.Pairwise.nil
  rw [List.append_nil] at h2
  exact sortI_eq h1 h2
theorem insAll_length (d : List Tm) : (insAll d).length = d.length := by
  rw [insAll_eq]
  have := (sortI_perm (d.map (·.2))).length_eq
  simpa using this
theorem put_loop {R : Type} (l : List Int) (x : Int) (hb : l.length ≤ 100000) (ke : List Int → Int → Int → Option R) : ∀ (n j : Nat), l.length - j < n → j ≤ l.length → spec_l5PutInt_l2 n l x (j : Int) ke = ke l x ((j + ((l.drop j).takeWhile (fun u => decide (u < x))).length : Nat) : Int)
  | 0, _, h, _ => by omega
  | n + 1, j, hn, hj => by
    unfold spec_l5PutInt_l2
    by_cases h : j < l.length
    · rw [dlt h, dnn]
      simp only [cond_true]
      rw [getD_at _ _ h, wrapS h (by omega), List.drop_eq_getElem_cons h, List.takeWhile_cons]
      have ih := put_loop l x hb ke n (j + 1) (by omega) (by omega)
      by_cases c : l[j] < x
      · rw [decide_eq_true c, cond_true, if_pos rfl, ih, List.length_cons, show j + 1 + ((l.drop (j + 1)).takeWhile (fun u => decide (u < x))).length = j + (((l.drop (j + 1)).takeWhile (fun u => decide (u < x))).length + 1) by omega]
      · rw [decide_eq_false c, cond_false]
        simp
    · rw [dge (by omega), cond_false, List.drop_eq_nil_of_le (by omega)]
      simp
theorem spec_l5PutInt_eq {R : Type} {n : Nat} {l : List Int} {x : Int} (hn : l.length < n) (hb : l.length ≤ 100000) (k : List Int → Option R) : spec_l5PutInt n l x k = k (insI l x) := by
  unfold spec_l5PutInt
  have il := put_loop (R := R) l x hb (fun r1 r2 r3 => (bif decide (0 ≤ r3) then (bif decide (r3 ≤ (r1.length : Int)) then (bif decide (((r1.drop 0).take ((Int.toNat r3) - 0)).length ≤ LIM) then (bif decide (((r1.drop 0).take ((Int.toNat r3) - 0)).length + [r2].length ≤ LIM) then (bif decide (0 ≤ r3) then (bif decide (r3 ≤ (r1.length : Int)) then (bif decide ((r1.length : Int) ≤ (r1.length : Int)) then (bif decide ((((r1.drop 0).take ((Int.toNat r3) - 0)) ++ [r2]).length + ((r1.drop (Int.toNat r3)).take ((Int.toNat (r1.length : Int)) - (Int.toNat r3))).length ≤ LIM) then k ((((r1.drop 0).take ((Int.toNat r3) - 0)) ++ [r2]) ++ ((r1.drop (Int.toNat r3)).take ((Int.toNat (r1.length : Int)) - (Int.toNat r3)))) else none) else none) else none) else none) else none) else none) else none) else none)) n 0 (by omega) (by omega)
  rw [show ((0 : Nat) : Int) = 0 from rfl] at il
  rw [il]
  have htl := tw_le (fun u => decide (u < x)) l
  simp only [List.drop_zero, Nat.zero_add, Nat.sub_zero, Int.toNat_natCast, take_tw, drop_tw]
  have hdl : (l.drop (l.takeWhile (fun u => decide (u < x))).length).length = l.length - (l.takeWhile (fun u => decide (u < x))).length := by simp
  rw [drop_tw] at hdl
  rw [List.take_of_length_le (l := l.dropWhile (fun u => decide (u < x))) (by omega)]
  rw [dnn, decide_eq_true (show (((l.takeWhile (fun u => decide (u < x))).length : Nat) : Int) ≤ (l.length : Int) by omega), LIMk (by omega), LIMok (by simp; omega), decide_eq_true (Int.le_refl _), LIMok (by simp; omega)]
  rfl
/-- What a slot that is emptied must hold. -/
def Movable (w : Int) (l : List Tm) : Prop := ∀ t ∈ l, TimeB t.1 ∧ (t.1 = w ∨ (slotO w t.1).isSome = true)
theorem tstep_inv {w : Int} {s : List (List Tm) × List Tm} {t : Tm} (h : s.1.length = 24) : (tstep w s t).1.length = 24 ∧ (tstep w s t).1.flatten.length + (tstep w s t).2.length = s.1.flatten.length + s.2.length + 1 := by
  unfold tstep
  split
  · exact ⟨h, by simp; omega⟩
  · refine ⟨by rw [mv_length]; exact h, ?_⟩
    have := (mv_perm (w := w) (rows := s.1) (t := t) (by rw [h]; exact slotN_lt _ _)).length_eq
    rw [List.length_cons] at this
    simp only [this]
    omega
theorem spec_casc {R : Type} {w : Int} (hw : TimeB w) (lvl : Int) (A : List (List Tm)) (b : Int) (l : List Tm) (hm : Movable w l) (ke : Int → Int → List (List Tm) → Int → List (List Tm) → Int → List Int → Option R) {n c0 : Nat} {rows : List (List Tm)} {due : List Tm} (hr : rows.length = 24) (hc : rows.flatten.length + due.length + l.length ≤ 1000) (hc0 : c0 ≤ 100000) (hn : 4000 ≤ n) :
    spec_l5Tick_l12 n (c0 : Int) lvl (l.length : Int) 0 rows w A b (insAll due) l ke = ke ((c0 + l.length : Nat) : Int) lvl (l.foldl (tstep w) (rows, due)).1 w A b (insAll (l.foldl (tstep w) (rows, due)).2) := by
  have := loop_foldl l 2500 (fun n j (s : Nat × List (List Tm) × List Tm) => spec_l5Tick_l12 n (s.1 : Int) lvl (l.length : Int) j s.2.1 w A b (insAll s.2.2) l ke) (fun s t => (s.1 + 1, tstep w s.2 t)) (fun s => ke (s.1 : Nat) lvl s.2.1 w A b (insAll s.2.2)) (fun j s => s.1 = c0 + j ∧ s.2.1.length = 24 ∧ s.2.1.flatten.length + s.2.2.length = rows.flatten.length + due.length + j)
    (fun n j s h hB hI => ?_) (fun n s _ => by simp only [spec_l5Tick_l12]; rw [dge (Nat.le_refl _), cond_false]) n 0 (c0, rows, due) (by omega) (by omega) ⟨rfl, hr, rfl⟩
  · rw [List.drop_zero, show ((0 : Nat) : Int) = 0 from rfl] at this
    rw [this]
    have e : ∀ (l : List Tm) (c : Nat) (s : List (List Tm) × List Tm), l.foldl (fun s t => (s.1 + 1, tstep w s.2 t)) (c, s) = (c + l.length, l.foldl (tstep w) s) := by
      intro l
      induction l with
      | nil => intro c s; rfl
      | cons t l ih => intro c s; rw [List.foldl_cons, ih, List.foldl_cons, List.length_cons]; congr 1; omega
    rw [e]
  · obtain ⟨c, rows', due'⟩ := s
    obtain ⟨i1, i2, i3⟩ := hI
    simp only at i1 i2 i3
    obtain ⟨v1, v2⟩ := tstep_inv (w := w) (s := (rows', due')) (t := l[j]) i2
    obtain ⟨tb, ht⟩ := hm l[j] (List.getElem_mem h)
    refine ⟨?_, by simp only; omega, v1, by simp only at v2 ⊢; omega⟩
    simp only [spec_l5Tick_l12]
    rw [dlt h, dnn]
    simp only [cond_true]
    rw [getD_at _ _ h, wrapS h (by omega), wrap64 (x := (c : Int) + 1) (by omega) (by omega), show (c : Int) + 1 = ((c + 1 : Nat) : Int) by omega]
    by_cases c1 : l[j].1 = w
    · rw [show (l[j].1 == w) = true by simpa using c1, cond_true, spec_l5PutInt_eq (by rw [insAll_length]; omega) (by rw [insAll_length]; omega)]
      unfold tstep
      rw [if_pos c1, ← insAll_snoc]
    · rw [show (l[j].1 == w) = false by simpa using c1, cond_false, spec_l5Slot_eq (by omega) hw tb]
      obtain ⟨sl, hsl⟩ := Option.isSome_iff_exists.1 (ht.resolve_left c1)
      have hs24 := slotO_lt hsl
      have hrl := row_len (rows := rows') sl
      rw [hsl]
      simp only [Int.toNat_natCast]
      rw [dnn, dlt (show sl < rows'.length by omega), dlt (show sl < (rows'.set sl []).length by simp; omega), LIMok (by simp only [List.length_singleton]; omega), Nat.beq_refl]
      simp only [cond_true]
      unfold tstep
      rw [if_neg c1, List.set_set]
      unfold mv slotN
      rw [hsl]
      rfl
theorem spec_zero {R : Type} {w k : Int} (l : List Tm) (B : List (List Tm)) (m : Nat) (A : List (List Tm)) (b : Int) (ke : Int → Int → List (List Tm) → Int → List (List Tm) → Int → List Int → Option R) {n c0 : Nat} {due : List Tm} (hc : due.length + l.length ≤ 1000) (hc0 : c0 ≤ 100000) (hn : 4000 ≤ n) :
    spec_l5Tick_l22 n (c0 : Int) k (l.length : Int) 0 l B m w A b (insAll due) ke = ke ((c0 + l.length : Nat) : Int) k (B.set m l) w A b (insAll (due ++ l)) := by
  have := loop_foldl l 2500 (fun n j (s : Nat × List Tm) => spec_l5Tick_l22 n (s.1 : Int) k (l.length : Int) j l B m w A b (insAll s.2) ke) (fun s t => (s.1 + 1, s.2 ++ [t])) (fun s => ke (s.1 : Nat) k (B.set m l) w A b (insAll s.2)) (fun j s => s.1 = c0 + j ∧ s.2.length = due.length + j)
    (fun n j s h hB hI => ?_) (fun n s _ => by simp only [spec_l5Tick_l22]; rw [dge (Nat.le_refl _), cond_false]) n 0 (c0, due) (by omega) (by omega) ⟨rfl, rfl⟩
  · rw [List.drop_zero, show ((0 : Nat) : Int) = 0 from rfl] at this
    rw [this]
    have e : ∀ (l : List Tm) (c : Nat) (s : List Tm), l.foldl (fun s t => (s.1 + 1, s.2 ++ [t])) (c, s) = (c + l.length, s ++ l) := by
      intro l
      induction l with
      | nil => intro c s; simp
      | cons t l ih => intro c s; rw [List.foldl_cons, ih, List.length_cons, List.append_assoc]; congr 1; omega
    rw [e]
  · obtain ⟨c, due'⟩ := s
    obtain ⟨i1, i2⟩ := hI
    simp only at i1 i2
    refine ⟨?_, by simp only; omega, by simp only [List.length_append, List.length_singleton]; omega⟩
    simp only [spec_l5Tick_l22]
    rw [dlt h, dnn]
    simp only [cond_true]
    rw [getD_at _ _ h, wrapS h (by omega), wrap64 (x := (c : Int) + 1) (by omega) (by omega), show (c : Int) + 1 = ((c + 1 : Nat) : Int) by omega, spec_l5PutInt_eq (by rw [insAll_length]; omega) (by rw [insAll_length]; omega), ← insAll_snoc]
theorem tstep_fold {w : Int} : ∀ (l : List Tm) (s : List (List Tm) × List Tm), s.1.length = 24 → (l.foldl (tstep w) s).1.length = 24 ∧ (l.foldl (tstep w) s).1.flatten.length + (l.foldl (tstep w) s).2.length = s.1.flatten.length + s.2.length + l.length
  | [], s, h => ⟨h, rfl⟩
  | t :: l, s, h => by
    obtain ⟨h1, h2⟩ := tstep_inv (w := w) (t := t) h
    obtain ⟨h3, h4⟩ := tstep_fold l (tstep w s t) h1
    rw [List.foldl_cons]
    exact ⟨h3, by rw [h4, h2, List.length_cons]; omega⟩
theorem set_len {rows : List (List Tm)} {k : Nat} (h : k < rows.length) : (rows.set k []).flatten.length + (rows.getD k []).length = rows.flatten.length := by
  have := (set_perm rows k [] h).length_eq
  simpa [List.length_append] using this
theorem tickC_inv {w : Int} {L : Nat} (hL : L < 3) {s : List (List Tm) × List Tm} (h : s.1.length = 24) : (tickC w L s).1.length = 24 ∧ (tickC w L s).1.flatten.length + (tickC w L s).2.length = s.1.flatten.length + s.2.length := by
  unfold tickC
  split
  · obtain ⟨h1, h2⟩ := tstep_fold (w := w) (s.1.getD (slotL w L) []) (s.1.set (slotL w L) [], s.2) (by simpa using h)
    refine ⟨h1, ?_⟩
    rw [h2]
    have := set_len (rows := s.1) (k := slotL w L) (by rw [h]; exact slotL_lt w hL)
    simp only
    omega
  · exact ⟨h, rfl⟩
/-- Whether a level can be emptied. -/
def MovC (w : Int) (L : Nat) (s : List (List Tm) × List Tm) : Prop := w % pw L = 0 → Movable w (s.1.getD (slotL w L) [])
theorem spec_level {R : Type} {w : Int} (hw : TimeB w) {L : Nat} (hL0 : 0 < L) (hL : L < 3) (A : List (List Tm)) (b : Int) (ke : Int → List (List Tm) → Int → List (List Tm) → Int → List Int → Option R) {n c0 : Nat} {s : List (List Tm) × List Tm} (hr : s.1.length = 24) (hc : s.1.flatten.length + s.2.length ≤ 1000) (hc0 : c0 ≤ 50000) (hm : MovC w L s) (hn : 4500 ≤ n) :
    spec_l5Tick_l5 (n + 1) (c0 : Int) (L : Int) s.1 w A b (insAll s.2) ke = spec_l5Tick_l5 n ((c0 + workC w L s : Nat) : Int) ((L - 1 : Nat) : Int) (tickC w L s).1 w A b (insAll (tickC w L s).2) ke := by
  have hsl := slotL_lt w hL
  have hw1 : IntKind.wrap .i64 ((L : Int) - 1) = ((L - 1 : Nat) : Int) := by rw [wrap64 (by omega) (by omega)]; omega
  rw [spec_l5Tick_l5, decide_eq_true (show (L : Int) > 0 by omega), cond_true, spec_l5Pow_eq (by omega) (by omega), ne_pw, cond_true, Int.tmod_eq_emod_of_nonneg hw.1]
  unfold workC tickC
  by_cases c : w % pw L = 0
  · rw [if_pos c, show (w % pw L != 0) = false by simpa using c, cond_false, spec_l5Pow_eq (by omega) (by omega), ne_pw, cond_true, slot_int hw (by omega), if_pos c]
    have hlen := set_len (rows := s.1) (k := slotL w L) (by omega)
    simp only [Int.toNat_natCast]
    rw [dnn, dlt (show slotL w L < s.1.length by omega), dlt (show slotL w L < (s.1.set (slotL w L) []).length by simp; omega), Nat.beq_refl, List.set_set]
    simp only [cond_true]
    rw [spec_casc hw (L : Int) A b (s.1.getD (slotL w L) []) (hm c) _ (by simpa using hr) (by omega) (by omega) (by omega), hw1]
  · rw [if_neg c, show (w % pw L != 0) = true by simpa using c, cond_true, if_neg c, hw1, Nat.add_zero]
theorem spec_l5Tick_eq {R : Type} {n : Nat} {now : Int} {rows : List (List Tm)} (hw : TimeB (now + 1)) (hn : 6000 ≤ n) (hr : rows.length = 24) (hc : rows.flatten.length ≤ 1000) (m2 : MovC (now + 1) 2 (rows, [])) (m1 : MovC (now + 1) 1 (tickC (now + 1) 2 (rows, []))) (k : Int → Int → List (List Tm) → List Int → Option R) :
    spec_l5Tick n now rows k = k (now + 1) (tickW (now + 1) rows : Nat) (tickR (now + 1) rows) (sortI ((tickD (now + 1) rows).map (·.2))) := by
  obtain ⟨m, rfl⟩ : ∃ m, n = m + 3 := ⟨n - 3, by omega⟩
  unfold spec_l5Tick
  have hb := hw.1; have hb2 := hw.2
  rw [wrap64 (x := now + 1) (by omega) (by omega)]
  obtain ⟨q1, q2⟩ := tickC_inv (w := now + 1) (L := 2) (by omega) (s := (rows, [])) hr
  obtain ⟨q3, q4⟩ := tickC_inv (w := now + 1) (L := 1) (by omega) q1
  have w2 : workC (now + 1) 2 (rows, []) ≤ 1000 := by
    unfold workC
    split
    · have := row_len (rows := rows) (slotL (now + 1) 2); simp only; omega
    · omega
  simp only [List.length_nil, Nat.add_zero] at q2
  have w1 : workC (now + 1) 1 (tickC (now + 1) 2 (rows, [])) ≤ 1000 := by
    unfold workC
    split
    · have := row_len (rows := (tickC (now + 1) 2 (rows, [])).1) (slotL (now + 1) 1); omega
    · omega
  have s2 := spec_level (R := R) hw (L := 2) (by omega) (by omega) [] 0 (fun r12 r13 r14 r15 r16 r17 => (bif decide (0 ≤ (Int.tmod r14 8)) then (bif decide ((Int.tmod r14 8) < (r13.length : Int)) then (spec_l5Tick_l22 (m + 3) r12 (Int.tmod r14 8) ((r13.getD (Int.toNat (Int.tmod r14 8)) []).length : Int) 0 (r13.getD (Int.toNat (Int.tmod r14 8)) []) (r13.set (Int.toNat (Int.tmod r14 8)) []) (Int.toNat (Int.tmod r14 8)) r14 r15 r16 r17 (fun r19 r20 r21 r22 r23 r24 r25 => (bif decide (0 ≤ r20) then (bif decide (r20 < (r21.length : Int)) then k r22 r19 (r21.set (Int.toNat r20) []) r25 else none) else none))) else none) else none)) (n := m + 2) (c0 := 0) (s := (rows, [])) hr (by show rows.flatten.length + 0 ≤ 1000; omega) (by omega) m2 (by omega)
  rw [show ((0 : Nat) : Int) = 0 from rfl, show ((2 : Nat) : Int) = 2 from rfl, show insAll [] = [] from rfl] at s2
  rw [s2]
  rw [show ((2 - 1 : Nat) : Int) = ((1 : Nat) : Int) from rfl, spec_level hw (L := 1) (by omega) (by omega) [] 0 _ (n := m + 1) q1 (by omega) (by omega) m1 (by omega)]
  rw [spec_l5Tick_l5, decide_eq_false (show ¬ ((1 - 1 : Nat) : Int) > 0 by omega), cond_false]
  have hm8 : Int.tmod (now + 1) 8 = ((slotL (now + 1) 0 : Nat) : Int) := by
    rw [Int.tmod_eq_emod_of_nonneg hb]
    unfold slotL
    simp only [pw, Int.ediv_one]
    omega
  have hs0 := slotL_lt (now + 1) (L := 0) (by omega)
  have hrl := row_len (rows := (tick2 (now + 1) rows).1) (slotL (now + 1) 0)
  have hq3 : (tick2 (now + 1) rows).1.length = 24 := q3
  have hq4 : (tick2 (now + 1) rows).1.flatten.length + (tick2 (now + 1) rows).2.length = rows.flatten.length := by rw [← q2]; exact q4
  show (bif decide (0 ≤ Int.tmod (now + 1) 8) then (bif decide (Int.tmod (now + 1) 8 < ((tick2 (now + 1) rows).1.length : Int)) then _ else none) else none) = _
  rw [hm8, dnn, dlt (show slotL (now + 1) 0 < (tick2 (now + 1) rows).1.length by omega)]
  simp only [cond_true, Int.toNat_natCast]
  have z := spec_zero (R := R) (w := now + 1) (k := ((slotL (now + 1) 0 : Nat) : Int)) ((tick2 (now + 1) rows).1.getD (slotL (now + 1) 0) []) ((tick2 (now + 1) rows).1.set (slotL (now + 1) 0) []) (slotL (now + 1) 0) [] 0 (fun r19 r20 r21 r22 r23 r24 r25 => (bif decide (0 ≤ r20) then (bif decide (r20 < (r21.length : Int)) then k r22 r19 (r21.set (Int.toNat r20) []) r25 else none) else none)) (n := m + 3) (c0 := 0 + workC (now + 1) 2 (rows, []) + workC (now + 1) 1 (tickC (now + 1) 2 (rows, []))) (due := (tick2 (now + 1) rows).2) (by omega) (by omega) (by omega)
  refine Eq.trans z ?_
  rw [dnn, dlt (show slotL (now + 1) 0 < (((tick2 (now + 1) rows).1.set (slotL (now + 1) 0) []).set (slotL (now + 1) 0) ((tick2 (now + 1) rows).1.getD (slotL (now + 1) 0) [])).length by simp; omega)]
  simp only [cond_true, Int.toNat_natCast, List.set_set]
  rw [insAll_eq, Nat.zero_add]
  rfl
def tstepM (w : Int) (s : Nat × List (List Tm) × List Tm) (t : Tm) : Nat × List (List Tm) × List Tm := (if t.1 = w then s.1 else s.1 + 1, tstep w s.2 t)
theorem tstepM_snd {w : Int} : ∀ (l : List Tm) (s : Nat × List (List Tm) × List Tm), (l.foldl (tstepM w) s).2 = l.foldl (tstep w) s.2
  | [], s => rfl
  | t :: l, s => by rw [List.foldl_cons, tstepM_snd l, List.foldl_cons]; rfl
theorem tstepM_cnt {w : Int} : ∀ (l : List Tm) (s : Nat × List (List Tm) × List Tm), (l.foldl (tstepM w) s).1 + (l.foldl (tstepM w) s).2.2.length = s.1 + s.2.2.length + l.length
  | [], s => rfl
  | t :: l, s => by
    rw [List.foldl_cons, tstepM_cnt l]
    unfold tstepM tstep
    by_cases h : t.1 = w
    · rw [if_pos h, if_pos h]; simp; omega
    · rw [if_neg h, if_neg h]; simp; omega
theorem impl_casc {R : Type} {w : Int} (hw : TimeB w) (lvl : Int) (l : List Tm) (hm : Movable w l) (ke : Int → Int → List (List Tm) → Int → List Int → Option R) {n c0 : Nat} {rows : List (List Tm)} {due : List Tm} (hr : rows.length = 24) (hc : rows.flatten.length + due.length + l.length ≤ 1000) (hc0 : c0 ≤ 100000) (hn : 4000 ≤ n) :
    impl_Wheel_tick_l11 n (c0 : Int) lvl (l.length : Int) 0 rows w (due.map (·.2)) l ke = ke ((l.foldl (tstepM w) (c0, rows, due)).1 : Nat) lvl (l.foldl (tstepM w) (c0, rows, due)).2.1 w ((l.foldl (tstepM w) (c0, rows, due)).2.2.map (·.2)) := by
  have := loop_foldl l 2500 (fun n j (s : Nat × List (List Tm) × List Tm) => impl_Wheel_tick_l11 n (s.1 : Int) lvl (l.length : Int) j s.2.1 w (s.2.2.map (·.2)) l ke) (tstepM w) (fun s => ke (s.1 : Nat) lvl s.2.1 w (s.2.2.map (·.2))) (fun j s => s.1 ≤ c0 + j ∧ s.2.1.length = 24 ∧ s.2.1.flatten.length + s.2.2.length = rows.flatten.length + due.length + j)
    (fun n j s h hB hI => ?_) (fun n s _ => by simp only [impl_Wheel_tick_l11]; rw [dge (Nat.le_refl _), cond_false]) n 0 (c0, rows, due) (by omega) (by omega) ⟨Nat.le_refl _, hr, rfl⟩
  · rw [List.drop_zero, show ((0 : Nat) : Int) = 0 from rfl] at this
    exact this
  · obtain ⟨c, rows', due'⟩ := s
    obtain ⟨i1, i2, i3⟩ := hI
    simp only at i1 i2 i3
    obtain ⟨v1, v2⟩ := tstep_inv (w := w) (s := (rows', due')) (t := l[j]) i2
    obtain ⟨tb, ht⟩ := hm l[j] (List.getElem_mem h)
    refine ⟨?_, by unfold tstepM; simp only; split <;> omega, v1, by simp only [tstepM] at v2 ⊢; omega⟩
    simp only [impl_Wheel_tick_l11]
    rw [dlt h, dnn]
    simp only [cond_true]
    rw [getD_at _ _ h, wrapS h (by omega), wrap64 (x := (c : Int) + 1) (by omega) (by omega), show (c : Int) + 1 = ((c + 1 : Nat) : Int) by omega]
    by_cases c1 : l[j].1 = w
    · rw [show (l[j].1 == w) = true by simpa using c1, cond_true, LIMok (by simp; omega), cond_true]
      unfold tstepM tstep
      rw [if_pos c1, if_pos c1]
      simp
    · rw [show (l[j].1 == w) = false by simpa using c1, cond_false, impl_slotFor_eq (by omega) hw tb]
      obtain ⟨sl, hsl⟩ := Option.isSome_iff_exists.1 (ht.resolve_left c1)
      have hs24 := slotO_lt hsl
      have hrl := row_len (rows := rows') sl
      rw [hsl]
      simp only [Int.toNat_natCast]
      rw [dnn, dlt (show sl < rows'.length by omega), dlt (show sl < (rows'.set sl []).length by simp; omega), LIMok (by simp only [List.length_singleton]; omega), Nat.beq_refl]
      simp only [cond_true]
      unfold tstepM tstep
      rw [if_neg c1, if_neg c1, List.set_set]
      unfold mv slotN
      rw [hsl]
      rfl
theorem impl_zero {R : Type} {w mvd : Int} (l : List Tm) (B : List (List Tm)) (m : Nat) (ke : Int → List (List Tm) → Int → List Int → Option R) {n : Nat} {due : List Tm} (hc : due.length + l.length ≤ 1000) (hn : 4000 ≤ n) :
    impl_Wheel_tick_l20 n mvd (l.length : Int) 0 l B m w (due.map (·.2)) ke = ke mvd (B.set m l) w ((due ++ l).map (·.2)) := by
  have := loop_foldl l 2500 (fun n j (s : List Tm) => impl_Wheel_tick_l20 n mvd (l.length : Int) j l B m w (s.map (·.2)) ke) (fun s t => s ++ [id t]) (fun s => ke mvd (B.set m l) w (s.map (·.2))) (fun j s => s.length = due.length + j)
    (fun n j s h hB hI => ?_) (fun n s _ => by simp only [impl_Wheel_tick_l20]; rw [dge (Nat.le_refl _), cond_false]) n 0 due (by omega) (by omega) rfl
  · rw [List.drop_zero, show ((0 : Nat) : Int) = 0 from rfl, snoc_fold id (fun _ => rfl)] at this
    exact this
  · have hs : s.length = due.length + j := hI
    refine ⟨?_, by simp; omega⟩
    simp only [impl_Wheel_tick_l20]
    rw [dlt h, dnn]
    simp only [cond_true]
    rw [getD_at _ _ h, wrapS h (by omega), LIMok (by simp; omega), cond_true]
    simp
theorem impl_level {R : Type} {w : Int} (hw : TimeB w) {L : Nat} (hL0 : 0 < L) (hL : L < 3) (ke : Int → List (List Tm) → Int → List Int → Option R) {n c0 : Nat} {s : List (List Tm) × List Tm} (hr : s.1.length = 24) (hc : s.1.flatten.length + s.2.length ≤ 1000) (hc0 : c0 ≤ 50000) (hm : MovC w L s) (hn : 4500 ≤ n) :
    ∃ c1 : Nat, c1 + (tickC w L s).2.length = c0 + s.2.length + workC w L s ∧ impl_Wheel_tick_l4 (n + 1) (c0 : Int) (L : Int) s.1 w (s.2.map (·.2)) ke = impl_Wheel_tick_l4 n (c1 : Int) ((L - 1 : Nat) : Int) (tickC w L s).1 w ((tickC w L s).2.map (·.2)) ke := by
  have hsl := slotL_lt w hL
  have hw1 : IntKind.wrap .i64 ((L : Int) - 1) = ((L - 1 : Nat) : Int) := by rw [wrap64 (by omega) (by omega)]; omega
  rw [impl_Wheel_tick_l4, decide_eq_true (show (L : Int) > 0 by omega), cond_true, impl_units_eq (by omega) (by omega), ne_pw, cond_true, Int.tmod_eq_emod_of_nonneg hw.1]
  unfold workC tickC
  by_cases c : w % pw L = 0
  · rw [if_pos c, show (w % pw L != 0) = false by simpa using c, cond_false, impl_slotAt_eq (by omega) (by omega) hw, if_pos c]
    have hlen := set_len (rows := s.1) (k := slotL w L) (by omega)
    simp only [Int.toNat_natCast]
    rw [dnn, dlt (show slotL w L < s.1.length by omega), dlt (show slotL w L < (s.1.set (slotL w L) []).length by simp; omega), Nat.beq_refl, List.set_set]
    simp only [cond_true]
    rw [impl_casc hw (L : Int) (s.1.getD (slotL w L) []) (hm c) _ (by simpa using hr) (by omega) (by omega) (by omega), hw1]
    have h1 := tstepM_cnt (w := w) (s.1.getD (slotL w L) []) (c0, s.1.set (slotL w L) [], s.2)
    have h2 := tstepM_snd (w := w) (s.1.getD (slotL w L) []) (c0, s.1.set (slotL w L) [], s.2)
    refine ⟨_, ?_, by rw [h2]⟩
    rw [h2] at h1
    exact h1
  · rw [if_neg c, show (w % pw L != 0) = true by simpa using c, cond_true, if_neg c, hw1]
    exact ⟨c0, by omega, rfl⟩
theorem impl_tick_ex {R : Type} {n : Nat} {now : Int} {rows : List (List Tm)} (hw : TimeB (now + 1)) (hn : 6000 ≤ n) (hr : rows.length = 24) (hc : rows.flatten.length ≤ 1000) (m2 : MovC (now + 1) 2 (rows, [])) (m1 : MovC (now + 1) 1 (tickC (now + 1) 2 (rows, []))) :
    ∃ mvd : Nat, mvd + (tickD (now + 1) rows).length = tickW (now + 1) rows ∧ ∀ k : Int → List Int → List (List Tm) → Int → Option R, impl_Wheel_tick n rows now k = k (mvd : Nat) (sortI ((tickD (now + 1) rows).map (·.2))) (tickR (now + 1) rows) (now + 1) := by
  obtain ⟨m, rfl⟩ : ∃ m, n = m + 3 := ⟨n - 3, by omega⟩
  have hb := hw.1; have hb2 := hw.2
  obtain ⟨q1, q2⟩ := tickC_inv (w := now + 1) (L := 2) (by omega) (s := (rows, [])) hr
  obtain ⟨q3, q4⟩ := tickC_inv (w := now + 1) (L := 1) (by omega) q1
  simp only [List.length_nil, Nat.add_zero] at q2
  have w2 : workC (now + 1) 2 (rows, []) ≤ 1000 := by
    unfold workC
    split
    · have := row_len (rows := rows) (slotL (now + 1) 2); simp only; omega
    · omega
  have hs0 := slotL_lt (now + 1) (L := 0) (by omega)
  have hrl := row_len (rows := (tick2 (now + 1) rows).1) (slotL (now + 1) 0)
  have hq3 : (tick2 (now + 1) rows).1.length = 24 := q3
  have hq4 : (tick2 (now + 1) rows).1.flatten.length + (tick2 (now + 1) rows).2.length = rows.flatten.length := by rw [← q2]; exact q4
  have base : ∃ mvd : Nat, mvd + (tick2 (now + 1) rows).2.length = workC (now + 1) 2 (rows, []) + workC (now + 1) 1 (tickC (now + 1) 2 (rows, [])) ∧ ∀ ke : Int → List (List Tm) → Int → List Int → Option R, impl_Wheel_tick_l4 (m + 3) 0 2 rows (now + 1) [] ke = ke (mvd : Nat) (tick2 (now + 1) rows).1 (now + 1) ((tick2 (now + 1) rows).2.map (·.2)) := by
    have a2 := fun ke => impl_level (R := R) hw (L := 2) (by omega) (by omega) ke (n := m + 2) (c0 := 0) (s := (rows, [])) hr (by show rows.flatten.length + 0 ≤ 1000; omega) (by omega) m2 (by omega)
    have a1 := fun c0 hc0 ke => impl_level (R := R) hw (L := 1) (by omega) (by omega) ke (n := m + 1) (c0 := c0) (s := tickC (now + 1) 2 (rows, [])) q1 (by omega) hc0 m1 (by omega)
    obtain ⟨c1, e1, _⟩ := a2 (fun _ _ _ _ => none)
    simp only [List.length_nil, Nat.add_zero, Nat.zero_add] at e1
    obtain ⟨c2, e2, _⟩ := a1 c1 (by omega) (fun _ _ _ _ => none)
    refine ⟨c2, ?_, fun ke => ?_⟩
    · show c2 + (tickC (now + 1) 1 (tickC (now + 1) 2 (rows, []))).2.length = _
      omega
    · obtain ⟨d1, f1, g1⟩ := a2 ke
      simp only [List.length_nil, Nat.add_zero, Nat.zero_add] at f1
      have hd1 : d1 = c1 := by omega
      subst hd1
      obtain ⟨d2, f2, g2⟩ := a1 d1 (by omega) ke
      have hd2 : d2 = c2 := by omega
      subst hd2
      rw [show ((0 : Nat) : Int) = 0 from rfl, show ((2 : Nat) : Int) = 2 from rfl, List.map_nil] at g1
      refine g1.trans ?_
      rw [show ((2 - 1 : Nat) : Int) = ((1 : Nat) : Int) from rfl]
      refine g2.trans ?_
      rw [impl_Wheel_tick_l4, decide_eq_false (show ¬ ((1 - 1 : Nat) : Int) > 0 by omega), cond_false]
      rfl
  obtain ⟨mvd, e1, e2⟩ := base
  refine ⟨mvd, ?_, fun k => ?_⟩
  · unfold tickD tickW
    rw [List.length_append]
    omega
  · unfold impl_Wheel_tick
    rw [wrap64 (x := now + 1) (by omega) (by omega), e2]
    have sa := fun (k' : Int → Option R) => impl_slotAt_eq (R := R) (n := m + 3) (by omega) (L := 0) (by omega) hw k'
    rw [show ((0 : Nat) : Int) = 0 from rfl] at sa
    rw [sa, dnn, dlt (show slotL (now + 1) 0 < (tick2 (now + 1) rows).1.length by omega)]
    simp only [cond_true, Int.toNat_natCast]
    rw [impl_zero ((tick2 (now + 1) rows).1.getD (slotL (now + 1) 0) []) _ _ _ (by omega) (by omega), sa, dnn, dlt (show slotL (now + 1) 0 < (((tick2 (now + 1) rows).1.set (slotL (now + 1) 0) []).set (slotL (now + 1) 0) ((tick2 (now + 1) rows).1.getD (slotL (now + 1) 0) [])).length by simp; omega)]
    simp only [cond_true, Int.toNat_natCast, List.set_set]
    unfold slices_Sort_int
    rw [LIMk (by rw [List.length_map, List.length_append]; omega)]
    rfl
theorem slotL_div (a : Int) {L : Nat} (h : L < 3) : slotL a L / 8 = L := by
  unfold slotL
  have m1 := Int.emod_nonneg (a / pw L) (show (8 : Int) ≠ 0 by decide)
  have m2 := Int.emod_lt_of_pos (a / pw L) (show (0 : Int) < 8 by decide)
  omega
theorem slotO_spec {w a : Int} {s : Nat} (h : slotO w a = some s) : ∃ L, L < 3 ∧ s = slotL a L ∧ FitL w a L := by
  unfold slotO at h
  split at h
  · cases h; exact ⟨0, by omega, rfl, by assumption⟩
  · split at h
    · cases h; exact ⟨1, by omega, rfl, by assumption⟩
    · split at h
      · cases h; exact ⟨2, by omega, rfl, by assumption⟩
      · cases h
/-- A timer that is still to come at this level fits below. -/
theorem slot_low {w a : Int} {L : Nat} (hL : L < 3) (h : a / pw L = w / pw L) (hlt : w < a) (h0 : 0 ≤ w) : ∃ s, slotO w a = some s ∧ s / 8 < L ∧ a / pw (s / 8) ≠ w / pw (s / 8) ∧ FitL w a (s / 8) ∧ slotL a (s / 8) = s := by
  have key : ∃ L', L' < L ∧ FitL w a L' ∧ slotO w a = some (slotL a L') := by
    unfold slotO
    by_cases c0 : FitL w a 0
    · rw [if_pos c0]
      refine ⟨0, ?_, c0, rfl⟩
      match L, hL with
      | 0, _ => simp only [pw] at h; omega
      | 1, _ => omega
      | 2, _ => omega
    · rw [if_neg c0]
      by_cases c1 : FitL w a 1
      · rw [if_pos c1]
        refine ⟨1, ?_, c1, rfl⟩
        match L, hL with
        | 0, _ => simp only [pw] at h; omega
        | 1, _ => simp only [FitL, pw] at *; omega
        | 2, _ => omega
      · exfalso
        match L, hL with
        | 0, _ => simp only [pw] at h; omega
        | 1, _ => simp only [FitL, pw] at *; omega
        | 2, _ => simp only [FitL, pw] at *; omega
  obtain ⟨L', h1, h2, h3⟩ := key
  have hd := slotL_div a (L := L') (by omega)
  refine ⟨_, h3, by rw [hd]; exact h1, ?_, by rw [hd]; exact h2, by rw [hd]⟩
  rw [hd]
  simp only [FitL] at h2
  omega
/-- What a timer in slot i is like while the wheel turns to w. -/
def KT (w : Int) (i : Nat) (t : Tm) : Prop := (0 ≤ t.2 ∧ t.2 ≤ 1000) ∧ w ≤ t.1 ∧ t.1 < w + 512 ∧ slotL t.1 (i / 8) = i ∧ w / pw (i / 8) ≤ t.1 / pw (i / 8) ∧ t.1 / pw (i / 8) - w / pw (i / 8) ≤ 7 ∧ (t.1 / pw (i / 8) = w / pw (i / 8) → w % pw (i / 8) = 0)
def AllK (w : Int) (rows : List (List Tm)) : Prop := rows.length = 24 ∧ ∀ (i : Nat) row, rows[i]? = some row → ∀ t ∈ row, KT w i t
theorem allK_of_good {now : Int} {rows : List (List Tm)} (h : GoodW now rows) : AllK (now + 1) rows := by
  refine ⟨h.len, fun i row hr t ht => ?_⟩
  obtain ⟨⟨h1, h2, h3, h4⟩, h5, h6⟩ := h.ok i row hr t ht
  have hi : i < 24 := by rw [← h.len]; exact (List.getElem?_eq_some_iff.1 hr).1
  have h0 := h.n0
  refine ⟨⟨h1, h2⟩, by omega, by omega, h6, ?_⟩
  have hL : i / 8 < 3 := by omega
  generalize i / 8 = L at h5 hL
  match L, hL with
  | 0, _ => simp only [FitL, pw] at *; omega
  | 1, _ => simp only [FitL, pw] at *; omega
  | 2, _ => simp only [FitL, pw] at *; omega
/-- Nothing is left of a level that has come. -/
def EmpL (w : Int) (L : Nat) (rows : List (List Tm)) : Prop := ∀ (i : Nat) row, rows[i]? = some row → ∀ t ∈ row, i / 8 = L → t.1 / pw L ≠ w / pw L
theorem mv_get {w : Int} {rows : List (List Tm)} {t : Tm} {s : Nat} (hs : slotO w t.1 = some s) (hl : s < rows.length) {i : Nat} {row : List Tm} (h : (mv w rows t)[i]? = some row) : (i = s ∧ row = rows.getD s [] ++ [t]) ∨ (i ≠ s ∧ rows[i]? = some row) := by
  have e : slotN w t.1 = s := by unfold slotN; rw [hs]; rfl
  unfold mv at h
  rw [e, List.getElem?_set] at h
  by_cases c : s = i
  · rw [if_pos c, if_pos hl] at h
    exact .inl ⟨c.symm, (Option.some.inj h).symm⟩
  · rw [if_neg c] at h
    exact .inr ⟨fun e => c e.symm, h⟩
theorem mem_getD {rows : List (List Tm)} {s : Nat} {t : Tm} (h : t ∈ rows.getD s []) : ∃ row, rows[s]? = some row ∧ t ∈ row := by
  rw [List.getD_eq_getElem?_getD] at h
  cases e : rows[s]? with
  | none => rw [e] at h; simp at h
  | some row => rw [e] at h; exact ⟨row, rfl, h⟩
/-- A timer moved down: what holds stays. -/
theorem mv_K {w : Int} (h0 : 0 ≤ w) {rows : List (List Tm)} {t : Tm} {L : Nat} (hL : L < 3) (hid : 0 ≤ t.2 ∧ t.2 ≤ 1000) (hlt : w < t.1) (hhi : t.1 < w + 512) (he : t.1 / pw L = w / pw L) (hk : AllK w rows) :
    AllK w (mv w rows t) ∧ (∀ L', EmpL w L' rows → EmpL w L' (mv w rows t)) ∧ slotN w t.1 / 8 < L ∧ (slotO w t.1).isSome = true := by
  obtain ⟨s, h1, h2, h3, h4, h5⟩ := slot_low hL he hlt h0
  have hs := slotO_lt h1
  have e : slotN w t.1 = s := by unfold slotN; rw [h1]; rfl
  refine ⟨⟨by rw [mv_length]; exact hk.1, fun i row hr u hu => ?_⟩, fun L' hE i row hr u hu hi => ?_, by rw [e]; exact h2, by rw [h1]; rfl⟩
  · rcases mv_get h1 (by rw [hk.1]; exact hs) hr with ⟨rfl, rfl⟩ | ⟨_, hr⟩
    · rcases List.mem_append.1 hu with hu | hu
      · obtain ⟨row, hr2, hu2⟩ := mem_getD hu
        exact hk.2 i row hr2 u hu2
      · have : u = t := by simpa using hu
        subst this
        simp only [FitL] at h4
        exact ⟨hid, by omega, hhi, h5, by omega, by omega, fun e => absurd e h3⟩
    · exact hk.2 i row hr u hu
  · rcases mv_get h1 (by rw [hk.1]; exact hs) hr with ⟨rfl, rfl⟩ | ⟨_, hr⟩
    · rcases List.mem_append.1 hu with hu | hu
      · obtain ⟨row, hr2, hu2⟩ := mem_getD hu
        exact hE i row hr2 u hu2 hi
      · have : u = t := by simpa using hu
        subst this
        rw [← hi]; exact h3
    · exact hE i row hr u hu hi
/-- How far a wheel's timers can still be moved. -/
def pot : Nat → List (List Tm) → Nat
  | _, [] => 0
  | i, r :: rs => (i / 8 + 1) * r.length + pot (i + 1) rs
theorem pot_set : ∀ (rows : List (List Tm)) (i k : Nat) (new : List Tm), k < rows.length → pot i (rows.set k new) + ((i + k) / 8 + 1) * (rows.getD k []).length = pot i rows + ((i + k) / 8 + 1) * new.length
  | [], _, _, _, h => by simp at h
  | r :: rows, i, 0, new, _ => by simp only [List.set_cons_zero, pot, List.getD_cons_zero, Nat.add_zero]; omega
  | r :: rows, i, k + 1, new, h => by
    have := pot_set rows (i + 1) k new (by simpa using h)
    simp only [List.set_cons_succ, pot, List.getD_cons_succ]
    rw [show i + (k + 1) = i + 1 + k by omega]
    omega
theorem pot_mv {w : Int} {rows : List (List Tm)} {t : Tm} (h : slotN w t.1 < rows.length) : pot 0 (mv w rows t) = pot 0 rows + (slotN w t.1 / 8 + 1) := by
  have := pot_set rows 0 (slotN w t.1) (rows.getD (slotN w t.1) [] ++ [t]) h
  unfold mv
  rw [List.length_append, List.length_singleton, Nat.zero_add, Nat.mul_add, Nat.mul_one] at this
  omega
structure Mid (w : Int) (L : Nat) (r0 : List (List Tm)) (d0 : List Tm) (c : Nat) (done : List Tm) (s : List (List Tm) × List Tm) : Prop where
  k : AllK w s.1
  due : ∀ t ∈ s.2, t.1 = w
  emp : ∀ L', EmpL w L' r0 → EmpL w L' s.1
  perm : (s.1.flatten ++ s.2).Perm (done ++ (r0.flatten ++ d0))
  pt : pot 0 s.1 ≤ pot 0 r0 + L * c
theorem fold_mid {w : Int} (h0 : 0 ≤ w) {L : Nat} (hL : L < 3) {r0 : List (List Tm)} {d0 : List Tm} : ∀ (l done : List Tm) (c : Nat) (s : List (List Tm) × List Tm), (∀ t ∈ l, (0 ≤ t.2 ∧ t.2 ≤ 1000) ∧ w ≤ t.1 ∧ t.1 < w + 512 ∧ t.1 / pw L = w / pw L) → Mid w L r0 d0 c done s → Mid w L r0 d0 (c + l.length) (done ++ l) (l.foldl (tstep w) s)
  | [], done, c, s, _, h => by simpa using h
  | t :: l, done, c, s, hl, h => by
    obtain ⟨t1, t2, t3, t4⟩ := hl t (List.mem_cons_self ..)
    rw [List.foldl_cons, show done ++ t :: l = (done ++ [t]) ++ l by simp, List.length_cons, show c + (l.length + 1) = (c + 1) + l.length by omega]
    refine fold_mid h0 hL l (done ++ [t]) (c + 1) _ (fun u hu => hl u (List.mem_cons_of_mem _ hu)) ?_
    have hLc : L * (c + 1) = L * c + L := by rw [Nat.mul_add, Nat.mul_one]
    have pd : (t :: (s.1.flatten ++ s.2)).Perm ((done ++ [t]) ++ (r0.flatten ++ d0)) := by
      refine (h.perm.cons t).trans ?_
      rw [List.append_assoc]
      exact List.perm_middle.symm
    unfold tstep
    by_cases c1 : t.1 = w
    · rw [if_pos c1]
      refine ⟨h.k, fun u hu => ?_, h.emp, ?_, by have := h.pt; simp only; omega⟩
      · rcases List.mem_append.1 hu with hu | hu
        · exact h.due u hu
        · have : u = t := by simpa using hu
          rw [this]; exact c1
      · refine List.Perm.trans ?_ pd
        simp only
        rw [← List.append_assoc]
        exact List.perm_append_comm
    · rw [if_neg c1]
      obtain ⟨k1, k2, k3, k4⟩ := mv_K h0 hL t1 (show w < t.1 by omega) t3 t4 h.k
      have hlt : slotN w t.1 < s.1.length := by rw [h.k.1]; exact slotN_lt _ _
      refine ⟨k1, h.due, fun L' hE => k2 L' (h.emp L' hE), ?_, ?_⟩
      · refine List.Perm.trans ?_ pd
        exact (mv_perm hlt).append_right s.2
      · have := h.pt
        rw [pot_mv hlt]
        omega
/-- The timers of the slot that has come. -/
theorem come {w : Int} {L : Nat} (hL : L < 3) {rows : List (List Tm)} (hk : AllK w rows) : ∀ t ∈ rows.getD (slotL w L) [], (0 ≤ t.2 ∧ t.2 ≤ 1000) ∧ w ≤ t.1 ∧ t.1 < w + 512 ∧ t.1 / pw L = w / pw L := fun t ht => by
  obtain ⟨row, hr, ht⟩ := mem_getD ht
  obtain ⟨k1, k2, k3, k4, k5, k6, _⟩ := hk.2 _ row hr t ht
  rw [slotL_div w hL] at k4 k5 k6
  refine ⟨k1, k2, k3, ?_⟩
  unfold slotL at k4
  have m1 := Int.emod_nonneg (t.1 / pw L) (show (8 : Int) ≠ 0 by decide)
  have m2 := Int.emod_nonneg (w / pw L) (show (8 : Int) ≠ 0 by decide)
  omega
theorem set_K {w : Int} {rows : List (List Tm)} {k : Nat} (hk : AllK w rows) : AllK w (rows.set k []) := by
  refine ⟨by simp [hk.1], fun i row hr t ht => ?_⟩
  rw [List.getElem?_set] at hr
  split at hr
  · split at hr
    · cases hr; cases ht
    · cases hr
  · exact hk.2 i row hr t ht
theorem set_emp {w : Int} {L : Nat} (hL : L < 3) {rows : List (List Tm)} (hk : AllK w rows) : EmpL w L (rows.set (slotL w L) []) := by
  intro i row hr t ht hi e
  rw [List.getElem?_set] at hr
  split at hr
  · split at hr
    · cases hr; cases ht
    · cases hr
  · rename_i hne
    obtain ⟨_, _, _, k4, _⟩ := hk.2 i row hr t ht
    rw [hi] at k4
    apply hne
    rw [← k4]
    unfold slotL
    rw [e]
theorem set_emp' {w : Int} {L : Nat} {rows : List (List Tm)} {k : Nat} (h : EmpL w L rows) : EmpL w L (rows.set k []) := by
  intro i row hr t ht hi
  rw [List.getElem?_set] at hr
  split at hr
  · split at hr
    · cases hr; cases ht
    · cases hr
  · exact h i row hr t ht hi
theorem level_ok {w : Int} (h0 : 0 ≤ w) (hw : w ≤ 1000000) {L : Nat} (hL0 : 0 < L) (hL : L < 3) {s : List (List Tm) × List Tm} (hk : AllK w s.1) (hd : ∀ t ∈ s.2, t.1 = w) :
    MovC w L s ∧ AllK w (tickC w L s).1 ∧ (∀ t ∈ (tickC w L s).2, t.1 = w) ∧ EmpL w L (tickC w L s).1 ∧ (∀ L', EmpL w L' s.1 → EmpL w L' (tickC w L s).1) ∧ ((tickC w L s).1.flatten ++ (tickC w L s).2).Perm (s.1.flatten ++ s.2) ∧ workC w L s + pot 0 (tickC w L s).1 ≤ pot 0 s.1 := by
  have hc := come hL hk
  have hsl := slotL_lt w hL
  refine ⟨fun _ t ht => ?_, ?_⟩
  · obtain ⟨c1, c2, c3, c4⟩ := hc t ht
    refine ⟨⟨by omega, by omega⟩, ?_⟩
    by_cases c : t.1 = w
    · exact .inl c
    · obtain ⟨sl, h1, _⟩ := slot_low hL c4 (show w < t.1 by omega) h0
      exact .inr (by rw [h1]; rfl)
  · unfold tickC workC
    by_cases c : w % pw L = 0
    · rw [if_pos c, if_pos c]
      have m := fold_mid h0 hL (r0 := s.1.set (slotL w L) []) (d0 := s.2) (s.1.getD (slotL w L) []) [] 0 (s.1.set (slotL w L) [], s.2) hc ⟨set_K hk, hd, fun _ h => h, List.Perm.refl _, by simp⟩
      refine ⟨m.k, m.due, m.emp L (set_emp hL hk), fun L' hE => m.emp L' (set_emp' hE), ?_, ?_⟩
      · refine m.perm.trans ?_
        rw [List.nil_append, ← List.append_assoc]
        refine List.Perm.append_right s.2 ?_
        exact List.perm_append_comm.trans (set_perm s.1 (slotL w L) [] (by rw [hk.1]; exact hsl))
      · have := m.pt
        have hp := pot_set s.1 0 (slotL w L) [] (by rw [hk.1]; exact hsl)
        rw [Nat.zero_add, slotL_div w hL, List.length_nil, Nat.mul_zero, Nat.add_zero, Nat.add_mul, Nat.one_mul] at hp
        rw [Nat.zero_add] at this
        omega
    · rw [if_neg c, if_neg c]
      refine ⟨hk, hd, fun i row hr t ht hi e => ?_, fun _ h => h, List.Perm.refl _, by omega⟩
      obtain ⟨_, _, _, _, _, _, k7⟩ := hk.2 i row hr t ht
      rw [hi] at k7
      exact c (k7 e)
structure Ticked (now : Int) (rows : List (List Tm)) : Prop where
  m2 : MovC (now + 1) 2 (rows, [])
  m1 : MovC (now + 1) 1 (tickC (now + 1) 2 (rows, []))
  perm : ((tickR (now + 1) rows).flatten ++ tickD (now + 1) rows).Perm rows.flatten
  due : ∀ t ∈ tickD (now + 1) rows, t.1 = now + 1
  good : GoodW (now + 1) (tickR (now + 1) rows)
  work : tickW (now + 1) rows + pot 0 (tickR (now + 1) rows) ≤ pot 0 rows
theorem ticked {now : Int} {rows : List (List Tm)} (h : GoodW now rows) (hlt : now < 100000) : Ticked now rows := by
  have h0 := h.n0
  obtain ⟨a1, a2, a3, a4, a5, a6, a7⟩ := level_ok (w := now + 1) (by omega) (by omega) (L := 2) (by omega) (by omega) (s := (rows, [])) (allK_of_good h) (fun t ht => by cases ht)
  obtain ⟨b1, b2, b3, b4, b5, b6, b7⟩ := level_ok (w := now + 1) (by omega) (by omega) (L := 1) (by omega) (by omega) a2 a3
  have hk : AllK (now + 1) (tick2 (now + 1) rows).1 := b2
  have hs0 := slotL_lt (now + 1) (L := 0) (by omega)
  have hc := come (L := 0) (by omega) hk
  have hpm : ((tickR (now + 1) rows).flatten ++ tickD (now + 1) rows).Perm rows.flatten := by
    unfold tickR tickD
    have e1 := set_perm (tick2 (now + 1) rows).1 (slotL (now + 1) 0) [] (by rw [hk.1]; exact hs0)
    rw [List.nil_append] at e1
    have e2 : ((tick2 (now + 1) rows).1.flatten ++ (tick2 (now + 1) rows).2).Perm rows.flatten := by
      have := b6.trans a6
      rwa [List.append_nil] at this
    refine List.Perm.trans ?_ e2
    refine (List.Perm.append_left _ List.perm_append_comm).trans ?_
    rw [← List.append_assoc]
    exact e1.append_right _
  have k3 : AllK (now + 1) (tickR (now + 1) rows) := set_K hk
  have em : ∀ L, L < 3 → EmpL (now + 1) L (tickR (now + 1) rows) := fun L hL => by
    match L, hL with
    | 0, _ => exact set_emp (by omega) hk
    | 1, _ => exact set_emp' b4
    | 2, _ => exact set_emp' (b5 2 a4)
  have hlen := hpm.length_eq
  rw [List.length_append] at hlen
  refine ⟨a1, b1, hpm, fun t ht => ?_, ⟨by omega, by omega, k3.1, fun i row hr t ht => ?_, ?_, ?_⟩, ?_⟩
  · unfold tickD at ht
    rcases List.mem_append.1 ht with ht | ht
    · exact b3 t ht
    · have := (hc t ht).2.2.2
      simpa [pw] using this
  · have hi : i < 24 := by rw [← k3.1]; exact (List.getElem?_eq_some_iff.1 hr).1
    obtain ⟨q1, q2, q3, q4, q5, q6, q7⟩ := k3.2 i row hr t ht
    have hne := em (i / 8) (by omega) i row hr t ht rfl
    have hne2 : t.1 ≠ now + 1 := fun e => hne (by rw [e])
    refine ⟨⟨q1.1, q1.2, by omega, by omega⟩, ⟨by omega, by omega⟩, q4⟩
  · have hn : ((tickR (now + 1) rows).flatten ++ tickD (now + 1) rows).map (·.2) |>.Nodup := (hpm.map (·.2)).nodup_iff.2 h.nd
    rw [List.map_append] at hn
    exact (List.nodup_append.1 hn).1
  · have := h.cnt; omega
  · unfold tickW tickR
    have hp := pot_set (tick2 (now + 1) rows).1 0 (slotL (now + 1) 0) [] (by rw [hk.1]; exact hs0)
    rw [Nat.zero_add, slotL_div (now + 1) (L := 0) (by omega), List.length_nil, Nat.mul_zero, Nat.zero_add, Nat.one_mul] at hp
    have e7 : workC (now + 1) 1 (tickC (now + 1) 2 (rows, [])) + pot 0 (tick2 (now + 1) rows).1 ≤ pot 0 (tickC (now + 1) 2 (rows, [])).1 := b7
    simp only at a7
    omega
theorem pot_le : ∀ (rows : List (List Tm)) (i : Nat), i + rows.length ≤ 24 → pot i rows ≤ 3 * rows.flatten.length
  | [], _, _ => by simp [pot]
  | r :: rows, i, h => by
    have := pot_le rows (i + 1) (by simp at h; omega)
    simp only [pot, List.flatten_cons, List.length_append]
    have h3 : i / 8 + 1 ≤ 3 := by simp at h; omega
    have := Nat.mul_le_mul_right r.length h3
    omega
def advR : Nat → Int → List (List Tm) → List (List Tm)
  | 0, _, rows => rows
  | c + 1, now, rows => advR c (now + 1) (tickR (now + 1) rows)
def advD : Nat → Int → List (List Tm) → List Tm
  | 0, _, _ => []
  | c + 1, now, rows => sortT (tickD (now + 1) rows) ++ advD c (now + 1) (tickR (now + 1) rows)
def advW : Nat → Int → List (List Tm) → Nat
  | 0, _, _ => 0
  | c + 1, now, rows => tickW (now + 1) rows + advW c (now + 1) (tickR (now + 1) rows)
theorem due_ids {w : Int} {d : List Tm} (h : ∀ t ∈ d, t.1 = w) : sortI (d.map (·.2)) = (sortT d).map (·.2) := by
  symm
  refine sortI_eq ?_ ((sortT_perm d).map _)
  rw [List.pairwise_map]
  have hm : ∀ t ∈ sortT d, t.1 = w := fun t ht => h t ((sortT_perm d).mem_iff.1 ht)
  refine (sortT_sorted d).imp_of_mem fun {a b} ha hb hab => ?_
  have e1 := hm a ha
  have e2 := hm b hb
  rw [leT_iff] at hab
  simp only [leI, decide_eq_true_eq]
  omega
structure Adv (now : Int) (c : Nat) (rows : List (List Tm)) : Prop where
  good : GoodW (now + c) (advR c now rows)
  perm : ((advR c now rows).flatten ++ advD c now rows).Perm rows.flatten
  sorted : (advD c now rows).Pairwise fun a b => leT a b = true
  rng : ∀ t ∈ advD c now rows, now < t.1 ∧ t.1 ≤ now + c
  work : advW c now rows + pot 0 (advR c now rows) ≤ pot 0 rows
theorem adv_ok : ∀ (c : Nat) (now : Int) (rows : List (List Tm)), GoodW now rows → now + c ≤ 100000 → Adv now c rows
  | 0, now, rows, h, _ => ⟨by simpa [advR] using h, by simp [advR, advD], List.Pairwise.nil, fun t ht => (by cases ht), by simp [advW, advR]⟩
  | c + 1, now, rows, h, hc => by
    have tk := ticked h (by omega)
    obtain ⟨a1, a2, a3, a4, a5⟩ := adv_ok c (now + 1) (tickR (now + 1) rows) tk.good (by omega)
    have hs : ∀ t ∈ sortT (tickD (now + 1) rows), t.1 = now + 1 := fun t ht => tk.due t ((sortT_perm _).mem_iff.1 ht)
    refine ⟨?_, ?_, ?_, fun t ht => ?_, ?_⟩
    · have e : now + ((c + 1 : Nat) : Int) = now + 1 + c := by omega
      rw [e]; exact a1
    · refine List.Perm.trans ?_ tk.perm
      show ((advR c (now + 1) (tickR (now + 1) rows)).flatten ++ (sortT (tickD (now + 1) rows) ++ advD c (now + 1) (tickR (now + 1) rows))).Perm _
      refine (List.Perm.append_left _ List.perm_append_comm).trans ?_
      rw [← List.append_assoc]
      exact (a2.append_right _).trans ((sortT_perm _).append_left _)
    · show (sortT (tickD (now + 1) rows) ++ advD c (now + 1) (tickR (now + 1) rows)).Pairwise _
      refine List.pairwise_append.2 ⟨sortT_sorted _, a3, fun x hx y hy => ?_⟩
      have e1 := hs x hx
      have e2 := (a4 y hy).1
      rw [leT_iff]; omega
    · rcases List.mem_append.1 (show t ∈ sortT (tickD (now + 1) rows) ++ advD c (now + 1) (tickR (now + 1) rows) from ht) with ht | ht
      · have := hs t ht; omega
      · have := a4 t ht; omega
    · show tickW (now + 1) rows + advW c (now + 1) (tickR (now + 1) rows) + pot 0 (advR c (now + 1) (tickR (now + 1) rows)) ≤ _
      have := tk.work
      omega
theorem good_pot {now : Int} {rows : List (List Tm)} (h : GoodW now rows) : pot 0 rows ≤ 180 := by
  have := pot_le rows 0 (by rw [h.len]; omega)
  have := h.cnt
  omega
theorem time_next {now : Int} {rows : List (List Tm)} (h : GoodW now rows) : TimeB (now + 1) := ⟨by have := h.n0; omega, by have := h.n1; omega⟩
theorem tickD_len {now : Int} {rows : List (List Tm)} (h : Ticked now rows) : (tickR (now + 1) rows).flatten.length + (tickD (now + 1) rows).length = rows.flatten.length := by
  have := h.perm.length_eq
  rwa [List.length_append] at this
theorem spec_adv_loop {R : Type} (A : List (List Tm)) (b to : Int) (hto : to ≤ 100000) (ke : Int → List (List Tm) → Int → List (List Tm) → Int → List Int → Option R) : ∀ (c n : Nat) (now : Int) (w0 : Nat) (rows : List (List Tm)) (all : List Int), GoodW now rows → now + c = to → c + 7000 < n → all.length + rows.flatten.length ≤ 1000 → w0 + pot 0 rows ≤ 100000 →
    spec_AdvanceWheel_l6 n to (w0 : Int) rows now A b all ke = ke ((w0 + advW c now rows : Nat) : Int) (advR c now rows) to A b (all ++ (advD c now rows).map (·.2))
  | c, 0, _, _, _, _, _, _, h, _, _ => by omega
  | 0, n + 1, now, w0, rows, all, hg, hc, hn, hl, hw => by
    have e : now = to := by omega
    subst e
    rw [spec_AdvanceWheel_l6, decide_eq_false (by omega), cond_false]
    simp [advW, advR, advD]
  | c + 1, n + 1, now, w0, rows, all, hg, hc, hn, hl, hw => by
    have tk := ticked hg (by omega)
    have hd := tickD_len tk
    have hp := tk.work
    rw [spec_AdvanceWheel_l6, decide_eq_true (show now < to by omega), cond_true, spec_l5Tick_eq (time_next hg) (by omega) hg.len (by have := hg.cnt; omega) tk.m2 tk.m1, due_ids tk.due]
    have hsl : ((sortT (tickD (now + 1) rows)).map (·.2)).length = (tickD (now + 1) rows).length := by rw [List.length_map, (sortT_perm _).length_eq]
    rw [LIMok (by rw [hsl]; omega), cond_true, wrap64 (by omega) (by omega), show (w0 : Int) + (tickW (now + 1) rows : Nat) = ((w0 + tickW (now + 1) rows : Nat) : Int) by omega]
    rw [spec_adv_loop A b to hto ke c n (now + 1) (w0 + tickW (now + 1) rows) (tickR (now + 1) rows) _ tk.good (by omega) (by omega) (by rw [List.length_append, hsl]; omega) (by omega)]
    rw [Nat.add_assoc, List.append_assoc, ← List.map_append]
    rfl
theorem impl_adv_loop {R : Type} (A : List (List Tm)) (b to : Int) (hto : to ≤ 100000) (ke : Int → List (List Tm) → Int → List (List Tm) → Int → List Int → Option R) : ∀ (c n : Nat) (now : Int) (w0 : Nat) (rows : List (List Tm)) (all : List Int), GoodW now rows → now + c = to → c + 7000 < n → all.length + rows.flatten.length ≤ 1000 → w0 + pot 0 rows ≤ 100000 →
    impl_AdvanceWheel_l4 n to (w0 : Int) A b rows now all ke = ke ((w0 + advW c now rows : Nat) : Int) A b (advR c now rows) to (all ++ (advD c now rows).map (·.2))
  | c, 0, _, _, _, _, _, _, h, _, _ => by omega
  | 0, n + 1, now, w0, rows, all, hg, hc, hn, hl, hw => by
    have e : now = to := by omega
    subst e
    rw [impl_AdvanceWheel_l4, decide_eq_false (by omega), cond_false]
    simp [advW, advR, advD]
  | c + 1, n + 1, now, w0, rows, all, hg, hc, hn, hl, hw => by
    have tk := ticked hg (by omega)
    have hd := tickD_len tk
    have hp := tk.work
    obtain ⟨mvd, e1, e2⟩ := impl_tick_ex (R := R) (n := n) (time_next hg) (by omega) hg.len (by have := hg.cnt; omega) tk.m2 tk.m1
    rw [impl_AdvanceWheel_l4, decide_eq_true (show now < to by omega), cond_true, e2, due_ids tk.due]
    have hsl : ((sortT (tickD (now + 1) rows)).map (·.2)).length = (tickD (now + 1) rows).length := by rw [List.length_map, (sortT_perm _).length_eq]
    rw [LIMok (by rw [hsl]; omega), cond_true, hsl, wrap64 (x := (w0 : Int) + (mvd : Nat)) (by omega) (by omega), wrap64 (by omega) (by omega), show (w0 : Int) + (mvd : Nat) + ((tickD (now + 1) rows).length : Nat) = ((w0 + tickW (now + 1) rows : Nat) : Int) by omega]
    rw [impl_adv_loop A b to hto ke c n (now + 1) (w0 + tickW (now + 1) rows) (tickR (now + 1) rows) _ tk.good (by omega) (by omega) (by rw [List.length_append, hsl]; omega) (by omega)]
    rw [Nat.add_assoc, List.append_assoc, ← List.map_append]
    rfl
/-- Whether a wheel can go on so far. -/
def CanAdv (now to : Int) (rows : List (List Tm)) : Bool := goodB now rows && decide ((now ≤ to ∧ to ≤ now + 1000) ∧ to ≤ 100000)
theorem spec_AdvanceWheel_eq {R : Type} {n : Nat} {now to : Int} {rows : List (List Tm)} (hn : 10000 ≤ n) (hr : rows.flatten.length ≤ 1000) (hl : rows.length ≤ 1000) (k : Int → Int → Bool → List (List Tm) → List Int → Option R) :
    spec_AdvanceWheel n now rows to k = bif CanAdv now to rows then k to (advW (to - now).toNat now rows : Nat) true (advR (to - now).toNat now rows) ((advD (to - now).toNat now rows).map (·.2)) else k 0 0 false [] [] := by
  unfold spec_AdvanceWheel CanAdv
  rw [spec_GoodWheel_eq (by omega) hr hl]
  cases hg : goodB now rows with
  | false => rfl
  | true =>
    have g := goodB_iff.1 hg
    have g0 := g.n0; have g1 := g.n1; have g2 := g.cnt
    rw [Bool.not_true, cond_false, Bool.true_and, wrap64 (x := now + 1000) (by omega) (by omega), spec_l1In_eq]
    by_cases c : now ≤ to ∧ to ≤ now + 1000
    · rw [decide_eq_true c, Bool.not_true, cond_false]
      by_cases c2 : to > 100000
      · rw [decide_eq_true c2, cond_true, decide_eq_false (fun h => by omega)]; rfl
      · rw [decide_eq_false c2, cond_false, spec_l5Own_eq (by omega) hr hl]
        have := spec_adv_loop (R := R) [] 0 to (by omega) (fun r9 r10 r11 r12 r13 r14 => k r11 r9 true r10 r14) (to - now).toNat n now 0 rows [] g (by omega) (by omega) (by simp only [List.length_nil]; omega) (by have := good_pot g; omega)
        rw [show ((0 : Nat) : Int) = 0 from rfl] at this
        rw [this, decide_eq_true ⟨c, by omega⟩, Nat.zero_add, List.nil_append]
        rfl
    · rw [decide_eq_false c, Bool.not_false, cond_true, decide_eq_false (fun h => c h.1)]; rfl
theorem impl_AdvanceWheel_eq {R : Type} {n : Nat} {now to : Int} {rows : List (List Tm)} (hn : 10000 ≤ n) (hr : rows.flatten.length ≤ 1000) (hl : rows.length ≤ 1000) (k : Int → Int → Bool → List (List Tm) → List Int → Option R) :
    impl_AdvanceWheel n now rows to k = bif CanAdv now to rows then k to (advW (to - now).toNat now rows : Nat) true (advR (to - now).toNat now rows) ((advD (to - now).toNat now rows).map (·.2)) else k 0 0 false [] [] := by
  unfold impl_AdvanceWheel CanAdv
  rw [impl_GoodWheel_eq (by omega) hr hl]
  cases hg : goodB now rows with
  | false => rfl
  | true =>
    have g := goodB_iff.1 hg
    have g0 := g.n0; have g1 := g.n1; have g2 := g.cnt
    rw [Bool.not_true, cond_false, Bool.true_and, wrap64 (x := now + 1000) (by omega) (by omega), impl_in_eq]
    by_cases c : now ≤ to ∧ to ≤ now + 1000
    · rw [decide_eq_true c, Bool.not_true, cond_false, impl_isNow_eq]
      by_cases c2 : to > 100000
      · rw [decide_eq_false (fun h => by omega), Bool.not_false, cond_true, decide_eq_false (fun h => by omega)]; rfl
      · rw [decide_eq_true ⟨by omega, by omega⟩, Bool.not_true, cond_false, impl_cloneWheel_eq (by omega) hr hl]
        have := impl_adv_loop (R := R) [] 0 to (by omega) (fun r10 r11 r12 r13 r14 r15 => k r14 r10 true r13 r15) (to - now).toNat n now 0 rows [] g (by omega) (by omega) (by simp only [List.length_nil]; omega) (by have := good_pot g; omega)
        rw [show ((0 : Nat) : Int) = 0 from rfl] at this
        rw [this, decide_eq_true ⟨c, by omega⟩, Nat.zero_add, List.nil_append]
        rfl
    · rw [decide_eq_false c, Bool.not_false, cond_true, decide_eq_false (fun h => c h.1)]; rfl
theorem laws_sameInts_loop {R : Type} (xs ys : List Int) (hl : xs.length = ys.length) (hb : xs.length ≤ 1000000) (kr : Bool → Option R) (ke : Option R) : ∀ (n j : Nat), xs.length - j < n → j ≤ xs.length → laws_sameInts_l4 n xs ys (xs.length : Int) (j : Int) kr ke = if xs.drop j = ys.drop j then ke else kr false
  | 0, _, h, _ => by omega
  | n + 1, j, hn, hj => by
    unfold laws_sameInts_l4
    by_cases h : j < xs.length
    · have h' : j < ys.length := by omega
      rw [dlt h, dlt h', dnn, getD_at _ _ h, getD_at _ _ h', wrapS h (by omega), List.drop_eq_getElem_cons h, List.drop_eq_getElem_cons h']
      simp only [cond_true]
      by_cases he : xs[j] = ys[j]
      · have : (xs[j] != ys[j]) = false := by simp [he]
        rw [this, cond_false, laws_sameInts_loop xs ys hl hb kr ke n (j + 1) (by omega) (by omega)]
        simp only [List.cons.injEq, he, true_and]
      · have : (xs[j] != ys[j]) = true := by simpa using he
        rw [this, cond_true, if_neg fun h => he (List.cons.inj h).1]
    · rw [dge (by omega)]
      have h1 : xs.drop j = [] := List.drop_eq_nil_iff.2 (by omega)
      have h2 : ys.drop j = [] := List.drop_eq_nil_iff.2 (by omega)
      simp [h1, h2]
theorem laws_sameInts_self {R : Type} {n : Nat} {xs : List Int} (hb : xs.length ≤ 1000000) (hn : xs.length < n) (k : Bool → Option R) : laws_sameInts n xs xs k = k true := by
  unfold laws_sameInts
  have : ((xs.length : Int) != (xs.length : Int)) = false := by simp
  rw [this, cond_false]
  have := laws_sameInts_loop xs xs rfl hb (fun r1 => k r1) (k true) n 0 (by omega) (by omega)
  rw [show ((0 : Nat) : Int) = 0 from rfl, if_pos rfl] at this
  exact this
theorem laws_sameTimers_loop {R : Type} (xs : List Tm) (hb : xs.length ≤ 1000000) (kr : Bool → Option R) (ke : Option R) : ∀ (n j : Nat), xs.length - j < n → j ≤ xs.length → laws_sameTimers_l4 n xs xs (xs.length : Int) (j : Int) kr ke = ke
  | 0, _, h, _ => by omega
  | n + 1, j, hn, hj => by
    unfold laws_sameTimers_l4
    by_cases h : j < xs.length
    · rw [dlt h, dnn, getD_at _ _ h, wrapS h (by omega)]
      simp only [cond_true, beq_self_eq_true, Bool.true_and, Bool.not_true, cond_false]
      exact laws_sameTimers_loop xs hb kr ke n (j + 1) (by omega) (by omega)
    · rw [dge (by omega)]; rfl
theorem laws_sameTimers_self {R : Type} {n : Nat} {xs : List Tm} (hb : xs.length ≤ 1000000) (hn : xs.length < n) (k : Bool → Option R) : laws_sameTimers n xs xs k = k true := by
  unfold laws_sameTimers
  have : ((xs.length : Int) != (xs.length : Int)) = false := by simp
  rw [this, cond_false]
  have := laws_sameTimers_loop xs hb (fun r1 => k r1) (k true) n 0 (by omega) (by omega)
  rw [show ((0 : Nat) : Int) = 0 from rfl] at this
  exact this
theorem and255 (x : Int) : 0 ≤ IntKind.wrap .i64 (IntKind.wrap .u64 (Int.ofNat (BitVec.toNat (BitVec.ofInt (IntKind.bits .u64) x &&& BitVec.ofInt (IntKind.bits .u64) 255)))) ∧ IntKind.wrap .i64 (IntKind.wrap .u64 (Int.ofNat (BitVec.toNat (BitVec.ofInt (IntKind.bits .u64) x &&& BitVec.ofInt (IntKind.bits .u64) 255)))) ≤ 255 := by
  have h : BitVec.toNat (BitVec.ofInt (IntKind.bits .u64) x &&& BitVec.ofInt (IntKind.bits .u64) 255) ≤ 255 := by
    rw [BitVec.toNat_and]
    exact Nat.le_trans Nat.and_le_right (by decide)
  generalize BitVec.toNat (BitVec.ofInt (IntKind.bits .u64) x &&& BitVec.ofInt (IntKind.bits .u64) 255) = y at h
  have h1 : IntKind.wrap .u64 (Int.ofNat y) = (y : Int) := by
    simp only [IntKind.wrap, IntKind.signed, IntKind.bits]
    simp
    omega
  rw [h1, wrap64 (by omega) (by omega)]
  omega
/-- Bytes. -/
def Bytes (l : List Int) : Prop := ∀ x ∈ l, 0 ≤ x ∧ x ≤ 255
theorem bytes_getD {l : List Int} (hl : Bytes l) {i : Nat} (h : i < l.length) : 0 ≤ l.getD i 0 ∧ l.getD i 0 ≤ 255 := by
  rw [List.getD_eq_getElem?_getD, List.getElem?_eq_getElem h]
  exact hl _ (List.getElem_mem h)
def seedN (s b : Int) : Int := IntKind.wrap .u64 ((IntKind.wrap .u64 ((IntKind.wrap .u64 (s * 6364136223846793005)) + b)) + 1442695040888963407)
theorem next_ex {l : List Int} (hl : Bytes l) (n : Nat) {p s : Int} (h0 : 0 ≤ p) (h1 : p ≤ 4611686018427387904) : ∃ r s', 0 ≤ r ∧ r ≤ 255 ∧ ∀ (R : Type) (k : Int → List Int → Int → Int → Option R), spec_l1Cur_next n l p s k = k r l (p + 1) s' := by
  have hw : IntKind.wrap .i64 (p + 1) = p + 1 := wrap64 (by omega) (by omega)
  by_cases c : p < (l.length : Int)
  · obtain ⟨b1, b2⟩ := bytes_getD hl (i := Int.toNat p) (by omega)
    have hg : IntKind.wrap .i64 (l.getD (Int.toNat p) 0) = l.getD (Int.toNat p) 0 := wrap64 (by omega) (by omega)
    refine ⟨l.getD (Int.toNat p) 0, seedN s (IntKind.wrap .u64 (l.getD (Int.toNat p) 0)), b1, b2, fun R k => ?_⟩
    unfold spec_l1Cur_next
    rw [decide_eq_true c, decide_eq_true h0, hw, decide_eq_true (show p + 1 ≤ (l.length : Int) by omega), hg]
    rfl
  · have hn := and255 (Int.fdiv (seedN s 0) (2 ^ (min (Int.toNat 40) (IntKind.bits .u64))))
    refine ⟨_, seedN s 0, hn.1, hn.2, fun R k => ?_⟩
    unfold spec_l1Cur_next
    rw [decide_eq_false c, hw, decide_eq_false (show ¬ p + 1 ≤ (l.length : Int) by omega)]
    rfl
theorem pick_ex {l : List Int} (hl : Bytes l) (n : Nat) {m p s : Int} (hm : m ≤ 60000) (h0 : 0 ≤ p) (h1 : p ≤ 4611686018427387000) : ∃ r p' s', 0 ≤ r ∧ (r < m ∨ (m ≤ 1 ∧ r = 0)) ∧ p ≤ p' ∧ p' ≤ p + 2 ∧ ∀ (R : Type) (k : Int → List Int → Int → Int → Option R), spec_l1Cur_pick n m l p s k = k r l p' s' := by
  by_cases c : m ≤ 1
  · exact ⟨0, p, s, by omega, .inr ⟨c, rfl⟩, by omega, by omega, fun R k => by unfold spec_l1Cur_pick; rw [decide_eq_true c]; rfl⟩
  · obtain ⟨r, s1, r0, r1, hr⟩ := next_ex hl n (s := s) h0 (by omega)
    by_cases c2 : m > 200
    · obtain ⟨q, s2, q0, q1, hq⟩ := next_ex hl n (p := p + 1) (s := s1) (by omega) (by omega)
      have e : IntKind.wrap .i64 (IntKind.wrap .i64 (r * 256) + q) = r * 256 + q := by rw [wrap64 (x := r * 256) (by omega) (by omega), wrap64 (by omega) (by omega)]
      have t0 := Int.tmod_nonneg m (show 0 ≤ r * 256 + q by omega)
      have t1 := Int.tmod_lt_of_pos (r * 256 + q) (show 0 < m by omega)
      refine ⟨Int.tmod (r * 256 + q) m, p + 1 + 1, s2, t0, .inl t1, by omega, by omega, fun R k => ?_⟩
      unfold spec_l1Cur_pick
      rw [decide_eq_false c, hr, decide_eq_true c2, hq, decide_eq_true (show m ≠ 0 by omega), e]
      rfl
    · have t0 := Int.tmod_nonneg m (show 0 ≤ r by omega)
      have t1 := Int.tmod_lt_of_pos r (show 0 < m by omega)
      refine ⟨Int.tmod r m, p + 1, s1, t0, .inl t1, by omega, by omega, fun R k => ?_⟩
      unfold spec_l1Cur_pick
      rw [decide_eq_false c, hr, decide_eq_false c2, decide_eq_true (show m ≠ 0 by omega)]
      rfl
theorem among_ex {l : List Int} (hl : Bytes l) (n : Nat) {xs : List Int} (hx : xs ≠ []) (hx2 : xs.length ≤ 200) {p s : Int} (h0 : 0 ≤ p) (h1 : p ≤ 4611686018427387000) : ∃ r p' s', r ∈ xs ∧ p ≤ p' ∧ p' ≤ p + 2 ∧ ∀ (R : Type) (k : Int → List Int → Int → Int → Option R), spec_l1Cur_among n xs l p s k = k r l p' s' := by
  have hp := List.length_pos_iff.2 hx
  obtain ⟨i, p', s', i0, i1, q0, q1, hi⟩ := pick_ex hl n (m := (xs.length : Int)) (s := s) (by omega) h0 h1
  have hlt : Int.toNat i < xs.length := by omega
  refine ⟨xs.getD (Int.toNat i) 0, p', s', ?_, q0, q1, fun R k => ?_⟩
  · rw [List.getD_eq_getElem?_getD, List.getElem?_eq_getElem hlt]
    exact List.getElem_mem hlt
  · unfold spec_l1Cur_among
    rw [hi, decide_eq_true i0, decide_eq_true (show i < (xs.length : Int) by omega)]
    rfl
theorem set_sub {α : Type} : ∀ (rows : List (List α)) (i : Nat) (row new : List α), rows[i]? = some row → new.Sublist row → (rows.set i new).flatten.Sublist rows.flatten
  | [], i, _, _, h, _ => by simp at h
  | r :: rows, 0, row, new, h, hs => by
    cases h
    simp only [List.set_cons_zero, List.flatten_cons]
    exact hs.append_right _
  | r :: rows, i + 1, row, new, h, hs => by
    simp only [List.set_cons_succ, List.flatten_cons]
    exact (set_sub rows i row new (by simpa using h) hs).append_left r
theorem good_sub {now : Int} {rows : List (List Tm)} (h : GoodW now rows) {i : Nat} {row new : List Tm} (hr : rows[i]? = some row) (hs : new.Sublist row) : GoodW now (rows.set i new) := by
  have hf := set_sub rows i row new hr hs
  refine ⟨h.n0, h.n1, by simp [h.len], fun j r hj t ht => ?_, ?_, Nat.le_trans hf.length_le h.cnt⟩
  · rw [List.getElem?_set] at hj
    split at hj
    · rename_i e; subst e
      split at hj
      · cases hj; exact h.ok i row hr t (hs.subset ht)
      · cases hj
    · exact h.ok j r hj t ht
  · exact (hf.map _).nodup h.nd
theorem spec_SetTimer_eq {R : Type} {n : Nat} {now at_ id : Int} {rows : List (List Tm)} (hn : 10000 ≤ n) (hr : rows.flatten.length ≤ 900) (hl : rows.length ≤ 900) (k : Int → Bool → List (List Tm) → Option R) :
    spec_SetTimer n now rows at_ id k = if (goodB now rows = true ∧ TimerOk now (at_, id) ∧ rows.flatten.length ≠ 60) ∧ (slotO now at_).isSome = true ∧ goodB now (mv now rows (at_, id)) = true then k now true (mv now rows (at_, id)) else k 0 false [] := by
  unfold spec_SetTimer
  rw [spec_GoodWheel_eq (by omega) (by omega) (by omega)]
  cases hg : goodB now rows with
  | false => rw [if_neg (fun h => by cases h.1.1)]; rfl
  | true =>
    have g := goodB_iff.1 hg
    have g0 := g.n0; have g1 := g.n1
    rw [Bool.not_true, cond_false, spec_l5Timer_eq (by omega) ⟨g0, by omega⟩]
    by_cases c : TimerOk now (at_, id)
    · have tb : TimeB at_ := by have := c.2.2.1; have := c.2.2.2; simp only at *; exact ⟨by omega, by omega⟩
      rw [decide_eq_true c, Bool.not_true, cond_false, spec_l5Many_eq (by omega) (by omega) (by omega)]
      by_cases c2 : rows.flatten.length = 60
      · rw [show (((rows.flatten.length : Nat) : Int) == 60) = true by rw [c2]; rfl, cond_true, if_neg (fun h => h.1.2.2 c2)]
      · rw [show (((rows.flatten.length : Nat) : Int) == 60) = false by simp only [beq_eq_false_iff_ne]; omega, cond_false, spec_l5Slot_eq (by omega) ⟨g0, by omega⟩ tb]
        cases hs : slotO now at_ with
        | none => rw [if_neg (fun h => by cases h.2.1)]; rfl
        | some s =>
          have hs24 := slotO_lt hs
          have hgl := g.len
          have hrl := row_len (rows := rows) s
          have e : slotN now at_ = s := by unfold slotN; rw [hs]; rfl
          have emv : (rows.set s []).set s (rows.getD s [] ++ [(at_, id)]) = mv now rows (at_, id) := by
            rw [List.set_set]; unfold mv; rw [e]
          have hml := (mv_perm (w := now) (rows := rows) (t := (at_, id)) (by rw [hgl]; exact slotN_lt _ _)).length_eq
          rw [List.length_cons] at hml
          simp only
          rw [decide_eq_false (show ¬ (s : Int) < 0 by omega), cond_false, spec_l5Own_eq (by omega) (by omega) (by omega)]
          simp only [Int.toNat_natCast]
          rw [dnn, dlt (show s < rows.length by omega), dlt (show s < (rows.set s []).length by simp; omega), LIMok (by simp only [List.length_singleton]; omega), Nat.beq_refl, emv]
          simp only [cond_true]
          rw [spec_GoodWheel_eq (by omega) (by omega) (by rw [mv_length]; omega)]
          cases hg2 : goodB now (mv now rows (at_, id)) with
          | false => rw [if_neg (fun h => by cases h.2.2)]; rfl
          | true => rw [if_pos (by exact ⟨⟨by trivial, c, c2⟩, by trivial, by trivial⟩)]; rfl
    · rw [decide_eq_false c, Bool.not_false, cond_true, if_neg (fun h => c h.1.2.1)]
theorem drop_inner (id : Int) (i : Nat) (b c : Int) (row : List Tm) (hr : row.length ≤ 1000) (B : List (List Tm)) (hB : i < B.length) (now : Int) (A : List (List Tm)) (d : Int) : ∀ (n j : Nat), row.length - j < n → j ≤ row.length →
    ∃ res : Option Nat, (∀ q, res = some q → q < row.length) ∧ ∀ (R : Type) (kr : Bool → List (List Tm) → Int → Option R) (ke : Int → Int → Int → List (List Tm) → Int → List (List Tm) → Int → Option R),
      spec_DropTimer_l8 n id (i : Int) b c (row.length : Int) (j : Int) row B i now A d kr ke = match res with
        | some q => kr true (B.set i (row.take q ++ row.drop (q + 1))) now
        | none => ke id b c (B.set i row) now A d
  | 0, j, h, _ => by omega
  | n + 1, j, hn, hj => by
    by_cases h : j < row.length
    · by_cases c1 : row[j].2 = id
      · refine ⟨some j, fun q hq => by cases hq; exact h, fun R kr ke => ?_⟩
        unfold spec_DropTimer_l8
        rw [dlt h, dnn]
        simp only [cond_true]
        rw [getD_at _ _ h, show (row[j].2 == id) = true by simpa using c1]
        simp only [cond_true, Int.toNat_natCast, List.drop_zero, Nat.sub_zero, List.nil_append]
        rw [wrapS h (by omega)]
        simp only [Int.toNat_natCast]
        rw [decide_eq_true (show (j : Int) ≤ (row.length : Int) by omega), LIMok (by simp; omega), dnn, decide_eq_true (show ((j + 1 : Nat) : Int) ≤ (row.length : Int) by omega), decide_eq_true (Int.le_refl _), LIMok (by simp; omega), dnn, dlt hB, Nat.beq_refl]
        simp only [cond_true]
        rw [List.take_of_length_le (l := row.drop (j + 1)) (by simp)]
      · obtain ⟨res, h1, h2⟩ := drop_inner id i b c row hr B hB now A d n (j + 1) (by omega) (by omega)
        refine ⟨res, h1, fun R kr ke => ?_⟩
        unfold spec_DropTimer_l8
        rw [dlt h, dnn]
        simp only [cond_true]
        rw [getD_at _ _ h, show (row[j].2 == id) = false by simpa using c1, cond_false, wrapS h (by omega)]
        exact h2 R kr ke
    · refine ⟨none, fun q hq => (by cases hq), fun R kr ke => ?_⟩
      unfold spec_DropTimer_l8
      rw [dge (by omega), cond_false]
theorem drop_outer (id : Int) (rows : List (List Tm)) (hr : rows.flatten.length ≤ 1000) (hl : rows.length ≤ 1000) (now : Int) (A : List (List Tm)) (d : Int) : ∀ (n j : Nat), 1100 + (rows.length - j) < n → j ≤ rows.length →
    ∃ res : Option (List (List Tm)), (∀ r, res = some r → ∃ (i : Nat) (row : List Tm) (q : Nat), rows[i]? = some row ∧ r = rows.set i (row.take q ++ row.drop (q + 1))) ∧ ∀ (R : Type) (kr : Bool → List (List Tm) → Int → Option R) (ke : List (List Tm) → Int → Option R),
      spec_DropTimer_l5 n id (rows.length : Int) (j : Int) rows now A d kr ke = match res with
        | some r => kr true r now
        | none => ke A d
  | 0, j, h, _ => by omega
  | n + 1, j, hn, hj => by
    by_cases h : j < rows.length
    · have hrl := flat_row h
      obtain ⟨r1, a1, a2⟩ := drop_inner id j (rows.length : Int) (j : Int) rows[j] (by omega) (rows.set j []) (by simpa using h) now A d n 0 (by omega) (by omega)
      have hself : rows.set j rows[j] = rows := List.set_getElem_self h
      obtain ⟨res, h1, h2⟩ := drop_outer id rows hr hl now A d n (j + 1) (by omega) (by omega)
      cases r1 with
      | some q =>
        refine ⟨some (rows.set j (rows[j].take q ++ rows[j].drop (q + 1))), fun r hr => ⟨j, rows[j], q, List.getElem?_eq_getElem h, (Option.some.inj hr).symm⟩, fun R kr ke => ?_⟩
        unfold spec_DropTimer_l5
        rw [dlt h, dnn]
        simp only [cond_true]
        rw [getD_at _ _ h, Int.toNat_natCast]
        have := a2 R (fun r4 r5 r6 => kr r4 r5 r6) (fun r7 r8 r9 r10 r11 r12 r13 => spec_DropTimer_l5 n r7 r8 (IntKind.wrap .i64 (r9 + 1)) r10 r11 r12 r13 kr ke)
        rw [show ((0 : Nat) : Int) = 0 from rfl] at this
        rw [this]
        simp only [List.set_set]
      | none =>
        refine ⟨res, h1, fun R kr ke => ?_⟩
        unfold spec_DropTimer_l5
        rw [dlt h, dnn]
        simp only [cond_true]
        rw [getD_at _ _ h, Int.toNat_natCast]
        have := a2 R (fun r4 r5 r6 => kr r4 r5 r6) (fun r7 r8 r9 r10 r11 r12 r13 => spec_DropTimer_l5 n r7 r8 (IntKind.wrap .i64 (r9 + 1)) r10 r11 r12 r13 kr ke)
        rw [show ((0 : Nat) : Int) = 0 from rfl] at this
        rw [this]
        simp only [List.set_set, hself]
        rw [wrapS h (by omega)]
        exact h2 R kr ke
    · refine ⟨none, fun r hr => (by cases hr), fun R kr ke => ?_⟩
      unfold spec_DropTimer_l5
      rw [dge (by omega), cond_false]
theorem spec_DropTimer_ex {n : Nat} {now id : Int} {rows : List (List Tm)} (hn : 10000 ≤ n) (hg : GoodW now rows) :
    ∃ res : Option (List (List Tm)), (∀ r, res = some r → GoodW now r) ∧ ∀ (R : Type) (k : Int → Bool → List (List Tm) → Option R), spec_DropTimer n now rows id k = match res with
      | some r => k now true r
      | none => k 0 false [] := by
  have hc := hg.cnt; have hl := hg.len
  obtain ⟨res, h1, h2⟩ := drop_outer id rows (by omega) (by omega) now [] 0 n 0 (by omega) (by omega)
  refine ⟨res, fun r hr => ?_, fun R k => ?_⟩
  · obtain ⟨i, row, q, e1, e2⟩ := h1 r hr
    rw [e2]
    refine good_sub hg e1 ?_
    have : (row.take q ++ row.drop (q + 1)).Sublist (row.take q ++ row.drop q) := List.Sublist.append (List.Sublist.refl _) (by rw [← List.drop_drop]; exact List.drop_sublist _ _)
    rwa [List.take_append_drop] at this
  · unfold spec_DropTimer
    rw [spec_GoodWheel_eq (by omega) (by omega) (by omega), goodB_iff.2 hg, Bool.not_true, cond_false, spec_l5Own_eq (by omega) (by omega) (by omega)]
    have := h2 R (fun r14 r15 r16 => k r16 r14 r15) (fun r17 r18 => k 0 false ([] : List (List (Int × Int))))
    rw [show ((0 : Nat) : Int) = 0 from rfl] at this
    rw [this]
theorem wheel_loop {l : List Int} (hl : Bytes l) (A : List (List Tm)) (d : Int) : ∀ (c n : Nat) (id p s now : Int) (rows : List (List Tm)), c ≤ 100 → 10100 + c < n → 0 ≤ id → id + c ≤ 100000 → 0 ≤ p → p + 10 * c ≤ 1000000 → GoodW now rows →
    ∃ now' rows' p' s', GoodW now' rows' ∧ p ≤ p' ∧ p' ≤ p + 10 * c ∧ ∀ (R : Type) (ke : List Int → Int → Int → List (List Tm) → Int → List (List Tm) → Int → Option R), spec_l1Cur_wheel_l6 n id (c : Int) l p s A d rows now ke = ke l p' s' A d rows' now'
  | c, 0, _, _, _, _, _, _, h, _, _, _, _, _ => by omega
  | 0, n + 1, id, p, s, now, rows, _, _, _, _, _, _, hg => ⟨now, rows, p, s, hg, Int.le_refl _, by omega, fun R ke => by rw [spec_l1Cur_wheel_l6]; rfl⟩
  | c + 1, n + 1, id, p, s, now, rows, hc, hn, hid, hid2, hp, hp2, hg => by
    have g0 := hg.n0; have g1 := hg.n1; have g2 := hg.cnt; have g3 := hg.len
    obtain ⟨r15, p1, s1, a1, a2, a3, a4, a5⟩ := pick_ex hl n (m := 5) (s := s) (by omega) hp (by omega)
    have hcw : IntKind.wrap .i64 (((c + 1 : Nat) : Int) - 1) = (c : Int) := by rw [wrap64 (by omega) (by omega)]; omega
    have head : ∀ (R : Type) (ke : List Int → Int → Int → List (List Tm) → Int → List (List Tm) → Int → Option R), decide (((c + 1 : Nat) : Int) > 0) = true := fun _ _ => decide_eq_true (by omega)
    by_cases c0 : r15 = 0
    · obtain ⟨r19, p2, s2, b1, b2, b3, b4, b5⟩ := pick_ex hl n (m := 30) (p := p1) (s := s1) (by omega) (by omega) (by omega)
      have hw : IntKind.wrap .i64 (now + r19) = now + r19 := wrap64 (by omega) (by omega)
      cases hcan : CanAdv now (now + r19) rows with
      | true =>
        have hcan' := hcan
        unfold CanAdv at hcan'
        simp only [Bool.and_eq_true, decide_eq_true_eq] at hcan'
        have ad := adv_ok (now + r19 - now).toNat now rows hg (by omega)
        have e : now + ((now + r19 - now).toNat : Nat) = now + r19 := by omega
        obtain ⟨now', rows', p', s', d1, d2, d3, d4⟩ := wheel_loop hl A d c n id p2 s2 (now + r19) (advR (now + r19 - now).toNat now rows) (by omega) (by omega) hid (by omega) (by omega) (by omega) (by rw [← e]; rw [e]; have := ad.good; rwa [e] at this)
        refine ⟨now', rows', p', s', d1, by omega, by omega, fun R ke => ?_⟩
        rw [spec_l1Cur_wheel_l6, head R ke, cond_true, a5, show (r15 == 0) = true by simpa using c0, cond_true, b5, hw, spec_AdvanceWheel_eq (by omega) (by omega) (by omega), hcan, cond_true, cond_true, hcw]
        exact d4 R ke
      | false =>
        obtain ⟨now', rows', p', s', d1, d2, d3, d4⟩ := wheel_loop hl A d c n id p2 s2 now rows (by omega) (by omega) hid (by omega) (by omega) (by omega) hg
        refine ⟨now', rows', p', s', d1, by omega, by omega, fun R ke => ?_⟩
        rw [spec_l1Cur_wheel_l6, head R ke, cond_true, a5, show (r15 == 0) = true by simpa using c0, cond_true, b5, hw, spec_AdvanceWheel_eq (by omega) (by omega) (by omega), hcan, cond_false, cond_false, hcw]
        exact d4 R ke
    · by_cases c1 : r15 = 1
      · obtain ⟨r28, p2, s2, b1, b2, b3, b4, b5⟩ := pick_ex hl n (m := 10) (p := p1) (s := s1) (by omega) (by omega) (by omega)
        obtain ⟨res, e1, e2⟩ := spec_DropTimer_ex (n := n) (id := r28) (by omega) hg
        cases res with
        | some r =>
          obtain ⟨now', rows', p', s', d1, d2, d3, d4⟩ := wheel_loop hl A d c n id p2 s2 now r (by omega) (by omega) hid (by omega) (by omega) (by omega) (e1 r rfl)
          refine ⟨now', rows', p', s', d1, by omega, by omega, fun R ke => ?_⟩
          rw [spec_l1Cur_wheel_l6, head R ke, cond_true, a5, show (r15 == 0) = false by simpa using c0, cond_false, show (r15 == 1) = true by simpa using c1, cond_true, b5, e2]
          simp only [cond_true]
          rw [hcw]
          exact d4 R ke
        | none =>
          obtain ⟨now', rows', p', s', d1, d2, d3, d4⟩ := wheel_loop hl A d c n id p2 s2 now rows (by omega) (by omega) hid (by omega) (by omega) (by omega) hg
          refine ⟨now', rows', p', s', d1, by omega, by omega, fun R ke => ?_⟩
          rw [spec_l1Cur_wheel_l6, head R ke, cond_true, a5, show (r15 == 0) = false by simpa using c0, cond_false, show (r15 == 1) = true by simpa using c1, cond_true, b5, e2]
          simp only [cond_false]
          rw [hcw]
          exact d4 R ke
      · obtain ⟨r35, p2, s2, b1, b3, b4, b5⟩ := among_ex hl n (xs := [8, 60, 440]) (by simp) (by simp) (p := p1) (s := s1) (by omega) (by omega)
        have hr35 : r35 = 8 ∨ r35 = 60 ∨ r35 = 440 := by simpa using b1
        obtain ⟨r39, p3, s3, f1, f2, f3, f4, f5⟩ := pick_ex hl n (m := r35) (p := p2) (s := s2) (by omega) (by omega) (by omega)
        have hw1 : IntKind.wrap .i64 (id + 1) = id + 1 := wrap64 (by omega) (by omega)
        have hw2 : IntKind.wrap .i64 (IntKind.wrap .i64 (now + 1) + r39) = now + 1 + r39 := by rw [wrap64 (x := now + 1) (by omega) (by omega), wrap64 (by omega) (by omega)]
        by_cases cs : (goodB now rows = true ∧ TimerOk now (now + 1 + r39, id + 1) ∧ rows.flatten.length ≠ 60) ∧ (slotO now (now + 1 + r39)).isSome = true ∧ goodB now (mv now rows (now + 1 + r39, id + 1)) = true
        · obtain ⟨now', rows', p', s', d1, d2, d3, d4⟩ := wheel_loop hl A d c n (id + 1) p3 s3 now (mv now rows (now + 1 + r39, id + 1)) (by omega) (by omega) (by omega) (by omega) (by omega) (by omega) (goodB_iff.1 cs.2.2)
          refine ⟨now', rows', p', s', d1, by omega, by omega, fun R ke => ?_⟩
          rw [spec_l1Cur_wheel_l6, head R ke, cond_true, a5, show (r15 == 0) = false by simpa using c0, cond_false, show (r15 == 1) = false by simpa using c1, cond_false, b5, f5, hw2, hw1, spec_SetTimer_eq (by omega) (by omega) (by omega), if_pos cs, cond_true, hcw]
          exact d4 R ke
        · obtain ⟨now', rows', p', s', d1, d2, d3, d4⟩ := wheel_loop hl A d c n (id + 1) p3 s3 now rows (by omega) (by omega) (by omega) (by omega) (by omega) (by omega) hg
          refine ⟨now', rows', p', s', d1, by omega, by omega, fun R ke => ?_⟩
          rw [spec_l1Cur_wheel_l6, head R ke, cond_true, a5, show (r15 == 0) = false by simpa using c0, cond_false, show (r15 == 1) = false by simpa using c1, cond_false, b5, f5, hw2, hw1, spec_SetTimer_eq (by omega) (by omega) (by omega), if_neg cs, cond_false, hcw]
          exact d4 R ke
theorem good_new {now : Int} (h0 : 0 ≤ now) (h1 : now ≤ 100000) : GoodW now (List.replicate 24 []) := by
  refine ⟨h0, h1, by simp, fun i row hr t ht => ?_, ?_, ?_⟩
  · have := List.mem_of_getElem? hr
    rw [(List.mem_replicate.1 this).2] at ht
    cases ht
  · rw [show (List.replicate 24 ([] : List Tm)).flatten = [] from rfl]; exact List.nodup_nil
  · rw [show (List.replicate 24 ([] : List Tm)).flatten = [] from rfl]; exact Nat.zero_le _
/-- What may be drawn. -/
structure DrawnW (now : Int) (rows : List (List Tm)) : Prop where
  n0 : 0 ≤ now
  n1 : now ≤ 200000
  len : rows.length = 24
  cnt : rows.flatten.length ≤ 100
theorem wheel_end {l : List Int} (hl : Bytes l) {n : Nat} (hn : 1000 ≤ n) {p s now : Int} {rows : List (List Tm)} (hp : 0 ≤ p) (hp2 : p ≤ 2000000) (hg : GoodW now rows) :
    ∃ now' rows' p' s', DrawnW now' rows' ∧ p ≤ p' ∧ p' ≤ p + 6 ∧ ∀ (R : Type) (k : Int → List (List Tm) → List Int → Int → Int → Option R),
      (spec_l1Cur_pick n 40 l p s fun r53 r54 r55 r56 => (bif (r53 == 0) then (spec_l1Cur_pick n 9 r54 r55 r56 fun r57 r58 r59 r60 => k (IntKind.wrap .i64 (now + r57)) rows r58 r59 r60) else (bif (r53 == 1) then (spec_l1Cur_pick n (rows.length : Int) r54 r55 r56 fun r61 r62 r63 r64 => (bif decide (0 ≤ r61) then (bif decide (r61 < (rows.length : Int)) then (spec_l1Cur_pick n 9 r62 r63 r64 fun r65 r66 r67 r68 => (bif decide ((rows.getD (Int.toNat r61) []).length + ([((IntKind.wrap .i64 (now + r65)), 99)] : List (Int × Int)).length ≤ LIM) then (bif decide (0 ≤ r61) then (bif decide (r61 < ((rows.set (Int.toNat r61) []).length : Int)) then (bif Nat.beq (Int.toNat r61) (Int.toNat r61) then k now ((rows.set (Int.toNat r61) []).set (Int.toNat r61) ((rows.getD (Int.toNat r61) []) ++ [((IntKind.wrap .i64 (now + r65)), 99)])) r66 r67 r68 else none) else none) else none) else none)) else none) else none)) else k now rows r54 r55 r56))) = k now' rows' l p' s' := by
  have g0 := hg.n0; have g1 := hg.n1; have g2 := hg.cnt; have g3 := hg.len
  obtain ⟨r53, p1, s1, a1, a2, a3, a4, a5⟩ := pick_ex hl n (m := 40) (s := s) (by omega) hp (by omega)
  by_cases c0 : r53 = 0
  · obtain ⟨r57, p2, s2, b1, b2, b3, b4, b5⟩ := pick_ex hl n (m := 9) (p := p1) (s := s1) (by omega) (by omega) (by omega)
    refine ⟨now + r57, rows, p2, s2, ⟨by omega, by omega, g3, by omega⟩, by omega, by omega, fun R k => ?_⟩
    rw [a5, show (r53 == 0) = true by simpa using c0, cond_true, b5, wrap64 (by omega) (by omega)]
  · by_cases c1 : r53 = 1
    · obtain ⟨r61, p2, s2, b1, b2, b3, b4, b5⟩ := pick_ex hl n (m := (rows.length : Int)) (p := p1) (s := s1) (by omega) (by omega) (by omega)
      obtain ⟨r65, p3, s3, f1, f2, f3, f4, f5⟩ := pick_ex hl n (m := 9) (p := p2) (s := s2) (by omega) (by omega) (by omega)
      have hrl := row_len (rows := rows) (Int.toNat r61)
      have hsp := (set_perm rows (Int.toNat r61) (rows.getD (Int.toNat r61) [] ++ [(now + r65, 99)]) (by omega)).length_eq
      simp only [List.length_append, List.length_singleton] at hsp
      refine ⟨now, rows.set (Int.toNat r61) (rows.getD (Int.toNat r61) [] ++ [(now + r65, 99)]), p3, s3, ⟨g0, by omega, by simp [g3], by omega⟩, by omega, by omega, fun R k => ?_⟩
      rw [a5, show (r53 == 0) = false by simpa using c0, cond_false, show (r53 == 1) = true by simpa using c1, cond_true, b5, decide_eq_true b1, decide_eq_true (show r61 < (rows.length : Int) by omega)]
      simp only [cond_true]
      rw [f5, LIMok (by simp only [List.length_singleton]; omega), decide_eq_true (show r61 < ((rows.set (Int.toNat r61) []).length : Int) by simp; omega), Nat.beq_refl, List.set_set, wrap64 (by omega) (by omega)]
      rfl
    · refine ⟨now, rows, p1, s1, ⟨g0, by omega, g3, by omega⟩, by omega, by omega, fun R k => ?_⟩
      rw [a5, show (r53 == 0) = false by simpa using c0, cond_false, show (r53 == 1) = false by simpa using c1, cond_false]
theorem wheel_ex {l : List Int} (hl : Bytes l) {n : Nat} (hn : 11000 ≤ n) {p s : Int} (hp : 0 ≤ p) (hp2 : p ≤ 100000) :
    ∃ now rows p' s', DrawnW now rows ∧ p ≤ p' ∧ p' ≤ p + 1000 ∧ ∀ (R : Type) (k : Int → List (List Tm) → List Int → Int → Int → Option R), spec_l1Cur_wheel n l p s k = k now rows l p' s' := by
  obtain ⟨r0, p0, s0, z1, z2, z3, z4, z5⟩ := pick_ex hl n (m := 2) (s := s) (by omega) hp (by omega)
  by_cases c0 : r0 = 0
  · obtain ⟨r7, p1, s1, a1, a2, a3, a4, a5⟩ := pick_ex hl n (m := 600) (p := p0) (s := s0) (by omega) (by omega) (by omega)
    obtain ⟨r11, p2, s2, b1, b2, b3, b4, b5⟩ := pick_ex hl n (m := 14) (p := p1) (s := s1) (by omega) (by omega) (by omega)
    have e : ((r11.toNat : Nat) : Int) = r11 := by omega
    obtain ⟨now', rows', p', s', d1, d2, d3, d4⟩ := wheel_loop hl [] 0 r11.toNat n 0 p2 s2 r7 (List.replicate 24 []) (by omega) (by omega) (by omega) (by omega) (by omega) (by omega) (good_new a1 (by omega))
    obtain ⟨now2, rows2, p3, s3, f1, f2, f3, f4⟩ := wheel_end hl (n := n) (p := p') (s := s') (by omega) (by omega) (by omega) d1
    refine ⟨now2, rows2, p3, s3, f1, by omega, by omega, fun R k => ?_⟩
    simp only [spec_l1Cur_wheel, spec_NewWheel, spec_l1Cur_one]
    rw [z5, show (r0 == 0) = true by simpa using c0, cond_true, a5, b5, ← e, d4]
    exact f4 R k
  · obtain ⟨r11, p2, s2, b1, b2, b3, b4, b5⟩ := pick_ex hl n (m := 14) (p := p0) (s := s0) (by omega) (by omega) (by omega)
    have e : ((r11.toNat : Nat) : Int) = r11 := by omega
    obtain ⟨now', rows', p', s', d1, d2, d3, d4⟩ := wheel_loop hl [] 0 r11.toNat n 0 p2 s2 0 (List.replicate 24 []) (by omega) (by omega) (by omega) (by omega) (by omega) (by omega) (good_new (by omega) (by omega))
    obtain ⟨now2, rows2, p3, s3, f1, f2, f3, f4⟩ := wheel_end hl (n := n) (p := p') (s := s') (by omega) (by omega) (by omega) d1
    refine ⟨now2, rows2, p3, s3, f1, by omega, by omega, fun R k => ?_⟩
    simp only [spec_l1Cur_wheel, spec_NewWheel, spec_l1Cur_one]
    rw [z5, show (r0 == 0) = false by simpa using c0, cond_false, b5, ← e, d4]
    exact f4 R k
theorem mv_ids {now : Int} {rows : List (List Tm)} {t : Tm} (h : rows.length = 24) : ((mv now rows t).flatten.map (·.2)).Perm (t.2 :: rows.flatten.map (·.2)) := by
  have := (mv_perm (w := now) (rows := rows) (t := t) (by rw [h]; exact slotN_lt _ _)).map (·.2)
  simpa using this
theorem good_mv {now : Int} {rows : List (List Tm)} {t : Tm} (g : GoodW now rows) (ht : TimerOk now t) (hs : (slotO now t.1).isSome = true) (hid : t.2 ∉ rows.flatten.map (·.2)) (hc : rows.flatten.length ≠ 60) : GoodW now (mv now rows t) := by
  obtain ⟨s, hs⟩ := Option.isSome_iff_exists.1 hs
  have hl := slotO_lt hs
  have hcnt := g.cnt
  have hp := mv_perm (w := now) (rows := rows) (t := t) (by rw [g.len]; exact slotN_lt _ _)
  have e : slotN now t.1 = s := by unfold slotN; rw [hs]; rfl
  refine ⟨g.n0, g.n1, by rw [mv_length]; exact g.len, fun i row hr u hu => ?_, (mv_ids g.len).nodup_iff.2 (List.nodup_cons.2 ⟨hid, g.nd⟩), by rw [hp.length_eq, List.length_cons]; omega⟩
  rcases mv_get hs (by rw [g.len]; exact hl) hr with ⟨rfl, rfl⟩ | ⟨_, hr'⟩
  · rcases List.mem_append.1 hu with hu | hu
    · obtain ⟨row, h1, h2⟩ := mem_getD hu
      exact g.ok _ row h1 u h2
    · rw [List.mem_singleton] at hu
      subst hu
      obtain ⟨L, h1, h2, h3⟩ := slotO_spec hs
      have h4 : i / 8 = L := by rw [h2]; exact slotL_div _ h1
      exact ⟨ht, by rw [h4]; exact h3, by rw [h4]; exact h2.symm⟩
  · exact g.ok _ row hr' u hu
theorem mv_good_id {now : Int} {rows : List (List Tm)} {t : Tm} (h : rows.length = 24) (g : GoodW now (mv now rows t)) : t.2 ∉ rows.flatten.map (·.2) := by
  have := (mv_ids (now := now) (t := t) h).nodup_iff.1 g.nd
  exact (List.nodup_cons.1 this).1
def dropR (id : Int) (rows : List (List Tm)) : List (List Tm) := rows.map fun r => r.filter fun u => !(u.2 == id)
theorem row_keep {id : Int} {r : List Tm} (h : ∀ u ∈ r, u.2 ≠ id) : (r.filter fun u => !(u.2 == id)) = r := List.filter_eq_self.2 fun u hu => by simpa using h u hu
theorem drop_mv {now : Int} {rows : List (List Tm)} {t : Tm} (h : rows.length = 24) (hid : t.2 ∉ rows.flatten.map (·.2)) : dropR t.2 (mv now rows t) = rows := by
  have hk : ∀ (i : Nat) row, rows[i]? = some row → ∀ u ∈ row, u.2 ≠ t.2 := fun i row hr u hu e => hid (List.mem_map.2 ⟨u, List.mem_flatten.2 ⟨row, List.mem_of_getElem? hr, hu⟩, e⟩)
  have hl := slotN_lt now t.1
  apply List.ext_getElem?
  intro i
  unfold dropR mv
  rw [List.getElem?_map, List.getElem?_set]
  by_cases c : slotN now t.1 = i
  · subst c
    rw [if_pos rfl, if_pos (by omega)]
    have hx : rows[slotN now t.1]? = some rows[slotN now t.1] := List.getElem?_eq_getElem (by omega)
    rw [getD_nn _ _ (by omega), hx, Option.map_some, List.filter_append, row_keep (hk _ _ hx)]
    simp
  · rw [if_neg c]
    cases hr : rows[i]? with
    | none => rfl
    | some row => rw [Option.map_some, row_keep (hk _ _ hr)]
-- good_mv mv_good_id drop_mv
/-! ### Timers looked for by number -/
abbrev ids (rows : List (List Tm)) : List Int := rows.flatten.map (·.2)
theorem idxH_loop {R : Type} (id : Int) (l : List Tm) (hb : l.length ≤ 100000) (kret : Int → Int → Option R) (kex : Int → Option R) : ∀ (n j : Nat), l.length - j < n → j ≤ l.length →
    slices_IndexFunc_impl_Timer_impl_Wheel_has_c1_l2 n l (l.length : Int) (j : Int) id kret kex = match (l.drop j).findIdx? (fun u => u.2 == id) with
      | some q => kret ((j + q : Nat) : Int) id
      | none => kex id
  | 0, _, h, _ => by omega
  | n + 1, j, hn, hj => by
    rw [slices_IndexFunc_impl_Timer_impl_Wheel_has_c1_l2]
    by_cases h : j < l.length
    · rw [dlt h, dnn]
      simp only [cond_true]
      rw [getD_at _ _ h, wrapS h (by omega), List.drop_eq_getElem_cons h, List.findIdx?_cons]
      unfold impl_Wheel_has_c1
      cases hb : l[j].2 == id with
      | true => rfl
      | false =>
        simp only [cond_false]
        rw [idxH_loop id l (by omega) kret kex n (j + 1) (by omega) (by omega)]
        cases (l.drop (j + 1)).findIdx? (fun u => u.2 == id) with
        | none => rfl
        | some q => simp only [Bool.false_eq_true, if_false, Option.map_some]; rw [show j + 1 + q = j + (q + 1) by omega]
    · rw [dge (by omega), cond_false, List.drop_of_length_le (by omega)]
      rfl
theorem impl_Wheel_has_eq {R : Type} {n : Nat} {now id : Int} {rows : List (List Tm)} (hn : 3000 ≤ n) (hr : rows.flatten.length ≤ 1000) (hl : rows.length ≤ 1000) (k : Bool → Int → List (List Tm) → Option R) : impl_Wheel_has n id now rows k = k (decide (id ∈ ids rows)) now rows := by
  unfold impl_Wheel_has slices_ContainsFunc_impl_Timer_impl_Wheel_has_c1 slices_IndexFunc_impl_Timer_impl_Wheel_has_c1
  rw [impl_Wheel_timers_eq hn hr hl]
  have := idxH_loop id rows.flatten (by omega) (fun r3 r4 => k (decide (r3 ≥ 0)) now rows) (fun r5 => k (decide ((-1 : Int) ≥ 0)) now rows) n 0 (by omega) (by omega)
  rw [show ((0 : Nat) : Int) = 0 from rfl] at this
  rw [this, List.drop_zero]
  cases h : rows.flatten.findIdx? (fun u => u.2 == id) with
  | none =>
    simp only
    rw [decide_eq_false (show ¬ ((-1 : Int) ≥ 0) by omega), decide_eq_false]
    intro hm
    obtain ⟨u, h1, h2⟩ := List.mem_map.1 hm
    have := List.findIdx?_eq_none_iff.1 h u h1
    simp [h2] at this
  | some q =>
    simp only
    rw [decide_eq_true (show ((0 + q : Nat) : Int) ≥ 0 by omega), decide_eq_true]
    obtain ⟨h1, h2, _⟩ := List.findIdx?_eq_some_iff_getElem.1 h
    exact List.mem_map.2 ⟨_, List.getElem_mem h1, by simpa using h2⟩
theorem idxD_loop {R : Type} (id : Int) (l : List Tm) (hb : l.length ≤ 100000) (kret : Int → Int → Option R) (kex : Int → Option R) : ∀ (n j : Nat), l.length - j < n → j ≤ l.length →
    slices_IndexFunc_impl_Timer_impl_DropTimer_c1_l2 n l (l.length : Int) (j : Int) id kret kex = match (l.drop j).findIdx? (fun u => u.2 == id) with
      | some q => kret ((j + q : Nat) : Int) id
      | none => kex id
  | 0, _, h, _ => by omega
  | n + 1, j, hn, hj => by
    rw [slices_IndexFunc_impl_Timer_impl_DropTimer_c1_l2]
    by_cases h : j < l.length
    · rw [dlt h, dnn]
      simp only [cond_true]
      rw [getD_at _ _ h, wrapS h (by omega), List.drop_eq_getElem_cons h, List.findIdx?_cons]
      unfold impl_DropTimer_c1
      cases hb : l[j].2 == id with
      | true => rfl
      | false =>
        simp only [cond_false]
        rw [idxD_loop id l (by omega) kret kex n (j + 1) (by omega) (by omega)]
        cases (l.drop (j + 1)).findIdx? (fun u => u.2 == id) with
        | none => rfl
        | some q => simp only [Bool.false_eq_true, if_false, Option.map_some]; rw [show j + 1 + q = j + (q + 1) by omega]
    · rw [dge (by omega), cond_false, List.drop_of_length_le (by omega)]
      rfl
theorem del_loop {R : Type} (id : Int) {v : Option R} (ke : Int → List Tm → Int → Option R) : ∀ (rest A mid : List Tm) (n : Nat), mid ≠ [] → rest.length < n → (A ++ mid ++ rest).length ≤ 100000 →
    (∀ M : List Tm, ke ((A ++ rest.filter fun u => !(u.2 == id)).length : Nat) ((A ++ rest.filter fun u => !(u.2 == id)) ++ M) id = v) →
    slices_DeleteFunc_impl_Timer_impl_DropTimer_c1_l5 n (A.length : Int) ((A ++ mid).length : Nat) (A ++ mid ++ rest) id ke = v
  | _, _, _, 0, _, h, _, _ => by omega
  | [], A, mid, n + 1, _, _, _, hk => by
    rw [slices_DeleteFunc_impl_Timer_impl_DropTimer_c1_l5, List.append_nil, dge (Nat.le_refl _), cond_false]
    have := hk mid
    simpa using this
  | x :: rest, A, mid, n + 1, hm, hn, hb, hk => by
    have hml : 0 < mid.length := List.length_pos_iff.2 hm
    simp only [List.length_append, List.length_cons] at hb hn
    have hj : (A ++ mid).length < (A ++ mid ++ x :: rest).length := by simp
    have hx : (A ++ mid ++ x :: rest)[(A ++ mid).length] = x := by simp
    rw [slices_DeleteFunc_impl_Timer_impl_DropTimer_c1_l5, dlt hj, dnn]
    simp only [cond_true]
    rw [getD_at _ _ hj, hx, wrapS hj (by simp; omega), dnn, dlt (show A.length < (A ++ mid ++ x :: rest).length by simp; omega), wrapS (show A.length < A.length + 1 by omega) (by omega), Int.toNat_natCast]
    unfold impl_DropTimer_c1
    cases hx2 : x.2 == id with
    | true =>
      simp only [Bool.not_true, cond_false]
      have := del_loop id ke rest A (mid ++ [x]) n (by simp) (by omega) (by simp; omega) (fun M => by
        have := hk M
        rw [List.filter_cons, hx2] at this
        simpa using this)
      rw [← List.append_assoc, List.length_append, List.length_singleton] at this
      rw [show A ++ mid ++ [x] ++ rest = A ++ mid ++ x :: rest by simp] at this
      exact this
    | false =>
      simp only [Bool.not_false, cond_true]
      obtain ⟨m, ms, rfl⟩ : ∃ m ms, mid = m :: ms := by
        cases mid with
        | nil => exact absurd rfl hm
        | cons m ms => exact ⟨m, ms, rfl⟩
      have := del_loop id ke rest (A ++ [x]) (ms ++ [x]) n (by simp) (by omega) (by simp at hml hb ⊢; omega) (fun M => by
        have := hk M
        rw [List.filter_cons, hx2] at this
        simpa using this)
      rw [show (A ++ m :: ms ++ x :: rest).set A.length (x.1, x.2) = A ++ [x] ++ (ms ++ [x]) ++ rest by simp]
      rw [show (A ++ [x]).length = A.length + 1 by simp, show (A ++ [x] ++ (ms ++ [x])).length = (A ++ m :: ms).length + 1 by simp; omega] at this
      exact this
theorem slices_DeleteFunc_eq {R : Type} {n : Nat} {id : Int} {l : List Tm} (hn : 3000 ≤ n) (hb : l.length ≤ 1000) (k : List Tm → Int → Option R) : slices_DeleteFunc_impl_Timer_impl_DropTimer_c1 n l id k = k (l.filter fun u => !(u.2 == id)) id := by
  unfold slices_DeleteFunc_impl_Timer_impl_DropTimer_c1 slices_IndexFunc_impl_Timer_impl_DropTimer_c1
  have il := fun (kret : Int → Int → Option R) (kex : Int → Option R) => idxD_loop id l (by omega) kret kex n 0 (by omega) (by omega)
  simp only [show ((0 : Nat) : Int) = 0 from rfl] at il
  rw [il, List.drop_zero]
  cases h : l.findIdx? (fun u => u.2 == id) with
  | none =>
    simp only
    rw [show ((-1 : Int) == -1) = true from rfl, cond_true, row_keep fun u hu e => ?_]
    have := List.findIdx?_eq_none_iff.1 h u hu
    simp [e] at this
  | some q =>
    obtain ⟨h1, h2, h3⟩ := List.findIdx?_eq_some_iff_getElem.1 h
    have hA : ((l.take q).filter fun u => !(u.2 == id)) = l.take q := List.filter_eq_self.2 fun u hu => by
      obtain ⟨i, hi⟩ := List.getElem?_of_mem hu
      rw [List.getElem?_take] at hi
      split at hi
      · rename_i hlt
        obtain ⟨h4, h5⟩ := List.getElem?_eq_some_iff.1 hi
        have := h3 i hlt
        rw [h5] at this
        simpa using this
      · cases hi
    have hsplit : l = l.take q ++ [l[q]] ++ l.drop (q + 1) := by
      rw [List.append_assoc, List.singleton_append, ← List.drop_eq_getElem_cons h1, List.take_append_drop]
    have hf : (l.filter fun u => !(u.2 == id)) = l.take q ++ (l.drop (q + 1)).filter fun u => !(u.2 == id) := by
      conv => lhs; rw [hsplit]
      rw [List.filter_append, List.filter_append, hA]
      simp [List.filter_cons, h2]
    simp only
    rw [show (((0 + q : Nat) : Int) == -1) = false by simp only [beq_eq_false_iff_ne]; omega, cond_false, hf]
    have hql : (l.take q).length = q := by simp; omega
    have := del_loop (R := R) (v := k (l.take q ++ (l.drop (q + 1)).filter fun u => !(u.2 == id)) id) id (fun r5 r6 r7 => (bif decide (0 ≤ r5) then (bif decide (r5 ≤ (r6.length : Int)) then (bif decide ((r6.length : Int) ≤ (r6.length : Int)) then (bif decide (0 ≤ r5) then (bif decide (r5 ≤ ((r6.take (Int.toNat r5) ++ (List.replicate ((Int.toNat (r6.length : Int)) - (Int.toNat r5)) (0, 0) ++ r6.drop ((Int.toNat r5) + ((Int.toNat (r6.length : Int)) - (Int.toNat r5))))).length : Int)) then k (((r6.take (Int.toNat r5) ++ (List.replicate ((Int.toNat (r6.length : Int)) - (Int.toNat r5)) (0, 0) ++ r6.drop ((Int.toNat r5) + ((Int.toNat (r6.length : Int)) - (Int.toNat r5))))).drop 0).take ((Int.toNat r5) - 0)) r7 else none) else none) else none) else none) else none)) (l.drop (q + 1)) (l.take q) [l[q]] n (by simp) (by simp; omega) (by rw [← hsplit]; omega) (fun M => by
      generalize (l.take q ++ (l.drop (q + 1)).filter fun u => !(u.2 == id)) = B
      simp only [Int.toNat_natCast]
      rw [dnn, decide_eq_true (show (B.length : Int) ≤ ((B ++ M).length : Int) by rw [List.length_append]; omega), decide_eq_true (show ((B ++ M).length : Int) ≤ ((B ++ M).length : Int) by omega)]
      simp only [cond_true]
      have e : (B ++ M).take B.length = B := by simp
      rw [decide_eq_true (by simp only [Int.toNat_natCast, e, List.length_append]; omega), cond_true, List.drop_zero, Nat.sub_zero, e, List.take_left' rfl])
    rw [← hsplit, hql, List.length_append, hql, List.length_singleton] at this
    rw [Nat.zero_add, wrapS h1 (by omega)]
    exact this
theorem drop_loop {R : Type} (id : Int) (A : List (List Tm)) (d now : Int) (ke : List (List Tm) → Int → List (List Tm) → Int → Option R) : ∀ (rest done : List (List Tm)) (n : Nat), 3000 + rest.length < n → (done ++ rest).length ≤ 1000 → (∀ r ∈ rest, r.length ≤ 1000) →
    impl_DropTimer_l5 n ((done ++ rest).length : Nat) (done.length : Nat) id A d (done ++ rest) now ke = ke A d (done ++ dropR id rest) now
  | _, _, 0, h, _, _ => by omega
  | [], done, n + 1, _, _, _ => by
    rw [impl_DropTimer_l5, List.append_nil, dge (Nat.le_refl _), cond_false]
    simp [dropR]
  | r :: rest, done, n + 1, hn, hb, hr => by
    simp only [List.length_append, List.length_cons] at hn hb
    have hj : done.length < (done ++ r :: rest).length := by simp
    have hx : (done ++ r :: rest)[done.length] = r := by simp
    rw [impl_DropTimer_l5, dlt hj, dnn]
    simp only [cond_true]
    rw [getD_at _ _ hj, hx, slices_DeleteFunc_eq (by omega) (hr r (List.mem_cons_self ..)), wrapS hj (by simp; omega), Int.toNat_natCast, dlt (show done.length < ((done ++ r :: rest).set done.length []).length by simp), Nat.beq_refl, List.set_set]
    simp only [cond_true]
    have := drop_loop id A d now ke rest (done ++ [r.filter fun u => !(u.2 == id)]) n (by omega) (by simp; omega) (fun x hx => hr x (List.mem_cons_of_mem _ hx))
    rw [show (done ++ r :: rest).set done.length (r.filter fun u => !(u.2 == id)) = done ++ [r.filter fun u => !(u.2 == id)] ++ rest by simp]
    rw [show (done ++ [r.filter fun u => !(u.2 == id)]).length = done.length + 1 by simp, show (done ++ [r.filter fun u => !(u.2 == id)] ++ rest).length = (done ++ r :: rest).length by simp] at this
    rw [this]
    simp [dropR]
theorem impl_DropTimer_eq {R : Type} {n : Nat} {now id : Int} {rows : List (List Tm)} (hn : 6000 ≤ n) (hr : rows.flatten.length ≤ 1000) (hl : rows.length ≤ 1000) (k : Int → Bool → List (List Tm) → Option R) :
    impl_DropTimer n now rows id k = bif goodB now rows && decide (id ∈ ids rows) then k now true (dropR id rows) else k 0 false [] := by
  unfold impl_DropTimer
  rw [impl_GoodWheel_eq hn hr hl]
  cases goodB now rows with
  | false => rfl
  | true =>
    rw [Bool.not_true, cond_false, impl_Wheel_has_eq (by omega) hr hl, Bool.true_and]
    cases decide (id ∈ ids rows) with
    | false => rfl
    | true =>
      rw [Bool.not_true, cond_false, impl_cloneWheel_eq (by omega) hr hl, cond_true]
      have := drop_loop id [] 0 now (fun r9 r10 r11 r12 => k r12 true r11) rows [] n (by omega) (by simpa using hl) (fun r h => by
        obtain ⟨i, hi⟩ := List.getElem?_of_mem h
        obtain ⟨h1, h2⟩ := List.getElem?_eq_some_iff.1 hi
        have := flat_row h1
        rw [h2] at this
        omega)
      exact this
/-! ### A timer set -/
def SetOk (now at_ id : Int) (rows : List (List Tm)) : Prop := goodB now rows = true ∧ TimerOk now (at_, id) ∧ rows.flatten.length ≠ 60 ∧ (slotO now at_).isSome = true ∧ id ∉ ids rows
instance (now at_ id : Int) (rows : List (List Tm)) : Decidable (SetOk now at_ id rows) := by unfold SetOk; infer_instance
theorem spec_SetTimer_eq2 {R : Type} {n : Nat} {now at_ id : Int} {rows : List (List Tm)} (hn : 10000 ≤ n) (hr : rows.flatten.length ≤ 900) (hl : rows.length ≤ 900) (k : Int → Bool → List (List Tm) → Option R) :
    spec_SetTimer n now rows at_ id k = if SetOk now at_ id rows then k now true (mv now rows (at_, id)) else k 0 false [] := by
  rw [spec_SetTimer_eq hn hr hl]
  have e : ((goodB now rows = true ∧ TimerOk now (at_, id) ∧ rows.flatten.length ≠ 60) ∧ (slotO now at_).isSome = true ∧ goodB now (mv now rows (at_, id)) = true) ↔ SetOk now at_ id rows := by
    constructor
    · rintro ⟨⟨h1, h2, h3⟩, h4, h5⟩
      exact ⟨h1, h2, h3, h4, mv_good_id (t := (at_, id)) (goodB_iff.1 h1).len (goodB_iff.1 h5)⟩
    · rintro ⟨h1, h2, h3, h4, h5⟩
      exact ⟨⟨h1, h2, h3⟩, h4, goodB_iff.2 (good_mv (t := (at_, id)) (goodB_iff.1 h1) h2 h4 h5 h3)⟩
  by_cases c : SetOk now at_ id rows
  · rw [if_pos c, if_pos (e.2 c)]
  · rw [if_neg c, if_neg fun h => c (e.1 h)]
theorem impl_SetTimer_eq {R : Type} {n : Nat} {now at_ id : Int} {rows : List (List Tm)} (hn : 10000 ≤ n) (hr : rows.flatten.length ≤ 900) (hl : rows.length ≤ 900) (k : Int → Bool → List (List Tm) → Option R) :
    impl_SetTimer n now rows at_ id k = if SetOk now at_ id rows then k now true (mv now rows (at_, id)) else k 0 false [] := by
  unfold impl_SetTimer
  rw [impl_GoodWheel_eq (by omega) (by omega) (by omega)]
  cases hg : goodB now rows with
  | false => rw [if_neg (fun h => by rw [h.1] at hg; cases hg)]; rfl
  | true =>
    have g := goodB_iff.1 hg
    have g0 := g.n0; have g1 := g.n1
    rw [Bool.not_true, cond_false, impl_in_eq]
    by_cases c0 : 0 ≤ id ∧ id ≤ 1000
    case neg => rw [decide_eq_false c0, Bool.not_false, cond_true, if_neg (fun h => c0 ⟨h.2.1.1, h.2.1.2.1⟩)]
    rw [decide_eq_true c0, Bool.not_true, cond_false, impl_reach_eq ⟨g0, by omega⟩]
    by_cases c1 : now < at_ ∧ at_ < now + 512
    case neg => rw [decide_eq_false c1, Bool.not_false, cond_true, if_neg (fun h => c1 ⟨h.2.1.2.2.1, h.2.1.2.2.2⟩)]
    have c : TimerOk now (at_, id) := ⟨c0.1, c0.2, c1.1, c1.2⟩
    rw [decide_eq_true c1, Bool.not_true, cond_false, impl_Wheel_has_eq (by omega) (by omega) (by omega)]
    by_cases c3 : id ∈ ids rows
    · rw [decide_eq_true c3, cond_true, if_neg (fun h => h.2.2.2.2 c3)]
    rw [decide_eq_false c3, cond_false, impl_Wheel_timers_eq (by omega) (by omega) (by omega)]
    by_cases c2 : rows.flatten.length = 60
    · rw [show (((rows.flatten.length : Nat) : Int) == 60) = true by rw [c2]; rfl, cond_true, if_neg (fun h => h.2.2.1 c2)]
    rw [show (((rows.flatten.length : Nat) : Int) == 60) = false by simp only [beq_eq_false_iff_ne]; omega, cond_false, impl_slotFor_eq (by omega) ⟨g0, by omega⟩ ⟨by omega, by omega⟩]
    cases hs : slotO now at_ with
    | none => rw [if_neg (fun h => by have := h.2.2.2.1; rw [hs] at this; cases this)]; rfl
    | some s =>
      have hs24 := slotO_lt hs
      have hgl := g.len
      have hrl := row_len (rows := rows) s
      have e : slotN now at_ = s := by unfold slotN; rw [hs]; rfl
      have emv : (rows.set s []).set s (rows.getD s [] ++ [(at_, id)]) = mv now rows (at_, id) := by
        rw [List.set_set]; unfold mv; rw [e]
      simp only [Option.isSome_some]
      rw [Bool.not_true, cond_false, impl_cloneWheel_eq (by omega) (by omega) (by omega)]
      simp only [Int.toNat_natCast]
      rw [dnn, dlt (show s < rows.length by omega), dlt (show s < (rows.set s []).length by simp; omega), LIMok (by simp only [List.length_singleton]; omega), Nat.beq_refl, emv, if_pos ⟨hg, c, c2, by rw [hs]; rfl, c3⟩]
      rfl
/-! ### Where a timer lies -/
def slotB (now at_ : Int) : Bool := decide (0 ≤ now ∧ now ≤ 100000) && (decide (now < at_ ∧ at_ < now + 512) && (slotO now at_).isSome)
def slotV (now at_ : Int) : Int := bif slotB now at_ then ((slotO now at_).getD 0 : Nat) else 0
theorem impl_SlotFor_eq {R : Type} {n : Nat} (hn : 20 ≤ n) {now at_ : Int} (k : Int → Bool → Option R) : impl_SlotFor n now at_ k = k (slotV now at_) (slotB now at_) := by
  unfold impl_SlotFor slotV slotB
  rw [impl_isNow_eq]
  by_cases c : 0 ≤ now ∧ now ≤ 100000
  · rw [decide_eq_true c, Bool.not_true, cond_false, impl_reach_eq ⟨c.1, by omega⟩, Bool.true_and]
    by_cases c1 : now < at_ ∧ at_ < now + 512
    · rw [decide_eq_true c1, Bool.not_true, cond_false, impl_slotFor_eq hn ⟨c.1, by omega⟩ ⟨by omega, by omega⟩, Bool.true_and]
      cases slotO now at_ <;> rfl
    · rw [decide_eq_false c1]; rfl
  · rw [decide_eq_false c]; rfl
theorem spec_SlotFor_eq {R : Type} {n : Nat} (hn : 20 ≤ n) {now at_ : Int} (k : Int → Bool → Option R) : spec_SlotFor n now at_ k = k (slotV now at_) (slotB now at_) := by
  unfold spec_SlotFor slotV slotB
  rw [spec_l1In_eq]
  by_cases c : 0 ≤ now ∧ now ≤ 100000
  · rw [decide_eq_true c, Bool.not_true, cond_false, spec_l5Timer_eq (by omega) ⟨c.1, by omega⟩, Bool.true_and, show decide (TimerOk now (at_, 0)) = decide (now < at_ ∧ at_ < now + 512) from decide_eq_decide.2 ⟨fun h => ⟨h.2.2.1, h.2.2.2⟩, fun h => ⟨Int.le_refl 0, (by decide : (0 : Int) ≤ 1000), h.1, h.2⟩⟩]
    by_cases c1 : now < at_ ∧ at_ < now + 512
    · rw [decide_eq_true c1, Bool.not_true, cond_false, spec_l5Slot_eq hn ⟨c.1, by omega⟩ ⟨by omega, by omega⟩, Bool.true_and]
      cases slotO now at_ with
      | none => rfl
      | some s => simp only [Option.isSome_some, cond_true, Option.getD_some]; rw [decide_eq_false (by omega), cond_false]
    · rw [decide_eq_false c1]; rfl
  · rw [decide_eq_false c]; rfl
/-! ### One tick -/
def CanTick (now : Int) (rows : List (List Tm)) : Bool := goodB now rows && !(now == 100000)
theorem spec_TickWheel_eq {R : Type} {n : Nat} {now : Int} {rows : List (List Tm)} (hn : 10000 ≤ n) (hr : rows.flatten.length ≤ 1000) (hl : rows.length ≤ 1000) (k : Int → Bool → List (List Tm) → List Int → Option R) :
    spec_TickWheel n now rows k = bif CanTick now rows then k (now + 1) true (tickR (now + 1) rows) ((sortT (tickD (now + 1) rows)).map (·.2)) else k 0 false [] [] := by
  unfold spec_TickWheel CanTick
  rw [spec_GoodWheel_eq (by omega) hr hl]
  cases hg : goodB now rows with
  | false => rfl
  | true =>
    have g := goodB_iff.1 hg
    have g1 := g.n1
    rw [Bool.not_true, cond_false, Bool.true_and]
    cases c : now == 100000 with
    | true => rfl
    | false =>
      have tk := ticked g (by have : now ≠ 100000 := by simpa using c
                              omega)
      rw [cond_false, Bool.not_false, cond_true, spec_l5Own_eq (by omega) hr hl, spec_l5Tick_eq (time_next g) (by omega) g.len hr tk.m2 tk.m1, due_ids tk.due]
theorem impl_TickWheel_eq {R : Type} {n : Nat} {now : Int} {rows : List (List Tm)} (hn : 10000 ≤ n) (hr : rows.flatten.length ≤ 1000) (hl : rows.length ≤ 1000) (k : Int → Bool → List (List Tm) → List Int → Option R) :
    impl_TickWheel n now rows k = bif CanTick now rows then k (now + 1) true (tickR (now + 1) rows) ((sortT (tickD (now + 1) rows)).map (·.2)) else k 0 false [] [] := by
  unfold impl_TickWheel CanTick
  rw [impl_GoodWheel_eq (by omega) hr hl]
  cases hg : goodB now rows with
  | false => rfl
  | true =>
    have g := goodB_iff.1 hg
    have g1 := g.n1
    rw [Bool.not_true, cond_false, Bool.true_and]
    cases c : now == 100000 with
    | true => rfl
    | false =>
      have tk := ticked g (by have : now ≠ 100000 := by simpa using c
                              omega)
      obtain ⟨mvd, e1, e2⟩ := impl_tick_ex (R := R) (n := n) (time_next g) (by omega) g.len hr tk.m2 tk.m1
      rw [cond_false, Bool.not_false, cond_true, impl_cloneWheel_eq (by omega) hr hl, e2, due_ids tk.due]
/-! ### The law -/
theorem tick_draw {l : List Int} (hl : Bytes l) {n : Nat} (hn : 11000 ≤ n) : ∃ now rows, DrawnW now rows ∧ ∀ (R : Type) (k : Int → List (List Tm) → Option R), spec_DrawTickWheel n l k = k now rows := by
  obtain ⟨now, rows, p1, s1, a1, a2, a3, a4⟩ := wheel_ex hl hn (p := 0) (s := 0) (by omega) (by omega)
  refine ⟨now, rows, a1, fun R k => ?_⟩
  unfold spec_DrawTickWheel spec_DrawGoodWheel
  rw [a4]
theorem set_draw {l : List Int} (hl : Bytes l) {n : Nat} (hn : 11000 ≤ n) : ∃ now at_ id rows, DrawnW now rows ∧ ∀ (R : Type) (k : Int → Int → Int → List (List Tm) → Option R), spec_DrawSetTimer n l k = k now at_ id rows := by
  obtain ⟨now, rows, p1, s1, a1, a2, a3, a4⟩ := wheel_ex hl hn (p := 0) (s := 0) (by omega) (by omega)
  obtain ⟨r6, p2, s2, b1, b2, b3, b4⟩ := among_ex hl n (xs := [0, 1, 7, 8, 63, 64, 440, 511, 512]) (by simp) (by simp) (p := p1) (s := s1) (by omega) (by omega)
  obtain ⟨r10, p3, s3, c1, c2, c3, c4⟩ := among_ex hl n (xs := [500, 1, 2, 1000, 1001]) (by simp) (by simp) (p := p2) (s := s2) (by omega) (by omega)
  refine ⟨now, IntKind.wrap .i64 (now + r6), r10, rows, a1, fun R k => ?_⟩
  unfold spec_DrawSetTimer
  rw [a4, b4, c4]
theorem tick_law {R : Type} {n : Nat} (hn : 20000 ≤ n) {l : List Int} (hl : Bytes l) (k : Bool → Option R) : (spec_DrawTickWheel n l fun r48 r49 => (impl_TickWheel n r48 r49 fun r50 r51 r52 r53 => (spec_TickWheel n r48 r49 fun r54 r55 r56 r57 => (bif (!(r51 == r55)) then k false else (laws_sameInts n r53 r57 fun r58 => (bif (!r58) then k false else (bif (!r51) then k ((r53.length : Int) == 0) else (impl_AdvanceWheel n r48 r49 (IntKind.wrap .i64 (r48 + 1)) fun r59 r60 r61 r62 r63 => (impl_TimersIn n r50 r52 fun r64 r65 => (impl_TimersIn n r59 r62 fun r66 r67 => (bif r61 then (bif r64 then (bif r66 then (laws_sameInts n r63 r53 fun r68 => (bif r68 then (laws_sameTimers n r65 r67 fun r69 => k r69) else k false)) else k false) else k false) else k false))))))))))) = k true := by
  obtain ⟨now, rows, dw, hd⟩ := tick_draw hl (n := n) (by omega)
  have hr : rows.flatten.length ≤ 1000 := by have := dw.cnt; omega
  have hl2 : rows.length ≤ 1000 := by rw [dw.len]; omega
  rw [hd, impl_TickWheel_eq (by omega) hr hl2]
  cases hc : CanTick now rows with
  | false =>
    rw [cond_false, spec_TickWheel_eq (by omega) hr hl2, hc]
    simp only [cond_false, beq_self_eq_true, Bool.not_true]
    rw [laws_sameInts_self (by simp) (by simp; omega)]
    rfl
  | true =>
    have hc' := hc
    unfold CanTick at hc'
    simp only [Bool.and_eq_true, Bool.not_eq_true', beq_eq_false_iff_ne] at hc'
    obtain ⟨hg, hne⟩ := hc'
    have g := goodB_iff.1 hg
    have g0 := g.n0; have g1 := g.n1; have gc := g.cnt
    have tk := ticked g (by omega)
    have hd := tickD_len tk
    have hcan : CanAdv now (now + 1) rows = true := by
      unfold CanAdv
      rw [hg, decide_eq_true (by omega)]; rfl
    have e1 : (now + 1 - now).toNat = 1 := by omega
    have eR : advR 1 now rows = tickR (now + 1) rows := rfl
    have eD : (advD 1 now rows).map (·.2) = (sortT (tickD (now + 1) rows)).map (·.2) := by simp [advD]
    have hsl : ((sortT (tickD (now + 1) rows)).map (·.2)).length ≤ 1000 := by rw [List.length_map, (sortT_perm _).length_eq]; omega
    have tl := tk.good.len
    have ht : (tickR (now + 1) rows).flatten.length ≤ 1000 := by omega
    have hss : (sortT (tickR (now + 1) rows).flatten).length ≤ 1000 := by rw [(sortT_perm _).length_eq]; omega
    rw [cond_true, spec_TickWheel_eq (by omega) hr hl2, hc]
    simp only [cond_true, beq_self_eq_true, Bool.not_true, cond_false]
    rw [laws_sameInts_self (by omega) (by omega)]
    simp only [Bool.not_true, cond_false]
    rw [wrap64 (x := now + 1) (by omega) (by omega), impl_AdvanceWheel_eq (by omega) hr hl2, hcan, cond_true, e1, eR, eD, impl_TimersIn_eq (by omega) ht (by omega), goodB_iff.2 tk.good]
    simp only [cond_true]
    rw [impl_TimersIn_eq (by omega) ht (by omega), goodB_iff.2 tk.good]
    simp only [cond_true]
    rw [laws_sameInts_self (by omega) (by omega)]
    simp only [cond_true]
    rw [laws_sameTimers_self (by omega) (by omega)]
theorem set_law {R : Type} {n : Nat} (hn : 20000 ≤ n) {l m : List Int} (hl : Bytes l) (hm : Bytes m) (k : Bool → Option R) : laws_FnSet n l m k = k true := by
  unfold laws_FnSet
  by_cases hlen : (IntKind.wrap .i64 ((l.length : Int) + (m.length : Int))) > 1048576
  · rw [decide_eq_true hlen]; rfl
  rw [decide_eq_false hlen, cond_false, tick_law hn hm k]
  obtain ⟨now, at_, id, rows, dw, hd⟩ := set_draw hl (n := n) (by omega)
  have hr : rows.flatten.length ≤ 900 := by have := dw.cnt; omega
  have hl2 : rows.length ≤ 900 := by rw [dw.len]; omega
  rw [hd, impl_SetTimer_eq (by omega) hr hl2, spec_SetTimer_eq2 (by omega) hr hl2, spec_SetTimer_eq2 (by omega) hr hl2]
  by_cases c : SetOk now at_ id rows
  · rw [if_pos c, if_pos c, impl_SlotFor_eq (by omega), spec_SlotFor_eq (by omega)]
    obtain ⟨hg, c1, c2, c3, c4⟩ := c
    have g := goodB_iff.1 hg
    have gx := good_mv (t := (at_, id)) g c1 c3 c4 c2
    have hmx := gx.cnt; have hlx := gx.len; have gc := g.cnt
    have hp := mv_perm (w := now) (rows := rows) (t := (at_, id)) (by rw [g.len]; exact slotN_lt _ _)
    have hpl := hp.length_eq
    rw [List.length_cons] at hpl
    have hin : id ∈ ids (mv now rows (at_, id)) := (mv_ids (now := now) (t := (at_, id)) g.len).mem_iff.2 (List.mem_cons_self ..)
    have hdr : dropR id (mv now rows (at_, id)) = rows := drop_mv (t := (at_, id)) g.len c4
    have hs1 : (sortT rows.flatten).length = rows.flatten.length := (sortT_perm _).length_eq
    have hs2 : (sortT (mv now rows (at_, id)).flatten).length = (mv now rows (at_, id)).flatten.length := (sortT_perm _).length_eq
    simp only [beq_self_eq_true, Bool.not_true, cond_false, bne_self_eq_false, cond_true]
    rw [impl_TimersIn_eq (by omega) (by omega) (by omega), hg, cond_true, impl_TimersIn_eq (by omega) (by omega) (by omega), goodB_iff.2 gx, cond_true, impl_DropTimer_eq (by omega) (by omega) (by omega), goodB_iff.2 gx, decide_eq_true hin, hdr]
    simp only [Bool.and_self, cond_true]
    rw [impl_TimersIn_eq (by omega) (by omega) (by omega), hg]
    simp only [cond_true, Bool.not_true, cond_false]
    rw [hs1, hs2, hpl, wrap64 (by omega) (by omega), show (((rows.flatten.length + 1 : Nat) : Int) != ((rows.flatten.length : Nat) : Int) + 1) = false by simp, cond_false, laws_sameTimers_self (by omega) (by omega), Bool.not_true, cond_false, impl_GoodWheel_eq (by omega) (by omega) (by omega), goodB_iff.2 gx]
    rfl
  · rw [if_neg c, if_neg c, impl_SlotFor_eq (by omega), spec_SlotFor_eq (by omega)]
    simp only [beq_self_eq_true, Bool.not_true, cond_false, bne_self_eq_false]
theorem plain : Plain := fun d0 d1 h0 h1 R k => ⟨_, set_law (Nat.le_refl 20000) (fun x hx => h0.2 x hx) (fun x hx => h1.2 x hx) k⟩
end Go.Am.G
