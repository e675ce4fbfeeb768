/- The plain law: what the functions compute answers as the law says, for all arguments. -/
import Derived.Test.YtjijikgjefingaaF8
set_option linter.unusedVariables false
set_option linter.unusedSimpArgs false
namespace Go.Am.G
open Go Go.Am
theorem wrap64 {x : Int} (h1 : -9223372036854775808 ≤ x) (h2 : x ≤ 9223372036854775807) : IntKind.wrap .i64 x = x := by
  simp only [IntKind.wrap, IntKind.signed, IntKind.bits]
  simp
  omega
theorem getD_at {α : Type} (l : List α) (d : α) {j : Nat} (h : j < l.length) : l.getD (Int.toNat (j : Int)) d = l[j] := by
  rw [Int.toNat_natCast, List.getD_eq_getElem?_getD, List.getElem?_eq_getElem h]; rfl
theorem dlt {a b : Nat} (h : a < b) : decide ((a : Int) < (b : Int)) = true := decide_eq_true (by omega)
theorem dge {a b : Nat} (h : b ≤ a) : decide ((a : Int) < (b : Int)) = false := decide_eq_false (by omega)
theorem dnn (a : Nat) : decide (0 ≤ (a : Int)) = true := decide_eq_true (by omega)
theorem wrapS {j m : Nat} (h : j < m) (hm : m ≤ 9223372036854775807) : IntKind.wrap .i64 ((j : Int) + 1) = ((j + 1 : Nat) : Int) := by
  rw [wrap64 (by omega) (by omega)]; rfl
theorem spec_l1In_eq {R : Type} (n : Nat) (x a b : Int) (k : Bool → Option R) : spec_l1In n x a b k = k (decide (a ≤ x ∧ x ≤ b)) := by
  simp only [spec_l1In]
  by_cases h : x ≥ a
  · have : a ≤ x := h
    simp [this]
  · have : ¬ a ≤ x := h
    simp [this]
theorem impl_in_eq {R : Type} (n : Nat) (x a b : Int) (k : Bool → Option R) : impl_in n x a b k = k (decide (a ≤ x ∧ x ≤ b)) := by
  simp only [impl_in]
  by_cases h : x ≥ a
  · have : a ≤ x := h
    simp [this]
  · have : ¬ a ≤ x := h
    simp [this]
/-- Numbers that rise, from above one to below another. -/
def riseTo (B : Int) : Int → List Int → Bool
  | _, [] => true
  | v, x :: r => decide (v < x ∧ x < B) && riseTo B x r
theorem riseTo_iff {B : Int} : ∀ {l : List Int} {v : Int}, riseTo B v l = true ↔ l.Pairwise (· < ·) ∧ ∀ x ∈ l, v < x ∧ x < B
  | [], v => by simp [riseTo]
  | y :: r, v => by
    have ih := riseTo_iff (B := B) (l := r) (v := y)
    simp only [riseTo, Bool.and_eq_true, decide_eq_true_eq, ih, List.pairwise_cons, List.mem_cons]
    constructor
    · rintro ⟨h1, h2, h3⟩
      refine ⟨⟨fun x hx => (h3 x hx).1, h2⟩, fun x hx => ?_⟩
      rcases hx with rfl | hx
      · exact h1
      · have := h3 x hx
        omega
    · rintro ⟨⟨h1, h2⟩, h3⟩
      exact ⟨h3 y (.inl rfl), h2, fun x hx => ⟨h1 x hx, (h3 x (.inr hx)).2⟩⟩
theorem spec_l3List_loop {R : Type} (l : List Int) (hb : l.length ≤ 9223372036854775807) {B : Int} (hB : 0 ≤ B) (hB2 : B ≤ 1000) (kr : Bool → Option R) (ke : Option R) : ∀ (n j : Nat) (v : Int), l.length - j < n → j ≤ l.length → -1 ≤ v →
    (j = 0 → v = -1) → (∀ (h : j - 1 < l.length), 0 < j → l[j - 1] = v) →
    spec_l3List_l2 n l B l (l.length : Int) (j : Int) kr ke = bif riseTo B v (l.drop j) then ke else kr false
  | 0, _, _, h, _, _, _, _ => by omega
  | n + 1, j, v, hn, hj, hv, h0, h1 => by
    unfold spec_l3List_l2
    by_cases h : j < l.length
    · rw [dlt h, dnn, getD_at _ _ h, wrapS h hb, List.drop_eq_getElem_cons h, wrap64 (x := B - 1) (by omega) (by omega)]
      simp only [cond_true, spec_l1In_eq, riseTo]
      have ih := fun (h2 : -1 ≤ l[j]) => spec_l3List_loop l hb hB hB2 kr ke n (j + 1) l[j] (by omega) (by omega) h2 (by omega) (fun _ _ => rfl)
      by_cases hz : j = 0
      · have hv := h0 hz
        subst hv
        rw [decide_eq_false (show ¬ ((j : Int) > 0) by omega)]
        by_cases c1 : 0 ≤ l[j] ∧ l[j] ≤ B - 1
        · rw [decide_eq_true c1, decide_eq_true (show -1 < l[j] ∧ l[j] < B by omega)]
          simp only [Bool.not_true, cond_false, Bool.true_and]
          exact ih (by omega)
        · rw [decide_eq_false c1, decide_eq_false (show ¬ (-1 < l[j] ∧ l[j] < B) by omega)]; rfl
      · have hp : j - 1 < l.length := by omega
        have hq := h1 hp (by omega)
        rw [decide_eq_true (show ((j : Int) > 0) by omega), wrap64 (x := (j : Int) - 1) (by omega) (by omega), show (j : Int) - 1 = ((j - 1 : Nat) : Int) by omega, dnn, dlt hp, getD_at _ _ hp, hq]
        simp only [cond_true]
        by_cases c1 : 0 ≤ l[j] ∧ l[j] ≤ B - 1
        · rw [decide_eq_true c1]
          simp only [Bool.not_true, cond_false]
          by_cases c3 : v < l[j]
          · rw [decide_eq_false (show ¬ (v ≥ l[j]) by omega), decide_eq_true (show v < l[j] ∧ l[j] < B by omega)]
            simp only [cond_false, Bool.true_and]
            exact ih (by omega)
          · rw [decide_eq_true (show (v ≥ l[j]) by omega), decide_eq_false (show ¬ (v < l[j] ∧ l[j] < B) by omega)]; rfl
        · rw [decide_eq_false c1, decide_eq_false (show ¬ (v < l[j] ∧ l[j] < B) by omega)]; rfl
    · rw [dge (by omega), List.drop_eq_nil_iff.2 (by omega)]; rfl
theorem spec_l3List_eq {R : Type} {n : Nat} {l : List Int} (hb : l.length ≤ 9223372036854775807) {B : Int} (hB : 0 ≤ B) (hB2 : B ≤ 1000) (hn : l.length < n) (k : Bool → Option R) : spec_l3List n l B k = k (riseTo B (-1) l) := by
  unfold spec_l3List
  have := spec_l3List_loop l hb hB hB2 k (k true) n 0 (-1) (by omega) (by omega) (by omega) (fun _ => rfl) (fun _ h => by omega)
  rw [show ((0 : Nat) : Int) = 0 from rfl, List.drop_zero] at this
  rw [this]
  cases riseTo B (-1) l <;> rfl
theorem impl_rising_loop {R : Type} (l : List Int) (hb : l.length ≤ 9223372036854775807) {B : Int} (hB : 0 ≤ B) (hB2 : B ≤ 1000) (kr : Bool → Option R) (ke : Option R) : ∀ (n j : Nat) (v : Int), l.length - j < n → j ≤ l.length → -1 ≤ v →
    (j = 0 → v = -1) → (∀ (h : j - 1 < l.length), 0 < j → l[j - 1] = v) →
    impl_rising_l2 n l B l (l.length : Int) (j : Int) kr ke = bif riseTo B v (l.drop j) then ke else kr false
  | 0, _, _, h, _, _, _, _ => by omega
  | n + 1, j, v, hn, hj, hv, h0, h1 => by
    unfold impl_rising_l2
    by_cases h : j < l.length
    · rw [dlt h, dnn, getD_at _ _ h, wrapS h hb, List.drop_eq_getElem_cons h, wrap64 (x := B - 1) (by omega) (by omega)]
      simp only [cond_true, impl_in_eq, riseTo]
      have ih := fun (h2 : -1 ≤ l[j]) => impl_rising_loop l hb hB hB2 kr ke n (j + 1) l[j] (by omega) (by omega) h2 (by omega) (fun _ _ => rfl)
      by_cases hz : j = 0
      · have hv := h0 hz
        subst hv
        rw [decide_eq_false (show ¬ ((j : Int) > 0) by omega)]
        by_cases c1 : 0 ≤ l[j] ∧ l[j] ≤ B - 1
        · rw [decide_eq_true c1, decide_eq_true (show -1 < l[j] ∧ l[j] < B by omega)]
          simp only [Bool.not_true, cond_false, Bool.true_and]
          exact ih (by omega)
        · rw [decide_eq_false c1, decide_eq_false (show ¬ (-1 < l[j] ∧ l[j] < B) by omega)]; rfl
      · have hp : j - 1 < l.length := by omega
        have hq := h1 hp (by omega)
        rw [decide_eq_true (show ((j : Int) > 0) by omega), wrap64 (x := (j : Int) - 1) (by omega) (by omega), show (j : Int) - 1 = ((j - 1 : Nat) : Int) by omega, dnn, dlt hp, getD_at _ _ hp, hq]
        simp only [cond_true]
        by_cases c1 : 0 ≤ l[j] ∧ l[j] ≤ B - 1
        · rw [decide_eq_true c1]
          simp only [Bool.not_true, cond_false]
          by_cases c3 : v < l[j]
          · rw [decide_eq_false (show ¬ (v ≥ l[j]) by omega), decide_eq_true (show v < l[j] ∧ l[j] < B by omega)]
            simp only [cond_false, Bool.true_and]
            exact ih (by omega)
          · rw [decide_eq_true (show (v ≥ l[j]) by omega), decide_eq_false (show ¬ (v < l[j] ∧ l[j] < B) by omega)]; rfl
        · rw [decide_eq_false c1, decide_eq_false (show ¬ (v < l[j] ∧ l[j] < B) by omega)]; rfl
    · rw [dge (by omega), List.drop_eq_nil_iff.2 (by omega)]; rfl
theorem impl_rising_eq {R : Type} {n : Nat} {l : List Int} (hb : l.length ≤ 9223372036854775807) {B : Int} (hB : 0 ≤ B) (hB2 : B ≤ 1000) (hn : l.length < n) (k : Bool → Option R) : impl_rising n l B k = k (riseTo B (-1) l) := by
  unfold impl_rising
  have := impl_rising_loop l hb hB hB2 k (k true) n 0 (-1) (by omega) (by omega) (by omega) (fun _ => rfl) (fun _ h => by omega)
  rw [show ((0 : Nat) : Int) = 0 from rfl, List.drop_zero] at this
  rw [this]
  cases riseTo B (-1) l <;> rfl
def needs (l : List (Int × List Int)) (x : Int) : List Int := (l.getD x.toNat (0, [])).2
structure PlanOk (l : List (Int × List Int)) : Prop where
  len : l.length ≤ 30
  long : ∀ x : Int, 0 ≤ x → x < l.length → 1 ≤ (l.getD x.toNat (0, [])).1 ∧ (l.getD x.toNat (0, [])).1 ≤ 100
  rise : ∀ x : Int, 0 ≤ x → x < l.length → riseTo l.length (-1) (needs l x) = true
  self : ∀ x : Int, 0 ≤ x → x < l.length → x ∉ needs l x
theorem PlanOk.inn {l : List (Int × List Int)} (h : PlanOk l) {x n : Int} (h0 : 0 ≤ x) (h1 : x < l.length) (hn : n ∈ needs l x) : 0 ≤ n ∧ n < l.length := by
  have := (riseTo_iff.1 (h.rise x h0 h1)).2 n hn
  omega
theorem nodup_len : ∀ (N : Nat) (l : List Int), l.Nodup → (∀ x ∈ l, 0 ≤ x ∧ x < N) → l.length ≤ N
  | 0, l, _, h => by
    cases l with
    | nil => simp
    | cons x l => have := h x (List.mem_cons_self ..); omega
  | N + 1, l, hn, h => by
    have ih := nodup_len N (l.erase (N : Int)) (hn.erase _) (fun x hx => by
      have h1 := (hn.mem_erase_iff).1 hx
      have h2 := h x h1.2
      have h3 := h1.1
      omega)
    by_cases c : (N : Int) ∈ l
    · rw [List.length_erase_of_mem c] at ih
      omega
    · rw [List.erase_of_not_mem c] at ih
      omega
theorem PlanOk.nlen {l : List (Int × List Int)} (h : PlanOk l) {x : Int} (h0 : 0 ≤ x) (h1 : x < l.length) : (needs l x).length ≤ 30 := by
  have h2 := riseTo_iff.1 (h.rise x h0 h1)
  have h3 := nodup_len l.length (needs l x) (h2.1.imp fun hab => by omega) (fun n hn => h.inn h0 h1 hn)
  exact Nat.le_trans h3 h.len
def rdy (l : List (Int × List Int)) (out : List Int) (k : Nat) : Bool := !decide ((k : Int) ∈ out) && (needs l k).all fun n => decide (n ∈ out)
def pickF (l : List (Int × List Int)) (out : List Int) : Nat → Nat → Option Nat
  | 0, _ => none
  | c + 1, j => bif rdy l out j then some j else pickF l out c (j + 1)
def ordO (l : List (Int × List Int)) : Nat → List Int → List Int
  | 0, out => out
  | f + 1, out => match pickF l out l.length 0 with
    | none => out
    | some k => ordO l f (out ++ [(k : Int)])
def ord (l : List (Int × List Int)) : List Int := ordO l (l.length + 1) []
structure OutOk (l : List (Int × List Int)) (out : List Int) : Prop where
  nd : out.Nodup
  inn : ∀ x ∈ out, 0 ≤ x ∧ x < (l.length : Int)
  pre : ∀ i x, out[i]? = some x → ∀ n ∈ needs l x, n ∈ out.take i
theorem OutOk.len {l : List (Int × List Int)} {out : List Int} (h : OutOk l out) : out.length ≤ l.length := nodup_len l.length out h.nd h.inn
theorem pickF_some {l : List (Int × List Int)} {out : List Int} : ∀ {c j k : Nat}, pickF l out c j = some k → j ≤ k ∧ k < j + c ∧ rdy l out k = true
  | 0, _, _, h => by cases h
  | c + 1, j, k, h => by
    unfold pickF at h
    cases hr : rdy l out j with
    | true =>
      rw [hr] at h
      cases h
      exact ⟨Nat.le_refl _, by omega, hr⟩
    | false =>
      rw [hr] at h
      obtain ⟨a, b, c⟩ := pickF_some (show pickF l out c (j + 1) = some k from h)
      exact ⟨by omega, by omega, c⟩
theorem OutOk.nil (l : List (Int × List Int)) : OutOk l [] := ⟨List.nodup_nil, fun x h => by simp at h, fun i x h => by simp at h⟩
theorem OutOk.step {l : List (Int × List Int)} {out : List Int} (h : OutOk l out) {k : Nat} (hk : pickF l out l.length 0 = some k) : OutOk l (out ++ [(k : Int)]) := by
  obtain ⟨_, h1, h2⟩ := pickF_some hk
  simp only [rdy, Bool.and_eq_true, Bool.not_eq_true', decide_eq_false_iff_not, List.all_eq_true, decide_eq_true_eq] at h2
  refine ⟨?_, fun x hx => ?_, fun i x hx n hn => ?_⟩
  · rw [List.nodup_append]
    refine ⟨h.nd, by simp, fun a ha b hb e => ?_⟩
    rw [List.mem_singleton.1 hb] at e
    exact h2.1 (e ▸ ha)
  · rcases List.mem_append.1 hx with hx | hx
    · exact h.inn x hx
    · rw [List.mem_singleton.1 hx]; omega
  · by_cases c : i < out.length
    · rw [List.getElem?_append_left c] at hx
      rw [List.take_append_of_le_length (by omega)]
      exact h.pre i x hx n hn
    · rw [List.getElem?_append_right (by omega)] at hx
      have hi : i - out.length = 0 := by
        have := (List.getElem?_eq_some_iff.1 hx).1
        simp at this; omega
      rw [hi] at hx
      simp at hx
      subst hx
      rw [show i = out.length by omega, List.take_left]
      exact h2.2 n hn
theorem ordO_ok {l : List (Int × List Int)} : ∀ (f : Nat) (out : List Int), OutOk l out → OutOk l (ordO l f out)
  | 0, _, h => h
  | f + 1, out, h => by
    unfold ordO
    cases e : pickF l out l.length 0 with
    | none => exact h
    | some k => exact ordO_ok f _ (h.step e)
theorem ord_ok (l : List (Int × List Int)) : OutOk l (ord l) := ordO_ok _ _ (.nil l)
theorem has_idx (out : List Int) (x : Int) (j : Nat) (h : j < out.length) : (decide (x ∈ out.drop j)) = ((x == out[j]) || decide (x ∈ out.drop (j + 1))) := by
  rw [List.drop_eq_getElem_cons h]
  by_cases c : x = out[j]
  · rw [decide_eq_true (show x ∈ out[j] :: out.drop (j + 1) by rw [c]; exact List.mem_cons_self ..), show (x == out[j]) = true by simp [c], Bool.true_or]
  · have : (x == out[j]) = false := by simpa using c
    rw [this, Bool.false_or]
    exact decide_eq_decide.2 (by rw [List.mem_cons]; exact ⟨fun h => h.resolve_left c, .inr⟩)
theorem spec_l1Has_loop {R : Type} (out : List Int) (x : Int) (hl : out.length ≤ 1048576) (kr : Bool → Option R) (ke : Option R) : ∀ (n j : Nat), out.length - j < n → j ≤ out.length → spec_l1Has_l2 n x out (out.length : Int) (j : Int) kr ke = bif decide (x ∈ out.drop j) then kr true else ke
  | 0, _, h, _ => by omega
  | n + 1, j, hn, hj => by
    rw [spec_l1Has_l2]
    by_cases h : j < out.length
    · rw [dlt h, dnn, getD_at _ _ h, wrapS h (by omega), has_idx out x j h, Bool.beq_comm (a := x)]
      simp only [cond_true]
      cases out[j] == x with
      | true => rfl
      | false => exact spec_l1Has_loop out x hl kr ke n (j + 1) (by omega) (by omega)
    · rw [dge (by omega), List.drop_eq_nil_iff.2 (by omega)]; rfl
theorem spec_l1Has_eq {R : Type} {n : Nat} {out : List Int} (x : Int) (hl : out.length ≤ 1048576) (hn : out.length < n) (k : Bool → Option R) : spec_l1Has n out x k = k (decide (x ∈ out)) := by
  unfold spec_l1Has
  have := spec_l1Has_loop out x hl k (k false) n 0 (by omega) (by omega)
  rw [show ((0 : Nat) : Int) = 0 from rfl, List.drop_zero] at this
  rw [this]
  cases decide (x ∈ out) <;> rfl
theorem slices_Index_loop {R : Type} (out : List Int) (x : Int) (hl : out.length ≤ 1048576) (k : Bool → Option R) : ∀ (n j : Nat), out.length - j < n → j ≤ out.length → slices_Index_int_l2 n out x (out.length : Int) (j : Int) (fun r1 => k (decide (r1 ≥ 0))) (k (decide ((-1 : Int) ≥ 0))) = k (decide (x ∈ out.drop j))
  | 0, _, h, _ => by omega
  | n + 1, j, hn, hj => by
    rw [slices_Index_int_l2]
    by_cases h : j < out.length
    · rw [dlt h, dnn, getD_at _ _ h, wrapS h (by omega), has_idx out x j h]
      simp only [cond_true]
      cases x == out[j] with
      | true => simp only [cond_true, decide_eq_true (show (j : Int) ≥ 0 by omega), Bool.true_or]
      | false => exact slices_Index_loop out x hl k n (j + 1) (by omega) (by omega)
    · rw [dge (by omega), List.drop_eq_nil_iff.2 (by omega)]; rfl
theorem slices_Contains_eq {R : Type} {n : Nat} {out : List Int} (x : Int) (hl : out.length ≤ 1048576) (hn : out.length < n) (k : Bool → Option R) : slices_Contains_int n out x k = k (decide (x ∈ out)) := by
  unfold slices_Contains_int slices_Index_int
  have := slices_Index_loop out x hl k n 0 (by omega) (by omega)
  rw [show ((0 : Nat) : Int) = 0 from rfl, List.drop_zero] at this
  exact this
/-- Flags of what is in a list. -/
def Flags (N : Nat) (done : List Bool) (S : Int → Prop) : Prop := done.length = N ∧ ∀ x : Int, 0 ≤ x → x < N → (done.getD x.toNat false = true ↔ S x)
theorem Flags.get {N : Nat} {done : List Bool} {S : Int → Prop} (h : Flags N done S) {x : Int} [Decidable (S x)] (h0 : 0 ≤ x) (h1 : x < N) : done.getD x.toNat false = decide (S x) := by
  have := h.2 x h0 h1
  cases e : done.getD x.toNat false with
  | true => rw [decide_eq_true (this.1 e)]
  | false => rw [decide_eq_false fun hs => by rw [this.2 hs] at e; cases e]
theorem getD_setB {l : List Bool} {i j : Nat} (v : Bool) (h : j < l.length) : (l.set i v).getD j false = if i = j then v else l.getD j false := by
  rw [List.getD_eq_getElem?_getD, List.getD_eq_getElem?_getD, List.getElem?_set]
  by_cases c : i = j
  · subst c; simp [h]
  · simp [c]
theorem Flags.set {N : Nat} {done : List Bool} {S : Int → Prop} (h : Flags N done S) {y : Int} (h0 : 0 ≤ y) (h1 : y < N) : Flags N (done.set y.toNat true) fun x => S x ∨ x = y :=
  ⟨by rw [List.length_set]; exact h.1, fun x x0 x1 => by
    have := h.2 x x0 x1
    rw [getD_setB _ (by rw [h.1]; omega)]
    split
    · rename_i e; exact ⟨fun _ => .inr (by omega), fun _ => rfl⟩
    · rename_i e; rw [this]; exact ⟨.inl, fun h => h.resolve_right fun e2 => e (by omega)⟩⟩
theorem Flags.congr {N : Nat} {done : List Bool} {S S' : Int → Prop} (h : Flags N done S) (hs : ∀ x : Int, 0 ≤ x → x < N → (S x ↔ S' x)) : Flags N done S' := ⟨h.1, fun x a b => (h.2 x a b).trans (hs x a b)⟩
theorem impl_readyS {R : Type} (done : List Bool) {N : Nat} {out : List Int} (hf : Flags N done (· ∈ out)) (ns : List Int) (hl : ns.length ≤ 1048576) (hns : ∀ x ∈ ns, 0 ≤ x ∧ x < (N : Int)) (k : Bool → List Bool → Option R) : ∀ (n j : Nat), ns.length - j < n → j ≤ ns.length →
    slices_IndexFunc_int_impl_order_c1_l2 n ns (ns.length : Int) (j : Int) done (fun r3 r4 => k (decide (r3 ≥ 0)) r4) (fun r5 => k (decide ((-1 : Int) ≥ 0)) r5) = k (!(ns.drop j).all fun x => decide (x ∈ out)) done
  | 0, _, h, _ => by omega
  | n + 1, j, hn, hj => by
    rw [slices_IndexFunc_int_impl_order_c1_l2]
    by_cases h : j < ns.length
    · obtain ⟨h0, h1⟩ := hns _ (List.getElem_mem h)
      rw [dlt h, dnn, getD_at _ _ h, wrapS h (by omega), List.drop_eq_getElem_cons h, List.all_cons]
      simp only [cond_true, impl_order_c1, decide_eq_true h0, hf.1, decide_eq_true h1, hf.get h0 h1]
      cases decide (ns[j] ∈ out) with
      | true => exact impl_readyS done hf ns hl hns k n (j + 1) (by omega) (by omega)
      | false => simp only [Bool.not_false, cond_true, decide_eq_true (show (j : Int) ≥ 0 by omega), Bool.false_and]
    · rw [dge (by omega), List.drop_eq_nil_iff.2 (by omega)]; rfl
theorem impl_pick {R : Type} {l : List (Int × List Int)} (hp : PlanOk l) {out : List Int} {done : List Bool} (hf : Flags l.length done (· ∈ out)) (k : List (Int × List Int) → Int → List Int → List Bool → Option R) : ∀ (c n j : Nat), c + 100 < n → j + c = l.length →
    impl_order_l4 n l (-1) l (l.length : Int) (j : Int) out done k = k l (match pickF l out c j with
      | none => -1
      | some k => (k : Int)) out done
  | c, 0, _, h, _ => by omega
  | 0, n + 1, j, hn, hj => by
    rw [impl_order_l4, dge (by omega)]; rfl
  | c + 1, n + 1, j, hn, hj => by
    have h : j < l.length := by omega
    have hlen30 := hp.len
    have hd : (decide ((j : Int) < (done.length : Int))) = true := by rw [hf.1]; exact dlt h
    rw [impl_order_l4, dlt h, dnn, getD_at _ _ h, wrapS h (by omega), hd]
    have hg : done.getD (Int.toNat (j : Int)) false = decide ((j : Int) ∈ out) := hf.get (x := (j : Int)) (by omega) (by omega)
    have hn1 : needs l (j : Int) = l[j].2 := by unfold needs; rw [getD_at _ _ h]
    rw [hg, pickF, rdy, hn1]
    simp only [cond_true]
    by_cases hm : (j : Int) ∈ out
    · rw [decide_eq_true hm]
      exact impl_pick hp hf k c n (j + 1) (by omega) (by omega)
    · rw [decide_eq_false hm]
      simp only [Bool.not_false, cond_true, Bool.true_and]
      unfold slices_ContainsFunc_int_impl_order_c1 slices_IndexFunc_int_impl_order_c1
      have hlen : l[j].2.length ≤ 30 := by rw [← hn1]; exact hp.nlen (by omega) (by omega)
      have := impl_readyS done hf l[j].2 (by omega) (fun x hx => hp.inn (x := (j : Int)) (by omega) (by omega) (by rw [hn1]; exact hx)) (fun r1 r2 => (bif (!r1) then k l (j : Int) out r2 else impl_order_l4 n l (-1) l (l.length : Int) ((j + 1 : Nat) : Int) out r2 k)) n 0 (by omega) (by omega)
      rw [show ((0 : Nat) : Int) = 0 from rfl, List.drop_zero] at this
      rw [this]
      cases (l[j].2.all fun n => decide (n ∈ out)) with
      | true => rfl
      | false => exact impl_pick hp hf k c n (j + 1) (by omega) (by omega)
theorem impl_order_loop {R : Type} {l : List (Int × List Int)} (hp : PlanOk l) (k : List Int → Option R) : ∀ (f n : Nat) (out : List Int) (done : List Bool), f + 200 < n → OutOk l out → Flags l.length done (· ∈ out) → l.length < f + out.length →
    impl_order_l2 n l out done k = k (ordO l f out)
  | 0, n, out, done, _, ho, _, hlt => by have := ho.len; omega
  | f + 1, 0, _, _, h, _, _, _ => by omega
  | f + 1, n + 1, out, done, hn, ho, hf, hlt => by
    have hlen := hp.len
    rw [impl_order_l2]
    have hpk := impl_pick hp hf (fun r3 r4 r5 r6 => (bif (decide (r4 < 0)) then k r5 else (bif decide (0 ≤ r4) then (bif decide (r4 < (r6.length : Int)) then (bif decide (r5.length + [r4].length ≤ LIM) then impl_order_l2 n r3 (r5 ++ [r4]) (r6.set (Int.toNat r4) true) k else none) else none) else none))) l.length n 0 (by omega) (by omega)
    rw [show ((0 : Nat) : Int) = 0 from rfl] at hpk
    rw [hpk, ordO]
    cases e : pickF l out l.length 0 with
    | none => rfl
    | some q =>
      obtain ⟨_, h1, _⟩ := pickF_some e
      have hol := ho.len
      simp only
      rw [decide_eq_false (show ¬ (q : Int) < 0 by omega), dnn, hf.1, dlt (show q < l.length by omega), decide_eq_true (show out.length + [(q : Int)].length ≤ LIM by simp [LIM]; omega)]
      simp only [cond_true, cond_false]
      exact impl_order_loop hp k f n _ _ (by omega) (ho.step e) ((hf.set (y := (q : Int)) (by omega) (by omega)).congr fun x _ _ => by simp) (by simp; omega)
theorem flags_none (N : Nat) : Flags N (List.replicate N false) (fun _ => False) := ⟨by simp, fun x h0 h1 => by
  rw [List.getD_eq_getElem?_getD, List.getElem?_replicate]
  split <;> simp⟩
theorem impl_order_eq {R : Type} {n : Nat} {l : List (Int × List Int)} (hp : PlanOk l) (hn : 1000 ≤ n) (k : List Int → Option R) : impl_order n l k = k (ord l) := by
  have hlen := hp.len
  unfold impl_order
  rw [decide_eq_true (show (0 : Int) ≤ (l.length : Int) by omega), decide_eq_true (show (l.length : Int) ≤ (l.length : Int) by omega), decide_eq_true (show (l.length : Int) ≤ 1099511627776 by omega)]
  simp only [cond_true, Int.toNat_natCast]
  exact impl_order_loop hp k (l.length + 1) n [] _ (by omega) (.nil l) ((flags_none _).congr fun x _ _ => by simp) (by simp)
theorem spec_ready {R : Type} (l : List (Int × List Int)) (a b c d : Int) (out : List Int) (hl : out.length ≤ 1000) (ns : List Int) (hl2 : ns.length ≤ 1000) (k : List (Int × List Int) → Int → Int → Bool → List (Int × List Int) → Int → Int → List Int → Option R) : ∀ (n j : Nat) (f : Bool), ns.length - j + 1001 < n → j ≤ ns.length →
    spec_l4Order_l9 n l a b f l c d ns (ns.length : Int) (j : Int) out k = k l a b (f && (ns.drop j).all fun n => decide (n ∈ out)) l c d out
  | 0, _, _, h, _ => by omega
  | n + 1, j, f, hn, hj => by
    rw [spec_l4Order_l9]
    by_cases h : j < ns.length
    · rw [dlt h, dnn, getD_at _ _ h, wrapS h (by omega), List.drop_eq_getElem_cons h, List.all_cons]
      simp only [cond_true]
      cases f with
      | true =>
        simp only [cond_true, Bool.true_and, spec_l1Has_eq (n := n) (out := out) ns[j] (by omega) (by omega)]
        rw [spec_ready l a b c d out hl ns hl2 k n (j + 1) _ (by omega) (by omega)]
      | false =>
        simp only [cond_false]
        rw [spec_ready l a b c d out hl ns hl2 k n (j + 1) false (by omega) (by omega)]
        rfl
    · rw [dge (by omega), List.drop_eq_nil_iff.2 (by omega)]; simp
theorem spec_pick {R : Type} {l : List (Int × List Int)} (hp : PlanOk l) {out : List Int} (hl : out.length ≤ 1000) (k : List (Int × List Int) → Int → List Int → Option R) : ∀ (c n j : Nat), c + 3000 < n → j + c = l.length →
    spec_l4Order_l5 n l (-1) l (l.length : Int) (j : Int) out k = k l (match pickF l out c j with
      | none => -1
      | some k => (k : Int)) out
  | c, 0, _, h, _ => by omega
  | 0, n + 1, j, hn, hj => by
    rw [spec_l4Order_l5, dge (by omega)]; rfl
  | c + 1, n + 1, j, hn, hj => by
    have h : j < l.length := by omega
    have hlen := hp.len
    have hn1 : needs l (j : Int) = l[j].2 := by unfold needs; rw [getD_at _ _ h]
    have hlen2 : l[j].2.length ≤ 30 := by rw [← hn1]; exact hp.nlen (by omega) (by omega)
    rw [spec_l4Order_l5, dlt h, dnn, getD_at _ _ h, pickF, rdy, hn1]
    simp only [cond_true]
    rw [spec_l1Has_eq (n := n) (out := out) (j : Int) (by omega) (by omega)]
    have := spec_ready l (-1) (j : Int) (l.length : Int) (j : Int) out hl l[j].2 (by omega) (fun r3 r4 r5 r6 r7 r8 r9 r10 => (bif r6 then k r3 r5 r10 else spec_l4Order_l5 n r3 r4 r7 r8 (IntKind.wrap .i64 (r9 + 1)) r10 k)) n 0 (!decide ((j : Int) ∈ out)) (by omega) (by omega)
    rw [show ((0 : Nat) : Int) = 0 from rfl, List.drop_zero] at this
    rw [this, wrapS h (by omega)]
    cases (!decide ((j : Int) ∈ out) && l[j].2.all fun n => decide (n ∈ out)) with
    | true => rfl
    | false => exact spec_pick hp hl k c n (j + 1) (by omega) (by omega)
theorem full_none {l : List (Int × List Int)} {out : List Int} (ho : OutOk l out) (hl : out.length = l.length) : pickF l out l.length 0 = none := by
  cases e : pickF l out l.length 0 with
  | none => rfl
  | some k => have := (ho.step e).len; simp at this; omega
theorem spec_order_loop {R : Type} {l : List (Int × List Int)} (hp : PlanOk l) (kr : List Int → Bool → Option R) (ke : List Int → Option R) : ∀ (f n : Nat) (out : List Int), f + 4000 < n → OutOk l out → l.length < f + out.length →
    spec_l4Order_l2 n l out kr ke = bif decide ((ordO l f out).length = l.length) then ke (ordO l f out) else kr [] false
  | 0, n, out, _, ho, hlt => by have := ho.len; omega
  | f + 1, 0, _, h, _, _ => by omega
  | f + 1, n + 1, out, hn, ho, hlt => by
    have hlen := hp.len
    have hol := ho.len
    rw [spec_l4Order_l2]
    by_cases c : out.length < l.length
    · rw [dlt c]
      have hpk := spec_pick hp (out := out) (by omega) (fun r11 r12 r13 => (bif (decide (r12 < 0)) then kr ([] : List Int) false else (bif decide (r13.length + [r12].length ≤ LIM) then spec_l4Order_l2 n r11 (r13 ++ [r12]) kr ke else none))) l.length n 0 (by omega) (by omega)
      rw [show ((0 : Nat) : Int) = 0 from rfl] at hpk
      rw [cond_true, hpk, ordO]
      cases e : pickF l out l.length 0 with
      | none => simp only; rw [decide_eq_false (show ¬ out.length = l.length by omega)]; rfl
      | some q =>
        simp only
        rw [decide_eq_false (show ¬ (q : Int) < 0 by omega), decide_eq_true (show out.length + [(q : Int)].length ≤ LIM by simp [LIM]; omega)]
        simp only [cond_true, cond_false]
        exact spec_order_loop hp kr ke f n _ (by omega) (ho.step e) (by simp; omega)
    · rw [dge (by omega), ordO, full_none ho (by omega)]
      simp only [cond_false]
      rw [decide_eq_true (show out.length = l.length by omega)]; rfl
theorem spec_order_eq {R : Type} {n : Nat} {l : List (Int × List Int)} (hp : PlanOk l) (hn : 5000 ≤ n) (k : List Int → Bool → Option R) : spec_l4Order n l k = bif decide ((ord l).length = l.length) then k (ord l) true else k [] false := by
  have hlen := hp.len
  unfold spec_l4Order
  exact spec_order_loop hp (fun r14 r15 => k r14 r15) (fun r16 => k r16 true) (l.length + 1) n [] (by omega) (.nil l) (by simp)
def tasksOk (l : List (Int × List Int)) : Nat → Nat → Bool
  | 0, _ => true
  | c + 1, j => decide (1 ≤ (l.getD j (0, [])).1 ∧ (l.getD j (0, [])).1 ≤ 100) && (riseTo l.length (-1) (needs l j) && (!decide ((j : Int) ∈ needs l j) && tasksOk l c (j + 1)))
theorem tasksOk_iff {l : List (Int × List Int)} : ∀ {c j : Nat}, tasksOk l c j = true ↔ ∀ x, j ≤ x → x < j + c → (1 ≤ (l.getD x (0, [])).1 ∧ (l.getD x (0, [])).1 ≤ 100) ∧ riseTo l.length (-1) (needs l x) = true ∧ (x : Int) ∉ needs l x
  | 0, j => ⟨fun _ x h1 h2 => by omega, fun _ => rfl⟩
  | c + 1, j => by
    simp only [tasksOk, Bool.and_eq_true, decide_eq_true_eq, Bool.not_eq_true', decide_eq_false_iff_not, tasksOk_iff (c := c)]
    constructor
    · rintro ⟨h1, h2, h3, h4⟩ x hx hx2
      by_cases e : x = j
      · subst e; exact ⟨h1, h2, h3⟩
      · exact h4 x (by omega) (by omega)
    · intro h
      obtain ⟨a, b, d⟩ := h j (Nat.le_refl _) (by omega)
      exact ⟨a, b, d, fun x hx hx2 => h x (by omega) (by omega)⟩
def goodP (l : List (Int × List Int)) : Bool := decide (l.length ≤ 30) && (tasksOk l l.length 0 && decide ((ord l).length = l.length))
theorem planOk_of {l : List (Int × List Int)} (h : l.length ≤ 30) (ht : tasksOk l l.length 0 = true) : PlanOk l := by
  have h1 := fun (x : Int) (h0 : 0 ≤ x) (h1 : x < l.length) => tasksOk_iff.1 ht x.toNat (by omega) (by omega)
  refine ⟨h, fun x a b => (h1 x a b).1, fun x a b => ?_, fun x a b => ?_⟩
  · have := (h1 x a b).2.1
    rw [Int.toNat_of_nonneg a] at this
    exact this
  · have := (h1 x a b).2.2
    rw [Int.toNat_of_nonneg a] at this
    exact this
theorem goodP_ok {l : List (Int × List Int)} (h : goodP l = true) : PlanOk l ∧ (ord l).length = l.length := by
  simp only [goodP, Bool.and_eq_true, decide_eq_true_eq] at h
  exact ⟨planOk_of h.1 h.2.1, h.2.2⟩
theorem impl_tasks {R : Type} {l : List (Int × List Int)} (hl : l.length ≤ 30) (hb : ∀ x ∈ l, x.2.length ≤ 1000) (kr : Bool → Option R) (ke : List (Int × List Int) → Option R) : ∀ (c n j : Nat), c + 3000 < n → j + c = l.length → impl_GoodPlan_l4 n l l (l.length : Int) (j : Int) kr ke = bif tasksOk l c j then ke l else kr false
  | c, 0, _, h, _ => by omega
  | 0, n + 1, j, hn, hj => by rw [impl_GoodPlan_l4, dge (by omega)]; rfl
  | c + 1, n + 1, j, hn, hj => by
    have h : j < l.length := by omega
    have hb1 := hb _ (List.getElem_mem h)
    have hn1 : needs l (j : Int) = l[j].2 := by unfold needs; rw [getD_at _ _ h]
    have hg : l.getD j (0, []) = l[j] := by rw [List.getD_eq_getElem?_getD, List.getElem?_eq_getElem h]; rfl
    rw [impl_GoodPlan_l4, dlt h, dnn, getD_at _ _ h, wrapS h (by omega), tasksOk, hn1, hg]
    simp only [cond_true, impl_in_eq, impl_rising_eq (n := n) (l := l[j].2) (B := (l.length : Int)) (by omega) (by omega) (by omega) (by omega), slices_Contains_eq (n := n) (out := l[j].2) (j : Int) (by omega) (by omega)]
    cases decide (1 ≤ l[j].1 ∧ l[j].1 ≤ 100) with
    | false => rfl
    | true =>
      cases riseTo l.length (-1) l[j].2 with
      | false => rfl
      | true =>
        cases decide ((j : Int) ∈ l[j].2) with
        | true => rfl
        | false =>
          simp only [Bool.not_true, Bool.not_false, cond_false, Bool.true_and]
          exact impl_tasks hl hb kr ke c n (j + 1) (by omega) (by omega)
theorem spec_tasks {R : Type} {l : List (Int × List Int)} (hl : l.length ≤ 30) (hb : ∀ x ∈ l, x.2.length ≤ 1000) (kr : Bool → Option R) (ke : List (Int × List Int) → Option R) : ∀ (c n j : Nat), c + 3000 < n → j + c = l.length → spec_GoodPlan_l4 n l l (l.length : Int) (j : Int) kr ke = bif tasksOk l c j then ke l else kr false
  | c, 0, _, h, _ => by omega
  | 0, n + 1, j, hn, hj => by rw [spec_GoodPlan_l4, dge (by omega)]; rfl
  | c + 1, n + 1, j, hn, hj => by
    have h : j < l.length := by omega
    have hb1 := hb _ (List.getElem_mem h)
    have hn1 : needs l (j : Int) = l[j].2 := by unfold needs; rw [getD_at _ _ h]
    have hg : l.getD j (0, []) = l[j] := by rw [List.getD_eq_getElem?_getD, List.getElem?_eq_getElem h]; rfl
    rw [spec_GoodPlan_l4, dlt h, dnn, getD_at _ _ h, wrapS h (by omega), tasksOk, hn1, hg]
    simp only [cond_true, spec_l1In_eq, spec_l3List_eq (n := n) (l := l[j].2) (B := (l.length : Int)) (by omega) (by omega) (by omega) (by omega), spec_l1Has_eq (n := n) (out := l[j].2) (j : Int) (by omega) (by omega)]
    cases decide (1 ≤ l[j].1 ∧ l[j].1 ≤ 100) with
    | false => rfl
    | true =>
      cases riseTo l.length (-1) l[j].2 with
      | false => rfl
      | true =>
        cases decide ((j : Int) ∈ l[j].2) with
        | true => rfl
        | false =>
          simp only [Bool.not_true, Bool.not_false, cond_false, Bool.true_and]
          exact spec_tasks hl hb kr ke c n (j + 1) (by omega) (by omega)
theorem impl_GoodPlan_eq {R : Type} {n : Nat} {l : List (Int × List Int)} (hl : l.length ≤ 1000) (hb : ∀ x ∈ l, x.2.length ≤ 1000) (hn : 5000 ≤ n) (k : Bool → Option R) : impl_GoodPlan n l k = k (goodP l) := by
  unfold impl_GoodPlan goodP
  by_cases h : l.length ≤ 30
  · rw [decide_eq_false (show ¬ (l.length : Int) > 30 by omega), decide_eq_true h, cond_false, Bool.true_and]
    have := impl_tasks h hb (fun r4 => k r4) (fun r5 => (impl_order n r5 fun r6 => k ((r6.length : Int) == (r5.length : Int)))) l.length n 0 (by omega) (by omega)
    rw [show ((0 : Nat) : Int) = 0 from rfl] at this
    rw [this]
    cases ht : tasksOk l l.length 0 with
    | false => rfl
    | true =>
      rw [cond_true, impl_order_eq (planOk_of h ht) (by omega), Bool.true_and]
      congr 1
      rw [Bool.eq_iff_iff]
      simp only [beq_iff_eq, decide_eq_true_eq]
      omega
  · rw [decide_eq_true (show (l.length : Int) > 30 by omega), decide_eq_false h]; rfl
theorem spec_GoodPlan_eq {R : Type} {n : Nat} {l : List (Int × List Int)} (hl : l.length ≤ 1000) (hb : ∀ x ∈ l, x.2.length ≤ 1000) (hn : 6000 ≤ n) (k : Bool → Option R) : spec_GoodPlan n l k = k (goodP l) := by
  unfold spec_GoodPlan goodP
  by_cases h : l.length ≤ 30
  · rw [decide_eq_false (show ¬ (l.length : Int) > 30 by omega), decide_eq_true h, cond_false, Bool.true_and]
    have := spec_tasks h hb (fun r4 => k r4) (fun r5 => (spec_l4Order n r5 fun r6 r7 => k r7)) l.length n 0 (by omega) (by omega)
    rw [show ((0 : Nat) : Int) = 0 from rfl] at this
    rw [this]
    cases ht : tasksOk l l.length 0 with
    | false => rfl
    | true =>
      rw [cond_true, spec_order_eq (planOk_of h ht) (by omega), Bool.true_and]
      cases decide ((ord l).length = l.length) <;> rfl
  · rw [decide_eq_true (show (l.length : Int) > 30 by omega), decide_eq_false h]; rfl
def Closed (l : List (Int × List Int)) (T : Int → Prop) : Prop := ∀ x : Int, 0 ≤ x → x < l.length → T x → ∀ n ∈ needs l x, T n
theorem full_mem {N : Nat} {o : List Int} (hn : o.Nodup) (hi : ∀ x ∈ o, 0 ≤ x ∧ x < (N : Int)) (hl : o.length = N) {x : Int} (h0 : 0 ≤ x) (h1 : x < N) : x ∈ o := by
  by_cases h : x ∈ o
  · exact h
  · have := nodup_len N (x :: o) (List.nodup_cons.2 ⟨h, hn⟩) (fun y hy => by
      rcases List.mem_cons.1 hy with rfl | hy
      · exact ⟨h0, h1⟩
      · exact hi y hy)
    simp at this
    omega
def Pos (o : List Int) (at' : Int → Int) : Prop := ∀ (i : Nat) (x : Int), o[i]? = some x → at' x = (i : Int)
theorem idx_nodup : ∀ (o : List Int) (i : Nat) (x : Int), o.Nodup → o[i]? = some x → o.idxOf x = i
  | [], i, x, _, h => by simp at h
  | a :: o, 0, x, _, h => by
    simp at h; subst h; simp [List.idxOf_cons]
  | a :: o, i + 1, x, hn, h => by
    have hn' := List.nodup_cons.1 hn
    have h' : o[i]? = some x := by simpa using h
    have hx : x ∈ o := List.mem_of_getElem? h'
    have hne : ¬ a = x := fun e => hn'.1 (e ▸ hx)
    have ih := idx_nodup o i x hn'.2 h'
    rw [List.idxOf_cons, show (a == x) = false by simpa using hne, ih]
    rfl
theorem pos_ex {o : List Int} (hn : o.Nodup) : Pos o fun x => (o.idxOf x : Int) := fun i x h => by
  show ((o.idxOf x : Nat) : Int) = i
  rw [idx_nodup o i x hn h]
structure Full (l : List (Int × List Int)) : Prop where
  ok : PlanOk l
  len : (ord l).length = l.length
theorem Full.mem {l : List (Int × List Int)} (h : Full l) {x : Int} (h0 : 0 ≤ x) (h1 : x < l.length) : ∃ i : Nat, (ord l)[i]? = some x := by
  obtain ⟨i, hi, e⟩ := List.mem_iff_getElem.1 (full_mem (ord_ok l).nd (ord_ok l).inn h.len h0 h1)
  exact ⟨i, by rw [List.getElem?_eq_getElem hi, e]⟩
theorem Full.before {l : List (Int × List Int)} (h : Full l) {at' : Int → Int} (hp : Pos (ord l) at') {x n : Int} (h0 : 0 ≤ x) (h1 : x < l.length) (hn : n ∈ needs l x) : at' n < at' x := by
  obtain ⟨i, hi⟩ := h.mem h0 h1
  have hm := (ord_ok l).pre i x hi n hn
  obtain ⟨j, hj, e⟩ := List.mem_iff_getElem.1 hm
  have hj' : j < i := by rw [List.length_take] at hj; omega
  have e2 : (ord l)[j]? = some n := by
    rw [← e, List.getElem_take, List.getElem?_eq_getElem]
  rw [hp i x hi, hp j n e2]
  omega
theorem impl_setNeeds {N : Nat} (ns : List Int) (hl : ns.length ≤ 1000) (hns : ∀ x ∈ ns, 0 ≤ x ∧ x < (N : Int)) (a b : Int) (p : List (Int × List Int)) (c d : List Int) : ∀ (n j : Nat) (done : List Bool) (S : Int → Prop), Flags N done S → ns.length - j < n → j ≤ ns.length →
    ∃ done', Flags N done' (fun x => S x ∨ x ∈ ns.drop j) ∧ ∀ (R : Type) (k : Int → Int → List (Int × List Int) → List Bool → List Int → List Int → Option R), impl_NeedsAll_l9 n a ns (ns.length : Int) (j : Int) b p done c d k = k a b p done' c d
  | 0, _, _, _, _, h, _ => by omega
  | n + 1, j, done, S, hf, hn, hj => by
    by_cases h : j < ns.length
    · obtain ⟨h0, h1⟩ := hns _ (List.getElem_mem h)
      obtain ⟨done', e1, e2⟩ := impl_setNeeds ns hl hns a b p c d n (j + 1) _ _ (hf.set h0 h1) (by omega) (by omega)
      refine ⟨done', e1.congr fun x _ _ => by rw [List.drop_eq_getElem_cons h, List.mem_cons, or_assoc], fun R k => ?_⟩
      rw [impl_NeedsAll_l9, dlt h, dnn, getD_at _ _ h, wrapS h (by omega), decide_eq_true h0, hf.1, decide_eq_true h1]
      exact e2 R k
    · refine ⟨done, hf.congr fun x _ _ => by rw [List.drop_eq_nil_iff.2 (by omega)]; simp, fun R k => ?_⟩
      rw [impl_NeedsAll_l9, dge (by omega)]; rfl
/-- What grows towards what is closed. -/
structure Grow (l : List (Int × List Int)) (S S' : Int → Prop) : Prop where
  mono : ∀ x, S x → S' x
  min : ∀ T, Closed l T → (∀ x : Int, 0 ≤ x → x < l.length → S x → T x) → ∀ x : Int, 0 ≤ x → x < l.length → S' x → T x
theorem impl_back_ex {l : List (Int × List Int)} (h : Full l) (t : Int) (z : List Int) : ∀ (j n : Nat) (done : List Bool) (S : Int → Prop), Flags l.length done S → j + 1100 < n → j ≤ (ord l).length →
    ∃ done' S', Flags l.length done' S' ∧ Grow l S S' ∧ (∀ i x, i < j → (ord l)[i]? = some x → S' x → ∀ m ∈ needs l x, S' m) ∧ (∀ i x, j ≤ i → (ord l)[i]? = some x → (S' x ↔ S x)) ∧
      ∀ (R : Type) (k : Int → List Bool → List Int → Option R), impl_NeedsAll_l7 n t (ord l) l done z ((j : Int) - 1) k = k t done' z
  | _, 0, _, _, _, h, _ => by omega
  | 0, n + 1, done, S, hf, hn, hj => ⟨done, S, hf, ⟨fun _ h => h, fun T _ h1 x a b h2 => h1 x a b h2⟩, fun i x hi => by omega, fun i x _ _ => Iff.rfl, fun R k => by
      rw [impl_NeedsAll_l7, decide_eq_false (show ¬ ((0 : Nat) : Int) - 1 ≥ 0 by omega)]; rfl⟩
  | j + 1, n + 1, done, S, hf, hn, hj => by
    have hlt : j < (ord l).length := by omega
    have ho := ord_ok l
    obtain ⟨x0, x1⟩ := ho.inn _ (List.getElem_mem hlt)
    have hx : (ord l)[j]? = some (ord l)[j] := List.getElem?_eq_getElem hlt
    have h30 := h.ok.len
    have hlen := h.len
    have hnl : (l.getD (Int.toNat (ord l)[j]) (0, [])).2 = needs l (ord l)[j] := rfl
    have key : ∃ done1 S1, Flags l.length done1 S1 ∧ Grow l S S1 ∧ (S (ord l)[j] → ∀ m ∈ needs l (ord l)[j], S1 m) ∧ (∀ i x, j ≤ i → (ord l)[i]? = some x → (S1 x ↔ S x)) ∧
        ∀ (R : Type) (k : Int → List Bool → List Int → Option R), impl_NeedsAll_l7 (n + 1) t (ord l) l done z (((j + 1 : Nat) : Int) - 1) k = impl_NeedsAll_l7 n t (ord l) l done1 z ((j : Int) - 1) k := by
      have unf : ∀ (R : Type) (k : Int → List Bool → List Int → Option R), impl_NeedsAll_l7 (n + 1) t (ord l) l done z (((j + 1 : Nat) : Int) - 1) k = (bif done.getD (Int.toNat (ord l)[j]) false then (impl_NeedsAll_l9 n t (needs l (ord l)[j]) ((needs l (ord l)[j]).length : Int) 0 t l done z (ord l) (fun r5 r6 r7 r8 r9 r10 => impl_NeedsAll_l7 n r6 r10 r7 r8 r9 ((j : Int) - 1) k)) else impl_NeedsAll_l7 n t (ord l) l done z ((j : Int) - 1) k) := fun R k => by
        rw [impl_NeedsAll_l7, show ((j + 1 : Nat) : Int) - 1 = (j : Int) by omega, decide_eq_true (show (j : Int) ≥ 0 by omega), dlt hlt, getD_at _ _ hlt, decide_eq_true x0, hf.1, decide_eq_true x1, hnl, wrap64 (x := (j : Int) - 1) (by omega) (by omega)]
        rfl
      cases hd : done.getD (Int.toNat (ord l)[j]) false with
      | true =>
        have hS := (hf.2 _ x0 x1).1 hd
        have hnlen := h.ok.nlen x0 x1
        obtain ⟨done1, e1, e2⟩ := impl_setNeeds (N := l.length) (needs l (ord l)[j]) (by omega) (fun m hm => h.ok.inn x0 x1 hm) t t l z (ord l) n 0 done S hf (by omega) (by omega)
        rw [List.drop_zero] at e1
        rw [show ((0 : Nat) : Int) = 0 from rfl] at e2
        refine ⟨done1, _, e1, ⟨fun _ h => .inl h, fun T hT h1 x a b h2 => ?_⟩, fun _ m hm => .inr hm, fun i x hi hxi => ⟨fun h2 => ?_, .inl⟩, fun R k => by rw [unf, hd, cond_true, e2]⟩
        · rcases h2 with h2 | h2
          · exact h1 x a b h2
          · exact hT _ x0 x1 (h1 _ x0 x1 hS) x h2
        · rcases h2 with h2 | h2
          · exact h2
          · have hm := ho.pre j _ hx x h2
            obtain ⟨q, hq, e⟩ := List.mem_iff_getElem.1 hm
            have hq' : q < j := by rw [List.length_take] at hq; omega
            have e3 : (ord l)[q]? = some x := by rw [← e, List.getElem_take, List.getElem?_eq_getElem]
            have p1 := pos_ex ho.nd q x e3
            have p2 := pos_ex ho.nd i x hxi
            rw [p1] at p2
            omega
      | false =>
        refine ⟨done, S, hf, ⟨fun _ h => h, fun T _ h1 x a b h2 => h1 x a b h2⟩, fun hS => ?_, fun i x _ _ => Iff.rfl, fun R k => by rw [unf, hd, cond_false]⟩
        rw [(hf.2 _ x0 x1).2 hS] at hd
        cases hd
    obtain ⟨done1, S1, f1, g1, c1, u1, r1⟩ := key
    obtain ⟨done', S', f2, g2, c2, u2, r2⟩ := impl_back_ex h t z j n done1 S1 f1 (by omega) (by omega)
    refine ⟨done', S', f2, ⟨fun x hx => g2.mono x (g1.mono x hx), fun T hT h1 x a b h2 => g2.min T hT (fun y a b h3 => g1.min T hT h1 y a b h3) x a b h2⟩, fun i x hi hxi hS m hm => ?_, fun i x hi hxi => (u2 i x (by omega) hxi).trans (u1 i x (by omega) hxi), fun R k => by rw [r1, r2]⟩
    by_cases c : i < j
    · exact c2 i x c hxi hS m hm
    · have : i = j := by omega
      subst this
      rw [hx] at hxi
      cases hxi
      exact g2.mono m (c1 ((u1 i _ (Nat.le_refl _) hx).1 ((u2 i _ (Nat.le_refl _) hx).1 hS)) m hm)
def coll (f : Nat → Bool) : Nat → Nat → List Int
  | 0, _ => []
  | c + 1, j => bif f j then (j : Int) :: coll f c (j + 1) else coll f c (j + 1)
theorem coll_congr {f g : Nat → Bool} : ∀ {c j : Nat}, (∀ x, j ≤ x → x < j + c → f x = g x) → coll f c j = coll g c j
  | 0, _, _ => rfl
  | c + 1, j, h => by
    unfold coll
    rw [h j (Nat.le_refl _) (by omega), coll_congr (c := c) fun x a b => h x (by omega) (by omega)]
theorem mem_coll {f : Nat → Bool} : ∀ {c j : Nat} {x : Int}, x ∈ coll f c j ↔ ∃ i : Nat, x = (i : Int) ∧ j ≤ i ∧ i < j + c ∧ f i = true
  | 0, j, x => ⟨fun h => by simp [coll] at h, fun ⟨i, _, h1, h2, _⟩ => by omega⟩
  | c + 1, j, x => by
    unfold coll
    have ih := mem_coll (f := f) (c := c) (j := j + 1) (x := x)
    cases hf : f j with
    | true =>
      rw [cond_true, List.mem_cons, ih]
      constructor
      · rintro (h | ⟨i, a, b, c, d⟩)
        · exact ⟨j, h, Nat.le_refl _, by omega, hf⟩
        · exact ⟨i, a, by omega, by omega, d⟩
      · rintro ⟨i, a, b, c, d⟩
        by_cases e : i = j
        · exact .inl (by rw [a, e])
        · exact .inr ⟨i, a, by omega, by omega, d⟩
    | false =>
      rw [cond_false, ih]
      constructor
      · rintro ⟨i, a, b, c, d⟩; exact ⟨i, a, by omega, by omega, d⟩
      · rintro ⟨i, a, b, c, d⟩
        by_cases e : i = j
        · rw [e, hf] at d; cases d
        · exact ⟨i, a, by omega, by omega, d⟩
theorem coll_len {f : Nat → Bool} : ∀ {c j : Nat}, (coll f c j).length ≤ c
  | 0, _ => Nat.le_refl _
  | c + 1, j => by
    unfold coll
    have := coll_len (f := f) (c := c) (j := j + 1)
    cases f j <;> simp <;> omega
theorem impl_out {R : Type} (t : Int) (done : List Bool) (hl : done.length ≤ 1000) (k : List Int → Option R) : ∀ (c n j : Nat) (out : List Int), c < n → j + c = done.length → out.length + c ≤ 2000 →
    impl_NeedsAll_l14 n t (done.length : Int) (j : Int) out done k = k (out ++ coll (fun i => done.getD i false && ((i : Int) != t)) c j)
  | _, 0, _, _, h, _, _ => by omega
  | 0, n + 1, j, out, hn, hj, _ => by rw [impl_NeedsAll_l14, dge (by omega)]; simp [coll]
  | c + 1, n + 1, j, out, hn, hj, ho => by
    have h : j < done.length := by omega
    rw [impl_NeedsAll_l14, dlt h, dnn, wrapS h (by omega), coll]
    simp only [cond_true, Int.toNat_natCast]
    cases done.getD j false with
    | false => simp only [cond_false, Bool.false_and]; exact impl_out t done hl k c n (j + 1) out (by omega) (by omega) (by omega)
    | true =>
      simp only [cond_true, Bool.true_and]
      cases ((j : Int) != t) with
      | false => simp only [cond_false]; exact impl_out t done hl k c n (j + 1) out (by omega) (by omega) (by omega)
      | true =>
        simp only [cond_true]
        rw [decide_eq_true (show out.length + [(j : Int)].length ≤ LIM by simp [LIM]; omega), cond_true, impl_out t done hl k c n (j + 1) _ (by omega) (by omega) (by simp; omega), List.append_assoc]
        rfl
theorem spec_out {R : Type} (done : List Bool) (hl : done.length ≤ 1000) (k : List Int → Option R) : ∀ (c n j : Nat) (out : List Int), c < n → j + c = done.length → out.length + c ≤ 2000 →
    spec_NeedsAll_l25 n (done.length : Int) (j : Int) out done k = k (out ++ coll (fun i => done.getD i false) c j)
  | _, 0, _, _, h, _, _ => by omega
  | 0, n + 1, j, out, hn, hj, _ => by rw [spec_NeedsAll_l25, dge (by omega)]; simp [coll]
  | c + 1, n + 1, j, out, hn, hj, ho => by
    have h : j < done.length := by omega
    rw [spec_NeedsAll_l25, dlt h, dnn, wrapS h (by omega), coll]
    simp only [cond_true, Int.toNat_natCast]
    cases done.getD j false with
    | false => simp only [cond_false]; exact spec_out done hl k c n (j + 1) out (by omega) (by omega) (by omega)
    | true =>
      simp only [cond_true]
      rw [decide_eq_true (show out.length + [(j : Int)].length ≤ LIM by simp [LIM]; omega), cond_true, spec_out done hl k c n (j + 1) _ (by omega) (by omega) (by simp; omega), List.append_assoc]
      rfl
theorem spec_setNeeds {N : Nat} (ns : List Int) (hl : ns.length ≤ 1000) (hns : ∀ x ∈ ns, 0 ≤ x ∧ x < (N : Int)) (p : List (Int × List Int)) : ∀ (n j : Nat) (done : List Bool) (S : Int → Prop), Flags N done S → ns.length - j < n → j ≤ ns.length →
    ∃ done', Flags N done' (fun x => S x ∨ x ∈ ns.drop j) ∧ ∀ (R : Type) (k : List (Int × List Int) → List Bool → Option R), spec_NeedsAll_l5 n p ns (ns.length : Int) (j : Int) done k = k p done'
  | 0, _, _, _, _, h, _ => by omega
  | n + 1, j, done, S, hf, hn, hj => by
    by_cases h : j < ns.length
    · obtain ⟨h0, h1⟩ := hns _ (List.getElem_mem h)
      obtain ⟨done', e1, e2⟩ := spec_setNeeds ns hl hns p n (j + 1) _ _ (hf.set h0 h1) (by omega) (by omega)
      refine ⟨done', e1.congr fun x _ _ => by rw [List.drop_eq_getElem_cons h, List.mem_cons, or_assoc], fun R k => ?_⟩
      rw [spec_NeedsAll_l5, dlt h, dnn, getD_at _ _ h, wrapS h (by omega), decide_eq_true h0, hf.1, decide_eq_true h1]
      exact e2 R k
    · refine ⟨done, hf.congr fun x _ _ => by rw [List.drop_eq_nil_iff.2 (by omega)]; simp, fun R k => ?_⟩
      rw [spec_NeedsAll_l5, dge (by omega)]; rfl
def cntF : List Bool → Nat
  | [] => 0
  | b :: r => (bif b then 0 else 1) + cntF r
theorem cntF_set : ∀ {l : List Bool} {i : Nat}, i < l.length → l.getD i false = false → cntF (l.set i true) < cntF l
  | [], i, h, _ => by simp at h
  | b :: r, 0, _, h => by
    have : b = false := by simpa using h
    subst this
    simp [cntF]
  | b :: r, i + 1, h, h2 => by
    have := cntF_set (l := r) (i := i) (by simpa using h) (by simpa using h2)
    simp [cntF]; omega
theorem cntF_len : ∀ (l : List Bool), cntF l ≤ l.length
  | [] => Nat.le_refl _
  | b :: r => by
    have := cntF_len r
    cases b <;> simp [cntF] <;> omega
theorem spec_one_ex {N : Nat} (ns : List Int) (hl : ns.length ≤ 1000) (hns : ∀ x ∈ ns, 0 ≤ x ∧ x < (N : Int)) (p : List (Int × List Int)) (t a b : Int) (t0 : 0 ≤ t) (t1 : t < N) : ∀ (n j : Nat) (done : List Bool) (ag : Bool) (S : Int → Prop), Flags N done S → ns.length - j < n → j ≤ ns.length →
    ∃ ag' done', Flags N done' (fun x => S x ∨ (S t ∧ x ∈ ns.drop j)) ∧ ((ag' = ag ∧ done' = done) ∨ (ag' = true ∧ cntF done' < cntF done)) ∧
      ∀ (R : Type) (k : List (Int × List Int) → Bool → Int → Int → List Bool → Option R), spec_NeedsAll_l16 n p ag t a b ns (ns.length : Int) (j : Int) done k = k p ag' a b done'
  | 0, _, _, _, _, _, h, _ => by omega
  | n + 1, j, done, ag, S, hf, hn, hj => by
    by_cases h : j < ns.length
    · obtain ⟨h0, h1⟩ := hns _ (List.getElem_mem h)
      have hm : ∀ x, (x ∈ ns.drop j) ↔ x = ns[j] ∨ x ∈ ns.drop (j + 1) := fun x => by rw [List.drop_eq_getElem_cons h, List.mem_cons]
      have unf : ∀ (R : Type) (k : List (Int × List Int) → Bool → Int → Int → List Bool → Option R), spec_NeedsAll_l16 (n + 1) p ag t a b ns (ns.length : Int) (j : Int) done k =
          (bif done.getD t.toNat false then (bif (!(done.getD ns[j].toNat false)) then spec_NeedsAll_l16 n p true t a b ns (ns.length : Int) ((j + 1 : Nat) : Int) (done.set ns[j].toNat true) k else spec_NeedsAll_l16 n p ag t a b ns (ns.length : Int) ((j + 1 : Nat) : Int) done k) else spec_NeedsAll_l16 n p ag t a b ns (ns.length : Int) ((j + 1 : Nat) : Int) done k) := fun R k => by
        rw [spec_NeedsAll_l16, dlt h, dnn, getD_at _ _ h, wrapS h (by omega), decide_eq_true t0, hf.1, decide_eq_true t1, decide_eq_true h0, decide_eq_true h1]
        rfl
      cases hd : done.getD t.toNat false with
      | true =>
        have hS := (hf.2 _ t0 t1).1 hd
        cases hy : done.getD ns[j].toNat false with
        | false =>
          obtain ⟨ag', done', e1, e2, e3⟩ := spec_one_ex ns hl hns p t a b t0 t1 n (j + 1) (done.set ns[j].toNat true) true _ (hf.set h0 h1) (by omega) (by omega)
          have hc := cntF_set (l := done) (i := ns[j].toNat) (by rw [hf.1]; omega) hy
          refine ⟨ag', done', e1.congr fun x _ _ => ?_, .inr ?_, fun R k => by rw [unf, hd, hy]; exact e3 R k⟩
          · rw [hm]
            constructor
            · rintro ((h | h) | ⟨_, h⟩)
              · exact .inl h
              · exact .inr ⟨hS, .inl h⟩
              · exact .inr ⟨hS, .inr h⟩
            · rintro (h | ⟨_, h | h⟩)
              · exact .inl (.inl h)
              · exact .inl (.inr h)
              · exact .inr ⟨.inl hS, h⟩
          · rcases e2 with ⟨a, b⟩ | ⟨a, b⟩
            · exact ⟨a, by rw [b]; exact hc⟩
            · exact ⟨a, Nat.lt_trans b hc⟩
        | true =>
          have hSy := (hf.2 _ h0 h1).1 hy
          obtain ⟨ag', done', e1, e2, e3⟩ := spec_one_ex ns hl hns p t a b t0 t1 n (j + 1) done ag S hf (by omega) (by omega)
          refine ⟨ag', done', e1.congr fun x _ _ => ?_, e2, fun R k => by rw [unf, hd, hy]; exact e3 R k⟩
          rw [hm]
          constructor
          · rintro (h | ⟨_, h⟩)
            · exact .inl h
            · exact .inr ⟨hS, .inr h⟩
          · rintro (h | ⟨_, h | h⟩)
            · exact .inl h
            · exact .inl (h ▸ hSy)
            · exact .inr ⟨hS, h⟩
      | false =>
        obtain ⟨ag', done', e1, e2, e3⟩ := spec_one_ex ns hl hns p t a b t0 t1 n (j + 1) done ag S hf (by omega) (by omega)
        have hS : ¬ S t := fun h => by rw [(hf.2 _ t0 t1).2 h] at hd; cases hd
        refine ⟨ag', done', e1.congr fun x _ _ => ?_, e2, fun R k => by rw [unf, hd]; exact e3 R k⟩
        exact ⟨fun h => h.imp id fun h => absurd h.1 hS, fun h => h.imp id fun h => absurd h.1 hS⟩
    · refine ⟨ag, done, hf.congr fun x _ _ => ?_, .inl ⟨rfl, rfl⟩, fun R k => by rw [spec_NeedsAll_l16, dge (by omega)]; rfl⟩
      rw [List.drop_eq_nil_iff.2 (by omega)]; simp
theorem spec_pass_ex {l : List (Int × List Int)} (hp : PlanOk l) : ∀ (c n j : Nat) (done : List Bool) (ag : Bool) (S : Int → Prop), Flags l.length done S → c + 1100 < n → j + c = l.length →
    ∃ ag' done' S', Flags l.length done' S' ∧ Grow l S S' ∧ ((ag' = ag ∧ done' = done ∧ ∀ x : Int, (j : Int) ≤ x → x < l.length → S x → ∀ m ∈ needs l x, S m) ∨ (ag' = true ∧ cntF done' < cntF done)) ∧
      ∀ (R : Type) (k : List (Int × List Int) → Bool → List Bool → Option R), spec_NeedsAll_l13 n l ag (l.length : Int) (j : Int) done k = k l ag' done'
  | _, 0, _, _, _, _, _, h, _ => by omega
  | 0, n + 1, j, done, ag, S, hf, hn, hj => ⟨ag, done, S, hf, ⟨fun _ h => h, fun T _ h1 x a b h2 => h1 x a b h2⟩, .inl ⟨rfl, rfl, fun x h1 h2 => by omega⟩, fun R k => by rw [spec_NeedsAll_l13, dge (by omega)]; rfl⟩
  | c + 1, n + 1, j, done, ag, S, hf, hn, hj => by
    have h : j < l.length := by omega
    have h30 := hp.len
    have hn1 : needs l (j : Int) = l[j].2 := by unfold needs; rw [getD_at _ _ h]
    have hnl := hp.nlen (x := (j : Int)) (by omega) (by omega)
    obtain ⟨ag1, done1, e1, e2, e3⟩ := spec_one_ex (N := l.length) (needs l (j : Int)) (by omega) (fun m hm => hp.inn (by omega) (by omega) hm) l (j : Int) (l.length : Int) (j : Int) (by omega) (by omega) n 0 done ag S hf (by omega) (by omega)
    rw [List.drop_zero] at e1
    rw [show ((0 : Nat) : Int) = 0 from rfl] at e3
    obtain ⟨ag', done', S', f1, f2, f3, f4⟩ := spec_pass_ex hp c n (j + 1) done1 ag1 _ e1 (by omega) (by omega)
    refine ⟨ag', done', S', f1, ⟨fun x hx => f2.mono x (.inl hx), fun T hT h1 x a b h2 => f2.min T hT (fun y a b h3 => ?_) x a b h2⟩, ?_, fun R k => ?_⟩
    · rcases h3 with h3 | ⟨h3, h4⟩
      · exact h1 y a b h3
      · exact hT _ (by omega) (by omega) (h1 _ (by omega) (by omega) h3) y h4
    · rcases f3 with ⟨g1, g2, g3⟩ | ⟨g1, g2⟩
      · rcases e2 with ⟨i1, i2⟩ | ⟨i1, i2⟩
        · refine .inl ⟨g1.trans i1, g2.trans i2, fun x hx hx2 hS m hm => ?_⟩
          have hback : ∀ y : Int, 0 ≤ y → y < l.length → (S y ∨ (S (j : Int) ∧ y ∈ needs l (j : Int))) → S y := fun y a b hy => by
            have := (e1.2 y a b).2 hy
            rw [i2] at this
            exact (hf.2 y a b).1 this
          have hm2 := hp.inn (x := x) (by omega) hx2 hm
          by_cases c : x = (j : Int)
          · subst c
            exact hback m hm2.1 hm2.2 (.inr ⟨hS, hm⟩)
          · exact hback m hm2.1 hm2.2 (g3 x (by omega) hx2 (.inl hS) m hm)
        · exact .inr ⟨g1.trans i1, by rw [g2]; exact i2⟩
      · refine .inr ⟨g1, ?_⟩
        rcases e2 with ⟨i1, i2⟩ | ⟨i1, i2⟩
        · rw [i2] at g2; exact g2
        · exact Nat.lt_trans g2 i2
    · rw [spec_NeedsAll_l13, dlt h, dnn, getD_at _ _ h, ← hn1]
      simp only [cond_true]
      rw [e3, wrapS h (by omega)]
      exact f4 R k
theorem spec_fix_ex {l : List (Int × List Int)} (hp : PlanOk l) : ∀ (f n : Nat) (done : List Bool) (S : Int → Prop), cntF done < f → Flags l.length done S → f + 1200 < n →
    ∃ done' S', Flags l.length done' S' ∧ Grow l S S' ∧ Closed l S' ∧ ∀ (R : Type) (k : List Bool → Option R), spec_NeedsAll_l10 n l true done k = k done'
  | 0, _, _, _, h, _, _ => by omega
  | f + 1, 0, _, _, _, _, h => by omega
  | f + 1, n + 1, done, S, hc, hf, hn => by
    have h30 := hp.len
    obtain ⟨ag', done', S', f1, f2, f3, f4⟩ := spec_pass_ex hp l.length n 0 done false S hf (by omega) (by omega)
    rw [show ((0 : Nat) : Int) = 0 from rfl] at f3 f4
    rcases f3 with ⟨g1, g2, g3⟩ | ⟨g1, g2⟩
    · refine ⟨done, S, hf, ⟨fun _ h => h, fun T _ h1 x a b h2 => h1 x a b h2⟩, fun x a b hS m hm => g3 x a b hS m hm, fun R k => ?_⟩
      rw [spec_NeedsAll_l10, cond_true, f4, g1, g2]
      cases n with
      | zero => omega
      | succ n => rw [spec_NeedsAll_l10]; rfl
    · obtain ⟨done2, S2, i1, i2, i3, i4⟩ := spec_fix_ex hp f n done' S' (by omega) f1 (by omega)
      refine ⟨done2, S2, i1, ⟨fun x hx => i2.mono x (f2.mono x hx), fun T hT h1 x a b h2 => i2.min T hT (fun y a b h3 => f2.min T hT h1 y a b h3) x a b h2⟩, i3, fun R k => ?_⟩
      rw [spec_NeedsAll_l10, cond_true, f4, g1]
      exact i4 R k
theorem needsAll_ex {n : Nat} {l : List (Int × List Int)} (hl : l.length ≤ 1000) (hb : ∀ x ∈ l, x.2.length ≤ 1000) (hn : 10000 ≤ n) (t : Int) : ∃ ok A, A.length ≤ 1000 ∧
    (∀ (R : Type) (k : Bool → List Int → Option R), impl_NeedsAll n l t k = k ok A) ∧ (∀ (R : Type) (k : Bool → List Int → Option R), spec_NeedsAll n l t k = k ok A) ∧
    (Full l → 0 ≤ t → t < l.length → ok = true) ∧ (Full l → ∀ at', Pos (ord l) at' → ∀ x ∈ A, 0 ≤ x ∧ x < (l.length : Int) ∧ at' x < at' t) := by
  cases hg : goodP l with
  | false =>
    refine ⟨false, [], by simp, fun R k => ?_, fun R k => ?_, fun hF => ?_, fun _ _ _ x hx => by simp at hx⟩
    · unfold impl_NeedsAll; rw [impl_GoodPlan_eq hl hb (by omega), hg]; rfl
    · unfold spec_NeedsAll; rw [spec_GoodPlan_eq hl hb (by omega), hg]; rfl
    · intro a b
      have h30 := hF.ok.len
      have : goodP l = true := by
        simp only [goodP, Bool.and_eq_true, decide_eq_true_eq]
        refine ⟨h30, tasksOk_iff.2 fun x _ hx => ?_, hF.len⟩
        have h1 := hF.ok.long (x : Int) (by omega) (by omega)
        have h2 := hF.ok.rise (x : Int) (by omega) (by omega)
        have h3 := hF.ok.self (x : Int) (by omega) (by omega)
        exact ⟨h1, h2, h3⟩
      rw [this] at hg; cases hg
  | true =>
    obtain ⟨hp, hc⟩ := goodP_ok hg
    have hF : Full l := ⟨hp, hc⟩
    have h30 := hp.len
    by_cases ht : 0 ≤ t ∧ t ≤ (l.length : Int) - 1
    · have t0 := ht.1
      have t1 : t < l.length := by omega
      have fl0 := flags_none l.length
      have fl1 := fl0.set (y := t) t0 t1
      obtain ⟨done1, S1, a1, a2, a3, a4, a5⟩ := impl_back_ex hF t [] (ord l).length n _ _ fl1 (by omega) (Nat.le_refl _)
      have cl1 : Closed l S1 := fun x x0 x1 hS m hm => by
        obtain ⟨i, hi⟩ := hF.mem x0 x1
        exact a3 i x (List.getElem?_eq_some_iff.1 hi).1 hi hS m hm
      have hnl := hp.nlen t0 t1
      obtain ⟨done2, b1, b2⟩ := spec_setNeeds (N := l.length) (needs l t) (by omega) (fun m hm => hp.inn t0 t1 hm) l n 0 _ _ fl0 (by omega) (by omega)
      rw [List.drop_zero] at b1
      rw [show ((0 : Nat) : Int) = 0 from rfl] at b2
      obtain ⟨done3, S3, c1, c2, c3, c4⟩ := spec_fix_ex hp (l.length + 1) n done2 _ (by have := cntF_len done2; rw [b1.1] at this; omega) b1 (by omega)
      have bef : ∀ at', Pos (ord l) at' → ∀ x : Int, 0 ≤ x → x < l.length → S3 x → at' x < at' t := fun at' hp' x x0 x1 h3 => by
        refine c2.min (fun y => 0 ≤ y ∧ y < (l.length : Int) ∧ at' y < at' t) (fun y y0 y1 hy m hm => ?_) (fun y y0 y1 hy => ?_) x x0 x1 h3 |>.2.2
        · have hm2 := hp.inn y0 y1 hm
          have := hF.before hp' y0 y1 hm
          exact ⟨hm2.1, hm2.2, by omega⟩
        · have hy' : y ∈ needs l t := hy.resolve_left fun h => h
          have := hF.before hp' t0 t1 hy'
          exact ⟨y0, y1, this⟩
      have same : ∀ x : Int, 0 ≤ x → x < l.length → ((S1 x ∧ x ≠ t) ↔ S3 x) := fun x x0 x1 => by
        constructor
        · rintro ⟨h1, hne⟩
          have := a2.min (fun y => y = t ∨ S3 y) (fun y y0 y1 hy m hm => ?_) (fun y y0 y1 hy => .inl (hy.resolve_left fun h => h)) x x0 x1 h1
          · exact this.resolve_left hne
          · rcases hy with rfl | hy
            · exact .inr (c2.mono m (.inr hm))
            · exact .inr (c3 y y0 y1 hy m hm)
        · intro h3
          refine ⟨c2.min S1 cl1 (fun y y0 y1 hy => ?_) x x0 x1 h3, fun e => ?_⟩
          · have hy' : y ∈ needs l t := hy.resolve_left fun h => h
            exact cl1 t t0 t1 (a2.mono t (.inr rfl)) y hy'
          · have := bef _ (pos_ex (ord_ok l).nd) x x0 x1 h3
            rw [e] at this
            omega
      have hcoll : coll (fun i => done1.getD i false && ((i : Int) != t)) l.length 0 = coll (fun i => done3.getD i false) l.length 0 := coll_congr fun i _ hi => by
        have h1 := a1.2 (i : Int) (by omega) (by omega)
        have h3 := c1.2 (i : Int) (by omega) (by omega)
        have h4 := same (i : Int) (by omega) (by omega)
        rw [Int.toNat_natCast] at h1 h3
        rw [Bool.eq_iff_iff, Bool.and_eq_true, bne_iff_ne, h1, h3]
        exact h4
      refine ⟨true, coll (fun i => done3.getD i false) l.length 0, ?_, fun R k => ?_, fun R k => ?_, fun _ _ _ => rfl, fun _ at' hp' x hx => ?_⟩
      · have := coll_len (f := fun i => done3.getD i false) (c := l.length) (j := 0); omega
      · unfold impl_NeedsAll
        rw [impl_GoodPlan_eq hl hb (by omega), hg, impl_in_eq, wrap64 (x := (l.length : Int) - 1) (by omega) (by omega), decide_eq_true ht, decide_eq_true (show (0 : Int) ≤ (l.length : Int) by omega), decide_eq_true (show (l.length : Int) ≤ (l.length : Int) by omega), decide_eq_true (show (l.length : Int) ≤ 1099511627776 by omega), decide_eq_true t0,
          decide_eq_true (show t < ((List.replicate (Int.toNat (l.length : Int)) false).length : Int) by simp; omega)]
        simp only [Bool.not_true, cond_false, cond_true]
        rw [impl_order_eq hp (by omega)]
        simp only [slices_Backward_int]
        rw [Int.toNat_natCast, wrap64 (x := ((ord l).length : Int) - 1) (by omega) (by omega), a5]
        have := impl_out t done1 (by rw [a1.1]; omega) (fun r14 => k true r14) l.length n 0 [] (by omega) (by rw [a1.1]; omega) (by simp; omega)
        rw [show ((0 : Nat) : Int) = 0 from rfl, List.nil_append, hcoll] at this
        exact this
      · unfold spec_NeedsAll
        rw [spec_GoodPlan_eq hl hb (by omega), hg, spec_l1In_eq, wrap64 (x := (l.length : Int) - 1) (by omega) (by omega), decide_eq_true ht, decide_eq_true (show (0 : Int) ≤ (l.length : Int) by omega), decide_eq_true (show (l.length : Int) ≤ (l.length : Int) by omega), decide_eq_true (show (l.length : Int) ≤ 1099511627776 by omega), decide_eq_true t0, decide_eq_true t1]
        simp only [Bool.not_true, cond_false, cond_true]
        rw [show (l.getD (Int.toNat t) (0, [])).2 = needs l t from rfl, Int.toNat_natCast, b2, c4]
        have := spec_out done3 (by rw [c1.1]; omega) (fun r14 => k true r14) l.length n 0 [] (by omega) (by rw [c1.1]; omega) (by simp; omega)
        rw [show ((0 : Nat) : Int) = 0 from rfl, List.nil_append] at this
        exact this
      · obtain ⟨i, rfl, _, hi, hf⟩ := mem_coll.1 hx
        have h3 := (c1.2 (i : Int) (by omega) (by omega)).1 (by rw [Int.toNat_natCast]; exact hf)
        exact ⟨by omega, by omega, bef at' hp' _ (by omega) (by omega) h3⟩
    · refine ⟨false, [], by simp, fun R k => ?_, fun R k => ?_, fun _ a b => by omega, fun _ _ _ x hx => by simp at hx⟩
      · unfold impl_NeedsAll
        rw [impl_GoodPlan_eq hl hb (by omega), hg, impl_in_eq, wrap64 (x := (l.length : Int) - 1) (by omega) (by omega), decide_eq_false ht]; rfl
      · unfold spec_NeedsAll
        rw [spec_GoodPlan_eq hl hb (by omega), hg, spec_l1In_eq, wrap64 (x := (l.length : Int) - 1) (by omega) (by omega), decide_eq_false ht]; rfl
theorem and255 (x : Int) : 0 ≤ IntKind.wrap .i64 (IntKind.wrap .u64 (Int.ofNat (BitVec.toNat (BitVec.ofInt (IntKind.bits .u64) x &&& BitVec.ofInt (IntKind.bits .u64) 255)))) ∧ IntKind.wrap .i64 (IntKind.wrap .u64 (Int.ofNat (BitVec.toNat (BitVec.ofInt (IntKind.bits .u64) x &&& BitVec.ofInt (IntKind.bits .u64) 255)))) ≤ 255 := by
  have h : BitVec.toNat (BitVec.ofInt (IntKind.bits .u64) x &&& BitVec.ofInt (IntKind.bits .u64) 255) ≤ 255 := by
    rw [BitVec.toNat_and]
    exact Nat.le_trans Nat.and_le_right (by decide)
  generalize BitVec.toNat (BitVec.ofInt (IntKind.bits .u64) x &&& BitVec.ofInt (IntKind.bits .u64) 255) = y at h
  have h1 : IntKind.wrap .u64 (Int.ofNat y) = (y : Int) := by
    simp only [IntKind.wrap, IntKind.signed, IntKind.bits]
    simp
    omega
  rw [h1, wrap64 (by omega) (by omega)]
  omega
/-- Bytes. -/
def Bytes (l : List Int) : Prop := ∀ x ∈ l, 0 ≤ x ∧ x ≤ 255
theorem bytes_getD {l : List Int} (hl : Bytes l) {i : Nat} (h : i < l.length) : 0 ≤ l.getD i 0 ∧ l.getD i 0 ≤ 255 := by
  rw [List.getD_eq_getElem?_getD, List.getElem?_eq_getElem h]
  exact hl _ (List.getElem_mem h)
def seedN (s b : Int) : Int := IntKind.wrap .u64 ((IntKind.wrap .u64 ((IntKind.wrap .u64 (s * 6364136223846793005)) + b)) + 1442695040888963407)
theorem next_ex {l : List Int} (hl : Bytes l) (n : Nat) {p s : Int} (h0 : 0 ≤ p) (h1 : p ≤ 4611686018427387904) : ∃ r s', 0 ≤ r ∧ r ≤ 255 ∧ ∀ (R : Type) (k : Int → List Int → Int → Int → Option R), spec_l1Cur_next n l p s k = k r l (p + 1) s' := by
  have hw : IntKind.wrap .i64 (p + 1) = p + 1 := wrap64 (by omega) (by omega)
  by_cases c : p < (l.length : Int)
  · obtain ⟨b1, b2⟩ := bytes_getD hl (i := Int.toNat p) (by omega)
    have hg : IntKind.wrap .i64 (l.getD (Int.toNat p) 0) = l.getD (Int.toNat p) 0 := wrap64 (by omega) (by omega)
    refine ⟨l.getD (Int.toNat p) 0, seedN s (IntKind.wrap .u64 (l.getD (Int.toNat p) 0)), b1, b2, fun R k => ?_⟩
    unfold spec_l1Cur_next
    rw [decide_eq_true c, decide_eq_true h0, hw, decide_eq_true (show p + 1 ≤ (l.length : Int) by omega), hg]
    rfl
  · have hn := and255 (Int.fdiv (seedN s 0) (2 ^ (min (Int.toNat 40) (IntKind.bits .u64))))
    refine ⟨_, seedN s 0, hn.1, hn.2, fun R k => ?_⟩
    unfold spec_l1Cur_next
    rw [decide_eq_false c, hw, decide_eq_false (show ¬ p + 1 ≤ (l.length : Int) by omega)]
    rfl
theorem pick_ex {l : List Int} (hl : Bytes l) (n : Nat) {m p s : Int} (hm : m ≤ 60000) (h0 : 0 ≤ p) (h1 : p ≤ 4611686018427387000) : ∃ r p' s', 0 ≤ r ∧ (r < m ∨ (m ≤ 1 ∧ r = 0)) ∧ p ≤ p' ∧ p' ≤ p + 2 ∧ ∀ (R : Type) (k : Int → List Int → Int → Int → Option R), spec_l1Cur_pick n m l p s k = k r l p' s' := by
  by_cases c : m ≤ 1
  · exact ⟨0, p, s, by omega, .inr ⟨c, rfl⟩, by omega, by omega, fun R k => by unfold spec_l1Cur_pick; rw [decide_eq_true c]; rfl⟩
  · obtain ⟨r, s1, r0, r1, hr⟩ := next_ex hl n (s := s) h0 (by omega)
    by_cases c2 : m > 200
    · obtain ⟨q, s2, q0, q1, hq⟩ := next_ex hl n (p := p + 1) (s := s1) (by omega) (by omega)
      have e : IntKind.wrap .i64 (IntKind.wrap .i64 (r * 256) + q) = r * 256 + q := by rw [wrap64 (x := r * 256) (by omega) (by omega), wrap64 (by omega) (by omega)]
      have t0 := Int.tmod_nonneg m (show 0 ≤ r * 256 + q by omega)
      have t1 := Int.tmod_lt_of_pos (r * 256 + q) (show 0 < m by omega)
      refine ⟨Int.tmod (r * 256 + q) m, p + 1 + 1, s2, t0, .inl t1, by omega, by omega, fun R k => ?_⟩
      unfold spec_l1Cur_pick
      rw [decide_eq_false c, hr, decide_eq_true c2, hq, decide_eq_true (show m ≠ 0 by omega), e]
      rfl
    · have t0 := Int.tmod_nonneg m (show 0 ≤ r by omega)
      have t1 := Int.tmod_lt_of_pos r (show 0 < m by omega)
      refine ⟨Int.tmod r m, p + 1, s1, t0, .inl t1, by omega, by omega, fun R k => ?_⟩
      unfold spec_l1Cur_pick
      rw [decide_eq_false c, hr, decide_eq_false c2, decide_eq_true (show m ≠ 0 by omega)]
      rfl
theorem among_ex {l : List Int} (hl : Bytes l) (n : Nat) {xs : List Int} (hx : xs ≠ []) (hx2 : xs.length ≤ 200) {p s : Int} (h0 : 0 ≤ p) (h1 : p ≤ 4611686018427387000) : ∃ r p' s', r ∈ xs ∧ p ≤ p' ∧ p' ≤ p + 2 ∧ ∀ (R : Type) (k : Int → List Int → Int → Int → Option R), spec_l1Cur_among n xs l p s k = k r l p' s' := by
  have hp := List.length_pos_iff.2 hx
  obtain ⟨i, p', s', i0, i1, q0, q1, hi⟩ := pick_ex hl n (m := (xs.length : Int)) (s := s) (by omega) h0 h1
  have hlt : Int.toNat i < xs.length := by omega
  refine ⟨xs.getD (Int.toNat i) 0, p', s', ?_, q0, q1, fun R k => ?_⟩
  · rw [List.getD_eq_getElem?_getD, List.getElem?_eq_getElem hlt]
    exact List.getElem_mem hlt
  · unfold spec_l1Cur_among
    rw [hi, decide_eq_true i0, decide_eq_true (show i < (xs.length : Int) by omega)]
    rfl
def planTail {R : Type} (n : Nat) (r29 : List Int) (r30 : Int) (r31 : Int) (r32 : List (Int × List Int)) (k : List (Int × List Int) → List Int → Int → Int → Option R) : Option R := (bif (decide ((r32.length : Int) > 1)) then (spec_l1Cur_one n 12 r29 r30 r31 fun r33 r34 r35 r36 => (bif r33 then (bif decide (0 < (r32.length : Int)) then (bif (decide (((r32.set 0 ((r32.getD 0 (0, [])).1, [(IntKind.wrap .i64 ((r32.length : Int) - 1))])).length : Int) > 0)) then (spec_l1Cur_one n 40 r34 r35 r36 fun r37 r38 r39 r40 => (bif r37 then (spec_l1Cur_among n ([0, 100, 101]) r38 r39 r40 fun r41 r42 r43 r44 => (bif decide (0 < ((r32.set 0 ((r32.getD 0 (0, [])).1, [(IntKind.wrap .i64 ((r32.length : Int) - 1))])).length : Int)) then k ((r32.set 0 ((r32.getD 0 (0, [])).1, [(IntKind.wrap .i64 ((r32.length : Int) - 1))])).set 0 (r41, ((r32.set 0 ((r32.getD 0 (0, [])).1, [(IntKind.wrap .i64 ((r32.length : Int) - 1))])).getD 0 (0, [])).2)) r42 r43 r44 else none)) else k (r32.set 0 ((r32.getD 0 (0, [])).1, [(IntKind.wrap .i64 ((r32.length : Int) - 1))])) r38 r39 r40)) else k (r32.set 0 ((r32.getD 0 (0, [])).1, [(IntKind.wrap .i64 ((r32.length : Int) - 1))])) r34 r35 r36) else none) else (bif (decide ((r32.length : Int) > 0)) then (spec_l1Cur_one n 40 r34 r35 r36 fun r45 r46 r47 r48 => (bif r45 then (spec_l1Cur_among n ([0, 100, 101]) r46 r47 r48 fun r49 r50 r51 r52 => (bif decide (0 < (r32.length : Int)) then k (r32.set 0 (r49, (r32.getD 0 (0, [])).2)) r50 r51 r52 else none)) else k r32 r46 r47 r48)) else k r32 r34 r35 r36))) else (bif (decide ((r32.length : Int) > 0)) then (spec_l1Cur_one n 40 r29 r30 r31 fun r53 r54 r55 r56 => (bif r53 then (spec_l1Cur_among n ([0, 100, 101]) r54 r55 r56 fun r57 r58 r59 r60 => (bif decide (0 < (r32.length : Int)) then k (r32.set 0 (r57, (r32.getD 0 (0, [])).2)) r58 r59 r60 else none)) else k r32 r54 r55 r56)) else k r32 r29 r30 r31))
theorem oneP_ex {l : List Int} (hl : Bytes l) (n : Nat) {m p s : Int} (hm : m ≤ 60000) (h0 : 0 ≤ p) (h1 : p ≤ 4611686018427387000) : ∃ b p' s', p ≤ p' ∧ p' ≤ p + 2 ∧ ∀ (R : Type) (k : Bool → List Int → Int → Int → Option R), spec_l1Cur_one n m l p s k = k b l p' s' := by
  obtain ⟨r, p1, s1, _, _, q0, q1, hr⟩ := pick_ex hl n (m := m) (s := s) hm h0 h1
  exact ⟨r == 0, p1, s1, q0, q1, fun R k => by unfold spec_l1Cur_one; rw [hr]⟩
def PlanIn (l : List (Int × List Int)) : Prop := l.length ≤ 40 ∧ ∀ x ∈ l, x.2.length ≤ 10
theorem PlanIn.set {l : List (Int × List Int)} (h : PlanIn l) {i : Nat} {y : Int × List Int} (hy : y.2.length ≤ 10) : PlanIn (l.set i y) := ⟨by simpa using h.1, fun x hx => by
  rcases List.mem_or_eq_of_mem_set hx with hx | rfl
  · exact h.2 x hx
  · exact hy⟩
theorem PlanIn.get {l : List (Int × List Int)} (h : PlanIn l) (i : Nat) : (l.getD i (0, [])).2.length ≤ 10 := by
  rw [List.getD_eq_getElem?_getD]
  cases e : l[i]? with
  | none => simp
  | some x => exact h.2 x (List.mem_of_getElem? e)
theorem planLong_ex {x : List Int} (hx : Bytes x) (n : Nat) {p s : Int} (hp : 0 ≤ p) (hp2 : p ≤ 1000000) {l : List (Int × List Int)} (hl : PlanIn l) : ∃ l' p' s', PlanIn l' ∧ 0 ≤ p' ∧ p' ≤ p + 10 ∧ ∀ (R : Type) (k : List (Int × List Int) → List Int → Int → Int → Option R),
    (bif (decide ((l.length : Int) > 0)) then (spec_l1Cur_one n 40 x p s fun r45 r46 r47 r48 => (bif r45 then (spec_l1Cur_among n ([0, 100, 101]) r46 r47 r48 fun r49 r50 r51 r52 => (bif decide (0 < (l.length : Int)) then k (l.set 0 (r49, (l.getD 0 (0, [])).2)) r50 r51 r52 else none)) else k l r46 r47 r48)) else k l x p s) = k l' x p' s' := by
  by_cases h : (l.length : Int) > 0
  · obtain ⟨b, p1, s1, u0, u1, ht⟩ := oneP_ex hx n (m := 40) (p := p) (s := s) (by omega) (by omega) (by omega)
    cases b with
    | true =>
      obtain ⟨r, p2, s2, _, v0, v1, hr⟩ := among_ex hx n (xs := [0, 100, 101]) (by simp) (by simp) (p := p1) (s := s1) (by omega) (by omega)
      refine ⟨_, p2, s2, hl.set (i := 0) (y := (r, (l.getD 0 (0, [])).2)) (hl.get 0), by omega, by omega, fun R k => ?_⟩
      rw [decide_eq_true h, cond_true, ht, cond_true, hr, cond_true]
    | false => exact ⟨l, p1, s1, hl, by omega, by omega, fun R k => by rw [decide_eq_true h, cond_true, ht, cond_false]⟩
  · exact ⟨l, p, s, hl, by omega, by omega, fun R k => by rw [decide_eq_false h, cond_false]⟩
theorem planTail_ex {x : List Int} (hx : Bytes x) (n : Nat) {p s : Int} (hp : 0 ≤ p) (hp2 : p ≤ 100000) {l : List (Int × List Int)} (hl : PlanIn l) : ∃ l' p' s', PlanIn l' ∧ 0 ≤ p' ∧ p' ≤ p + 20 ∧ ∀ (R : Type) (k : List (Int × List Int) → List Int → Int → Int → Option R), planTail n x p s l k = k l' x p' s' := by
  unfold planTail
  by_cases h : (l.length : Int) > 1
  · obtain ⟨b, p1, s1, u0, u1, ht⟩ := oneP_ex hx n (m := 12) (p := p) (s := s) (by omega) (by omega) (by omega)
    cases b with
    | true =>
      have hl2 : PlanIn (l.set 0 ((l.getD 0 (0, [])).1, [(IntKind.wrap .i64 ((l.length : Int) - 1))])) := hl.set (by simp)
      obtain ⟨l', p2, s2, a1, a2, a3, a4⟩ := planLong_ex hx n (p := p1) (s := s1) (by omega) (by omega) hl2
      refine ⟨l', p2, s2, a1, a2, by omega, fun R k => ?_⟩
      rw [decide_eq_true h, cond_true, ht, cond_true, decide_eq_true (show 0 < (l.length : Int) by omega), cond_true]
      exact a4 R k
    | false =>
      obtain ⟨l', p2, s2, a1, a2, a3, a4⟩ := planLong_ex hx n (p := p1) (s := s1) (by omega) (by omega) hl
      refine ⟨l', p2, s2, a1, a2, by omega, fun R k => ?_⟩
      rw [decide_eq_true h, cond_true, ht, cond_false]
      exact a4 R k
  · obtain ⟨l', p2, s2, a1, a2, a3, a4⟩ := planLong_ex hx n (p := p) (s := s) (by omega) (by omega) hl
    refine ⟨l', p2, s2, a1, a2, by omega, fun R k => ?_⟩
    rw [decide_eq_false h, cond_false]
    exact a4 R k
theorem planInner_ex {x : List Int} (hx : Bytes x) (a q : Int) (z : List (Int × List Int)) (g : Int) (hq : q ≤ 1000) : ∀ (c n : Nat) (i p s : Int) (need : List Int), c < n → q - i ≤ c → 0 ≤ i → 0 ≤ p → p + 2 * c ≤ 1000000 → need.length ≤ 4 →
    ∃ need' p' s', need'.length ≤ 4 ∧ p ≤ p' ∧ p' ≤ p + 2 * c ∧ ∀ (R : Type) (k : Int → Int → List Int → Int → Int → List (Int × List Int) → List Int → Int → Option R), spec_l1Cur_plan_l10 n a q i x p s z need g k = k a q x p' s' z need' g
  | _, 0, _, _, _, _, h, _, _, _, _, _ => by omega
  | 0, n + 1, i, p, s, need, _, hc, _, _, _, hn => ⟨need, p, s, hn, by omega, by omega, fun R k => by rw [spec_l1Cur_plan_l10, decide_eq_false (show ¬ i < q by omega)]; rfl⟩
  | c + 1, n + 1, i, p, s, need, hn, hc, h0, hp, hp2, hl => by
    by_cases h : i < q
    · obtain ⟨b, p1, s1, u0, u1, ht⟩ := oneP_ex hx n (m := 3) (p := p) (s := s) (by omega) (by omega) (by omega)
      have hw : IntKind.wrap .i64 (i + 1) = i + 1 := wrap64 (by omega) (by omega)
      have go : ∀ need2 : List Int, need2.length ≤ 4 → ∃ need' p' s', need'.length ≤ 4 ∧ p ≤ p' ∧ p' ≤ p + 2 * (c + 1 : Nat) ∧ ∀ (R : Type) (k : Int → Int → List Int → Int → Int → List (Int × List Int) → List Int → Int → Option R), spec_l1Cur_plan_l10 n a q (i + 1) x p1 s1 z need2 g k = k a q x p' s' z need' g := fun need2 h2 => by
        obtain ⟨need', p', s', e1, e2, e3, e4⟩ := planInner_ex hx a q z g hq c n (i + 1) p1 s1 need2 (by omega) (by omega) (by omega) (by omega) (by omega) h2
        exact ⟨need', p', s', e1, by omega, by omega, e4⟩
      cases b with
      | true =>
        by_cases h4 : (need.length : Int) < 4
        · obtain ⟨need', p', s', e1, e2, e3, e4⟩ := go (need ++ [i]) (by simp; omega)
          refine ⟨need', p', s', e1, e2, e3, fun R k => ?_⟩
          rw [spec_l1Cur_plan_l10, decide_eq_true h, cond_true, ht, cond_true, decide_eq_true h4, cond_true, decide_eq_true (show need.length + [i].length ≤ LIM by simp [LIM]; omega), cond_true, hw]
          exact e4 R k
        · obtain ⟨need', p', s', e1, e2, e3, e4⟩ := go need hl
          refine ⟨need', p', s', e1, e2, e3, fun R k => ?_⟩
          rw [spec_l1Cur_plan_l10, decide_eq_true h, cond_true, ht, cond_true, decide_eq_false h4, cond_false, hw]
          exact e4 R k
      | false =>
        obtain ⟨need', p', s', e1, e2, e3, e4⟩ := go need hl
        refine ⟨need', p', s', e1, e2, e3, fun R k => ?_⟩
        rw [spec_l1Cur_plan_l10, decide_eq_true h, cond_true, ht, cond_false, hw]
        exact e4 R k
    · exact ⟨need, p, s, hl, by omega, by omega, fun R k => by rw [spec_l1Cur_plan_l10, decide_eq_false h]; rfl⟩
theorem planOuter_ex {x : List Int} (hx : Bytes x) (a : Int) (ha : a ≤ 40) : ∀ (c n : Nat) (q p s : Int) (out : List (Int × List Int)), c + 50 < n → a - q ≤ c → 0 ≤ q → 0 ≤ p → p + 100 * c ≤ 500000 → out.length ≤ 40 - c → c ≤ 40 → (∀ x ∈ out, x.2.length ≤ 10) →
    ∃ out' p' s', PlanIn out' ∧ p ≤ p' ∧ p' ≤ p + 100 * c ∧ ∀ (R : Type) (k : List Int → Int → Int → List (Int × List Int) → Option R), spec_l1Cur_plan_l6 n a q x p s out k = k x p' s' out'
  | _, 0, _, _, _, _, h, _, _, _, _, _, _, _ => by omega
  | 0, n + 1, q, p, s, out, _, hc, _, _, _, hl, _, hb => ⟨out, p, s, ⟨by omega, hb⟩, by omega, by omega, fun R k => by rw [spec_l1Cur_plan_l6, decide_eq_false (show ¬ q < a by omega)]; rfl⟩
  | c + 1, n + 1, q, p, s, out, hn, hc, h0, hp, hp2, hl, hc4, hb => by
    by_cases h : q < a
    · obtain ⟨r, p1, s1, r0, r1, u0, u1, hr⟩ := pick_ex hx n (m := 9) (p := p) (s := s) (by omega) (by omega) (by omega)
      obtain ⟨need, p2, s2, e1, e2, e3, e4⟩ := planInner_ex hx a q out (IntKind.wrap .i64 (1 + r)) (by omega) 40 n 0 p1 s1 [] (by omega) (by omega) (by omega) (by omega) (by omega) (by simp)
      obtain ⟨out', p3, s3, f1, f2, f3, f4⟩ := planOuter_ex hx a ha c n (q + 1) p2 s2 (out ++ [(IntKind.wrap .i64 (1 + r), need)]) (by omega) (by omega) (by omega) (by omega) (by omega) (by simp; omega) (by omega) (fun y hy => by
        rcases List.mem_append.1 hy with hy | hy
        · exact hb y hy
        · rw [List.mem_singleton.1 hy]; show need.length ≤ 10; omega)
      refine ⟨out', p3, s3, f1, by omega, by omega, fun R k => ?_⟩
      rw [spec_l1Cur_plan_l6, decide_eq_true h, cond_true, hr, e4, decide_eq_true (show out.length + [(IntKind.wrap .i64 (1 + r), need)].length ≤ LIM by simp [LIM]; omega), cond_true, wrap64 (x := q + 1) (by omega) (by omega)]
      exact f4 R k
    · exact ⟨out, p, s, ⟨by omega, hb⟩, by omega, by omega, fun R k => by rw [spec_l1Cur_plan_l6, decide_eq_false h]; rfl⟩
theorem plan_ex {x : List Int} (hx : Bytes x) {n : Nat} (hn : 1000 ≤ n) : ∃ l p s, PlanIn l ∧ 0 ≤ p ∧ p ≤ 20000 ∧ ∀ (R : Type) (k : List (Int × List Int) → List Int → Int → Int → Option R), spec_l1Cur_plan n x 0 0 k = k l x p s := by
  obtain ⟨r, p1, s1, r0, r1, u0, u1, hr⟩ := pick_ex hx n (m := 9) (p := 0) (s := 0) (by omega) (by omega) (by omega)
  obtain ⟨b, p2, s2, v0, v1, ht⟩ := oneP_ex hx n (m := 20) (p := p1) (s := s1) (by omega) (by omega) (by omega)
  cases b with
  | true =>
    obtain ⟨q, p3, s3, q0, q1, w0, w1, hq⟩ := pick_ex hx n (m := 2) (p := p2) (s := s2) (by omega) (by omega) (by omega)
    obtain ⟨out, p4, s4, a1, a2, a3, a4⟩ := planOuter_ex hx (IntKind.wrap .i64 (30 + q)) (by rw [wrap64 (by omega) (by omega)]; omega) 40 n 0 p3 s3 [] (by omega) (by rw [wrap64 (by omega) (by omega)]; omega) (by omega) (by omega) (by omega) (by simp) (by omega) (fun y hy => by simp at hy)
    obtain ⟨l', p5, s5, b1, b2, b3, b4⟩ := planTail_ex hx n (p := p4) (s := s4) (by omega) (by omega) a1
    refine ⟨l', p5, s5, b1, b2, by omega, fun R k => ?_⟩
    unfold spec_l1Cur_plan
    rw [hr, ht, cond_true, hq, a4]
    exact b4 R k
  | false =>
    obtain ⟨out, p4, s4, a1, a2, a3, a4⟩ := planOuter_ex hx r (by omega) 40 n 0 p2 s2 [] (by omega) (by omega) (by omega) (by omega) (by omega) (by simp) (by omega) (fun y hy => by simp at hy)
    obtain ⟨l', p5, s5, b1, b2, b3, b4⟩ := planTail_ex hx n (p := p4) (s := s4) (by omega) (by omega) a1
    refine ⟨l', p5, s5, b1, b2, by omega, fun R k => ?_⟩
    unfold spec_l1Cur_plan
    rw [hr, ht, cond_false, a4]
    exact b4 R k
theorem PlanIn.b {l : List (Int × List Int)} (h : PlanIn l) : l.length ≤ 1000 ∧ ∀ x ∈ l, x.2.length ≤ 1000 := ⟨by have := h.1; omega, fun x hx => by have := h.2 x hx; omega⟩
theorem laws_sameInts_loop {R : Type} (xs ys : List Int) (hl : xs.length = ys.length) (hb : xs.length ≤ 9223372036854775807) (kr : Bool → Option R) (ke : Option R) : ∀ (n j : Nat), xs.length - j < n → j ≤ xs.length →
    laws_sameInts_l4 n xs ys (xs.length : Int) (j : Int) kr ke = if xs.drop j = ys.drop j then ke else kr false
  | 0, _, h, _ => by omega
  | n + 1, j, hn, hj => by
    unfold laws_sameInts_l4
    by_cases h : j < xs.length
    · have h' : j < ys.length := by omega
      rw [dlt h, dlt h', dnn, getD_at _ _ h, getD_at _ _ h', wrapS h hb, List.drop_eq_getElem_cons h, List.drop_eq_getElem_cons h']
      simp only [cond_true]
      by_cases he : xs[j] = ys[j]
      · have : (xs[j] != ys[j]) = false := by simp [he]
        rw [this, cond_false, laws_sameInts_loop xs ys hl hb kr ke n (j + 1) (by omega) (by omega)]
        simp only [List.cons.injEq, he, true_and]
      · have : (xs[j] != ys[j]) = true := by simpa using he
        rw [this, cond_true, if_neg fun h => he (List.cons.inj h).1]
    · rw [dge (by omega)]
      have h1 : xs.drop j = [] := List.drop_eq_nil_iff.2 (by omega)
      have h2 : ys.drop j = [] := List.drop_eq_nil_iff.2 (by omega)
      simp [h1, h2]
theorem laws_sameInts_eq {R : Type} {n : Nat} {xs ys : List Int} (hb : xs.length ≤ 9223372036854775807) (hn : xs.length < n) (k : Bool → Option R) : laws_sameInts n xs ys k = k (decide (xs = ys)) := by
  unfold laws_sameInts
  by_cases hl : xs.length = ys.length
  · have : ((xs.length : Int) != (ys.length : Int)) = false := by simp [hl]
    rw [this, cond_false]
    have := laws_sameInts_loop xs ys hl hb k (k true) n 0 (by omega) (by omega)
    simp only [List.drop_zero] at this
    rw [show ((0 : Nat) : Int) = 0 from rfl] at this
    rw [this]
    split <;> simp_all
  · have : ((xs.length : Int) != (ys.length : Int)) = true := by simp; omega
    rw [this, cond_true, decide_eq_false fun h => hl (by rw [h])]
theorem atLoop_ex (x1 : List Int) (l : List (Int × List Int)) {N : Nat} (hN : N ≤ 1000) {o : List Int} (hnd : o.Nodup) (hi : ∀ x ∈ o, 0 ≤ x ∧ x < (N : Int)) (hol : o.length ≤ 1000) : ∀ (n j : Nat) (a : List Int), o.length - j < n → j ≤ o.length → a.length = N → (∀ i x, i < j → o[i]? = some x → a.getD x.toNat 0 = (i : Int)) →
    ∃ a', a'.length = N ∧ Pos o (fun x => a'.getD x.toNat 0) ∧ ∀ (R : Type) (k : List Int → List (Int × List Int) → List Int → Option R), laws_FnOrdered_l11 n x1 l (o.length : Int) (j : Int) a o k = k x1 l a'
  | 0, _, _, h, _, _, _ => by omega
  | n + 1, j, a, hn, hj, ha, hp => by
    by_cases h : j < o.length
    · obtain ⟨h0, h1⟩ := hi _ (List.getElem_mem h)
      obtain ⟨a', e1, e2, e3⟩ := atLoop_ex x1 l hN hnd hi hol n (j + 1) (a.set o[j].toNat (j : Int)) (by omega) (by omega) (by simpa using ha) (fun i x hij hx => by
        have hx0 := hi x (List.mem_of_getElem? hx)
        rw [List.getD_eq_getElem?_getD, List.getElem?_set]
        by_cases c : o[j].toNat = x.toNat
        · have hxe : x = o[j] := by omega
          have p1 := pos_ex hnd i x hx
          have p2 := pos_ex hnd j o[j] (List.getElem?_eq_getElem h)
          rw [hxe] at p1
          rw [p1] at p2
          rw [if_pos c, if_pos (by omega)]
          show (j : Int) = i
          omega
        · rw [if_neg c]
          have hne : i ≠ j := fun e => by
            subst e
            rw [List.getElem?_eq_getElem h] at hx
            cases hx
            exact c rfl
          have := hp i x (by omega) hx
          rw [List.getD_eq_getElem?_getD] at this
          exact this)
      refine ⟨a', e1, e2, fun R k => ?_⟩
      rw [laws_FnOrdered_l11, dlt h, dnn, getD_at _ _ h, decide_eq_true h0, ha, decide_eq_true h1, wrapS h (by omega)]
      exact e3 R k
    · refine ⟨a, ha, fun i x hx => hp i x (by have := (List.getElem?_eq_some_iff.1 hx).1; omega) hx, fun R k => ?_⟩
      rw [laws_FnOrdered_l11, dge (by omega)]
      rfl
theorem inner_law {R : Type} (x1 : List Int) (l : List (Int × List Int)) {N : Nat} (t b c : Int) (t0 : 0 ≤ t) (t1 : t < N) {a : List Int} (ha : a.length = N) {A : List Int} (hA : A.length ≤ 1000) (hl : ∀ x ∈ A, 0 ≤ x ∧ x < (N : Int) ∧ a.getD x.toNat 0 < a.getD t.toNat 0) (kr : Bool → Option R) (k : List Int → List (Int × List Int) → Int → Int → List Int → Option R) : ∀ (n j : Nat), A.length - j < n → j ≤ A.length →
    laws_FnOrdered_l22 n x1 l t b c (A.length : Int) (j : Int) a A kr k = k x1 l b c a
  | 0, _, h, _ => by omega
  | n + 1, j, hn, hj => by
    rw [laws_FnOrdered_l22]
    by_cases h : j < A.length
    · obtain ⟨h0, h1, h2⟩ := hl _ (List.getElem_mem h)
      rw [dlt h, dnn, getD_at _ _ h, decide_eq_true h0, ha, decide_eq_true h1, decide_eq_true t0, decide_eq_true t1, decide_eq_false (show ¬ a.getD A[j].toNat 0 ≥ a.getD t.toNat 0 by omega), wrapS h (by omega)]
      exact inner_law x1 l t b c t0 t1 ha hA hl kr k n (j + 1) (by omega) (by omega)
    · rw [dge (by omega)]; rfl
theorem outer_law {R : Type} (x1 : List Int) {l : List (Int × List Int)} (hF : Full l) (hb : ∀ x ∈ l, x.2.length ≤ 1000) {a : List Int} (ha : a.length = l.length) (hp : Pos (ord l) fun x => a.getD x.toNat 0) (kr : Bool → Option R) (k : List Int → Option R) : ∀ (c n j : Nat), c + 20000 < n → j + c = l.length →
    laws_FnOrdered_l16 n x1 l (l.length : Int) (j : Int) a kr k = k x1
  | _, 0, _, h, _ => by omega
  | 0, n + 1, j, hn, hj => by rw [laws_FnOrdered_l16, dge (by omega)]; rfl
  | c + 1, n + 1, j, hn, hj => by
    have h30 := hF.ok.len
    have h : j < l.length := by omega
    obtain ⟨ok, A, hA, e1, _, e3, e4⟩ := needsAll_ex (n := n) (l := l) (by omega) hb (by omega) (j : Int)
    rw [laws_FnOrdered_l16, dlt h, cond_true, e1, e3 hF (by omega) (by omega)]
    simp only [Bool.not_true, cond_false]
    have := inner_law x1 l (N := l.length) (j : Int) (l.length : Int) (j : Int) (by omega) (by omega) ha hA (e4 hF _ hp) (fun r12 => kr r12) (fun r13 r14 r15 r16 r17 => laws_FnOrdered_l16 n r13 r14 r15 (IntKind.wrap .i64 (r16 + 1)) r17 kr k) n 0 (by omega) (by omega)
    rw [show ((0 : Nat) : Int) = 0 from rfl] at this
    rw [this, wrapS h (by omega)]
    exact outer_law x1 hF hb ha hp kr k c n (j + 1) (by omega) (by omega)
theorem rest {R : Type} {n : Nat} {x1 : List Int} (h1 : Bytes x1) (hn : 50000 ≤ n) (k : Bool → Option R) : (spec_DrawNeedsAll n x1 fun r27 r28 => (impl_NeedsAll n r28 r27 fun r29 r30 => (spec_NeedsAll n r28 r27 fun r31 r32 => (bif (r29 == r31) then (laws_sameInts n r30 r32 fun r33 => k r33) else k false)))) = k true := by
  obtain ⟨l, p, s, hl, p0, p1, hd⟩ := plan_ex h1 (n := n) (by omega)
  have hlen := hl.1
  obtain ⟨r, p2, s2, r0, r1, u0, u1, hr⟩ := pick_ex h1 n (m := IntKind.wrap .i64 ((l.length : Int) + 2)) (p := p) (s := s) (by rw [wrap64 (by omega) (by omega)]; omega) (by omega) (by omega)
  obtain ⟨ok, A, hA, e1, e2, _, _⟩ := needsAll_ex (n := n) (l := l) hl.b.1 hl.b.2 (by omega) (IntKind.wrap .i64 (r - 1))
  unfold spec_DrawNeedsAll
  rw [hd, hr]
  dsimp only
  rw [e1, e2, beq_self_eq_true, cond_true, laws_sameInts_eq (by omega) (by omega), decide_eq_true rfl]
theorem impl_OrderOf_eq {R : Type} {n : Nat} {l : List (Int × List Int)} (hl : l.length ≤ 1000) (hb : ∀ x ∈ l, x.2.length ≤ 1000) (hn : 10000 ≤ n) (k : Bool → List Int → Option R) : impl_OrderOf n l k = bif goodP l then k true (ord l) else k false [] := by
  unfold impl_OrderOf
  rw [impl_GoodPlan_eq hl hb (by omega)]
  cases hG : goodP l with
  | false => rfl
  | true => simp only [Bool.not_true, cond_false, cond_true]; exact impl_order_eq (goodP_ok hG).1 (by omega) _
theorem spec_OrderOf_eq {R : Type} {n : Nat} {l : List (Int × List Int)} (hl : l.length ≤ 1000) (hb : ∀ x ∈ l, x.2.length ≤ 1000) (hn : 10000 ≤ n) (k : List Int → Bool → Option R) : spec_OrderOf n l k = bif goodP l then k (ord l) true else k [] false := by
  unfold spec_OrderOf
  rw [spec_GoodPlan_eq hl hb (by omega)]
  cases hG : goodP l with
  | false => rfl
  | true =>
    simp only [Bool.not_true, cond_false, cond_true]
    rw [spec_order_eq (goodP_ok hG).1 (by omega), decide_eq_true (goodP_ok hG).2]
    rfl
theorem key {R : Type} {n : Nat} (x0 x1 : List Int) (h0 : Bytes x0) (h1 : Bytes x1) (hn : 50000 ≤ n) (k : Bool → Option R) : laws_FnOrdered n x0 x1 k = k true := by
  unfold laws_FnOrdered
  by_cases hg : IntKind.wrap .i64 ((x0.length : Int) + (x1.length : Int)) > 1048576
  · rw [decide_eq_true hg]; rfl
  rw [decide_eq_false hg, cond_false]
  obtain ⟨l, p, s, hl, p0, p1, hd⟩ := plan_ex h0 (n := n) (by omega)
  unfold spec_DrawOrderOf spec_DrawGoodPlan
  rw [hd]
  simp only [impl_OrderOf_eq hl.b.1 hl.b.2 (show 10000 ≤ n by omega), spec_OrderOf_eq hl.b.1 hl.b.2 (show 10000 ≤ n by omega)]
  cases hG : goodP l with
  | false =>
    simp only [beq_self_eq_true, Bool.not_true, cond_false]
    rw [laws_sameInts_eq (by simp) (by simp; omega), decide_eq_true rfl]
    simp only [Bool.not_true, cond_false]
    exact rest h1 hn k
  | true =>
    obtain ⟨hp, hc⟩ := goodP_ok hG
    have hF : Full l := ⟨hp, hc⟩
    have h30 := hp.len
    simp only [cond_true, beq_self_eq_true, Bool.not_true, cond_false]
    rw [laws_sameInts_eq (by omega) (by omega), decide_eq_true rfl]
    simp only [Bool.not_true, cond_false]
    obtain ⟨a, a1, a2, a3⟩ := atLoop_ex x1 l (N := l.length) (by omega) (ord_ok l).nd (ord_ok l).inn (by omega) n 0 (List.replicate (Int.toNat (l.length : Int)) (0 : Int)) (by omega) (by omega) (by simp) (fun i x hi => by omega)
    rw [show ((0 : Nat) : Int) = 0 from rfl] at a3
    rw [decide_eq_true (show (0 : Int) ≤ (l.length : Int) by omega), decide_eq_true (show (l.length : Int) ≤ (l.length : Int) by omega), decide_eq_true (show (l.length : Int) ≤ 1099511627776 by omega)]
    simp only [cond_true]
    rw [a3]
    have := outer_law x1 hF hl.b.2 a1 a2 (fun r18 => k r18) (fun r19 => (spec_DrawNeedsAll n r19 fun r20 r21 => (impl_NeedsAll n r21 r20 fun r22 r23 => (spec_NeedsAll n r21 r20 fun r24 r25 => (bif (r22 == r24) then (laws_sameInts n r23 r25 fun r26 => k r26) else k false))))) l.length n 0 (by omega) (by omega)
    rw [show ((0 : Nat) : Int) = 0 from rfl] at this
    rw [this]
    exact rest h1 hn k
theorem plain : Plain := fun x0 x1 h0 h1 R k => ⟨_, key x0 x1 (fun x hx => h0.2 x hx) (fun x hx => h1.2 x hx) (Nat.le_refl _) k⟩
end Go.Am.G
