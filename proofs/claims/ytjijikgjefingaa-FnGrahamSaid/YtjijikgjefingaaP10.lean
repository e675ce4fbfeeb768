/- The plain law: what the functions compute answers as the law says, for all arguments. -/
import Derived.Test.YtjijikgjefingaaF10
set_option linter.unusedVariables false
set_option linter.unusedSimpArgs false
namespace Go.Am.G
open Go Go.Am
theorem wrap64 {x : Int} (h1 : -9223372036854775808 ≤ x) (h2 : x ≤ 9223372036854775807) : IntKind.wrap .i64 x = x := by
  simp only [IntKind.wrap, IntKind.signed, IntKind.bits]
  simp
  omega
theorem getD_at {α : Type} (l : List α) (d : α) {j : Nat} (h : j < l.length) : l.getD (Int.toNat (j : Int)) d = l[j] := by
  rw [Int.toNat_natCast, List.getD_eq_getElem?_getD, List.getElem?_eq_getElem h]; rfl
theorem dlt {a b : Nat} (h : a < b) : decide ((a : Int) < (b : Int)) = true := decide_eq_true (by omega)
theorem dge {a b : Nat} (h : b ≤ a) : decide ((a : Int) < (b : Int)) = false := decide_eq_false (by omega)
theorem dnn (a : Nat) : decide (0 ≤ (a : Int)) = true := decide_eq_true (by omega)
theorem wrapS {j m : Nat} (h : j < m) (hm : m ≤ 9223372036854775807) : IntKind.wrap .i64 ((j : Int) + 1) = ((j + 1 : Nat) : Int) := by
  rw [wrap64 (by omega) (by omega)]; rfl
theorem spec_l1In_eq {R : Type} (n : Nat) (x a b : Int) (k : Bool → Option R) : spec_l1In n x a b k = k (decide (a ≤ x ∧ x ≤ b)) := by
  simp only [spec_l1In]
  by_cases h : x ≥ a
  · have : a ≤ x := h
    simp [this]
  · have : ¬ a ≤ x := h
    simp [this]
theorem impl_in_eq {R : Type} (n : Nat) (x a b : Int) (k : Bool → Option R) : impl_in n x a b k = k (decide (a ≤ x ∧ x ≤ b)) := by
  simp only [impl_in]
  by_cases h : x ≥ a
  · have : a ≤ x := h
    simp [this]
  · have : ¬ a ≤ x := h
    simp [this]
/-- Numbers that rise, from above one to below another. -/
def riseTo (B : Int) : Int → List Int → Bool
  | _, [] => true
  | v, x :: r => decide (v < x ∧ x < B) && riseTo B x r
theorem riseTo_iff {B : Int} : ∀ {l : List Int} {v : Int}, riseTo B v l = true ↔ l.Pairwise (· < ·) ∧ ∀ x ∈ l, v < x ∧ x < B
  | [], v => by simp [riseTo]
  | y :: r, v => by
    have ih := riseTo_iff (B := B) (l := r) (v := y)
    simp only [riseTo, Bool.and_eq_true, decide_eq_true_eq, ih, List.pairwise_cons, List.mem_cons]
    constructor
    · rintro ⟨h1, h2, h3⟩
      refine ⟨⟨fun x hx => (h3 x hx).1, h2⟩, fun x hx => ?_⟩
      rcases hx with rfl | hx
      · exact h1
      · have := h3 x hx
        omega
    · rintro ⟨⟨h1, h2⟩, h3⟩
      exact ⟨h3 y (.inl rfl), h2, fun x hx => ⟨h1 x hx, (h3 x (.inr hx)).2⟩⟩
theorem spec_l3List_loop {R : Type} (l : List Int) (hb : l.length ≤ 9223372036854775807) {B : Int} (hB : 0 ≤ B) (hB2 : B ≤ 1000) (kr : Bool → Option R) (ke : Option R) : ∀ (n j : Nat) (v : Int), l.length - j < n → j ≤ l.length → -1 ≤ v →
    (j = 0 → v = -1) → (∀ (h : j - 1 < l.length), 0 < j → l[j - 1] = v) →
    spec_l3List_l2 n l B l (l.length : Int) (j : Int) kr ke = bif riseTo B v (l.drop j) then ke else kr false
  | 0, _, _, h, _, _, _, _ => by omega
  | n + 1, j, v, hn, hj, hv, h0, h1 => by
    unfold spec_l3List_l2
    by_cases h : j < l.length
    · rw [dlt h, dnn, getD_at _ _ h, wrapS h hb, List.drop_eq_getElem_cons h, wrap64 (x := B - 1) (by omega) (by omega)]
      simp only [cond_true, spec_l1In_eq, riseTo]
      have ih := fun (h2 : -1 ≤ l[j]) => spec_l3List_loop l hb hB hB2 kr ke n (j + 1) l[j] (by omega) (by omega) h2 (by omega) (fun _ _ => rfl)
      by_cases hz : j = 0
      · have hv := h0 hz
        subst hv
        rw [decide_eq_false (show ¬ ((j : Int) > 0) by omega)]
        by_cases c1 : 0 ≤ l[j] ∧ l[j] ≤ B - 1
        · rw [decide_eq_true c1, decide_eq_true (show -1 < l[j] ∧ l[j] < B by omega)]
          simp only [Bool.not_true, cond_false, Bool.true_and]
          exact ih (by omega)
        · rw [decide_eq_false c1, decide_eq_false (show ¬ (-1 < l[j] ∧ l[j] < B) by omega)]; rfl
      · have hp : j - 1 < l.length := by omega
        have hq := h1 hp (by omega)
        rw [decide_eq_true (show ((j : Int) > 0) by omega), wrap64 (x := (j : Int) - 1) (by omega) (by omega), show (j : Int) - 1 = ((j - 1 : Nat) : Int) by omega, dnn, dlt hp, getD_at _ _ hp, hq]
        simp only [cond_true]
        by_cases c1 : 0 ≤ l[j] ∧ l[j] ≤ B - 1
        · rw [decide_eq_true c1]
          simp only [Bool.not_true, cond_false]
          by_cases c3 : v < l[j]
          · rw [decide_eq_false (show ¬ (v ≥ l[j]) by omega), decide_eq_true (show v < l[j] ∧ l[j] < B by omega)]
            simp only [cond_false, Bool.true_and]
            exact ih (by omega)
          · rw [decide_eq_true (show (v ≥ l[j]) by omega), decide_eq_false (show ¬ (v < l[j] ∧ l[j] < B) by omega)]; rfl
        · rw [decide_eq_false c1, decide_eq_false (show ¬ (v < l[j] ∧ l[j] < B) by omega)]; rfl
    · rw [dge (by omega), List.drop_eq_nil_iff.2 (by omega)]; rfl
theorem spec_l3List_eq {R : Type} {n : Nat} {l : List Int} (hb : l.length ≤ 9223372036854775807) {B : Int} (hB : 0 ≤ B) (hB2 : B ≤ 1000) (hn : l.length < n) (k : Bool → Option R) : spec_l3List n l B k = k (riseTo B (-1) l) := by
  unfold spec_l3List
  have := spec_l3List_loop l hb hB hB2 k (k true) n 0 (-1) (by omega) (by omega) (by omega) (fun _ => rfl) (fun _ h => by omega)
  rw [show ((0 : Nat) : Int) = 0 from rfl, List.drop_zero] at this
  rw [this]
  cases riseTo B (-1) l <;> rfl
theorem impl_rising_loop {R : Type} (l : List Int) (hb : l.length ≤ 9223372036854775807) {B : Int} (hB : 0 ≤ B) (hB2 : B ≤ 1000) (kr : Bool → Option R) (ke : Option R) : ∀ (n j : Nat) (v : Int), l.length - j < n → j ≤ l.length → -1 ≤ v →
    (j = 0 → v = -1) → (∀ (h : j - 1 < l.length), 0 < j → l[j - 1] = v) →
    impl_rising_l2 n l B l (l.length : Int) (j : Int) kr ke = bif riseTo B v (l.drop j) then ke else kr false
  | 0, _, _, h, _, _, _, _ => by omega
  | n + 1, j, v, hn, hj, hv, h0, h1 => by
    unfold impl_rising_l2
    by_cases h : j < l.length
    · rw [dlt h, dnn, getD_at _ _ h, wrapS h hb, List.drop_eq_getElem_cons h, wrap64 (x := B - 1) (by omega) (by omega)]
      simp only [cond_true, impl_in_eq, riseTo]
      have ih := fun (h2 : -1 ≤ l[j]) => impl_rising_loop l hb hB hB2 kr ke n (j + 1) l[j] (by omega) (by omega) h2 (by omega) (fun _ _ => rfl)
      by_cases hz : j = 0
      · have hv := h0 hz
        subst hv
        rw [decide_eq_false (show ¬ ((j : Int) > 0) by omega)]
        by_cases c1 : 0 ≤ l[j] ∧ l[j] ≤ B - 1
        · rw [decide_eq_true c1, decide_eq_true (show -1 < l[j] ∧ l[j] < B by omega)]
          simp only [Bool.not_true, cond_false, Bool.true_and]
          exact ih (by omega)
        · rw [decide_eq_false c1, decide_eq_false (show ¬ (-1 < l[j] ∧ l[j] < B) by omega)]; rfl
      · have hp : j - 1 < l.length := by omega
        have hq := h1 hp (by omega)
        rw [decide_eq_true (show ((j : Int) > 0) by omega), wrap64 (x := (j : Int) - 1) (by omega) (by omega), show (j : Int) - 1 = ((j - 1 : Nat) : Int) by omega, dnn, dlt hp, getD_at _ _ hp, hq]
        simp only [cond_true]
        by_cases c1 : 0 ≤ l[j] ∧ l[j] ≤ B - 1
        · rw [decide_eq_true c1]
          simp only [Bool.not_true, cond_false]
          by_cases c3 : v < l[j]
          · rw [decide_eq_false (show ¬ (v ≥ l[j]) by omega), decide_eq_true (show v < l[j] ∧ l[j] < B by omega)]
            simp only [cond_false, Bool.true_and]
            exact ih (by omega)
          · rw [decide_eq_true (show (v ≥ l[j]) by omega), decide_eq_false (show ¬ (v < l[j] ∧ l[j] < B) by omega)]; rfl
        · rw [decide_eq_false c1, decide_eq_false (show ¬ (v < l[j] ∧ l[j] < B) by omega)]; rfl
    · rw [dge (by omega), List.drop_eq_nil_iff.2 (by omega)]; rfl
theorem impl_rising_eq {R : Type} {n : Nat} {l : List Int} (hb : l.length ≤ 9223372036854775807) {B : Int} (hB : 0 ≤ B) (hB2 : B ≤ 1000) (hn : l.length < n) (k : Bool → Option R) : impl_rising n l B k = k (riseTo B (-1) l) := by
  unfold impl_rising
  have := impl_rising_loop l hb hB hB2 k (k true) n 0 (-1) (by omega) (by omega) (by omega) (fun _ => rfl) (fun _ h => by omega)
  rw [show ((0 : Nat) : Int) = 0 from rfl, List.drop_zero] at this
  rw [this]
  cases riseTo B (-1) l <;> rfl
def needs (l : List (Int × List Int)) (x : Int) : List Int := (l.getD x.toNat (0, [])).2
structure PlanOk (l : List (Int × List Int)) : Prop where
  len : l.length ≤ 30
  long : ∀ x : Int, 0 ≤ x → x < l.length → 1 ≤ (l.getD x.toNat (0, [])).1 ∧ (l.getD x.toNat (0, [])).1 ≤ 100
  rise : ∀ x : Int, 0 ≤ x → x < l.length → riseTo l.length (-1) (needs l x) = true
  self : ∀ x : Int, 0 ≤ x → x < l.length → x ∉ needs l x
theorem PlanOk.inn {l : List (Int × List Int)} (h : PlanOk l) {x n : Int} (h0 : 0 ≤ x) (h1 : x < l.length) (hn : n ∈ needs l x) : 0 ≤ n ∧ n < l.length := by
  have := (riseTo_iff.1 (h.rise x h0 h1)).2 n hn
  omega
theorem nodup_len : ∀ (N : Nat) (l : List Int), l.Nodup → (∀ x ∈ l, 0 ≤ x ∧ x < N) → l.length ≤ N
  | 0, l, _, h => by
    cases l with
    | nil => simp
    | cons x l => have := h x (List.mem_cons_self ..); omega
  | N + 1, l, hn, h => by
    have ih := nodup_len N (l.erase (N : Int)) (hn.erase _) (fun x hx => by
      have h1 := (hn.mem_erase_iff).1 hx
      have h2 := h x h1.2
      have h3 := h1.1
      omega)
    by_cases c : (N : Int) ∈ l
    · rw [List.length_erase_of_mem c] at ih
      omega
    · rw [List.erase_of_not_mem c] at ih
      omega
theorem PlanOk.nlen {l : List (Int × List Int)} (h : PlanOk l) {x : Int} (h0 : 0 ≤ x) (h1 : x < l.length) : (needs l x).length ≤ 30 := by
  have h2 := riseTo_iff.1 (h.rise x h0 h1)
  have h3 := nodup_len l.length (needs l x) (h2.1.imp fun hab => by omega) (fun n hn => h.inn h0 h1 hn)
  exact Nat.le_trans h3 h.len
def rdy (l : List (Int × List Int)) (out : List Int) (k : Nat) : Bool := !decide ((k : Int) ∈ out) && (needs l k).all fun n => decide (n ∈ out)
def pickF (l : List (Int × List Int)) (out : List Int) : Nat → Nat → Option Nat
  | 0, _ => none
  | c + 1, j => bif rdy l out j then some j else pickF l out c (j + 1)
def ordO (l : List (Int × List Int)) : Nat → List Int → List Int
  | 0, out => out
  | f + 1, out => match pickF l out l.length 0 with
    | none => out
    | some k => ordO l f (out ++ [(k : Int)])
def ord (l : List (Int × List Int)) : List Int := ordO l (l.length + 1) []
structure OutOk (l : List (Int × List Int)) (out : List Int) : Prop where
  nd : out.Nodup
  inn : ∀ x ∈ out, 0 ≤ x ∧ x < (l.length : Int)
  pre : ∀ i x, out[i]? = some x → ∀ n ∈ needs l x, n ∈ out.take i
theorem OutOk.len {l : List (Int × List Int)} {out : List Int} (h : OutOk l out) : out.length ≤ l.length := nodup_len l.length out h.nd h.inn
theorem pickF_some {l : List (Int × List Int)} {out : List Int} : ∀ {c j k : Nat}, pickF l out c j = some k → j ≤ k ∧ k < j + c ∧ rdy l out k = true
  | 0, _, _, h => by cases h
  | c + 1, j, k, h => by
    unfold pickF at h
    cases hr : rdy l out j with
    | true =>
      rw [hr] at h
      cases h
      exact ⟨Nat.le_refl _, by omega, hr⟩
    | false =>
      rw [hr] at h
      obtain ⟨a, b, c⟩ := pickF_some (show pickF l out c (j + 1) = some k from h)
      exact ⟨by omega, by omega, c⟩
theorem OutOk.nil (l : List (Int × List Int)) : OutOk l [] := ⟨List.nodup_nil, fun x h => by simp at h, fun i x h => by simp at h⟩
theorem OutOk.step {l : List (Int × List Int)} {out : List Int} (h : OutOk l out) {k : Nat} (hk : pickF l out l.length 0 = some k) : OutOk l (out ++ [(k : Int)]) := by
  obtain ⟨_, h1, h2⟩ := pickF_some hk
  simp only [rdy, Bool.and_eq_true, Bool.not_eq_true', decide_eq_false_iff_not, List.all_eq_true, decide_eq_true_eq] at h2
  refine ⟨?_, fun x hx => ?_, fun i x hx n hn => ?_⟩
  · rw [List.nodup_append]
    refine ⟨h.nd, by simp, fun a ha b hb e => ?_⟩
    rw [List.mem_singleton.1 hb] at e
    exact h2.1 (e ▸ ha)
  · rcases List.mem_append.1 hx with hx | hx
    · exact h.inn x hx
    · rw [List.mem_singleton.1 hx]; omega
  · by_cases c : i < out.length
    · rw [List.getElem?_append_left c] at hx
      rw [List.take_append_of_le_length (by omega)]
      exact h.pre i x hx n hn
    · rw [List.getElem?_append_right (by omega)] at hx
      have hi : i - out.length = 0 := by
        have := (List.getElem?_eq_some_iff.1 hx).1
        simp at this; omega
      rw [hi] at hx
      simp at hx
      subst hx
      rw [show i = out.length by omega, List.take_left]
      exact h2.2 n hn
theorem ordO_ok {l : List (Int × List Int)} : ∀ (f : Nat) (out : List Int), OutOk l out → OutOk l (ordO l f out)
  | 0, _, h => h
  | f + 1, out, h => by
    unfold ordO
    cases e : pickF l out l.length 0 with
    | none => exact h
    | some k => exact ordO_ok f _ (h.step e)
theorem ord_ok (l : List (Int × List Int)) : OutOk l (ord l) := ordO_ok _ _ (.nil l)
theorem has_idx (out : List Int) (x : Int) (j : Nat) (h : j < out.length) : (decide (x ∈ out.drop j)) = ((x == out[j]) || decide (x ∈ out.drop (j + 1))) := by
  rw [List.drop_eq_getElem_cons h]
  by_cases c : x = out[j]
  · rw [decide_eq_true (show x ∈ out[j] :: out.drop (j + 1) by rw [c]; exact List.mem_cons_self ..), show (x == out[j]) = true by simp [c], Bool.true_or]
  · have : (x == out[j]) = false := by simpa using c
    rw [this, Bool.false_or]
    exact decide_eq_decide.2 (by rw [List.mem_cons]; exact ⟨fun h => h.resolve_left c, .inr⟩)
theorem spec_l1Has_loop {R : Type} (out : List Int) (x : Int) (hl : out.length ≤ 1048576) (kr : Bool → Option R) (ke : Option R) : ∀ (n j : Nat), out.length - j < n → j ≤ out.length → spec_l1Has_l2 n x out (out.length : Int) (j : Int) kr ke = bif decide (x ∈ out.drop j) then kr true else ke
  | 0, _, h, _ => by omega
  | n + 1, j, hn, hj => by
    rw [spec_l1Has_l2]
    by_cases h : j < out.length
    · rw [dlt h, dnn, getD_at _ _ h, wrapS h (by omega), has_idx out x j h, Bool.beq_comm (a := x)]
      simp only [cond_true]
      cases out[j] == x with
      | true => rfl
      | false => exact spec_l1Has_loop out x hl kr ke n (j + 1) (by omega) (by omega)
    · rw [dge (by omega), List.drop_eq_nil_iff.2 (by omega)]; rfl
theorem spec_l1Has_eq {R : Type} {n : Nat} {out : List Int} (x : Int) (hl : out.length ≤ 1048576) (hn : out.length < n) (k : Bool → Option R) : spec_l1Has n out x k = k (decide (x ∈ out)) := by
  unfold spec_l1Has
  have := spec_l1Has_loop out x hl k (k false) n 0 (by omega) (by omega)
  rw [show ((0 : Nat) : Int) = 0 from rfl, List.drop_zero] at this
  rw [this]
  cases decide (x ∈ out) <;> rfl
theorem slices_Index_loop {R : Type} (out : List Int) (x : Int) (hl : out.length ≤ 1048576) (k : Bool → Option R) : ∀ (n j : Nat), out.length - j < n → j ≤ out.length → slices_Index_int_l2 n out x (out.length : Int) (j : Int) (fun r1 => k (decide (r1 ≥ 0))) (k (decide ((-1 : Int) ≥ 0))) = k (decide (x ∈ out.drop j))
  | 0, _, h, _ => by omega
  | n + 1, j, hn, hj => by
    rw [slices_Index_int_l2]
    by_cases h : j < out.length
    · rw [dlt h, dnn, getD_at _ _ h, wrapS h (by omega), has_idx out x j h]
      simp only [cond_true]
      cases x == out[j] with
      | true => simp only [cond_true, decide_eq_true (show (j : Int) ≥ 0 by omega), Bool.true_or]
      | false => exact slices_Index_loop out x hl k n (j + 1) (by omega) (by omega)
    · rw [dge (by omega), List.drop_eq_nil_iff.2 (by omega)]; rfl
theorem slices_Contains_eq {R : Type} {n : Nat} {out : List Int} (x : Int) (hl : out.length ≤ 1048576) (hn : out.length < n) (k : Bool → Option R) : slices_Contains_int n out x k = k (decide (x ∈ out)) := by
  unfold slices_Contains_int slices_Index_int
  have := slices_Index_loop out x hl k n 0 (by omega) (by omega)
  rw [show ((0 : Nat) : Int) = 0 from rfl, List.drop_zero] at this
  exact this
/-- Flags of what is in a list. -/
def Flags (N : Nat) (done : List Bool) (S : Int → Prop) : Prop := done.length = N ∧ ∀ x : Int, 0 ≤ x → x < N → (done.getD x.toNat false = true ↔ S x)
theorem Flags.get {N : Nat} {done : List Bool} {S : Int → Prop} (h : Flags N done S) {x : Int} [Decidable (S x)] (h0 : 0 ≤ x) (h1 : x < N) : done.getD x.toNat false = decide (S x) := by
  have := h.2 x h0 h1
  cases e : done.getD x.toNat false with
  | true => rw [decide_eq_true (this.1 e)]
  | false => rw [decide_eq_false fun hs => by rw [this.2 hs] at e; cases e]
theorem getD_setB {l : List Bool} {i j : Nat} (v : Bool) (h : j < l.length) : (l.set i v).getD j false = if i = j then v else l.getD j false := by
  rw [List.getD_eq_getElem?_getD, List.getD_eq_getElem?_getD, List.getElem?_set]
  by_cases c : i = j
  · subst c; simp [h]
  · simp [c]
theorem Flags.set {N : Nat} {done : List Bool} {S : Int → Prop} (h : Flags N done S) {y : Int} (h0 : 0 ≤ y) (h1 : y < N) : Flags N (done.set y.toNat true) fun x => S x ∨ x = y :=
  ⟨by rw [List.length_set]; exact h.1, fun x x0 x1 => by
    have := h.2 x x0 x1
    rw [getD_setB _ (by rw [h.1]; omega)]
    split
    · rename_i e; exact ⟨fun _ => .inr (by omega), fun _ => rfl⟩
    · rename_i e; rw [this]; exact ⟨.inl, fun h => h.resolve_right fun e2 => e (by omega)⟩⟩
theorem Flags.congr {N : Nat} {done : List Bool} {S S' : Int → Prop} (h : Flags N done S) (hs : ∀ x : Int, 0 ≤ x → x < N → (S x ↔ S' x)) : Flags N done S' := ⟨h.1, fun x a b => (h.2 x a b).trans (hs x a b)⟩
theorem impl_readyS {R : Type} (done : List Bool) {N : Nat} {out : List Int} (hf : Flags N done (· ∈ out)) (ns : List Int) (hl : ns.length ≤ 1048576) (hns : ∀ x ∈ ns, 0 ≤ x ∧ x < (N : Int)) (k : Bool → List Bool → Option R) : ∀ (n j : Nat), ns.length - j < n → j ≤ ns.length →
    slices_IndexFunc_int_impl_order_c1_l2 n ns (ns.length : Int) (j : Int) done (fun r3 r4 => k (decide (r3 ≥ 0)) r4) (fun r5 => k (decide ((-1 : Int) ≥ 0)) r5) = k (!(ns.drop j).all fun x => decide (x ∈ out)) done
  | 0, _, h, _ => by omega
  | n + 1, j, hn, hj => by
    rw [slices_IndexFunc_int_impl_order_c1_l2]
    by_cases h : j < ns.length
    · obtain ⟨h0, h1⟩ := hns _ (List.getElem_mem h)
      rw [dlt h, dnn, getD_at _ _ h, wrapS h (by omega), List.drop_eq_getElem_cons h, List.all_cons]
      simp only [cond_true, impl_order_c1, decide_eq_true h0, hf.1, decide_eq_true h1, hf.get h0 h1]
      cases decide (ns[j] ∈ out) with
      | true => exact impl_readyS done hf ns hl hns k n (j + 1) (by omega) (by omega)
      | false => simp only [Bool.not_false, cond_true, decide_eq_true (show (j : Int) ≥ 0 by omega), Bool.false_and]
    · rw [dge (by omega), List.drop_eq_nil_iff.2 (by omega)]; rfl
theorem impl_pick {R : Type} {l : List (Int × List Int)} (hp : PlanOk l) {out : List Int} {done : List Bool} (hf : Flags l.length done (· ∈ out)) (k : List (Int × List Int) → Int → List Int → List Bool → Option R) : ∀ (c n j : Nat), c + 100 < n → j + c = l.length →
    impl_order_l4 n l (-1) l (l.length : Int) (j : Int) out done k = k l (match pickF l out c j with
      | none => -1
      | some k => (k : Int)) out done
  | c, 0, _, h, _ => by omega
  | 0, n + 1, j, hn, hj => by
    rw [impl_order_l4, dge (by omega)]; rfl
  | c + 1, n + 1, j, hn, hj => by
    have h : j < l.length := by omega
    have hlen30 := hp.len
    have hd : (decide ((j : Int) < (done.length : Int))) = true := by rw [hf.1]; exact dlt h
    rw [impl_order_l4, dlt h, dnn, getD_at _ _ h, wrapS h (by omega), hd]
    have hg : done.getD (Int.toNat (j : Int)) false = decide ((j : Int) ∈ out) := hf.get (x := (j : Int)) (by omega) (by omega)
    have hn1 : needs l (j : Int) = l[j].2 := by unfold needs; rw [getD_at _ _ h]
    rw [hg, pickF, rdy, hn1]
    simp only [cond_true]
    by_cases hm : (j : Int) ∈ out
    · rw [decide_eq_true hm]
      exact impl_pick hp hf k c n (j + 1) (by omega) (by omega)
    · rw [decide_eq_false hm]
      simp only [Bool.not_false, cond_true, Bool.true_and]
      unfold slices_ContainsFunc_int_impl_order_c1 slices_IndexFunc_int_impl_order_c1
      have hlen : l[j].2.length ≤ 30 := by rw [← hn1]; exact hp.nlen (by omega) (by omega)
      have := impl_readyS done hf l[j].2 (by omega) (fun x hx => hp.inn (x := (j : Int)) (by omega) (by omega) (by rw [hn1]; exact hx)) (fun r1 r2 => (bif (!r1) then k l (j : Int) out r2 else impl_order_l4 n l (-1) l (l.length : Int) ((j + 1 : Nat) : Int) out r2 k)) n 0 (by omega) (by omega)
      rw [show ((0 : Nat) : Int) = 0 from rfl, List.drop_zero] at this
      rw [this]
      cases (l[j].2.all fun n => decide (n ∈ out)) with
      | true => rfl
      | false => exact impl_pick hp hf k c n (j + 1) (by omega) (by omega)
theorem impl_order_loop {R : Type} {l : List (Int × List Int)} (hp : PlanOk l) (k : List Int → Option R) : ∀ (f n : Nat) (out : List Int) (done : List Bool), f + 200 < n → OutOk l out → Flags l.length done (· ∈ out) → l.length < f + out.length →
    impl_order_l2 n l out done k = k (ordO l f out)
  | 0, n, out, done, _, ho, _, hlt => by have := ho.len; omega
  | f + 1, 0, _, _, h, _, _, _ => by omega
  | f + 1, n + 1, out, done, hn, ho, hf, hlt => by
    have hlen := hp.len
    rw [impl_order_l2]
    have hpk := impl_pick hp hf (fun r3 r4 r5 r6 => (bif (decide (r4 < 0)) then k r5 else (bif decide (0 ≤ r4) then (bif decide (r4 < (r6.length : Int)) then (bif decide (r5.length + [r4].length ≤ LIM) then impl_order_l2 n r3 (r5 ++ [r4]) (r6.set (Int.toNat r4) true) k else none) else none) else none))) l.length n 0 (by omega) (by omega)
    rw [show ((0 : Nat) : Int) = 0 from rfl] at hpk
    rw [hpk, ordO]
    cases e : pickF l out l.length 0 with
    | none => rfl
    | some q =>
      obtain ⟨_, h1, _⟩ := pickF_some e
      have hol := ho.len
      simp only
      rw [decide_eq_false (show ¬ (q : Int) < 0 by omega), dnn, hf.1, dlt (show q < l.length by omega), decide_eq_true (show out.length + [(q : Int)].length ≤ LIM by simp [LIM]; omega)]
      simp only [cond_true, cond_false]
      exact impl_order_loop hp k f n _ _ (by omega) (ho.step e) ((hf.set (y := (q : Int)) (by omega) (by omega)).congr fun x _ _ => by simp) (by simp; omega)
theorem flags_none (N : Nat) : Flags N (List.replicate N false) (fun _ => False) := ⟨by simp, fun x h0 h1 => by
  rw [List.getD_eq_getElem?_getD, List.getElem?_replicate]
  split <;> simp⟩
theorem impl_order_eq {R : Type} {n : Nat} {l : List (Int × List Int)} (hp : PlanOk l) (hn : 1000 ≤ n) (k : List Int → Option R) : impl_order n l k = k (ord l) := by
  have hlen := hp.len
  unfold impl_order
  rw [decide_eq_true (show (0 : Int) ≤ (l.length : Int) by omega), decide_eq_true (show (l.length : Int) ≤ (l.length : Int) by omega), decide_eq_true (show (l.length : Int) ≤ 1099511627776 by omega)]
  simp only [cond_true, Int.toNat_natCast]
  exact impl_order_loop hp k (l.length + 1) n [] _ (by omega) (.nil l) ((flags_none _).congr fun x _ _ => by simp) (by simp)
theorem spec_ready {R : Type} (l : List (Int × List Int)) (a b c d : Int) (out : List Int) (hl : out.length ≤ 1000) (ns : List Int) (hl2 : ns.length ≤ 1000) (k : List (Int × List Int) → Int → Int → Bool → List (Int × List Int) → Int → Int → List Int → Option R) : ∀ (n j : Nat) (f : Bool), ns.length - j + 1001 < n → j ≤ ns.length →
    spec_l4Order_l9 n l a b f l c d ns (ns.length : Int) (j : Int) out k = k l a b (f && (ns.drop j).all fun n => decide (n ∈ out)) l c d out
  | 0, _, _, h, _ => by omega
  | n + 1, j, f, hn, hj => by
    rw [spec_l4Order_l9]
    by_cases h : j < ns.length
    · rw [dlt h, dnn, getD_at _ _ h, wrapS h (by omega), List.drop_eq_getElem_cons h, List.all_cons]
      simp only [cond_true]
      cases f with
      | true =>
        simp only [cond_true, Bool.true_and, spec_l1Has_eq (n := n) (out := out) ns[j] (by omega) (by omega)]
        rw [spec_ready l a b c d out hl ns hl2 k n (j + 1) _ (by omega) (by omega)]
      | false =>
        simp only [cond_false]
        rw [spec_ready l a b c d out hl ns hl2 k n (j + 1) false (by omega) (by omega)]
        rfl
    · rw [dge (by omega), List.drop_eq_nil_iff.2 (by omega)]; simp
theorem spec_pick {R : Type} {l : List (Int × List Int)} (hp : PlanOk l) {out : List Int} (hl : out.length ≤ 1000) (k : List (Int × List Int) → Int → List Int → Option R) : ∀ (c n j : Nat), c + 3000 < n → j + c = l.length →
    spec_l4Order_l5 n l (-1) l (l.length : Int) (j : Int) out k = k l (match pickF l out c j with
      | none => -1
      | some k => (k : Int)) out
  | c, 0, _, h, _ => by omega
  | 0, n + 1, j, hn, hj => by
    rw [spec_l4Order_l5, dge (by omega)]; rfl
  | c + 1, n + 1, j, hn, hj => by
    have h : j < l.length := by omega
    have hlen := hp.len
    have hn1 : needs l (j : Int) = l[j].2 := by unfold needs; rw [getD_at _ _ h]
    have hlen2 : l[j].2.length ≤ 30 := by rw [← hn1]; exact hp.nlen (by omega) (by omega)
    rw [spec_l4Order_l5, dlt h, dnn, getD_at _ _ h, pickF, rdy, hn1]
    simp only [cond_true]
    rw [spec_l1Has_eq (n := n) (out := out) (j : Int) (by omega) (by omega)]
    have := spec_ready l (-1) (j : Int) (l.length : Int) (j : Int) out hl l[j].2 (by omega) (fun r3 r4 r5 r6 r7 r8 r9 r10 => (bif r6 then k r3 r5 r10 else spec_l4Order_l5 n r3 r4 r7 r8 (IntKind.wrap .i64 (r9 + 1)) r10 k)) n 0 (!decide ((j : Int) ∈ out)) (by omega) (by omega)
    rw [show ((0 : Nat) : Int) = 0 from rfl, List.drop_zero] at this
    rw [this, wrapS h (by omega)]
    cases (!decide ((j : Int) ∈ out) && l[j].2.all fun n => decide (n ∈ out)) with
    | true => rfl
    | false => exact spec_pick hp hl k c n (j + 1) (by omega) (by omega)
theorem full_none {l : List (Int × List Int)} {out : List Int} (ho : OutOk l out) (hl : out.length = l.length) : pickF l out l.length 0 = none := by
  cases e : pickF l out l.length 0 with
  | none => rfl
  | some k => have := (ho.step e).len; simp at this; omega
theorem spec_order_loop {R : Type} {l : List (Int × List Int)} (hp : PlanOk l) (kr : List Int → Bool → Option R) (ke : List Int → Option R) : ∀ (f n : Nat) (out : List Int), f + 4000 < n → OutOk l out → l.length < f + out.length →
    spec_l4Order_l2 n l out kr ke = bif decide ((ordO l f out).length = l.length) then ke (ordO l f out) else kr [] false
  | 0, n, out, _, ho, hlt => by have := ho.len; omega
  | f + 1, 0, _, h, _, _ => by omega
  | f + 1, n + 1, out, hn, ho, hlt => by
    have hlen := hp.len
    have hol := ho.len
    rw [spec_l4Order_l2]
    by_cases c : out.length < l.length
    · rw [dlt c]
      have hpk := spec_pick hp (out := out) (by omega) (fun r11 r12 r13 => (bif (decide (r12 < 0)) then kr ([] : List Int) false else (bif decide (r13.length + [r12].length ≤ LIM) then spec_l4Order_l2 n r11 (r13 ++ [r12]) kr ke else none))) l.length n 0 (by omega) (by omega)
      rw [show ((0 : Nat) : Int) = 0 from rfl] at hpk
      rw [cond_true, hpk, ordO]
      cases e : pickF l out l.length 0 with
      | none => simp only; rw [decide_eq_false (show ¬ out.length = l.length by omega)]; rfl
      | some q =>
        simp only
        rw [decide_eq_false (show ¬ (q : Int) < 0 by omega), decide_eq_true (show out.length + [(q : Int)].length ≤ LIM by simp [LIM]; omega)]
        simp only [cond_true, cond_false]
        exact spec_order_loop hp kr ke f n _ (by omega) (ho.step e) (by simp; omega)
    · rw [dge (by omega), ordO, full_none ho (by omega)]
      simp only [cond_false]
      rw [decide_eq_true (show out.length = l.length by omega)]; rfl
theorem spec_order_eq {R : Type} {n : Nat} {l : List (Int × List Int)} (hp : PlanOk l) (hn : 5000 ≤ n) (k : List Int → Bool → Option R) : spec_l4Order n l k = bif decide ((ord l).length = l.length) then k (ord l) true else k [] false := by
  have hlen := hp.len
  unfold spec_l4Order
  exact spec_order_loop hp (fun r14 r15 => k r14 r15) (fun r16 => k r16 true) (l.length + 1) n [] (by omega) (.nil l) (by simp)
def tasksOk (l : List (Int × List Int)) : Nat → Nat → Bool
  | 0, _ => true
  | c + 1, j => decide (1 ≤ (l.getD j (0, [])).1 ∧ (l.getD j (0, [])).1 ≤ 100) && (riseTo l.length (-1) (needs l j) && (!decide ((j : Int) ∈ needs l j) && tasksOk l c (j + 1)))
theorem tasksOk_iff {l : List (Int × List Int)} : ∀ {c j : Nat}, tasksOk l c j = true ↔ ∀ x, j ≤ x → x < j + c → (1 ≤ (l.getD x (0, [])).1 ∧ (l.getD x (0, [])).1 ≤ 100) ∧ riseTo l.length (-1) (needs l x) = true ∧ (x : Int) ∉ needs l x
  | 0, j => ⟨fun _ x h1 h2 => by omega, fun _ => rfl⟩
  | c + 1, j => by
    simp only [tasksOk, Bool.and_eq_true, decide_eq_true_eq, Bool.not_eq_true', decide_eq_false_iff_not, tasksOk_iff (c := c)]
    constructor
    · rintro ⟨h1, h2, h3, h4⟩ x hx hx2
      by_cases e : x = j
      · subst e; exact ⟨h1, h2, h3⟩
      · exact h4 x (by omega) (by omega)
    · intro h
      obtain ⟨a, b, d⟩ := h j (Nat.le_refl _) (by omega)
      exact ⟨a, b, d, fun x hx hx2 => h x (by omega) (by omega)⟩
def goodP (l : List (Int × List Int)) : Bool := decide (l.length ≤ 30) && (tasksOk l l.length 0 && decide ((ord l).length = l.length))
theorem planOk_of {l : List (Int × List Int)} (h : l.length ≤ 30) (ht : tasksOk l l.length 0 = true) : PlanOk l := by
  have h1 := fun (x : Int) (h0 : 0 ≤ x) (h1 : x < l.length) => tasksOk_iff.1 ht x.toNat (by omega) (by omega)
  refine ⟨h, fun x a b => (h1 x a b).1, fun x a b => ?_, fun x a b => ?_⟩
  · have := (h1 x a b).2.1
    rw [Int.toNat_of_nonneg a] at this
    exact this
  · have := (h1 x a b).2.2
    rw [Int.toNat_of_nonneg a] at this
    exact this
theorem goodP_ok {l : List (Int × List Int)} (h : goodP l = true) : PlanOk l ∧ (ord l).length = l.length := by
  simp only [goodP, Bool.and_eq_true, decide_eq_true_eq] at h
  exact ⟨planOk_of h.1 h.2.1, h.2.2⟩
theorem impl_tasks {R : Type} {l : List (Int × List Int)} (hl : l.length ≤ 30) (hb : ∀ x ∈ l, x.2.length ≤ 1000) (kr : Bool → Option R) (ke : List (Int × List Int) → Option R) : ∀ (c n j : Nat), c + 3000 < n → j + c = l.length → impl_GoodPlan_l4 n l l (l.length : Int) (j : Int) kr ke = bif tasksOk l c j then ke l else kr false
  | c, 0, _, h, _ => by omega
  | 0, n + 1, j, hn, hj => by rw [impl_GoodPlan_l4, dge (by omega)]; rfl
  | c + 1, n + 1, j, hn, hj => by
    have h : j < l.length := by omega
    have hb1 := hb _ (List.getElem_mem h)
    have hn1 : needs l (j : Int) = l[j].2 := by unfold needs; rw [getD_at _ _ h]
    have hg : l.getD j (0, []) = l[j] := by rw [List.getD_eq_getElem?_getD, List.getElem?_eq_getElem h]; rfl
    rw [impl_GoodPlan_l4, dlt h, dnn, getD_at _ _ h, wrapS h (by omega), tasksOk, hn1, hg]
    simp only [cond_true, impl_in_eq, impl_rising_eq (n := n) (l := l[j].2) (B := (l.length : Int)) (by omega) (by omega) (by omega) (by omega), slices_Contains_eq (n := n) (out := l[j].2) (j : Int) (by omega) (by omega)]
    cases decide (1 ≤ l[j].1 ∧ l[j].1 ≤ 100) with
    | false => rfl
    | true =>
      cases riseTo l.length (-1) l[j].2 with
      | false => rfl
      | true =>
        cases decide ((j : Int) ∈ l[j].2) with
        | true => rfl
        | false =>
          simp only [Bool.not_true, Bool.not_false, cond_false, Bool.true_and]
          exact impl_tasks hl hb kr ke c n (j + 1) (by omega) (by omega)
theorem spec_tasks {R : Type} {l : List (Int × List Int)} (hl : l.length ≤ 30) (hb : ∀ x ∈ l, x.2.length ≤ 1000) (kr : Bool → Option R) (ke : List (Int × List Int) → Option R) : ∀ (c n j : Nat), c + 3000 < n → j + c = l.length → spec_GoodPlan_l4 n l l (l.length : Int) (j : Int) kr ke = bif tasksOk l c j then ke l else kr false
  | c, 0, _, h, _ => by omega
  | 0, n + 1, j, hn, hj => by rw [spec_GoodPlan_l4, dge (by omega)]; rfl
  | c + 1, n + 1, j, hn, hj => by
    have h : j < l.length := by omega
    have hb1 := hb _ (List.getElem_mem h)
    have hn1 : needs l (j : Int) = l[j].2 := by unfold needs; rw [getD_at _ _ h]
    have hg : l.getD j (0, []) = l[j] := by rw [List.getD_eq_getElem?_getD, List.getElem?_eq_getElem h]; rfl
    rw [spec_GoodPlan_l4, dlt h, dnn, getD_at _ _ h, wrapS h (by omega), tasksOk, hn1, hg]
    simp only [cond_true, spec_l1In_eq, spec_l3List_eq (n := n) (l := l[j].2) (B := (l.length : Int)) (by omega) (by omega) (by omega) (by omega), spec_l1Has_eq (n := n) (out := l[j].2) (j : Int) (by omega) (by omega)]
    cases decide (1 ≤ l[j].1 ∧ l[j].1 ≤ 100) with
    | false => rfl
    | true =>
      cases riseTo l.length (-1) l[j].2 with
      | false => rfl
      | true =>
        cases decide ((j : Int) ∈ l[j].2) with
        | true => rfl
        | false =>
          simp only [Bool.not_true, Bool.not_false, cond_false, Bool.true_and]
          exact spec_tasks hl hb kr ke c n (j + 1) (by omega) (by omega)
theorem impl_GoodPlan_eq {R : Type} {n : Nat} {l : List (Int × List Int)} (hl : l.length ≤ 1000) (hb : ∀ x ∈ l, x.2.length ≤ 1000) (hn : 5000 ≤ n) (k : Bool → Option R) : impl_GoodPlan n l k = k (goodP l) := by
  unfold impl_GoodPlan goodP
  by_cases h : l.length ≤ 30
  · rw [decide_eq_false (show ¬ (l.length : Int) > 30 by omega), decide_eq_true h, cond_false, Bool.true_and]
    have := impl_tasks h hb (fun r4 => k r4) (fun r5 => (impl_order n r5 fun r6 => k ((r6.length : Int) == (r5.length : Int)))) l.length n 0 (by omega) (by omega)
    rw [show ((0 : Nat) : Int) = 0 from rfl] at this
    rw [this]
    cases ht : tasksOk l l.length 0 with
    | false => rfl
    | true =>
      rw [cond_true, impl_order_eq (planOk_of h ht) (by omega), Bool.true_and]
      congr 1
      rw [Bool.eq_iff_iff]
      simp only [beq_iff_eq, decide_eq_true_eq]
      omega
  · rw [decide_eq_true (show (l.length : Int) > 30 by omega), decide_eq_false h]; rfl
theorem spec_GoodPlan_eq {R : Type} {n : Nat} {l : List (Int × List Int)} (hl : l.length ≤ 1000) (hb : ∀ x ∈ l, x.2.length ≤ 1000) (hn : 6000 ≤ n) (k : Bool → Option R) : spec_GoodPlan n l k = k (goodP l) := by
  unfold spec_GoodPlan goodP
  by_cases h : l.length ≤ 30
  · rw [decide_eq_false (show ¬ (l.length : Int) > 30 by omega), decide_eq_true h, cond_false, Bool.true_and]
    have := spec_tasks h hb (fun r4 => k r4) (fun r5 => (spec_l4Order n r5 fun r6 r7 => k r7)) l.length n 0 (by omega) (by omega)
    rw [show ((0 : Nat) : Int) = 0 from rfl] at this
    rw [this]
    cases ht : tasksOk l l.length 0 with
    | false => rfl
    | true =>
      rw [cond_true, spec_order_eq (planOk_of h ht) (by omega), Bool.true_and]
      cases decide ((ord l).length = l.length) <;> rfl
  · rw [decide_eq_true (show (l.length : Int) > 30 by omega), decide_eq_false h]; rfl
theorem full_mem {N : Nat} {o : List Int} (hn : o.Nodup) (hi : ∀ x ∈ o, 0 ≤ x ∧ x < (N : Int)) (hl : o.length = N) {x : Int} (h0 : 0 ≤ x) (h1 : x < N) : x ∈ o := by
  by_cases h : x ∈ o
  · exact h
  · have := nodup_len N (x :: o) (List.nodup_cons.2 ⟨h, hn⟩) (fun y hy => by
      rcases List.mem_cons.1 hy with rfl | hy
      · exact ⟨h0, h1⟩
      · exact hi y hy)
    simp at this
    omega
def Pos (o : List Int) (at' : Int → Int) : Prop := ∀ (i : Nat) (x : Int), o[i]? = some x → at' x = (i : Int)
theorem idx_nodup : ∀ (o : List Int) (i : Nat) (x : Int), o.Nodup → o[i]? = some x → o.idxOf x = i
  | [], i, x, _, h => by simp at h
  | a :: o, 0, x, _, h => by
    simp at h; subst h; simp [List.idxOf_cons]
  | a :: o, i + 1, x, hn, h => by
    have hn' := List.nodup_cons.1 hn
    have h' : o[i]? = some x := by simpa using h
    have hx : x ∈ o := List.mem_of_getElem? h'
    have hne : ¬ a = x := fun e => hn'.1 (e ▸ hx)
    have ih := idx_nodup o i x hn'.2 h'
    rw [List.idxOf_cons, show (a == x) = false by simpa using hne, ih]
    rfl
theorem pos_ex {o : List Int} (hn : o.Nodup) : Pos o fun x => (o.idxOf x : Int) := fun i x h => by
  show ((o.idxOf x : Nat) : Int) = i
  rw [idx_nodup o i x hn h]
structure Full (l : List (Int × List Int)) : Prop where
  ok : PlanOk l
  len : (ord l).length = l.length
theorem Full.mem {l : List (Int × List Int)} (h : Full l) {x : Int} (h0 : 0 ≤ x) (h1 : x < l.length) : ∃ i : Nat, (ord l)[i]? = some x := by
  obtain ⟨i, hi, e⟩ := List.mem_iff_getElem.1 (full_mem (ord_ok l).nd (ord_ok l).inn h.len h0 h1)
  exact ⟨i, by rw [List.getElem?_eq_getElem hi, e]⟩
theorem Full.before {l : List (Int × List Int)} (h : Full l) {at' : Int → Int} (hp : Pos (ord l) at') {x n : Int} (h0 : 0 ≤ x) (h1 : x < l.length) (hn : n ∈ needs l x) : at' n < at' x := by
  obtain ⟨i, hi⟩ := h.mem h0 h1
  have hm := (ord_ok l).pre i x hi n hn
  obtain ⟨j, hj, e⟩ := List.mem_iff_getElem.1 hm
  have hj' : j < i := by rw [List.length_take] at hj; omega
  have e2 : (ord l)[j]? = some n := by
    rw [← e, List.getElem_take, List.getElem?_eq_getElem]
  rw [hp i x hi, hp j n e2]
  omega
def V (a : List Int) (x : Int) : Int := a.getD x.toNat 0
def dur (l : List (Int × List Int)) (x : Int) : Int := (l.getD x.toNat (0, [])).1
theorem V_set {a : List Int} {N : Nat} (ha : a.length = N) {y : Int} (y0 : 0 ≤ y) (y1 : y < N) (v : Int) {x : Int} (x0 : 0 ≤ x) : V (a.set y.toNat v) x = if x = y then v else V a x := by
  unfold V
  rw [List.getD_eq_getElem?_getD, List.getD_eq_getElem?_getD, List.getElem?_set]
  by_cases c : x = y
  · subst c
    rw [if_pos rfl, if_pos (by omega), if_pos rfl]; rfl
  · rw [if_neg (by omega), if_neg c]
def mx (f : Int → Int) : List Int → Int → Int
  | [], c => c
  | m :: r, c => mx f r (if f m > c then f m else c)
theorem mx_ge (f : Int → Int) : ∀ (l : List Int) (c : Int), c ≤ mx f l c ∧ ∀ m ∈ l, f m ≤ mx f l c
  | [], c => ⟨Int.le_refl c, fun m h => by simp at h⟩
  | a :: r, c => by
    obtain ⟨h1, h2⟩ := mx_ge f r (if f a > c then f a else c)
    have h3 : c ≤ (if f a > c then f a else c) ∧ f a ≤ (if f a > c then f a else c) := by split <;> omega
    refine ⟨Int.le_trans h3.1 h1, fun m hm => ?_⟩
    rcases List.mem_cons.1 hm with rfl | hm
    · exact Int.le_trans h3.2 h1
    · exact h2 m hm
theorem mx_in (f : Int → Int) : ∀ (l : List Int) (c : Int), mx f l c = c ∨ ∃ m ∈ l, mx f l c = f m
  | [], c => .inl rfl
  | a :: r, c => by
    rcases mx_in f r (if f a > c then f a else c) with h | ⟨m, h1, h2⟩
    · unfold mx
      rw [h]
      split
      · exact .inr ⟨a, List.mem_cons_self .., rfl⟩
      · exact .inl rfl
    · exact .inr ⟨m, List.mem_cons_of_mem _ h1, h2⟩
theorem impl_early_in {l : List (Int × List Int)} {x : Int} (x0 : 0 ≤ x) (x1 : x < l.length) (ns : List Int) (hl : ns.length ≤ 1000) (f : Int → Int) (hns : ∀ m ∈ ns, 0 ≤ m ∧ m < l.length ∧ m ≠ x) (hf : ∀ m ∈ ns, -100000 ≤ f m ∧ f m ≤ 100000) (b c d : Int) (w : List Int) : ∀ (n q : Nat) (a : List Int), ns.length - q < n → q ≤ ns.length → a.length = l.length → (∀ m ∈ ns, V a m + dur l m = f m) →
    ∃ a', a'.length = l.length ∧ V a' x = mx f (ns.drop q) (V a x) ∧ (∀ y, 0 ≤ y → y ≠ x → V a' y = V a y) ∧
      ∀ (R : Type) (k : List (Int × List Int) → Int → Int → Int → Int → List Int → List Int → Option R), impl_earliest_l6 n l b x c d ns (ns.length : Int) (q : Int) a w k = k l b x c d a' w
  | 0, _, _, h, _, _, _ => by omega
  | n + 1, q, a, hn, hq, ha, hv => by
    by_cases h : q < ns.length
    · have hm := List.getElem_mem h
      obtain ⟨h0, h1, h2⟩ := hns _ hm
      have hb := hf _ hm
      have hfm := hv _ hm
      have hs := fun (v y : Int) (y0 : 0 ≤ y) => V_set ha x0 x1 v y0
      obtain ⟨a', e1, e2, e3, e4⟩ := impl_early_in x0 x1 ns hl f hns hf b c d w n (q + 1) (a.set x.toNat (if f ns[q] > V a x then f ns[q] else V a x)) (by omega) (by omega) (by simpa using ha) (fun m hm => by
        obtain ⟨m0, m1, m2⟩ := hns m hm
        rw [hs _ m m0, if_neg m2]; exact hv m hm)
      refine ⟨a', e1, ?_, fun y y0 hy => ?_, fun R k => ?_⟩
      · rw [e2, hs _ x x0, if_pos rfl, List.drop_eq_getElem_cons h]; rfl
      · rw [e3 y y0 hy, hs _ y y0, if_neg hy]
      · have hw : IntKind.wrap .i64 (a.getD ns[q].toNat 0 + (l.getD ns[q].toNat (0, [])).1) = f ns[q] := by
          rw [← hfm]; exact wrap64 (by have := hfm; unfold V dur at this; omega) (by have := hfm; unfold V dur at this; omega)
        rw [impl_earliest_l6, dlt h, dnn, getD_at _ _ h, decide_eq_true x0, ha, decide_eq_true x1, decide_eq_true h0, decide_eq_true h1, wrapS h (by omega), hw]
        exact e4 R k
    · refine ⟨a, ha, by rw [List.drop_eq_nil_iff.2 (by omega)]; rfl, fun _ _ _ => rfl, fun R k => ?_⟩
      rw [impl_earliest_l6, dge (by omega)]; rfl
/-- Up to a place in the order. -/
structure EarlyAt (l : List (Int × List Int)) (a : List Int) (all : Int) (j : Nat) : Prop where
  len : a.length = l.length
  ge : ∀ (i : Nat) (x : Int), i < j → (ord l)[i]? = some x → ∀ m ∈ needs l x, V a m + dur l m ≤ V a x
  inn : ∀ (i : Nat) (x : Int), i < j → (ord l)[i]? = some x → V a x = 0 ∨ ∃ m ∈ needs l x, V a x = V a m + dur l m
  nn : ∀ (i : Nat) (x : Int), (ord l)[i]? = some x → 0 ≤ V a x ∧ V a x ≤ 100 * (i : Int)
  rest : ∀ (i : Nat) (x : Int), j ≤ i → (ord l)[i]? = some x → V a x = 0
  all1 : ∀ (i : Nat) (x : Int), i < j → (ord l)[i]? = some x → V a x + dur l x ≤ all
  all2 : all = 0 ∨ ∃ (i : Nat) (x : Int), i < j ∧ (ord l)[i]? = some x ∧ V a x + dur l x = all
  all0 : 0 ≤ all
theorem Full.dur {l : List (Int × List Int)} (h : Full l) {x : Int} (h0 : 0 ≤ x) (h1 : x < l.length) : 1 ≤ dur l x ∧ dur l x ≤ 100 := h.ok.long x h0 h1
theorem Full.need {l : List (Int × List Int)} (h : Full l) {i : Nat} {x m : Int} (hi : (ord l)[i]? = some x) (hm : m ∈ needs l x) : 0 ≤ m ∧ m < l.length ∧ m ≠ x ∧ ∃ q : Nat, q < i ∧ (ord l)[q]? = some m := by
  obtain ⟨x0, x1⟩ := (ord_ok l).inn x (List.mem_of_getElem? hi)
  have h1 := h.ok.inn x0 x1 hm
  have hm2 := (ord_ok l).pre i x hi m hm
  obtain ⟨q, hq, e⟩ := List.mem_iff_getElem.1 hm2
  have hq' : q < i := by rw [List.length_take] at hq; omega
  exact ⟨h1.1, h1.2, fun e => h.ok.self x x0 x1 (e ▸ hm), q, hq', by rw [← e, List.getElem_take, List.getElem?_eq_getElem]⟩
theorem ord_inj {l : List (Int × List Int)} {i q : Nat} {x : Int} (hi : (ord l)[i]? = some x) (hq : (ord l)[q]? = some x) : i = q := by
  have p1 := pos_ex (ord_ok l).nd i x hi
  have p2 := pos_ex (ord_ok l).nd q x hq
  rw [p1] at p2
  omega
theorem EarlyAt.step {l : List (Int × List Int)} (hF : Full l) {a a' : List Int} {all : Int} {j : Nat} {x : Int} (h : EarlyAt l a all j) (hx : (ord l)[j]? = some x) (hl : a'.length = l.length) (hv : V a' x = mx (fun m => V a m + dur l m) (needs l x) (V a x)) (ho : ∀ y, 0 ≤ y → y ≠ x → V a' y = V a y) :
    EarlyAt l a' (if V a' x + dur l x > all then V a' x + dur l x else all) (j + 1) := by
  obtain ⟨x0, x1⟩ := (ord_ok l).inn x (List.mem_of_getElem? hx)
  have hd := hF.dur x0 x1
  have hax : V a x = 0 := h.rest j x (Nat.le_refl _) hx
  have other : ∀ {i : Nat} {y : Int}, i ≠ j → (ord l)[i]? = some y → V a' y = V a y := fun {i y} hi hy => by
    obtain ⟨y0, y1⟩ := (ord_ok l).inn y (List.mem_of_getElem? hy)
    exact ho y y0 fun e => hi (ord_inj hy (e ▸ hx))
  have needV : ∀ {i : Nat} {y m : Int}, i ≤ j → (ord l)[i]? = some y → m ∈ needs l y → V a' m = V a m := fun {i y m} hi hy hm => by
    obtain ⟨m0, m1, _, q, hq, hqm⟩ := hF.need hy hm
    exact other (by omega) hqm
  have hge := mx_ge (fun m => V a m + dur l m) (needs l x) (V a x)
  have hin := mx_in (fun m => V a m + dur l m) (needs l x) (V a x)
  rw [← hv] at hge hin
  have hb : 0 ≤ V a' x ∧ V a' x ≤ 100 * (j : Int) := by
    rcases hin with e | ⟨m, hm, e⟩
    · rw [e, hax]; omega
    · obtain ⟨m0, m1, _, q, hq, hqm⟩ := hF.need hx hm
      have h1 := h.nn q m hqm
      have h2 := hF.dur m0 m1
      rw [e]
      show 0 ≤ V a m + dur l m ∧ V a m + dur l m ≤ 100 * (j : Int)
      omega
  refine ⟨hl, fun i y hi hy m hm => ?_, fun i y hi hy => ?_, fun i y hy => ?_, fun i y hi hy => ?_, fun i y hi hy => ?_, ?_, ?_⟩
  · by_cases c : i = j
    · subst c
      rw [hx] at hy; cases hy
      rw [needV (Nat.le_refl _) hx hm]
      exact hge.2 m hm
    · rw [needV (by omega) hy hm, other c hy]
      exact h.ge i y (by omega) hy m hm
  · by_cases c : i = j
    · subst c
      rw [hx] at hy; cases hy
      rcases hin with e | ⟨m, hm, e⟩
      · exact .inl (e.trans hax)
      · exact .inr ⟨m, hm, by rw [needV (Nat.le_refl _) hx hm]; exact e⟩
    · rcases h.inn i y (by omega) hy with e | ⟨m, hm, e⟩
      · exact .inl ((other c hy).trans e)
      · exact .inr ⟨m, hm, by rw [other c hy, needV (by omega) hy hm]; exact e⟩
  · by_cases c : i = j
    · subst c
      rw [hx] at hy; cases hy
      exact hb
    · rw [other c hy]; exact h.nn i y hy
  · rw [other (by omega) hy]; exact h.rest i y (by omega) hy
  · by_cases c : i = j
    · subst c
      rw [hx] at hy; cases hy
      split <;> omega
    · have := h.all1 i y (by omega) hy
      rw [other c hy]
      split <;> omega
  · split
    · exact .inr ⟨j, x, by omega, hx, rfl⟩
    · rcases h.all2 with e | ⟨i, y, hi, hy, e⟩
      · exact .inl e
      · exact .inr ⟨i, y, by omega, hy, by rw [other (by omega) hy]; exact e⟩
  · have := h.all0
    split <;> omega
theorem impl_early_loop {l : List (Int × List Int)} (hF : Full l) : ∀ (c n j : Nat) (a : List Int) (all : Int), c + 2000 < n → j + c = (ord l).length → EarlyAt l a all j →
    ∃ a' all', EarlyAt l a' all' (ord l).length ∧ ∀ (R : Type) (k : Int → List Int → Option R), impl_earliest_l3 n l all ((ord l).length : Int) (j : Int) a (ord l) k = k all' a'
  | _, 0, _, _, _, h, _, _ => by omega
  | 0, n + 1, j, a, all, hn, hj, h => ⟨a, all, by rw [show (ord l).length = j by omega]; exact h, fun R k => by rw [impl_earliest_l3, dge (by omega)]; rfl⟩
  | c + 1, n + 1, j, a, all, hn, hj, h => by
    have hlt : j < (ord l).length := by omega
    have hx : (ord l)[j]? = some (ord l)[j] := List.getElem?_eq_getElem hlt
    obtain ⟨x0, x1⟩ := (ord_ok l).inn _ (List.getElem_mem hlt)
    have h30 := hF.ok.len
    have hlen := hF.len
    have hnl := hF.ok.nlen x0 x1
    have hd := hF.dur x0 x1
    obtain ⟨a', e1, e2, e3, e4⟩ := impl_early_in x0 x1 (needs l (ord l)[j]) (by omega) (fun m => V a m + dur l m) (fun m hm => by
      obtain ⟨m0, m1, m2, _⟩ := hF.need hx hm
      exact ⟨m0, m1, m2⟩) (fun m hm => by
      obtain ⟨m0, m1, _, q, hq, hqm⟩ := hF.need hx hm
      have h1 := h.nn q m hqm
      have h2 := hF.dur m0 m1
      show -100000 ≤ V a m + dur l m ∧ V a m + dur l m ≤ 100000
      omega) all ((ord l).length : Int) (j : Int) (ord l) n 0 a (by omega) (by omega) h.len (fun m hm => rfl)
    rw [List.drop_zero] at e2
    rw [show ((0 : Nat) : Int) = 0 from rfl] at e4
    have hs := h.step hF hx e1 e2 e3
    obtain ⟨a2, all2, f1, f2⟩ := impl_early_loop hF c n (j + 1) a' _ (by omega) (by omega) hs
    have hb := hs.nn j _ hx
    refine ⟨a2, all2, f1, fun R k => ?_⟩
    rw [impl_earliest_l3, dlt hlt, dnn, getD_at _ _ hlt, decide_eq_true x0, decide_eq_true x1]
    simp only [cond_true]
    rw [show (l.getD (Int.toNat (ord l)[j]) (0, [])).2 = needs l (ord l)[j] from rfl, e4, decide_eq_true x0, e1, decide_eq_true x1]
    simp only [cond_true]
    rw [show a'.getD (Int.toNat (ord l)[j]) 0 = V a' (ord l)[j] from rfl, show (l.getD (Int.toNat (ord l)[j]) (0, [])).1 = dur l (ord l)[j] from rfl, wrap64 (x := V a' (ord l)[j] + dur l (ord l)[j]) (by omega) (by omega), wrapS hlt (by omega)]
    exact f2 R k
structure Early (l : List (Int × List Int)) (E : List Int) (all : Int) : Prop where
  len : E.length = l.length
  ge : ∀ x : Int, 0 ≤ x → x < l.length → ∀ m ∈ needs l x, V E m + dur l m ≤ V E x
  inn : ∀ x : Int, 0 ≤ x → x < l.length → V E x = 0 ∨ ∃ m ∈ needs l x, V E x = V E m + dur l m
  nn : ∀ x : Int, 0 ≤ x → x < l.length → 0 ≤ V E x ∧ V E x ≤ 3000
  all1 : ∀ x : Int, 0 ≤ x → x < l.length → V E x + dur l x ≤ all
  all2 : all = 0 ∨ ∃ x : Int, 0 ≤ x ∧ x < l.length ∧ V E x + dur l x = all
  all0 : 0 ≤ all ∧ all ≤ 3100
theorem EarlyAt.early {l : List (Int × List Int)} (hF : Full l) {a : List Int} {all : Int} (h : EarlyAt l a all (ord l).length) : Early l a all := by
  have h30 := hF.ok.len
  have hlen := hF.len
  have pos := fun (x : Int) (x0 : 0 ≤ x) (x1 : x < l.length) => hF.mem x0 x1
  have bd : ∀ x : Int, 0 ≤ x → x < l.length → 0 ≤ V a x ∧ V a x ≤ 3000 := fun x x0 x1 => by
    obtain ⟨i, hi⟩ := pos x x0 x1
    have := h.nn i x hi
    have := (List.getElem?_eq_some_iff.1 hi).1
    omega
  refine ⟨h.len, fun x x0 x1 m hm => ?_, fun x x0 x1 => ?_, bd, fun x x0 x1 => ?_, ?_, ?_⟩
  · obtain ⟨i, hi⟩ := pos x x0 x1
    exact h.ge i x (List.getElem?_eq_some_iff.1 hi).1 hi m hm
  · obtain ⟨i, hi⟩ := pos x x0 x1
    exact h.inn i x (List.getElem?_eq_some_iff.1 hi).1 hi
  · obtain ⟨i, hi⟩ := pos x x0 x1
    exact h.all1 i x (List.getElem?_eq_some_iff.1 hi).1 hi
  · rcases h.all2 with e | ⟨i, x, _, hx, e⟩
    · exact .inl e
    · obtain ⟨x0, x1⟩ := (ord_ok l).inn x (List.mem_of_getElem? hx)
      exact .inr ⟨x, x0, x1, e⟩
  · refine ⟨h.all0, ?_⟩
    rcases h.all2 with e | ⟨i, x, _, hx, e⟩
    · omega
    · obtain ⟨x0, x1⟩ := (ord_ok l).inn x (List.mem_of_getElem? hx)
      have := bd x x0 x1
      have := hF.dur x0 x1
      omega
theorem list_ext_V {N : Nat} {a b : List Int} (ha : a.length = N) (hb : b.length = N) (h : ∀ x : Int, 0 ≤ x → x < N → V a x = V b x) : a = b := by
  apply List.ext_getElem
  · omega
  · intro i h1 h2
    have := h (i : Int) (by omega) (by omega)
    unfold V at this
    rw [Int.toNat_natCast, List.getD_eq_getElem?_getD, List.getD_eq_getElem?_getD, List.getElem?_eq_getElem h1, List.getElem?_eq_getElem h2] at this
    exact this
theorem Early.uniq {l : List (Int × List Int)} (hF : Full l) {E E' : List Int} {all all' : Int} (h : Early l E all) (h' : Early l E' all') : E = E' ∧ all = all' := by
  have key : ∀ (i : Nat) (x : Int), (ord l)[i]? = some x → V E x = V E' x := by
    intro i
    induction i using Nat.strongRecOn with
    | ind i ih =>
      intro x hx
      obtain ⟨x0, x1⟩ := (ord_ok l).inn x (List.mem_of_getElem? hx)
      have hn : ∀ m ∈ needs l x, V E m = V E' m := fun m hm => by
        obtain ⟨_, _, _, q, hq, hqm⟩ := hF.need hx hm
        exact ih q hq m hqm
      have a1 := h.nn x x0 x1
      have a2 := h'.nn x x0 x1
      have le1 : V E x ≤ V E' x := by
        rcases h.inn x x0 x1 with e | ⟨m, hm, e⟩
        · omega
        · rw [e, hn m hm]; exact h'.ge x x0 x1 m hm
      have le2 : V E' x ≤ V E x := by
        rcases h'.inn x x0 x1 with e | ⟨m, hm, e⟩
        · omega
        · rw [e, ← hn m hm]; exact h.ge x x0 x1 m hm
      omega
  have keyx : ∀ x : Int, 0 ≤ x → x < l.length → V E x = V E' x := fun x x0 x1 => by
    obtain ⟨i, hi⟩ := hF.mem x0 x1
    exact key i x hi
  refine ⟨list_ext_V h.len h'.len keyx, ?_⟩
  have le1 : all ≤ all' := by
    rcases h.all2 with e | ⟨x, x0, x1, e⟩
    · have := h'.all0; omega
    · have := h'.all1 x x0 x1; rw [← keyx x x0 x1] at this; omega
  have le2 : all' ≤ all := by
    rcases h'.all2 with e | ⟨x, x0, x1, e⟩
    · have := h.all0; omega
    · have := h.all1 x x0 x1; rw [keyx x x0 x1] at this; omega
  omega
theorem V_zero (N : Nat) (x : Int) : V (List.replicate N 0) x = 0 := by
  unfold V
  rw [List.getD_eq_getElem?_getD, List.getElem?_replicate]
  split <;> rfl
theorem early0 (l : List (Int × List Int)) : EarlyAt l (List.replicate l.length 0) 0 0 :=
  ⟨by simp, fun i x h => by omega, fun i x h => by omega, fun i x _ => by rw [V_zero]; omega, fun i x _ _ => V_zero _ _, fun i x h => by omega, .inl rfl, Int.le_refl 0⟩
def place (l : List (Int × List Int)) (x : Int) : Nat := (ord l).idxOf x
theorem place_eq {l : List (Int × List Int)} {i : Nat} {x : Int} (h : (ord l)[i]? = some x) : place l x = i := idx_nodup _ _ _ (ord_ok l).nd h
theorem Full.at_place {l : List (Int × List Int)} (hF : Full l) {x : Int} (x0 : 0 ≤ x) (x1 : x < l.length) : (ord l)[place l x]? = some x := by
  obtain ⟨i, hi⟩ := hF.mem x0 x1
  rw [place_eq hi]; exact hi
def durAt (l : List (Int × List Int)) (j : Nat) (x : Int) : Int := if j ≤ place l x then dur l x else 0
structure TailAt (l : List (Int × List Int)) (t : Int → Int) (j : Nat) : Prop where
  a : ∀ x : Int, 0 ≤ x → x < l.length → durAt l j x ≤ t x
  b : ∀ x m : Int, 0 ≤ x → x < l.length → 0 ≤ m → m < l.length → j ≤ place l m → x ∈ needs l m → durAt l j x + t m ≤ t x
  c : ∀ x : Int, 0 ≤ x → x < l.length → t x = durAt l j x ∨ ∃ m : Int, 0 ≤ m ∧ m < l.length ∧ j ≤ place l m ∧ x ∈ needs l m ∧ t x = durAt l j x + t m
  d : ∀ x : Int, 0 ≤ x → x < l.length → t x ≤ 100 * ((ord l).length - j : Nat)
theorem TailAt.step {l : List (Int × List Int)} (hF : Full l) {t t' : Int → Int} {j : Nat} {x : Int} (h : TailAt l t (j + 1)) (hx : (ord l)[j]? = some x) (h1 : t' x = t x + dur l x) (h2 : ∀ y ∈ needs l x, t' y = if t' x > t y then t' x else t y) (h3 : ∀ y : Int, 0 ≤ y → y < l.length → y ≠ x → y ∉ needs l x → t' y = t y) : TailAt l t' j := by
  obtain ⟨x0, x1⟩ := (ord_ok l).inn x (List.mem_of_getElem? hx)
  have hlt := (List.getElem?_eq_some_iff.1 hx).1
  have hpx := place_eq hx
  have hd := hF.dur x0 x1
  have D0 : durAt l (j + 1) x = 0 := by unfold durAt; rw [if_neg (by omega)]
  have D1 : durAt l j x = dur l x := by unfold durAt; rw [if_pos (by omega)]
  have Dn : ∀ y : Int, 0 ≤ y → y < l.length → y ≠ x → durAt l j y = durAt l (j + 1) y := fun y y0 y1 hy => by
    have hp : place l y ≠ j := fun e => by
      have := hF.at_place y0 y1
      rw [e, hx] at this
      cases this; exact hy rfl
    unfold durAt
    by_cases c : j + 1 ≤ place l y
    · rw [if_pos c, if_pos (by omega)]
    · rw [if_neg c, if_neg (by omega)]
  have nd : ∀ y ∈ needs l x, 0 ≤ y ∧ y < l.length ∧ y ≠ x ∧ place l y < j := fun y hy => by
    obtain ⟨y0, y1, hy, q, hq, hqy⟩ := hF.need hx hy
    exact ⟨y0, y1, hy, by rw [place_eq hqy]; exact hq⟩
  -- those that come later stay
  have late : ∀ m : Int, 0 ≤ m → m < l.length → j + 1 ≤ place l m → t' m = t m := fun m m0 m1 hm => by
    refine h3 m m0 m1 (fun e => ?_) fun hn => ?_
    · rw [e, hpx] at hm; omega
    · have := (nd m hn).2.2.2; omega
  have xx : x ∉ needs l x := hF.ok.self x x0 x1
  have plm : ∀ m : Int, 0 ≤ m → m < l.length → j ≤ place l m → m = x ∨ j + 1 ≤ place l m := fun m m0 m1 hm => by
    by_cases c : place l m = j
    · have := hF.at_place m0 m1
      rw [c, hx] at this
      cases this; exact .inl rfl
    · exact .inr (by omega)
  refine ⟨fun y y0 y1 => ?_, fun y m y0 y1 m0 m1 hm hy => ?_, fun y y0 y1 => ?_, fun y y0 y1 => ?_⟩
  · by_cases c : y = x
    · subst c
      have := h.a y y0 y1
      rw [D0] at this
      rw [D1, h1]; omega
    · rw [Dn y y0 y1 c]
      have := h.a y y0 y1
      by_cases cn : y ∈ needs l x
      · rw [h2 y cn]; split <;> omega
      · rw [h3 y y0 y1 c cn]; exact this
  · rcases plm m m0 m1 hm with e | hm'
    · subst e
      have hyx : y ≠ m := fun e => xx (e ▸ hy)
      have hp := (nd y hy).2.2.2
      have : durAt l j y = 0 := by unfold durAt; rw [if_neg (by omega)]
      rw [this, h2 y hy]; split <;> omega
    · rw [late m m0 m1 hm']
      by_cases c : y = x
      · subst c
        have := h.b y m y0 y1 m0 m1 hm' hy
        rw [D0] at this
        rw [D1, h1]; omega
      · rw [Dn y y0 y1 c]
        have := h.b y m y0 y1 m0 m1 hm' hy
        by_cases cn : y ∈ needs l x
        · rw [h2 y cn]; split <;> omega
        · rw [h3 y y0 y1 c cn]; exact this
  · by_cases c : y = x
    · subst c
      rcases h.c y y0 y1 with e | ⟨m, m0, m1, hm, hy, e⟩
      · exact .inl (by rw [h1, e, D0, D1]; omega)
      · exact .inr ⟨m, m0, m1, by omega, hy, by rw [h1, e, D0, D1, late m m0 m1 hm]; omega⟩
    · rw [Dn y y0 y1 c]
      by_cases cn : y ∈ needs l x
      · by_cases g : t' x > t y
        · refine .inr ⟨x, x0, x1, by omega, cn, ?_⟩
          have hp := (nd y cn).2.2.2
          have : durAt l (j + 1) y = 0 := by unfold durAt; rw [if_neg (by omega)]
          rw [h2 y cn, if_pos g, this]; omega
        · have ey : t' y = t y := by rw [h2 y cn, if_neg g]
          rcases h.c y y0 y1 with e | ⟨m, m0, m1, hm, hy, e⟩
          · exact .inl (by rw [ey, e])
          · exact .inr ⟨m, m0, m1, by omega, hy, by rw [ey, e, late m m0 m1 hm]⟩
      · have ey := h3 y y0 y1 c cn
        rcases h.c y y0 y1 with e | ⟨m, m0, m1, hm, hy, e⟩
        · exact .inl (by rw [ey, e])
        · exact .inr ⟨m, m0, m1, by omega, hy, by rw [ey, e, late m m0 m1 hm]⟩
  · have dx := h.d x x0 x1
    by_cases c : y = x
    · subst c; rw [h1]; omega
    · have := h.d y y0 y1
      by_cases cn : y ∈ needs l x
      · rw [h2 y cn]; split <;> omega
      · rw [h3 y y0 y1 c cn]; omega
theorem place_lt {l : List (Int × List Int)} (hF : Full l) {x : Int} (x0 : 0 ≤ x) (x1 : x < l.length) : place l x < (ord l).length := (List.getElem?_eq_some_iff.1 (hF.at_place x0 x1)).1
theorem tail0 {l : List (Int × List Int)} (hF : Full l) {t : Int → Int} (h : ∀ x : Int, 0 ≤ x → x < l.length → t x = 0) : TailAt l t (ord l).length := by
  have D : ∀ x : Int, 0 ≤ x → x < l.length → durAt l (ord l).length x = 0 := fun x x0 x1 => by
    have := place_lt hF x0 x1
    unfold durAt; rw [if_neg (by omega)]
  exact ⟨fun x x0 x1 => by rw [D x x0 x1, h x x0 x1]; omega, fun x m _ _ m0 m1 hm => by have := place_lt hF m0 m1; omega, fun x x0 x1 => .inl (by rw [D x x0 x1, h x x0 x1]), fun x x0 x1 => by rw [h x x0 x1]; omega⟩
structure Tail (l : List (Int × List Int)) (t : Int → Int) : Prop where
  a : ∀ x : Int, 0 ≤ x → x < l.length → dur l x ≤ t x
  b : ∀ x m : Int, 0 ≤ x → x < l.length → 0 ≤ m → m < l.length → x ∈ needs l m → dur l x + t m ≤ t x
  c : ∀ x : Int, 0 ≤ x → x < l.length → t x = dur l x ∨ ∃ m : Int, 0 ≤ m ∧ m < l.length ∧ x ∈ needs l m ∧ t x = dur l x + t m
  d : ∀ x : Int, 0 ≤ x → x < l.length → t x ≤ 3000
theorem TailAt.tail {l : List (Int × List Int)} (hF : Full l) {t : Int → Int} (h : TailAt l t 0) : Tail l t := by
  have h30 := hF.ok.len
  have hlen := hF.len
  have D : ∀ x : Int, durAt l 0 x = dur l x := fun x => by unfold durAt; rw [if_pos (Nat.zero_le _)]
  exact ⟨fun x x0 x1 => by have := h.a x x0 x1; rw [D] at this; exact this, fun x m x0 x1 m0 m1 hx => by have := h.b x m x0 x1 m0 m1 (Nat.zero_le _) hx; rw [D] at this; exact this,
    fun x x0 x1 => by
      rcases h.c x x0 x1 with e | ⟨m, m0, m1, _, hm, e⟩
      · rw [D] at e; exact .inl e
      · rw [D] at e; exact .inr ⟨m, m0, m1, hm, e⟩,
    fun x x0 x1 => by have := h.d x x0 x1; omega⟩
theorem Tail.uniq {l : List (Int × List Int)} (hF : Full l) {t t' : Int → Int} (h : Tail l t) (h' : Tail l t') : ∀ x : Int, 0 ≤ x → x < l.length → t x = t' x := by
  have key : ∀ (c i : Nat) (x : Int), (ord l).length - i = c → (ord l)[i]? = some x → t x = t' x := by
    intro c
    induction c using Nat.strongRecOn with
    | ind c ih =>
      intro i x hc hx
      obtain ⟨x0, x1⟩ := (ord_ok l).inn x (List.mem_of_getElem? hx)
      have up : ∀ m : Int, 0 ≤ m → m < l.length → x ∈ needs l m → t m = t' m := fun m m0 m1 hm => by
        have hpm := hF.at_place m0 m1
        obtain ⟨_, _, _, q, hq, hqx⟩ := hF.need hpm hm
        have := ord_inj hqx hx
        have hl := (List.getElem?_eq_some_iff.1 hpm).1
        exact ih ((ord l).length - place l m) (by omega) (place l m) m rfl hpm
      have a1 := h.a x x0 x1
      have a2 := h'.a x x0 x1
      have le1 : t x ≤ t' x := by
        rcases h.c x x0 x1 with e | ⟨m, m0, m1, hm, e⟩
        · omega
        · rw [e, up m m0 m1 hm]; exact h'.b x m x0 x1 m0 m1 hm
      have le2 : t' x ≤ t x := by
        rcases h'.c x x0 x1 with e | ⟨m, m0, m1, hm, e⟩
        · omega
        · rw [e, ← up m m0 m1 hm]; exact h.b x m x0 x1 m0 m1 hm
      omega
  intro x x0 x1
  exact key _ _ x rfl (hF.at_place x0 x1)
def findF (f : Nat → Bool) : Nat → Nat → Option Nat
  | 0, _ => none
  | c + 1, j => bif f j then some j else findF f c (j + 1)
theorem findF_ex {f : Nat → Bool} : ∀ {c j : Nat}, (∃ i, j ≤ i ∧ i < j + c ∧ f i = true) → ∃ k, findF f c j = some k ∧ j ≤ k ∧ k < j + c ∧ f k = true
  | 0, j, ⟨i, h1, h2, _⟩ => by omega
  | c + 1, j, ⟨i, h1, h2, h3⟩ => by
    unfold findF
    cases hf : f j with
    | true => exact ⟨j, rfl, Nat.le_refl _, by omega, hf⟩
    | false =>
      have hij : i ≠ j := fun e => by rw [e, hf] at h3; cases h3
      obtain ⟨k, a1, a2, a3, a4⟩ := findF_ex (f := f) (c := c) (j := j + 1) ⟨i, by omega, by omega, h3⟩
      exact ⟨k, a1, by omega, by omega, a4⟩
/-- What is early and what comes behind fit into the whole. -/
theorem both_le {l : List (Int × List Int)} {E T : List Int} {all : Int} (hF : Full l) (hE : Early l E all) (hT : Tail l (V T)) : ∀ (c : Nat) (x : Int), 0 ≤ x → x < l.length → V T x ≤ c → V E x + V T x ≤ all := by
  intro c
  induction c using Nat.strongRecOn with
  | ind c ih =>
    intro x x0 x1 hc
    rcases hT.c x x0 x1 with e | ⟨m, m0, m1, hm, e⟩
    · rw [e]; exact hE.all1 x x0 x1
    · have h1 := hF.dur x0 x1
      have h2 := hF.dur m0 m1
      have h3 := hT.a m m0 m1
      have h4 := hE.ge m m0 m1 x hm
      have := ih (V T m).toNat (by omega) m m0 m1 (by omega)
      omega
def sumR (f : Nat → Int) : Nat → Nat → Int
  | 0, _ => 0
  | c + 1, j => f j + sumR f c (j + 1)
theorem sumR_congr {f g : Nat → Int} : ∀ {c j : Nat}, (∀ i, j ≤ i → i < j + c → f i = g i) → sumR f c j = sumR g c j
  | 0, _, _ => rfl
  | c + 1, j, h => by
    unfold sumR
    rw [h j (Nat.le_refl _) (by omega), sumR_congr (c := c) fun i a b => h i (by omega) (by omega)]
theorem sumR_le {f g : Nat → Int} : ∀ {c j : Nat}, (∀ i, j ≤ i → i < j + c → f i ≤ g i) → sumR f c j ≤ sumR g c j
  | 0, _, _ => Int.le_refl _
  | c + 1, j, h => by
    have h1 := h j (Nat.le_refl _) (by omega)
    have h2 := sumR_le (c := c) (f := f) (g := g) (j := j + 1) fun i a b => h i (by omega) (by omega)
    simp only [sumR]; omega
theorem sumR_upd {f g : Nat → Int} {k : Nat} : ∀ {c j : Nat}, j ≤ k → k < j + c → (∀ i, j ≤ i → i < j + c → i ≠ k → g i = f i) → sumR g c j = sumR f c j + (g k - f k)
  | 0, _, _, _, _ => by omega
  | c + 1, j, h1, h2, h => by
    simp only [sumR]
    by_cases e : j = k
    · subst e
      rw [sumR_congr (f := g) (g := f) (c := c) (j := j + 1) fun i a b => h i (by omega) (by omega) (by omega)]
      omega
    · rw [h j (Nat.le_refl _) (by omega) e, sumR_upd (f := f) (c := c) (j := j + 1) (by omega) (by omega) fun i a b d => h i (by omega) (by omega) d]
      omega
theorem sumR_const (M : Int) : ∀ (c j : Nat), sumR (fun _ => M) c j = c * M
  | 0, _ => by simp [sumR]
  | c + 1, j => by
    rw [sumR, sumR_const M c, Int.natCast_succ, Int.add_mul]; omega
theorem sumR_lt {f g : Nat → Int} {k : Nat} : ∀ {c j : Nat}, (∀ i, j ≤ i → i < j + c → f i ≤ g i) → j ≤ k → k < j + c → f k + 1 ≤ g k → sumR f c j + 1 ≤ sumR g c j
  | 0, _, _, _, _, _ => by omega
  | c + 1, j, h, h1, h2, h3 => by
    simp only [sumR]
    have h4 := h j (Nat.le_refl _) (by omega)
    by_cases e : j = k
    · subst e
      have := sumR_le (f := f) (g := g) (c := c) (j := j + 1) fun i a b => h i (by omega) (by omega)
      omega
    · have := sumR_lt (f := f) (g := g) (k := k) (c := c) (j := j + 1) (fun i a b => h i (by omega) (by omega)) (by omega) (by omega) h3
      omega
theorem sumR_all {f g : Nat → Int} : ∀ {c j : Nat}, (∀ i, j ≤ i → i < j + c → f i + 1 ≤ g i) → sumR f c j + c ≤ sumR g c j
  | 0, _, _ => by simp [sumR]
  | c + 1, j, h => by
    have h1 := h j (Nat.le_refl _) (by omega)
    have h2 := sumR_all (c := c) (f := f) (g := g) (j := j + 1) fun i a b => h i (by omega) (by omega)
    simp only [sumR]; omega
theorem sumR_one {f : Nat → Int} {k : Nat} : ∀ {c j : Nat}, (∀ i, j ≤ i → i < j + c → 0 ≤ f i) → j ≤ k → k < j + c → f k ≤ sumR f c j
  | 0, _, _, _, _ => by omega
  | c + 1, j, h, h1, h2 => by
    simp only [sumR]
    have h4 := h j (Nat.le_refl _) (by omega)
    by_cases e : j = k
    · subst e
      have := sumR_le (f := fun _ => 0) (g := f) (c := c) (j := j + 1) fun i a b => h i (by omega) (by omega)
      rw [sumR_const] at this
      omega
    · have := sumR_one (f := f) (k := k) (c := c) (j := j + 1) (fun i a b => h i (by omega) (by omega)) (by omega) (by omega)
      omega
theorem sumR_nn {f : Nat → Int} {c j : Nat} (h : ∀ i, j ≤ i → i < j + c → 0 ≤ f i) : 0 ≤ sumR f c j := by
  have := sumR_le (f := fun _ => 0) (g := f) (c := c) (j := j) h
  rw [sumR_const] at this
  omega
theorem cover_len : ∀ (N : Nat) (o : List Int), (∀ x : Int, 0 ≤ x → x < N → x ∈ o) → N ≤ o.length
  | 0, _, _ => Nat.zero_le _
  | N + 1, o, h => by
    have hm := h N (by omega) (by omega)
    have := cover_len N (o.erase N) fun x h0 h1 => (List.mem_erase_of_ne (by omega)).2 (h x h0 (by omega))
    rw [List.length_erase_of_mem hm] at this
    have := List.length_pos_of_mem hm
    omega
theorem findF_some {f : Nat → Bool} : ∀ {c j k : Nat}, findF f c j = some k → j ≤ k ∧ k < j + c ∧ f k = true
  | 0, _, _, h => by cases h
  | c + 1, j, k, h => by
    unfold findF at h
    cases hf : f j with
    | true => rw [hf] at h; cases h; exact ⟨Nat.le_refl _, by omega, hf⟩
    | false =>
      rw [hf] at h
      obtain ⟨a, b, d⟩ := findF_some (c := c) (j := j + 1) h
      exact ⟨by omega, by omega, d⟩
theorem findF_none {f : Nat → Bool} {c j : Nat} (h : findF f c j = none) {i : Nat} (h1 : j ≤ i) (h2 : i < j + c) : f i = false := by
  cases hf : f i with
  | false => rfl
  | true =>
    obtain ⟨k, hk, _⟩ := findF_ex (f := f) (c := c) (j := j) ⟨i, h1, h2, hf⟩
    rw [h] at hk; cases hk
def rdyS (l : List (Int × List Int)) (over : List Int) (now : Int) (i : Nat) : Bool := decide (V over i < 0) && (needs l i).all fun m => decide (0 ≤ V over m ∧ V over m ≤ now)
def readyAt (l : List (Int × List Int)) (over : List Int) (now : Int) : Option Nat := findF (rdyS l over now) l.length 0
structure Sc where
  free : List Int
  over : List Int
  out : List (Int × Int × Int)
  fin : Int
def asg (l : List (Int × List Int)) (now : Int) (w k : Nat) (s : Sc) : Sc :=
  ⟨s.free.set w (now + dur l k), s.over.set k (now + dur l k), s.out ++ [((k : Int), (w : Int), now)], if now + dur l k > s.fin then now + dur l k else s.fin⟩
def wkS (l : List (Int × List Int)) (now : Int) (w : Nat) (s : Sc) : Sc :=
  if V s.free w > now then s else match readyAt l s.over now with
    | none => s
    | some k => asg l now w k s
def wk (l : List (Int × List Int)) (now : Int) : Nat → Nat → Sc → Sc
  | 0, _, s => s
  | c + 1, j, s => wk l now c (j + 1) (wkS l now j s)
def sch (l : List (Int × List Int)) (W : Nat) : Nat → Int → Sc → Sc
  | 0, _, s => s
  | f + 1, now, s => if s.out.length < l.length then sch l W f (now + 1) (wk l now W 0 s) else s
def posI (x : Int) : Int := if 0 ≤ x then x else 0
def workOf (l : List (Int × List Int)) (over : List Int) : Int := sumR (fun i => if 0 ≤ V over i then dur l i else 0) l.length 0
def rest (W : Nat) (now : Int) (free : List Int) : Int := sumR (fun w => posI (V free w - now)) W 0
structure Crew (l : List (Int × List Int)) (E T : List Int) (all : Int) (W : Nat) (now q : Int) (s : Sc) : Prop where
  now0 : 0 ≤ now
  fl : s.free.length = W
  ol : s.over.length = l.length
  f0 : ∀ w : Int, 0 ≤ w → w < W → 0 ≤ V s.free w ∧ V s.free w ≤ s.fin
  o0 : ∀ x : Int, 0 ≤ x → x < l.length → V s.over x = -1 ∨ (0 ≤ V s.over x ∧ V s.over x ≤ s.fin ∧ V E x + dur l x ≤ V s.over x)
  link : ∀ x : Int, 0 ≤ x → x < l.length → now < V s.over x → ∃ w : Int, 0 ≤ w ∧ w < W ∧ V s.free w = V s.over x
  fin0 : s.fin = 0 ∨ ∃ x : Int, 0 ≤ x ∧ x < l.length ∧ V s.over x = s.fin
  fin1 : 0 ≤ s.fin ∧ s.fin ≤ now + 100
  slot : ∀ y ∈ s.out, (0 ≤ y.1 ∧ y.1 < l.length) ∧ (0 ≤ y.2.1 ∧ y.2.1 < W) ∧ (0 ≤ y.2.2 ∧ y.2.2 ≤ now) ∧ V s.over y.1 = y.2.2 + dur l y.1 ∧ V s.over y.1 ≤ V s.free y.2.1 ∧ ∀ m ∈ needs l y.1, 0 ≤ V s.over m ∧ V s.over m ≤ y.2.2
  begun : ∀ x : Int, 0 ≤ x → x < l.length → 0 ≤ V s.over x → x ∈ s.out.map (·.1)
  nd : (s.out.map (·.1)).Nodup
  apart : s.out.Pairwise fun a b => a.2.1 = b.2.1 → a.2.2 + dur l a.1 ≤ b.2.2
  work : workOf l s.over ≤ sumR (fun w => V s.free w) W 0
  q0 : 0 ≤ q ∧ q ≤ all
  idle : (W : Int) * now + rest W now s.free ≤ workOf l s.over + ((W : Int) - 1) * q
  left : ∀ x : Int, 0 ≤ x → x < l.length → V s.over x < 0 → V T x ≤ all - q
  run : ∀ x : Int, 0 ≤ x → x < l.length → now < V s.over x → V s.over x - now + V T x - dur l x ≤ all - q
theorem V_setN {a : List Int} {N : Nat} (ha : a.length = N) {y : Nat} (y1 : y < N) (v : Int) {x : Int} (x0 : 0 ≤ x) : V (a.set y v) x = if x = (y : Int) then v else V a x := by
  have := V_set ha (y := (y : Int)) (by omega) (by omega) v x0
  rw [Int.toNat_natCast] at this
  exact this
theorem ready_some {l : List (Int × List Int)} {over : List Int} {now : Int} {k : Nat} (h : readyAt l over now = some k) : k < l.length ∧ V over k < 0 ∧ ∀ m ∈ needs l k, 0 ≤ V over m ∧ V over m ≤ now := by
  obtain ⟨_, h1, h2⟩ := findF_some h
  simp only [rdyS, Bool.and_eq_true, decide_eq_true_eq, List.all_eq_true] at h2
  exact ⟨by omega, h2.1, h2.2⟩
theorem ready_none {l : List (Int × List Int)} {over : List Int} {now : Int} (h : readyAt l over now = none) {x : Int} (x0 : 0 ≤ x) (x1 : x < l.length) (hx : V over x < 0) : ∃ m ∈ needs l x, V over m < 0 ∨ now < V over m := by
  have h1 := findF_none h (i := x.toNat) (Nat.zero_le _) (by omega)
  have e : ((x.toNat : Nat) : Int) = x := by omega
  simp only [rdyS, e, decide_eq_true hx, Bool.true_and, List.all_eq_false, decide_eq_true_eq] at h1
  obtain ⟨m, hm, h2⟩ := h1
  exact ⟨m, hm, by omega⟩
theorem Crew.begin {l : List (Int × List Int)} (hF : Full l) {E T : List Int} {all : Int} (hE : Early l E all) (hT : Tail l (V T)) {W : Nat} {now q : Int} {s : Sc} (h : Crew l E T all W now q s) {w k : Nat} (hw : w < W) (hfw : V s.free w ≤ now) (hk : readyAt l s.over now = some k) : Crew l E T all W now q (asg l now w k s) := by
  obtain ⟨k1, k2, k3⟩ := ready_some hk
  have hd := hF.dur (x := (k : Int)) (by omega) (by omega)
  have hn0 := h.now0
  have VF := fun (x : Int) (x0 : 0 ≤ x) => V_setN h.fl hw (now + dur l k) x0
  have VO := fun (x : Int) (x0 : 0 ≤ x) => V_setN h.ol k1 (now + dur l k) x0
  have hneed := fun (m : Int) (hm : m ∈ needs l k) => hF.ok.inn (x := (k : Int)) (by omega) (by omega) hm
  have hfin : s.fin ≤ (asg l now w k s).fin ∧ now + dur l k ≤ (asg l now w k s).fin := by
    show s.fin ≤ (if now + dur l k > s.fin then now + dur l k else s.fin) ∧ now + dur l k ≤ (if now + dur l k > s.fin then now + dur l k else s.fin)
    split <;> omega
  have hold : ∀ y ∈ s.out, y.1 ≠ (k : Int) := fun y hy e => by
    obtain ⟨⟨a0, a1⟩, _, ⟨b0, _⟩, c, _⟩ := h.slot y hy
    rw [e] at c
    omega
  have hf0 := h.f0 w (by omega) (by omega)
  have hwork : workOf l (s.over.set k (now + dur l k)) = workOf l s.over + dur l k := by
    unfold workOf
    rw [sumR_upd (k := k) (f := fun i => if 0 ≤ V s.over i then dur l i else 0) (Nat.zero_le _) (by omega) (fun i _ _ hi => by
      rw [VO i (by omega), if_neg (show ¬ (i : Int) = (k : Int) by omega)])]
    rw [VO k (by omega), if_pos (rfl : (k : Int) = k), if_pos (show 0 ≤ now + dur l k by omega), if_neg (show ¬ 0 ≤ V s.over k by omega)]
    omega
  have hfree : sumR (fun w' => V (s.free.set w (now + dur l k)) w') W 0 = sumR (fun w' => V s.free w') W 0 + (now + dur l k - V s.free w) := by
    rw [sumR_upd (k := w) (f := fun w' => V s.free w') (Nat.zero_le _) (by omega) (fun i _ _ hi => by
      rw [VF i (by omega), if_neg (show ¬ (i : Int) = (w : Int) by omega)])]
    rw [VF w (by omega), if_pos (rfl : (w : Int) = w)]
  have hrest : rest W now (s.free.set w (now + dur l k)) = rest W now s.free + dur l k := by
    unfold rest
    rw [sumR_upd (k := w) (f := fun w' => posI (V s.free w' - now)) (Nat.zero_le _) (by omega) (fun i _ _ hi => by
      rw [VF i (by omega), if_neg (show ¬ (i : Int) = (w : Int) by omega)])]
    rw [VF w (by omega), if_pos (rfl : (w : Int) = w)]
    unfold posI
    split <;> split <;> omega
  exact {
    now0 := h.now0
    fl := by show (s.free.set _ _).length = W; rw [List.length_set]; exact h.fl
    ol := by show (s.over.set _ _).length = _; rw [List.length_set]; exact h.ol
    f0 := fun x x0 x1 => by
      show 0 ≤ V (s.free.set _ _) x ∧ V (s.free.set _ _) x ≤ _
      have := h.f0 x x0 x1
      rw [VF x x0]
      split <;> omega
    o0 := fun x x0 x1 => by
      show V (s.over.set _ _) x = -1 ∨ (0 ≤ V (s.over.set _ _) x ∧ V (s.over.set _ _) x ≤ _ ∧ _ ≤ V (s.over.set _ _) x)
      rw [VO x x0]
      split
      · rename_i e
        subst e
        refine .inr ⟨by omega, hfin.2, ?_⟩
        rcases hE.inn k (by omega) (by omega) with e | ⟨m, hm, e⟩
        · omega
        · have h1 := k3 m hm
          have h2 := hneed m hm
          have h3 := h.o0 m h2.1 h2.2
          omega
      · have := h.o0 x x0 x1
        omega
    link := fun x x0 x1 hx => by
      have hx' : now < V (s.over.set k (now + dur l k)) x := hx
      show ∃ w' : Int, 0 ≤ w' ∧ w' < W ∧ V (s.free.set _ _) w' = V (s.over.set _ _) x
      rw [VO x x0] at hx' ⊢
      by_cases e : x = (k : Int)
      · rw [if_pos e]
        exact ⟨w, by omega, by omega, by rw [VF w (by omega), if_pos rfl]⟩
      · rw [if_neg e] at hx' ⊢
        obtain ⟨w', a, b, c⟩ := h.link x x0 x1 hx'
        refine ⟨w', a, b, ?_⟩
        rw [VF w' a, if_neg (fun e2 => by rw [e2] at c; omega)]
        exact c
    fin0 := by
      show (if now + dur l k > s.fin then now + dur l k else s.fin) = (0 : Int) ∨ ∃ x : Int, 0 ≤ x ∧ x < (l.length : Int) ∧ V (s.over.set k (now + dur l k)) x = (if now + dur l k > s.fin then now + dur l k else s.fin)
      split
      · exact .inr ⟨k, by omega, by omega, by rw [VO k (by omega), if_pos rfl]⟩
      · rcases h.fin0 with e | ⟨x, x0, x1, e⟩
        · exact .inl e
        · refine .inr ⟨x, x0, x1, ?_⟩
          rw [VO x x0, if_neg (fun e2 => ?_)]
          · exact e
          · rw [e2] at e
            have := h.fin1
            omega
    fin1 := by
      have := h.fin1
      show (0 : Int) ≤ (if now + dur l k > s.fin then now + dur l k else s.fin) ∧ (if now + dur l k > s.fin then now + dur l k else s.fin) ≤ now + 100
      split <;> omega
    slot := fun y hy => by
      have hy' : y ∈ s.out ++ [((k : Int), (w : Int), now)] := hy
      show _ ∧ _ ∧ _ ∧ V (s.over.set _ _) y.1 = _ ∧ V (s.over.set _ _) y.1 ≤ V (s.free.set _ _) y.2.1 ∧ ∀ m ∈ needs l y.1, 0 ≤ V (s.over.set _ _) m ∧ V (s.over.set _ _) m ≤ y.2.2
      rcases List.mem_append.1 hy' with hy' | hy'
      · obtain ⟨a, b, c, d, e, f⟩ := h.slot y hy'
        have hne := hold y hy'
        refine ⟨a, b, c, ?_, ?_, fun m hm => ?_⟩
        · rw [VO _ a.1, if_neg hne]; exact d
        · rw [VO _ a.1, if_neg hne, VF _ b.1]
          split
          · rename_i e2; rw [e2] at e; omega
          · exact e
        · have h1 := f m hm
          have h2 := hF.ok.inn a.1 a.2 hm
          rw [VO _ h2.1, if_neg (fun e2 => by rw [e2] at h1; omega)]
          exact h1
      · rw [List.mem_singleton.1 hy']
        refine ⟨⟨by show 0 ≤ (k : Int); omega, by show (k : Int) < _; omega⟩, ⟨by show 0 ≤ (w : Int); omega, by show (w : Int) < _; omega⟩, ⟨hn0, Int.le_refl _⟩, ?_, ?_, fun m hm => ?_⟩
        · show V (s.over.set _ _) (k : Int) = _
          rw [VO k (by omega), if_pos rfl]
        · show V (s.over.set _ _) (k : Int) ≤ V (s.free.set _ _) (w : Int)
          rw [VO k (by omega), if_pos rfl, VF w (by omega), if_pos rfl]
          exact Int.le_refl _
        · have h1 := k3 m hm
          have h2 := hneed m hm
          rw [VO _ h2.1, if_neg (fun e2 => by rw [e2] at h1; omega)]
          exact h1
    begun := fun x x0 x1 hx => by
      have hx' : 0 ≤ V (s.over.set k (now + dur l k)) x := hx
      show x ∈ (s.out ++ [((k : Int), (w : Int), now)]).map _
      rw [VO x x0] at hx'
      rw [List.map_append, List.mem_append]
      by_cases e : x = (k : Int)
      · exact .inr (by simp [e])
      · rw [if_neg e] at hx'
        exact .inl (h.begun x x0 x1 hx')
    nd := by
      show ((s.out ++ [((k : Int), (w : Int), now)]).map _).Nodup
      rw [List.map_append, List.nodup_append]
      refine ⟨h.nd, by simp, fun a ha b hb e => ?_⟩
      obtain ⟨y, hy, rfl⟩ := List.mem_map.1 ha
      have hb' : b = (k : Int) := by simpa using hb
      exact hold y hy (by rw [e, hb'])
    apart := by
      show List.Pairwise _ (s.out ++ [((k : Int), (w : Int), now)])
      rw [List.pairwise_append]
      refine ⟨h.apart, by simp, fun a ha b hb e => ?_⟩
      rw [List.mem_singleton.1 hb] at e ⊢
      obtain ⟨_, _, _, d, f, _⟩ := h.slot a ha
      have e' : a.2.1 = (w : Int) := e
      rw [e'] at f
      show _ ≤ now
      omega
    work := by
      show workOf l (s.over.set _ _) ≤ sumR (fun w' => V (s.free.set _ _) w') W 0
      have := h.work
      rw [hwork, hfree]
      omega
    q0 := h.q0
    idle := by
      show _ + rest W now (s.free.set _ _) ≤ workOf l (s.over.set _ _) + _
      have := h.idle
      rw [hwork, hrest]
      omega
    left := fun x x0 x1 hx => by
      have hx' : V (s.over.set k (now + dur l k)) x < 0 := hx
      rw [VO x x0] at hx'
      split at hx'
      · omega
      · exact h.left x x0 x1 hx'
    run := fun x x0 x1 hx => by
      have hx' : now < V (s.over.set k (now + dur l k)) x := hx
      show V (s.over.set _ _) x - now + _ - _ ≤ _
      rw [VO x x0] at hx' ⊢
      split
      · rename_i e
        have := h.left k (by omega) (by omega) k2
        rw [e]
        omega
      · rename_i e
        rw [if_neg e] at hx'
        exact h.run x x0 x1 hx' }
theorem wk_crew {l : List (Int × List Int)} (hF : Full l) {E T : List Int} {all : Int} (hE : Early l E all) (hT : Tail l (V T)) {W : Nat} {now q : Int} : ∀ (c j : Nat) (s : Sc), j + c = W → Crew l E T all W now q s → (∀ w : Int, 0 ≤ w → w < j → V s.free w ≤ now → readyAt l s.over now = none) →
    Crew l E T all W now q (wk l now c j s) ∧ ∀ w : Int, 0 ≤ w → w < W → V (wk l now c j s).free w ≤ now → readyAt l (wk l now c j s).over now = none
  | 0, j, s, hj, h, hr => ⟨h, fun w w0 w1 => hr w w0 (by omega)⟩
  | c + 1, j, s, hj, h, hr => by
    unfold wk
    have hs : Crew l E T all W now q (wkS l now j s) ∧ ∀ w : Int, 0 ≤ w → w < (j + 1 : Nat) → V (wkS l now j s).free w ≤ now → readyAt l (wkS l now j s).over now = none := by
      unfold wkS
      by_cases hb : V s.free j > now
      · rw [if_pos hb]
        refine ⟨h, fun w w0 w1 hw => ?_⟩
        by_cases e : w = (j : Int)
        · rw [e] at hw; omega
        · exact hr w w0 (by omega) hw
      · rw [if_neg hb]
        cases hk : readyAt l s.over now with
        | none => exact ⟨h, fun _ _ _ _ => hk⟩
        | some k =>
          refine ⟨h.begin hF hE hT (by omega) (by omega) hk, fun w w0 w1 hw => ?_⟩
          have hw' : V (s.free.set j (now + dur l k)) w ≤ now := hw
          have hd := hF.dur (x := (k : Int)) (by omega) (by have := (ready_some hk).1; omega)
          rw [V_setN h.fl (by omega) _ w0] at hw'
          split at hw'
          · omega
          · have := hr w w0 (by omega) hw'
            rw [hk] at this
            cases this
    exact wk_crew hF hE hT c (j + 1) _ (by omega) hs.1 hs.2
theorem Crew.next {l : List (Int × List Int)} (hF : Full l) {E T : List Int} {all : Int} (hT : Tail l (V T)) {W : Nat} {now q : Int} {s : Sc} (h : Crew l E T all W now q s) (hr : ∀ w : Int, 0 ≤ w → w < W → V s.free w ≤ now → readyAt l s.over now = none) (hout : (s.out.length < l.length) ∨ ∀ w : Int, 0 ≤ w → w < W → now < V s.free w) : ∃ q', Crew l E T all W (now + 1) q' s := by
  have hn0 := h.now0
  have mk : ∀ q', 0 ≤ q' → q' ≤ all → (W : Int) * (now + 1) + rest W (now + 1) s.free ≤ workOf l s.over + ((W : Int) - 1) * q' → (∀ x : Int, 0 ≤ x → x < l.length → V s.over x < 0 → V T x ≤ all - q') → (∀ x : Int, 0 ≤ x → x < l.length → now + 1 < V s.over x → V s.over x - (now + 1) + V T x - dur l x ≤ all - q') → Crew l E T all W (now + 1) q' s := fun q' a1 a2 a3 a4 a5 =>
    { now0 := by omega, fl := h.fl, ol := h.ol, f0 := h.f0, o0 := h.o0, link := fun x x0 x1 hx => h.link x x0 x1 (by omega), fin0 := h.fin0, fin1 := by have := h.fin1; omega
      slot := fun y hy => by
        obtain ⟨a, b, c, d, e⟩ := h.slot y hy
        exact ⟨a, b, by omega, d, e⟩
      begun := h.begun, nd := h.nd, apart := h.apart, work := h.work, q0 := ⟨a1, a2⟩, idle := a3, left := a4, run := a5 }
  have hi := h.idle
  by_cases hb : ∀ w : Int, 0 ≤ w → w < W → now < V s.free w
  · refine ⟨q, mk q h.q0.1 h.q0.2 ?_ h.left fun x x0 x1 hx => by have := h.run x x0 x1 (by omega); omega⟩
    have := sumR_all (f := fun w : Nat => posI (V s.free w - (now + 1))) (g := fun w : Nat => posI (V s.free w - now)) (c := W) (j := 0) fun i _ hi => by
      have := hb i (by omega) (by omega)
      show posI _ + 1 ≤ posI _
      unfold posI
      split <;> split <;> omega
    rw [Int.mul_add, Int.mul_one]
    show _ + sumR _ _ _ ≤ _
    have e : rest W now s.free = sumR (fun w : Nat => posI (V s.free w - now)) W 0 := rfl
    omega
  · have hout : s.out.length < l.length := hout.resolve_right hb
    obtain ⟨w, hw⟩ := Classical.not_forall.1 hb
    simp only [Classical.not_imp] at hw
    obtain ⟨w0, w1, w2⟩ := hw
    have hno := hr w w0 w1 (by omega)
    have hx : ∃ x : Int, 0 ≤ x ∧ x < l.length ∧ V s.over x < 0 := Classical.byContradiction fun hc => by
      have := cover_len l.length (s.out.map (·.1)) fun x x0 x1 => h.begun x x0 x1 (by
        have : ¬ V s.over x < 0 := fun hx => hc ⟨x, x0, x1, hx⟩
        omega)
      rw [List.length_map] at this
      omega
    obtain ⟨x, x0, x1, hx⟩ := hx
    have hrun : ∀ (c : Nat) (x : Int), place l x ≤ c → 0 ≤ x → x < l.length → V s.over x < 0 → ∃ m : Int, 0 ≤ m ∧ m < l.length ∧ now < V s.over m := by
      intro c
      induction c with
      | zero =>
        intro x hc x0 x1 hx
        obtain ⟨m, hm, hm2⟩ := ready_none hno x0 x1 hx
        obtain ⟨q, hq, hq2⟩ := (hF.need (hF.at_place x0 x1) hm).2.2.2
        omega
      | succ c ih =>
        intro x hc x0 x1 hx
        obtain ⟨m, hm, hm2⟩ := ready_none hno x0 x1 hx
        obtain ⟨m0, m1, _, p, hp, hp2⟩ := hF.need (hF.at_place x0 x1) hm
        rcases hm2 with hm2 | hm2
        · exact ih m (by rw [place_eq hp2]; omega) m0 m1 hm2
        · exact ⟨m, m0, m1, hm2⟩
    obtain ⟨m, m0, m1, hm⟩ := hrun _ x (Nat.le_refl _) x0 x1 hx
    obtain ⟨v, v0, v1, hv⟩ := h.link m m0 m1 hm
    have hq1 : q + 1 ≤ all := by
      have h1 := h.left x x0 x1 hx
      have h2 := hT.a x x0 x1
      have h3 := hF.dur x0 x1
      omega
    refine ⟨q + 1, mk (q + 1) (by have := h.q0; omega) hq1 ?_ (fun y y0 y1 hy => ?_) fun y y0 y1 hy => ?_⟩
    · have := sumR_lt (f := fun w : Nat => posI (V s.free w - (now + 1))) (g := fun w : Nat => posI (V s.free w - now)) (c := W) (j := 0) (k := v.toNat) (fun i _ hi => by
        show posI _ ≤ posI _
        unfold posI
        split <;> split <;> omega) (Nat.zero_le _) (by omega) (by
        show posI (V s.free ((v.toNat : Nat) : Int) - (now + 1)) + 1 ≤ posI (V s.free ((v.toNat : Nat) : Int) - now)
        rw [show ((v.toNat : Nat) : Int) = v by omega]
        unfold posI
        split <;> split <;> omega)
      rw [Int.mul_add, Int.mul_one, Int.mul_add, Int.mul_one]
      show _ + sumR _ _ _ ≤ _
      have e : rest W now s.free = sumR (fun w : Nat => posI (V s.free w - now)) W 0 := rfl
      omega
    · obtain ⟨m, hm, hm2⟩ := ready_none hno y0 y1 hy
      have hmi := hF.ok.inn y0 y1 hm
      have h1 := hT.b m y hmi.1 hmi.2 y0 y1 hm
      have h3 := hF.dur hmi.1 hmi.2
      rcases hm2 with hm2 | hm2
      · have := h.left m hmi.1 hmi.2 hm2
        omega
      · have := h.run m hmi.1 hmi.2 hm2
        omega
    · have := h.run y y0 y1 (by omega)
      omega
theorem work_le {l : List (Int × List Int)} (hF : Full l) (over : List Int) : workOf l over ≤ 3000 := by
  have := sumR_le (f := fun i : Nat => if 0 ≤ V over i then dur l i else 0) (g := fun _ => 100) (c := l.length) (j := 0) fun i _ hi => by
    have := hF.dur (x := (i : Int)) (by omega) (by omega)
    show (if _ then _ else _) ≤ _
    split <;> omega
  rw [sumR_const] at this
  have := hF.ok.len
  show sumR _ _ _ ≤ _
  omega
theorem Crew.now_le {l : List (Int × List Int)} (hF : Full l) {E T : List Int} {all : Int} (hall : all ≤ 3100) {W : Nat} (hW : 1 ≤ W) {now q : Int} {s : Sc} (h : Crew l E T all W now q s) : now ≤ 3100 := by
  have h1 := h.idle
  have h2 := work_le hF s.over
  have h3 : 0 ≤ rest W now s.free := sumR_nn fun i _ _ => by
    show 0 ≤ posI _
    unfold posI
    split <;> omega
  have h4 : ((W : Int) - 1) * q ≤ ((W : Int) - 1) * 3100 := Int.mul_le_mul_of_nonneg_left (by have := h.q0; omega) (by omega)
  rw [Int.sub_mul (W : Int) 1 3100] at h4
  by_cases hc : now ≤ 3100
  · exact hc
  · have h5 : (W : Int) * 3101 ≤ (W : Int) * now := Int.mul_le_mul_of_nonneg_left (by omega) (by omega)
    omega
theorem wkS_len (l : List (Int × List Int)) (now : Int) (j : Nat) (s : Sc) : (wkS l now j s).free.length = s.free.length ∧ (wkS l now j s).over.length = s.over.length ∧ (wkS l now j s).out.length ≤ s.out.length + 1 := by
  unfold wkS
  split
  · exact ⟨rfl, rfl, by omega⟩
  · split
    · exact ⟨rfl, rfl, by omega⟩
    · exact ⟨by simp [asg], by simp [asg], by simp [asg]⟩
theorem sch_crew {l : List (Int × List Int)} (hF : Full l) {E T : List Int} {all : Int} (hE : Early l E all) (hT : Tail l (V T)) {W : Nat} (hW : 1 ≤ W) : ∀ (f : Nat) (now q : Int) (s : Sc), Crew l E T all W now q s → 3101 - now < f →
    ∃ now' q', Crew l E T all W now' q' (sch l W f now s) ∧ ¬ (sch l W f now s).out.length < l.length
  | 0, now, q, s, h, hf => by have := h.now_le hF hE.all0.2 hW; omega
  | f + 1, now, q, s, h, hf => by
    unfold sch
    by_cases hlt : s.out.length < l.length
    · rw [if_pos hlt]
      obtain ⟨h1, h2⟩ := wk_crew hF hE hT W 0 s (by omega) h (fun w w0 w1 => by omega)
      by_cases hlt2 : (wk l now W 0 s).out.length < l.length
      · obtain ⟨q', h3⟩ := h1.next hF hT h2 (.inl hlt2)
        exact sch_crew hF hE hT hW f (now + 1) q' _ h3 (by omega)
      · have e : sch l W f (now + 1) (wk l now W 0 s) = wk l now W 0 s := by
          cases f with
          | zero => rfl
          | succ f => unfold sch; rw [if_neg hlt2]
        rw [e]
        exact ⟨now, q, h1, hlt2⟩
    · rw [if_neg hlt]
      exact ⟨now, q, h, hlt⟩
def sc0 (l : List (Int × List Int)) (W : Nat) : Sc := ⟨List.replicate W 0, List.replicate l.length (-1), [], 0⟩
theorem V_rep (N : Nat) (v : Int) {x : Int} (x0 : 0 ≤ x) (x1 : x < N) : V (List.replicate N v) x = v := by
  unfold V
  rw [List.getD_eq_getElem?_getD, List.getElem?_replicate, if_pos (by omega)]; rfl
theorem crew0 {l : List (Int × List Int)} (hF : Full l) {E T : List Int} {all : Int} (hE : Early l E all) (hT : Tail l (V T)) (W : Nat) : Crew l E T all W 0 0 (sc0 l W) := by
  have hO := fun (x : Int) (x0 : 0 ≤ x) (x1 : x < l.length) => V_rep l.length (-1) x0 x1
  exact {
    now0 := Int.le_refl _
    fl := by simp [sc0]
    ol := by simp [sc0]
    f0 := fun w w0 w1 => by
      show 0 ≤ V (List.replicate W 0) w ∧ V (List.replicate W 0) w ≤ 0
      rw [V_rep W 0 w0 w1]; omega
    o0 := fun x x0 x1 => .inl (hO x x0 x1)
    link := fun x x0 x1 hx => by
      have hx' : 0 < V (List.replicate l.length (-1)) x := hx
      rw [hO x x0 x1] at hx'; omega
    fin0 := .inl rfl
    fin1 := by show (0 : Int) ≤ 0 ∧ (0 : Int) ≤ 0 + 100; omega
    slot := fun y hy => by simp [sc0] at hy
    begun := fun x x0 x1 hx => by
      have hx' : 0 ≤ V (List.replicate l.length (-1)) x := hx
      rw [hO x x0 x1] at hx'; omega
    nd := List.nodup_nil
    apart := List.Pairwise.nil
    work := by
      show workOf l (List.replicate l.length (-1)) ≤ sumR (fun w => V (List.replicate W 0) w) W 0
      unfold workOf
      rw [sumR_congr (g := fun _ => 0) (fun i _ hi => by rw [hO i (by omega) (by omega)]; rfl), sumR_congr (f := fun w : Nat => V (List.replicate W 0) w) (g := fun _ => 0) (fun i _ hi => V_rep W 0 (by omega) (by omega)), sumR_const, sumR_const]
      omega
    q0 := ⟨Int.le_refl _, hE.all0.1⟩
    idle := by
      show (W : Int) * 0 + rest W 0 (List.replicate W 0) ≤ workOf l (List.replicate l.length (-1)) + ((W : Int) - 1) * 0
      unfold workOf rest
      rw [sumR_congr (f := fun i : Nat => if 0 ≤ V (List.replicate l.length (-1)) i then dur l i else 0) (g := fun _ => 0) (fun i _ hi => by rw [hO i (by omega) (by omega)]; rfl), sumR_congr (f := fun w : Nat => posI (V (List.replicate W 0) w - 0)) (g := fun _ => 0) (fun i _ hi => by rw [V_rep W 0 (by omega) (by omega)]; rfl), sumR_const, sumR_const]
      omega
    left := fun x x0 x1 _ => by
      have h1 := both_le hF hE hT (V T x).toNat x x0 x1 (by have := hT.a x x0 x1; have := hF.dur x0 x1; omega)
      have h2 := hE.nn x x0 x1
      omega
    run := fun x x0 x1 hx => by
      have hx' : 0 < V (List.replicate l.length (-1)) x := hx
      rw [hO x x0 x1] at hx'; omega }
structure Fin (l : List (Int × List Int)) (all : Int) (W : Nat) (s : Sc) : Prop where
  fin : 0 ≤ s.fin ∧ s.fin ≤ 3200
  ge : all ≤ s.fin
  work : sumR (fun i => dur l i) l.length 0 ≤ s.fin * W
  most : s.fin * W ≤ sumR (fun i => dur l i) l.length 0 + ((W : Int) - 1) * all
  len : s.out.length = l.length
  slot : ∀ y ∈ s.out, (0 ≤ y.1 ∧ y.1 < l.length) ∧ (0 ≤ y.2.1 ∧ y.2.1 < W) ∧ (0 ≤ y.2.2 ∧ y.2.2 ≤ 3100) ∧ V s.over y.1 = y.2.2 + dur l y.1 ∧ ∀ m ∈ needs l y.1, V s.over m ≤ y.2.2
  all : ∀ x : Int, 0 ≤ x → x < l.length → x ∈ s.out.map (·.1)
  nd : (s.out.map (·.1)).Nodup
  apart : s.out.Pairwise fun a b => a.2.1 = b.2.1 → a.2.2 + dur l a.1 ≤ b.2.2
theorem Crew.done {l : List (Int × List Int)} (hF : Full l) {E T : List Int} {all : Int} (hE : Early l E all) (hT : Tail l (V T)) {W : Nat} (hW : 1 ≤ W) {now q : Int} {s : Sc} (h : Crew l E T all W now q s) (hout : ¬ s.out.length < l.length) : Fin l all W s := by
  have hnl := h.now_le hF hE.all0.2 hW
  have hin : ∀ x ∈ s.out.map (·.1), 0 ≤ x ∧ x < (l.length : Int) := fun x hx => by
    obtain ⟨y, hy, rfl⟩ := List.mem_map.1 hx
    exact (h.slot y hy).1
  have hlen : (s.out.map (·.1)).length = l.length := by
    have := nodup_len l.length (s.out.map (·.1)) h.nd hin
    rw [List.length_map] at this ⊢
    omega
  have hall := fun (x : Int) (x0 : 0 ≤ x) (x1 : x < l.length) => full_mem h.nd hin hlen x0 x1
  have hbeg : ∀ x : Int, 0 ≤ x → x < l.length → 0 ≤ V s.over x := fun x x0 x1 => by
    obtain ⟨y, hy, e⟩ := List.mem_map.1 (hall x x0 x1)
    obtain ⟨a, b, c, d, _⟩ := h.slot y hy
    have e' : y.1 = x := e
    have := hF.dur x0 x1
    rw [e'] at d
    omega
  have hA : workOf l s.over = sumR (fun i => dur l i) l.length 0 := sumR_congr fun i _ hi => if_pos (hbeg i (by omega) (by omega))
  have hP : 0 ≤ rest W now s.free := sumR_nn fun i _ _ => by
    show 0 ≤ posI _
    unfold posI
    split <;> omega
  have hid := h.idle
  have hq0 := h.q0
  have hf1 := h.fin1
  have hmq : ((W : Int) - 1) * q ≤ ((W : Int) - 1) * all := Int.mul_le_mul_of_nonneg_left hq0.2 (by omega)
  refine ⟨⟨hf1.1, by omega⟩, ?_, ?_, ?_, by rw [List.length_map] at hlen; exact hlen, fun y hy => ?_, hall, h.nd, h.apart⟩
  · rcases hE.all2 with e | ⟨x, x0, x1, e⟩
    · omega
    · have := h.o0 x x0 x1
      have := hbeg x x0 x1
      omega
  · rw [← hA]
    have h1 := h.work
    have h2 := sumR_le (f := fun w : Nat => V s.free w) (g := fun _ => s.fin) (c := W) (j := 0) fun i _ hi => (h.f0 i (by omega) (by omega)).2
    rw [sumR_const, Int.mul_comm] at h2
    omega
  · rw [← hA, Int.mul_comm]
    by_cases hc : s.fin ≤ now
    · have h1 : (W : Int) * s.fin ≤ (W : Int) * now := Int.mul_le_mul_of_nonneg_left hc (by omega)
      omega
    · rcases h.fin0 with e | ⟨x, x0, x1, e⟩
      · have := h.now0; omega
      · obtain ⟨w, w0, w1, hw⟩ := h.link x x0 x1 (by omega)
        have h1 := h.run x x0 x1 (by omega)
        have h2 := hT.a x x0 x1
        have h3 : s.fin - now ≤ rest W now s.free := by
          have := sumR_one (f := fun w : Nat => posI (V s.free w - now)) (k := w.toNat) (c := W) (j := 0) (fun i _ _ => by
            show 0 ≤ posI _
            unfold posI
            split <;> omega) (Nat.zero_le _) (by omega)
          have e2 : posI (V s.free ((w.toNat : Nat) : Int) - now) = s.fin - now := by
            rw [show ((w.toNat : Nat) : Int) = w by omega, hw, e]
            unfold posI
            rw [if_pos (by omega)]
          rw [← e2]
          exact this
        have h4 : ((W : Int) - 1) * (q + (s.fin - now)) ≤ ((W : Int) - 1) * all := Int.mul_le_mul_of_nonneg_left (by omega) (by omega)
        rw [Int.mul_add, Int.sub_mul (W : Int) 1 (s.fin - now), Int.mul_sub (W : Int)] at h4
        omega
  · obtain ⟨a, b, c, d, e, f⟩ := h.slot y hy
    exact ⟨a, b, by omega, d, fun m hm => (f m hm).2⟩
theorem impl_late {R : Type} (free over ns : List Int) (now : Int) (hl : ns.length ≤ 1048576) (hns : ∀ x ∈ ns, 0 ≤ x ∧ x < (over.length : Int)) (k : Bool → (List Int × List Int) → Int → Option R) : ∀ (n j : Nat), ns.length - j < n → j ≤ ns.length →
    slices_IndexFunc_int_impl_crew_ready_c1_l2 n ns (ns.length : Int) (j : Int) (free, over) now (fun r4 r5 r6 => k (decide (r4 ≥ 0)) r5 r6) (fun r7 r8 => k (decide ((-1 : Int) ≥ 0)) r7 r8) = k (!(ns.drop j).all fun m => decide (0 ≤ V over m ∧ V over m ≤ now)) (free, over) now
  | 0, _, h, _ => by omega
  | n + 1, j, hn, hj => by
    rw [slices_IndexFunc_int_impl_crew_ready_c1_l2]
    by_cases h : j < ns.length
    · obtain ⟨h0, h1⟩ := hns _ (List.getElem_mem h)
      have e : over.getD (Int.toNat ns[j]) 0 = V over ns[j] := rfl
      rw [dlt h, dnn, getD_at _ _ h, wrapS h (by omega), List.drop_eq_getElem_cons h, List.all_cons]
      simp only [cond_true, impl_crew_ready_c1, decide_eq_true h0, decide_eq_true h1, e]
      have go := impl_late free over ns now hl hns k n (j + 1) (by omega) (by omega)
      by_cases c1 : V over ns[j] < 0
      · rw [decide_eq_true c1, decide_eq_false (show ¬ (0 ≤ V over ns[j] ∧ V over ns[j] ≤ now) by omega)]
        simp only [cond_true, decide_eq_true (show (j : Int) ≥ 0 by omega), Bool.false_and, Bool.not_false]
      · rw [decide_eq_false c1]
        by_cases c2 : V over ns[j] > now
        · rw [decide_eq_true c2, decide_eq_false (show ¬ (0 ≤ V over ns[j] ∧ V over ns[j] ≤ now) by omega)]
          simp only [cond_true, cond_false, decide_eq_true (show (j : Int) ≥ 0 by omega), Bool.false_and, Bool.not_false]
        · rw [decide_eq_false c2, decide_eq_true (show (0 ≤ V over ns[j] ∧ V over ns[j] ≤ now) by omega)]
          simp only [cond_false, Bool.true_and]
          exact go
    · rw [dge (by omega), List.drop_eq_nil_iff.2 (by omega)]; rfl
def optK {R : Type} (o : Option Nat) (ke : Option R) (kr : Int → Option R) : Option R := match o with
  | none => ke
  | some i => kr (i : Int)
theorem impl_ready_loop {R : Type} {l : List (Int × List Int)} (hp : PlanOk l) (free over : List Int) (ho : over.length = l.length) (now : Int) (kr : Int → Option R) (ke : Option R) : ∀ (c n j : Nat), c + 100 < n → j + c = l.length →
    impl_crew_ready_l2 n l (l.length : Int) (j : Int) (free, over) now kr ke = optK (findF (rdyS l over now) c j) ke kr
  | c, 0, _, h, _ => by omega
  | 0, n + 1, j, hn, hj => by rw [impl_crew_ready_l2, dge (by omega)]; rfl
  | c + 1, n + 1, j, hn, hj => by
    have h : j < l.length := by omega
    have hlen30 := hp.len
    have hn1 : needs l (j : Int) = l[j].2 := by unfold needs; rw [getD_at _ _ h]
    have hlen : l[j].2.length ≤ 30 := by rw [← hn1]; exact hp.nlen (by omega) (by omega)
    rw [impl_crew_ready_l2, dlt h, dnn, getD_at _ _ h, wrapS h (by omega)]
    simp only [cond_true]
    unfold slices_ContainsFunc_int_impl_crew_ready_c1 slices_IndexFunc_int_impl_crew_ready_c1
    have := impl_late free over l[j].2 now (by omega) (fun x hx => by rw [ho]; exact hp.inn (x := (j : Int)) (by omega) (by omega) (by rw [hn1]; exact hx)) (fun r1 r2 r3 => (bif decide ((j : Int) < (r2.2.length : Int)) then (bif (decide ((r2.2.getD (Int.toNat (j : Int)) 0) < 0)) then (bif (!r1) then kr (j : Int) else impl_crew_ready_l2 n l (l.length : Int) ((j + 1 : Nat) : Int) r2 r3 kr ke) else impl_crew_ready_l2 n l (l.length : Int) ((j + 1 : Nat) : Int) r2 r3 kr ke) else none)) n 0 (by omega) (by omega)
    rw [show ((0 : Nat) : Int) = 0 from rfl, List.drop_zero] at this
    rw [this]
    have go := impl_ready_loop hp free over ho now kr ke c n (j + 1) (by omega) (by omega)
    have e : over.getD (Int.toNat (j : Int)) 0 = V over j := rfl
    simp only [ho, dlt h, e, cond_true, findF, rdyS, hn1]
    cases decide (V over j < 0) with
    | false => exact go
    | true =>
      cases (l[j].2.all fun m => decide (0 ≤ V over m ∧ V over m ≤ now)) with
      | true => rfl
      | false => exact go
theorem impl_ready_eq {R : Type} {n : Nat} {l : List (Int × List Int)} (hp : PlanOk l) (free over : List Int) (ho : over.length = l.length) (now : Int) (hn : 200 ≤ n) (k : Int → Option R) : impl_crew_ready n (free, over) l now k = optK (readyAt l over now) (k (-1)) k := by
  unfold impl_crew_ready
  have h30 := hp.len
  have := impl_ready_loop hp free over ho now (fun r4 => k r4) (k (-1)) l.length n 0 (by omega) (by omega)
  rw [show ((0 : Nat) : Int) = 0 from rfl] at this
  exact this
theorem impl_wk {R : Type} {l : List (Int × List Int)} (hF : Full l) {W : Nat} (hW : W ≤ 8) {now : Int} (h0 : 0 ≤ now) (h1 : now ≤ 100000) (k : List (Int × List Int) → Int → Int → List Int → List Int → List (Int × Int × Int) → Option R) : ∀ (c n j : Nat) (s : Sc), c + 300 < n → j + c = W → s.free.length = W → s.over.length = l.length → s.out.length + c ≤ 1000000 →
    impl_ScheduleOf_l8 n l s.fin now (W : Int) (j : Int) s.free s.over s.out k = k l (wk l now c j s).fin now (wk l now c j s).free (wk l now c j s).over (wk l now c j s).out
  | c, 0, _, _, h, _, _, _, _ => by omega
  | 0, n + 1, j, s, hn, hj, hf, ho, hu => by
    rw [impl_ScheduleOf_l8, dge (by omega)]; rfl
  | c + 1, n + 1, j, s, hn, hj, hf, ho, hu => by
    have hj' : j < s.free.length := by omega
    have hw := wkS_len l now j s
    have go := impl_wk hF hW h0 h1 k c n (j + 1) (wkS l now j s) (by omega) (by omega) (by omega) (by omega) (by omega)
    have e : s.free.getD (Int.toNat (j : Int)) 0 = V s.free j := rfl
    rw [impl_ScheduleOf_l8, show decide ((j : Int) < (W : Int)) = true from decide_eq_true (by omega), dlt hj', dnn, wrap64 (x := (j : Int) + 1) (by omega) (by omega), e, wk]
    simp only [cond_true]
    by_cases hb : V s.free j > now
    · have e2 : wkS l now j s = s := by unfold wkS; rw [if_pos hb]
      rw [decide_eq_true hb, cond_true]
      rw [e2] at go ⊢
      exact go
    · rw [decide_eq_false hb, cond_false, impl_ready_eq hF.ok s.free s.over ho now (by omega)]
      cases hk : readyAt l s.over now with
      | none =>
        have e2 : wkS l now j s = s := by unfold wkS; rw [if_neg hb, hk]
        rw [e2] at go ⊢
        exact go
      | some i =>
        obtain ⟨i0, _, _⟩ := ready_some hk
        have hd := hF.dur (x := (i : Int)) (by omega) (by omega)
        have e2 : wkS l now j s = asg l now j i s := by unfold wkS; rw [if_neg hb, hk]
        have e3 : (l.getD (Int.toNat (i : Int)) (0, [])).1 = dur l i := rfl
        have e4 : (s.over.set (Int.toNat (i : Int)) (now + dur l i)).getD (Int.toNat (i : Int)) 0 = now + dur l i := by
          have := V_setN ho i0 (now + dur l i) (x := (i : Int)) (by omega)
          rw [if_pos rfl] at this
          exact this
        simp only [optK, decide_eq_true (show (i : Int) ≥ 0 by omega), e3, wrap64 (x := now + dur l i) (by omega) (by omega), e4, List.length_set, ho, hf, dlt i0, decide_eq_true (show (0 : Int) ≤ (i : Int) by omega), dnn, show decide ((j : Int) < (W : Int)) = true from decide_eq_true (by omega), decide_eq_true (show s.out.length + [((i : Int), ((j : Int), now))].length ≤ LIM by simp [LIM]; omega), cond_true]
        rw [e2] at go ⊢
        rw [Int.toNat_natCast, Int.toNat_natCast]
        exact go
theorem impl_sch {R : Type} {l : List (Int × List Int)} (hF : Full l) {E T : List Int} {all : Int} (hE : Early l E all) (hT : Tail l (V T)) {W : Nat} (hW : 1 ≤ W) (hW8 : W ≤ 8) (k : Int → List (Int × Int × Int) → Option R) : ∀ (f n : Nat) (now q : Int) (s : Sc), Crew l E T all W now q s → 3101 - now < f → f + 1000 < n →
    impl_ScheduleOf_l5 n l s.fin now s.free s.over s.out k = k (sch l W f now s).fin (sch l W f now s).out
  | 0, n, now, q, s, h, hf, _ => by have := h.now_le hF hE.all0.2 hW; omega
  | f + 1, 0, now, q, s, h, hf, hn => by omega
  | f + 1, n + 1, now, q, s, h, hf, hn => by
    have h30 := hF.ok.len
    have hnl := h.now_le hF hE.all0.2 hW
    have hn0 := h.now0
    rw [impl_ScheduleOf_l5, sch]
    by_cases hlt : s.out.length < l.length
    · rw [if_pos hlt, decide_eq_true (show (s.out.length : Int) < (l.length : Int) by omega), cond_true, h.fl]
      have := impl_wk hF hW8 h.now0 (by omega) (fun r5 r6 r7 r8 r9 r10 => impl_ScheduleOf_l5 n r5 r6 (IntKind.wrap .i64 (r7 + 1)) r8 r9 r10 k) W n 0 s (by omega) (by omega) h.fl h.ol (by omega)
      rw [show ((0 : Nat) : Int) = 0 from rfl] at this
      rw [this, wrap64 (x := now + 1) (by omega) (by omega)]
      obtain ⟨h1, h2⟩ := wk_crew hF hE hT W 0 s (by omega) h (fun w w0 w1 => by omega)
      by_cases hlt2 : (wk l now W 0 s).out.length < l.length
      · obtain ⟨q', h3⟩ := h1.next hF hT h2 (.inl hlt2)
        exact impl_sch hF hE hT hW hW8 k f n (now + 1) q' _ h3 (by omega) (by omega)
      · have e : sch l W f (now + 1) (wk l now W 0 s) = wk l now W 0 s := by
          cases f with
          | zero => rfl
          | succ f => unfold sch; rw [if_neg hlt2]
        rw [e]
        cases n with
        | zero => omega
        | succ n => rw [impl_ScheduleOf_l5, decide_eq_false (show ¬ ((wk l now W 0 s).out.length : Int) < (l.length : Int) by omega)]; rfl
    · rw [if_neg hlt, decide_eq_false (show ¬ (s.out.length : Int) < (l.length : Int) by omega)]; rfl
theorem set_take_drop {α : Type} {l : List α} {j : Nat} (h : j < l.length) (x : α) : (l.set j x).take (j + 1) = l.take j ++ [x] := by
  rw [List.take_set, List.take_succ_eq_append_getElem h, List.set_append_right _ _ (by simp; omega)]
  simp [Nat.min_eq_left (Nat.le_of_lt h)]
theorem spec_needs24 {R : Type} {l : List (Int × List Int)} (ns : List Int) (over : List Int) (now : Int) (hl : ns.length ≤ 1048576) (hns : ∀ x ∈ ns, 0 ≤ x ∧ x < (over.length : Int)) (a b c d e f : Int) (p : List (Int × List Int)) (out : List (Int × Int × Int)) (free : List Int) (t : Int) (tn : List Int) (fin : Int)
    (k : List (Int × List Int) → Int → Int → Int → Int → Bool → Int → Int → List (Int × List Int) → Int → Int → List (Int × Int × Int) → List Int → List Int → Int → List Int → Option R) : ∀ (n j : Nat) (r : Bool), ns.length - j < n → j ≤ ns.length →
    spec_ScheduleOf_l24 n l fin now a b r c d p e f ns (ns.length : Int) (j : Int) out over free t tn k = k l fin now a b (r && (ns.drop j).all fun m => decide (0 ≤ V over m ∧ V over m ≤ now)) c d p e f out over free t tn
  | 0, _, _, h, _ => by omega
  | n + 1, j, r, hn, hj => by
    rw [spec_ScheduleOf_l24]
    by_cases h : j < ns.length
    · obtain ⟨h0, h1⟩ := hns _ (List.getElem_mem h)
      have he : over.getD (Int.toNat ns[j]) 0 = V over ns[j] := rfl
      rw [dlt h, dnn, getD_at _ _ h, wrapS h (by omega), List.drop_eq_getElem_cons h, List.all_cons]
      simp only [cond_true, spec_l1In_eq, decide_eq_true h0, decide_eq_true h1, he]
      have go := fun r => spec_needs24 (R := R) (l := l) ns over now hl hns a b c d e f p out free t tn fin k n (j + 1) r (by omega) (by omega)
      cases r with
      | true =>
        rw [cond_true, go, Bool.true_and]
      | false =>
        rw [cond_false, go, Bool.false_and, Bool.false_and]
    · rw [dge (by omega), List.drop_eq_nil_iff.2 (by omega), List.all_nil, Bool.and_true]; rfl
def asgO (l : List (Int × List Int)) (now : Int) (w : Nat) (s : Sc) (o : Option Nat) : Sc := match o with
  | none => s
  | some k => asg l now w k s
theorem spec_tasks20 {R : Type} {l : List (Int × List Int)} (hF : Full l) {W : Nat} {now : Int} (h0 : 0 ≤ now) (h1 : now ≤ 100000) {w : Nat} (s : Sc) (hw : w < W) (hf : s.free.length = W) (ho : s.over.length = l.length) (hu : s.out.length ≤ 1000000) (k : List (Int × List Int) → Int → Int → Int → Int → List (Int × Int × Int) → List Int → List Int → Option R) : ∀ (c n j : Nat), c + 200 < n → j + c = l.length →
    spec_ScheduleOf_l20 n l s.fin now (w : Int) (W : Int) (w : Int) l (l.length : Int) (j : Int) s.out s.over s.free k = k l (asgO l now w s (findF (rdyS l s.over now) c j)).fin now (W : Int) (w : Int) (asgO l now w s (findF (rdyS l s.over now) c j)).out (asgO l now w s (findF (rdyS l s.over now) c j)).over (asgO l now w s (findF (rdyS l s.over now) c j)).free
  | c, 0, _, h, _ => by omega
  | 0, n + 1, j, hn, hj => by rw [spec_ScheduleOf_l20, dge (by omega)]; rfl
  | c + 1, n + 1, j, hn, hj => by
    have h : j < l.length := by omega
    have hlen30 := hF.ok.len
    have hn1 : needs l (j : Int) = l[j].2 := by unfold needs; rw [getD_at _ _ h]
    have hd1 : dur l (j : Int) = l[j].1 := by unfold dur; rw [getD_at _ _ h]
    have hd := hF.dur (x := (j : Int)) (by omega) (by omega)
    have hlen : l[j].2.length ≤ 30 := by rw [← hn1]; exact hF.ok.nlen (by omega) (by omega)
    have e : s.over.getD (Int.toNat (j : Int)) 0 = V s.over j := rfl
    have e4 : (s.over.set (Int.toNat (j : Int)) (now + dur l j)).getD (Int.toNat (j : Int)) 0 = now + dur l j := by
      have := V_setN ho h (now + dur l j) (x := (j : Int)) (by omega)
      rw [if_pos rfl] at this
      exact this
    have hov : decide ((j : Int) < (s.over.length : Int)) = true := by rw [ho]; exact dlt h
    have hwf : decide ((w : Int) < (s.free.length : Int)) = true := decide_eq_true (by omega)
    have go := spec_tasks20 hF h0 h1 s hw hf ho hu k c n (j + 1) (by omega) (by omega)
    rw [spec_ScheduleOf_l20, dlt h, dnn, hov, getD_at _ _ h, e]
    have h24 := spec_needs24 (l := l) l[j].2 s.over now (by omega) (fun x hx => by rw [ho]; exact hF.ok.inn (x := (j : Int)) (by omega) (by omega) (by rw [hn1]; exact hx)) (w : Int) (j : Int) (W : Int) (w : Int) (l.length : Int) (j : Int) l s.out s.free l[j].1 l[j].2 s.fin
      (fun r8 r9 r10 r11 r12 r13 r14 r15 r16 r17 r18 r19 r20 r21 r22 r23 => (bif (!r13) then spec_ScheduleOf_l20 n r8 r9 r10 r11 r14 r15 r16 r17 (IntKind.wrap .i64 (r18 + 1)) r19 r20 r21 k else (bif decide (r19.length + ([(r12, (r11, r10))]).length ≤ LIM) then (bif decide (0 ≤ r12) then (bif decide (r12 < (r20.length : Int)) then (bif decide (0 ≤ r12) then (bif decide (r12 < ((r20.set (Int.toNat r12) (IntKind.wrap .i64 (r10 + r22))).length : Int)) then (bif decide (0 ≤ r11) then (bif decide (r11 < (r21.length : Int)) then (bif decide (0 ≤ r12) then (bif decide (r12 < ((r20.set (Int.toNat r12) (IntKind.wrap .i64 (r10 + r22))).length : Int)) then (bif (decide (((r20.set (Int.toNat r12) (IntKind.wrap .i64 (r10 + r22))).getD (Int.toNat r12) 0) > r9)) then (bif decide (0 ≤ r12) then (bif decide (r12 < ((r20.set (Int.toNat r12) (IntKind.wrap .i64 (r10 + r22))).length : Int)) then k r8 ((r20.set (Int.toNat r12) (IntKind.wrap .i64 (r10 + r22))).getD (Int.toNat r12) 0) r10 r14 r15 (r19 ++ [(r12, (r11, r10))]) (r20.set (Int.toNat r12) (IntKind.wrap .i64 (r10 + r22))) (r21.set (Int.toNat r11) ((r20.set (Int.toNat r12) (IntKind.wrap .i64 (r10 + r22))).getD (Int.toNat r12) 0)) else none) else none) else k r8 r9 r10 r14 r15 (r19 ++ [(r12, (r11, r10))]) (r20.set (Int.toNat r12) (IntKind.wrap .i64 (r10 + r22))) (r21.set (Int.toNat r11) ((r20.set (Int.toNat r12) (IntKind.wrap .i64 (r10 + r22))).getD (Int.toNat r12) 0))) else none) else none) else none) else none) else none) else none) else none) else none) else none))) n 0 (decide (V s.over j < 0)) (by omega) (by omega)
    rw [show ((0 : Nat) : Int) = 0 from rfl, List.drop_zero] at h24
    simp only [cond_true]
    rw [h24]
    have hr : rdyS l s.over now j = (decide (V s.over j < 0) && l[j].2.all fun m => decide (0 ≤ V s.over m ∧ V s.over m ≤ now)) := by unfold rdyS; rw [hn1]
    rw [← hr, findF]
    cases hq : rdyS l s.over now j with
    | false =>
      simp only [Bool.not_false, cond_true, cond_false, wrap64 (x := (j : Int) + 1) (by omega) (by omega)]
      exact go
    | true =>
      simp only [Bool.not_true, cond_false, cond_true, ← hd1, wrap64 (x := now + dur l j) (by omega) (by omega), e4, List.length_set, hov, hwf, dnn, decide_eq_true (show s.out.length + [((j : Int), ((w : Int), now))].length ≤ LIM by simp [LIM]; omega)]
      show _ = k l (if now + dur l j > s.fin then now + dur l j else s.fin) now (W : Int) (w : Int) (s.out ++ [((j : Int), (w : Int), now)]) (s.over.set j (now + dur l j)) (s.free.set w (now + dur l j))
      by_cases hc : now + dur l j > s.fin
      · rw [decide_eq_true hc, if_pos hc]; rfl
      · rw [decide_eq_false hc, if_neg hc]; rfl
theorem spec_wk {R : Type} {l : List (Int × List Int)} (hF : Full l) {W : Nat} (hW : W ≤ 8) {now : Int} (h0 : 0 ≤ now) (h1 : now ≤ 100000) (k : List (Int × List Int) → Int → Int → List (Int × Int × Int) → List Int → List Int → Option R) : ∀ (c n j : Nat) (s : Sc), c + 300 < n → j + c = W → s.free.length = W → s.over.length = l.length → s.out.length + c ≤ 1000000 →
    spec_ScheduleOf_l16 n l s.fin now (W : Int) (j : Int) s.out s.over s.free k = k l (wk l now c j s).fin now (wk l now c j s).out (wk l now c j s).over (wk l now c j s).free
  | c, 0, _, _, h, _, _, _, _ => by omega
  | 0, n + 1, j, s, hn, hj, hf, ho, hu => by
    rw [spec_ScheduleOf_l16, dge (by omega)]; rfl
  | c + 1, n + 1, j, s, hn, hj, hf, ho, hu => by
    have hj' : j < s.free.length := by omega
    have h30 := hF.ok.len
    have hw := wkS_len l now j s
    have go := spec_wk hF hW h0 h1 k c n (j + 1) (wkS l now j s) (by omega) (by omega) (by omega) (by omega) (by omega)
    have e : s.free.getD (Int.toNat (j : Int)) 0 = V s.free j := rfl
    rw [spec_ScheduleOf_l16, show decide ((j : Int) < (W : Int)) = true from decide_eq_true (by omega), dlt hj', dnn, wrap64 (x := (j : Int) + 1) (by omega) (by omega), e, wk]
    simp only [cond_true]
    by_cases hb : V s.free j > now
    · have e2 : wkS l now j s = s := by unfold wkS; rw [if_pos hb]
      rw [decide_eq_true hb, cond_true]
      rw [e2] at go ⊢
      exact go
    · have h20 := spec_tasks20 hF h0 h1 s (w := j) (W := W) (by omega) hf ho (by omega) (fun r24 r25 r26 r27 r28 r29 r30 r31 => spec_ScheduleOf_l16 n r24 r25 r26 r27 (IntKind.wrap .i64 (r28 + 1)) r29 r30 r31 k) l.length n 0 (by omega) (by omega)
      rw [show ((0 : Nat) : Int) = 0 from rfl] at h20
      have e2 : asgO l now j s (findF (rdyS l s.over now) l.length 0) = wkS l now j s := by
        unfold wkS; rw [if_neg hb]; rfl
      rw [decide_eq_false hb, cond_false, h20, e2, wrap64 (x := (j : Int) + 1) (by omega) (by omega)]
      exact go
theorem spec_sch {R : Type} {l : List (Int × List Int)} (hF : Full l) {E T : List Int} {all : Int} (hE : Early l E all) (hT : Tail l (V T)) {W : Nat} (hW : 1 ≤ W) (hW8 : W ≤ 8) (k : Int → List (Int × Int × Int) → Option R) : ∀ (f n : Nat) (now q : Int) (s : Sc), Crew l E T all W now q s → 3101 - now < f → f + 1000 < n →
    spec_ScheduleOf_l13 n l s.fin now s.out s.over s.free k = k (sch l W f now s).fin (sch l W f now s).out
  | 0, n, now, q, s, h, hf, _ => by have := h.now_le hF hE.all0.2 hW; omega
  | f + 1, 0, now, q, s, h, hf, hn => by omega
  | f + 1, n + 1, now, q, s, h, hf, hn => by
    have h30 := hF.ok.len
    have hnl := h.now_le hF hE.all0.2 hW
    have hn0 := h.now0
    rw [spec_ScheduleOf_l13, sch]
    by_cases hlt : s.out.length < l.length
    · rw [if_pos hlt, decide_eq_true (show (s.out.length : Int) < (l.length : Int) by omega), cond_true, h.fl]
      have := spec_wk hF hW8 h.now0 (by omega) (fun r32 r33 r34 r35 r36 r37 => spec_ScheduleOf_l13 n r32 r33 (IntKind.wrap .i64 (r34 + 1)) r35 r36 r37 k) W n 0 s (by omega) (by omega) h.fl h.ol (by omega)
      rw [show ((0 : Nat) : Int) = 0 from rfl] at this
      rw [this, wrap64 (x := now + 1) (by omega) (by omega)]
      obtain ⟨h1, h2⟩ := wk_crew hF hE hT W 0 s (by omega) h (fun w w0 w1 => by omega)
      by_cases hlt2 : (wk l now W 0 s).out.length < l.length
      · obtain ⟨q', h3⟩ := h1.next hF hT h2 (.inl hlt2)
        exact spec_sch hF hE hT hW hW8 k f n (now + 1) q' _ h3 (by omega) (by omega)
      · have e : sch l W f (now + 1) (wk l now W 0 s) = wk l now W 0 s := by
          cases f with
          | zero => rfl
          | succ f => unfold sch; rw [if_neg hlt2]
        rw [e]
        cases n with
        | zero => omega
        | succ n => rw [spec_ScheduleOf_l13, decide_eq_false (show ¬ ((wk l now W 0 s).out.length : Int) < (l.length : Int) by omega)]; rfl
    · rw [if_neg hlt, decide_eq_false (show ¬ (s.out.length : Int) < (l.length : Int) by omega)]; rfl
theorem set_rep (N j : Nat) (v : Int) (a : List Int) (ha : a.length = N) (h : j < N) (hp : a.take j = List.replicate j v) : (a.set j v).take (j + 1) = List.replicate (j + 1) v := by
  rw [set_take_drop (by omega), hp, List.replicate_succ']
theorem spec_init7 {R : Type} (p : List (Int × List Int)) (out : List (Int × Int × Int)) (free : List Int) {N : Nat} (hN : N ≤ 1000) (k : List (Int × List Int) → List (Int × Int × Int) → List Int → List Int → Option R) : ∀ (c n j : Nat) (a : List Int), c < n → j + c = N → a.length = N → a.take j = List.replicate j (-1) →
    spec_ScheduleOf_l7 n p (N : Int) (j : Int) out a free k = k p out (List.replicate N (-1)) free
  | c, 0, _, _, h, _, _, _ => by omega
  | 0, n + 1, j, a, hn, hj, ha, hp => by
    rw [spec_ScheduleOf_l7, dge (by omega), cond_false]
    have : a = List.replicate N (-1) := by
      rw [show j = N by omega] at hp
      rw [← hp, List.take_of_length_le (by omega)]
    rw [this]
  | c + 1, n + 1, j, a, hn, hj, ha, hp => by
    have h : j < a.length := by omega
    rw [spec_ScheduleOf_l7, show decide ((j : Int) < (N : Int)) = true from decide_eq_true (by omega), dnn, dlt h, wrap64 (x := (j : Int) + 1) (by omega) (by omega), Int.toNat_natCast]
    exact spec_init7 p out free hN k c n (j + 1) _ (by omega) (by omega) (by simp; omega) (set_rep N j (-1) a ha (by omega) hp)
theorem spec_init5 {R : Type} (p : List (Int × List Int)) (w : Int) (s : List (Int × Int × Int)) {N : Nat} (hN : N ≤ 1000) (k : List (Int × List Int) → Int → List (Int × Int × Int) → List Int → Option R) : ∀ (c n j : Nat) (a : List Int), c < n → j + c = N → a.length = N → a.take j = List.replicate j (-1) →
    spec_IsSchedule_l5 n p w s (N : Int) (j : Int) a k = k p w s (List.replicate N (-1))
  | c, 0, _, _, h, _, _, _ => by omega
  | 0, n + 1, j, a, hn, hj, ha, hp => by
    rw [spec_IsSchedule_l5, dge (by omega), cond_false]
    have : a = List.replicate N (-1) := by
      rw [show j = N by omega] at hp
      rw [← hp, List.take_of_length_le (by omega)]
    rw [this]
  | c + 1, n + 1, j, a, hn, hj, ha, hp => by
    have h : j < a.length := by omega
    rw [spec_IsSchedule_l5, show decide ((j : Int) < (N : Int)) = true from decide_eq_true (by omega), dnn, dlt h, wrap64 (x := (j : Int) + 1) (by omega) (by omega), Int.toNat_natCast]
    exact spec_init5 p w s hN k c n (j + 1) _ (by omega) (by omega) (by simp; omega) (set_rep N j (-1) a ha (by omega) hp)
theorem mul_small : ∀ m : Nat, m < 31 → bits_Mul (R := Int × Int) 0 (IntKind.wrap .u64 (1 : Int)) (IntKind.wrap .u64 (m : Int)) (fun a b => some (a, b)) = some (0, (m : Int)) := by decide
theorem bits_Mul_eq {R : Type} (n m : Nat) (hm : m < 31) (k : Int → Int → Option R) : bits_Mul n (IntKind.wrap .u64 (1 : Int)) (IntKind.wrap .u64 (m : Int)) k = k 0 (m : Int) := by
  have h := mul_small m hm
  unfold bits_Mul bits_Mul64 at h ⊢
  have h1 := congrArg (fun o : Option (Int × Int) => (o.getD (0, 0)).1) h
  have h2 := congrArg (fun o : Option (Int × Int) => (o.getD (0, 0)).2) h
  dsimp only [Option.getD_some] at h1 h2
  rw [h1, h2]
theorem rep_loop {R : Type} (v : Int) {N : Nat} (hN : N ≤ 1000) (k : List Int → Option R) : ∀ (c n q : Nat) (a : List Int), c < n → N - q ≤ c → 1 ≤ q → q ≤ N → a.length = N → a.take q = List.replicate q v → slices_Repeat_int_l8 n (q : Int) a k = k (List.replicate N v)
  | c, 0, _, _, h, _, _, _, _, _ => by omega
  | c, n + 1, q, a, hn, hc, h1, hq, ha, hp => by
    rw [slices_Repeat_int_l8, ha]
    by_cases h : q < N
    · obtain ⟨c', rfl⟩ : ∃ c', c = c' + 1 := ⟨c - 1, by omega⟩
      have e : ((a.drop 0).take (Int.toNat (q : Int) - 0)) = List.replicate q v := by rw [List.drop_zero, Int.toNat_natCast, Nat.sub_zero, hp]
      rw [decide_eq_true (show (q : Int) < (N : Int) by omega), dnn, decide_eq_true (show (q : Int) ≤ (N : Int) by omega), decide_eq_true (show (N : Int) ≤ (N : Int) by omega), e, Int.toNat_natCast, Int.toNat_natCast, hp, List.length_replicate]
      simp only [cond_true]
      rw [wrap64 (by omega) (by omega), show (q : Int) + ((min q (N - q) : Nat) : Int) = ((q + min q (N - q) : Nat) : Int) by omega]
      refine rep_loop v hN k c' n _ _ (by omega) (by omega) (by omega) (by omega) ?_ ?_
      · simp only [List.length_append, List.length_replicate, List.length_take, List.length_drop]; omega
      · rw [← List.append_assoc, List.take_replicate, List.replicate_append_replicate, show min (N - q) q = min q (N - q) by omega]
        rw [List.take_append_of_le_length (by simp), List.take_of_length_le (by simp)]
    · rw [decide_eq_false (show ¬ (q : Int) < (N : Int) by omega), cond_false]
      have : a = List.replicate N v := by
        rw [show q = N by omega] at hp
        rw [← hp, List.take_of_length_le (by omega)]
      rw [this]
theorem slices_Repeat_eq {R : Type} {n N : Nat} (v : Int) (hN : N < 31) (hn : 100 ≤ n) (k : List Int → Option R) : slices_Repeat_int n [v] (N : Int) k = k (List.replicate N v) := by
  unfold slices_Repeat_int
  rw [decide_eq_false (show ¬ (N : Int) < 0 by omega), cond_false, show (([v] : List Int).length : Int) = 1 from rfl, bits_Mul_eq n N hN, decide_eq_false (show ¬ (0 : Int) > 0 by omega), decide_eq_false (show ¬ (N : Int) > 9223372036854775807 by omega), wrap64 (x := (N : Int)) (by omega) (by omega), dnn, decide_eq_true (show (N : Int) ≤ (N : Int) by omega), decide_eq_true (show (N : Int) ≤ 1099511627776 by omega), Int.toNat_natCast]
  simp only [cond_true, cond_false, List.length_replicate, List.length_singleton]
  cases N with
  | zero =>
    cases n with
    | zero => omega
    | succ n => rfl
  | succ N =>
    have := rep_loop v (N := N + 1) (by omega) (fun r3 => k r3) (N + 1) n 1 ([v] ++ (List.replicate (N + 1) (0 : Int)).drop 1) (by omega) (by omega) (by omega) (by omega) (by simp) (by simp)
    rw [show (min 1 (N + 1) : Nat) = 1 by omega, List.take_zero, List.nil_append, show 0 + 1 = 1 from rfl, List.take_of_length_le (by simp)]
    exact this
theorem and255 (x : Int) : 0 ≤ IntKind.wrap .i64 (IntKind.wrap .u64 (Int.ofNat (BitVec.toNat (BitVec.ofInt (IntKind.bits .u64) x &&& BitVec.ofInt (IntKind.bits .u64) 255)))) ∧ IntKind.wrap .i64 (IntKind.wrap .u64 (Int.ofNat (BitVec.toNat (BitVec.ofInt (IntKind.bits .u64) x &&& BitVec.ofInt (IntKind.bits .u64) 255)))) ≤ 255 := by
  have h : BitVec.toNat (BitVec.ofInt (IntKind.bits .u64) x &&& BitVec.ofInt (IntKind.bits .u64) 255) ≤ 255 := by
    rw [BitVec.toNat_and]
    exact Nat.le_trans Nat.and_le_right (by decide)
  generalize BitVec.toNat (BitVec.ofInt (IntKind.bits .u64) x &&& BitVec.ofInt (IntKind.bits .u64) 255) = y at h
  have h1 : IntKind.wrap .u64 (Int.ofNat y) = (y : Int) := by
    simp only [IntKind.wrap, IntKind.signed, IntKind.bits]
    simp
    omega
  rw [h1, wrap64 (by omega) (by omega)]
  omega
/-- Bytes. -/
def Bytes (l : List Int) : Prop := ∀ x ∈ l, 0 ≤ x ∧ x ≤ 255
theorem bytes_getD {l : List Int} (hl : Bytes l) {i : Nat} (h : i < l.length) : 0 ≤ l.getD i 0 ∧ l.getD i 0 ≤ 255 := by
  rw [List.getD_eq_getElem?_getD, List.getElem?_eq_getElem h]
  exact hl _ (List.getElem_mem h)
def seedN (s b : Int) : Int := IntKind.wrap .u64 ((IntKind.wrap .u64 ((IntKind.wrap .u64 (s * 6364136223846793005)) + b)) + 1442695040888963407)
theorem next_ex {l : List Int} (hl : Bytes l) (n : Nat) {p s : Int} (h0 : 0 ≤ p) (h1 : p ≤ 4611686018427387904) : ∃ r s', 0 ≤ r ∧ r ≤ 255 ∧ ∀ (R : Type) (k : Int → List Int → Int → Int → Option R), spec_l1Cur_next n l p s k = k r l (p + 1) s' := by
  have hw : IntKind.wrap .i64 (p + 1) = p + 1 := wrap64 (by omega) (by omega)
  by_cases c : p < (l.length : Int)
  · obtain ⟨b1, b2⟩ := bytes_getD hl (i := Int.toNat p) (by omega)
    have hg : IntKind.wrap .i64 (l.getD (Int.toNat p) 0) = l.getD (Int.toNat p) 0 := wrap64 (by omega) (by omega)
    refine ⟨l.getD (Int.toNat p) 0, seedN s (IntKind.wrap .u64 (l.getD (Int.toNat p) 0)), b1, b2, fun R k => ?_⟩
    unfold spec_l1Cur_next
    rw [decide_eq_true c, decide_eq_true h0, hw, decide_eq_true (show p + 1 ≤ (l.length : Int) by omega), hg]
    rfl
  · have hn := and255 (Int.fdiv (seedN s 0) (2 ^ (min (Int.toNat 40) (IntKind.bits .u64))))
    refine ⟨_, seedN s 0, hn.1, hn.2, fun R k => ?_⟩
    unfold spec_l1Cur_next
    rw [decide_eq_false c, hw, decide_eq_false (show ¬ p + 1 ≤ (l.length : Int) by omega)]
    rfl
theorem pick_ex {l : List Int} (hl : Bytes l) (n : Nat) {m p s : Int} (hm : m ≤ 60000) (h0 : 0 ≤ p) (h1 : p ≤ 4611686018427387000) : ∃ r p' s', 0 ≤ r ∧ (r < m ∨ (m ≤ 1 ∧ r = 0)) ∧ p ≤ p' ∧ p' ≤ p + 2 ∧ ∀ (R : Type) (k : Int → List Int → Int → Int → Option R), spec_l1Cur_pick n m l p s k = k r l p' s' := by
  by_cases c : m ≤ 1
  · exact ⟨0, p, s, by omega, .inr ⟨c, rfl⟩, by omega, by omega, fun R k => by unfold spec_l1Cur_pick; rw [decide_eq_true c]; rfl⟩
  · obtain ⟨r, s1, r0, r1, hr⟩ := next_ex hl n (s := s) h0 (by omega)
    by_cases c2 : m > 200
    · obtain ⟨q, s2, q0, q1, hq⟩ := next_ex hl n (p := p + 1) (s := s1) (by omega) (by omega)
      have e : IntKind.wrap .i64 (IntKind.wrap .i64 (r * 256) + q) = r * 256 + q := by rw [wrap64 (x := r * 256) (by omega) (by omega), wrap64 (by omega) (by omega)]
      have t0 := Int.tmod_nonneg m (show 0 ≤ r * 256 + q by omega)
      have t1 := Int.tmod_lt_of_pos (r * 256 + q) (show 0 < m by omega)
      refine ⟨Int.tmod (r * 256 + q) m, p + 1 + 1, s2, t0, .inl t1, by omega, by omega, fun R k => ?_⟩
      unfold spec_l1Cur_pick
      rw [decide_eq_false c, hr, decide_eq_true c2, hq, decide_eq_true (show m ≠ 0 by omega), e]
      rfl
    · have t0 := Int.tmod_nonneg m (show 0 ≤ r by omega)
      have t1 := Int.tmod_lt_of_pos r (show 0 < m by omega)
      refine ⟨Int.tmod r m, p + 1, s1, t0, .inl t1, by omega, by omega, fun R k => ?_⟩
      unfold spec_l1Cur_pick
      rw [decide_eq_false c, hr, decide_eq_false c2, decide_eq_true (show m ≠ 0 by omega)]
      rfl
theorem among_ex {l : List Int} (hl : Bytes l) (n : Nat) {xs : List Int} (hx : xs ≠ []) (hx2 : xs.length ≤ 200) {p s : Int} (h0 : 0 ≤ p) (h1 : p ≤ 4611686018427387000) : ∃ r p' s', r ∈ xs ∧ p ≤ p' ∧ p' ≤ p + 2 ∧ ∀ (R : Type) (k : Int → List Int → Int → Int → Option R), spec_l1Cur_among n xs l p s k = k r l p' s' := by
  have hp := List.length_pos_iff.2 hx
  obtain ⟨i, p', s', i0, i1, q0, q1, hi⟩ := pick_ex hl n (m := (xs.length : Int)) (s := s) (by omega) h0 h1
  have hlt : Int.toNat i < xs.length := by omega
  refine ⟨xs.getD (Int.toNat i) 0, p', s', ?_, q0, q1, fun R k => ?_⟩
  · rw [List.getD_eq_getElem?_getD, List.getElem?_eq_getElem hlt]
    exact List.getElem_mem hlt
  · unfold spec_l1Cur_among
    rw [hi, decide_eq_true i0, decide_eq_true (show i < (xs.length : Int) by omega)]
    rfl
def planTail {R : Type} (n : Nat) (r29 : List Int) (r30 : Int) (r31 : Int) (r32 : List (Int × List Int)) (k : List (Int × List Int) → List Int → Int → Int → Option R) : Option R := (bif (decide ((r32.length : Int) > 1)) then (spec_l1Cur_one n 12 r29 r30 r31 fun r33 r34 r35 r36 => (bif r33 then (bif decide (0 < (r32.length : Int)) then (bif (decide (((r32.set 0 ((r32.getD 0 (0, [])).1, [(IntKind.wrap .i64 ((r32.length : Int) - 1))])).length : Int) > 0)) then (spec_l1Cur_one n 40 r34 r35 r36 fun r37 r38 r39 r40 => (bif r37 then (spec_l1Cur_among n ([0, 100, 101]) r38 r39 r40 fun r41 r42 r43 r44 => (bif decide (0 < ((r32.set 0 ((r32.getD 0 (0, [])).1, [(IntKind.wrap .i64 ((r32.length : Int) - 1))])).length : Int)) then k ((r32.set 0 ((r32.getD 0 (0, [])).1, [(IntKind.wrap .i64 ((r32.length : Int) - 1))])).set 0 (r41, ((r32.set 0 ((r32.getD 0 (0, [])).1, [(IntKind.wrap .i64 ((r32.length : Int) - 1))])).getD 0 (0, [])).2)) r42 r43 r44 else none)) else k (r32.set 0 ((r32.getD 0 (0, [])).1, [(IntKind.wrap .i64 ((r32.length : Int) - 1))])) r38 r39 r40)) else k (r32.set 0 ((r32.getD 0 (0, [])).1, [(IntKind.wrap .i64 ((r32.length : Int) - 1))])) r34 r35 r36) else none) else (bif (decide ((r32.length : Int) > 0)) then (spec_l1Cur_one n 40 r34 r35 r36 fun r45 r46 r47 r48 => (bif r45 then (spec_l1Cur_among n ([0, 100, 101]) r46 r47 r48 fun r49 r50 r51 r52 => (bif decide (0 < (r32.length : Int)) then k (r32.set 0 (r49, (r32.getD 0 (0, [])).2)) r50 r51 r52 else none)) else k r32 r46 r47 r48)) else k r32 r34 r35 r36))) else (bif (decide ((r32.length : Int) > 0)) then (spec_l1Cur_one n 40 r29 r30 r31 fun r53 r54 r55 r56 => (bif r53 then (spec_l1Cur_among n ([0, 100, 101]) r54 r55 r56 fun r57 r58 r59 r60 => (bif decide (0 < (r32.length : Int)) then k (r32.set 0 (r57, (r32.getD 0 (0, [])).2)) r58 r59 r60 else none)) else k r32 r54 r55 r56)) else k r32 r29 r30 r31))
theorem oneP_ex {l : List Int} (hl : Bytes l) (n : Nat) {m p s : Int} (hm : m ≤ 60000) (h0 : 0 ≤ p) (h1 : p ≤ 4611686018427387000) : ∃ b p' s', p ≤ p' ∧ p' ≤ p + 2 ∧ ∀ (R : Type) (k : Bool → List Int → Int → Int → Option R), spec_l1Cur_one n m l p s k = k b l p' s' := by
  obtain ⟨r, p1, s1, _, _, q0, q1, hr⟩ := pick_ex hl n (m := m) (s := s) hm h0 h1
  exact ⟨r == 0, p1, s1, q0, q1, fun R k => by unfold spec_l1Cur_one; rw [hr]⟩
def PlanIn (l : List (Int × List Int)) : Prop := l.length ≤ 40 ∧ ∀ x ∈ l, x.2.length ≤ 10
theorem PlanIn.set {l : List (Int × List Int)} (h : PlanIn l) {i : Nat} {y : Int × List Int} (hy : y.2.length ≤ 10) : PlanIn (l.set i y) := ⟨by simpa using h.1, fun x hx => by
  rcases List.mem_or_eq_of_mem_set hx with hx | rfl
  · exact h.2 x hx
  · exact hy⟩
theorem PlanIn.get {l : List (Int × List Int)} (h : PlanIn l) (i : Nat) : (l.getD i (0, [])).2.length ≤ 10 := by
  rw [List.getD_eq_getElem?_getD]
  cases e : l[i]? with
  | none => simp
  | some x => exact h.2 x (List.mem_of_getElem? e)
theorem planLong_ex {x : List Int} (hx : Bytes x) (n : Nat) {p s : Int} (hp : 0 ≤ p) (hp2 : p ≤ 1000000) {l : List (Int × List Int)} (hl : PlanIn l) : ∃ l' p' s', PlanIn l' ∧ 0 ≤ p' ∧ p' ≤ p + 10 ∧ ∀ (R : Type) (k : List (Int × List Int) → List Int → Int → Int → Option R),
    (bif (decide ((l.length : Int) > 0)) then (spec_l1Cur_one n 40 x p s fun r45 r46 r47 r48 => (bif r45 then (spec_l1Cur_among n ([0, 100, 101]) r46 r47 r48 fun r49 r50 r51 r52 => (bif decide (0 < (l.length : Int)) then k (l.set 0 (r49, (l.getD 0 (0, [])).2)) r50 r51 r52 else none)) else k l r46 r47 r48)) else k l x p s) = k l' x p' s' := by
  by_cases h : (l.length : Int) > 0
  · obtain ⟨b, p1, s1, u0, u1, ht⟩ := oneP_ex hx n (m := 40) (p := p) (s := s) (by omega) (by omega) (by omega)
    cases b with
    | true =>
      obtain ⟨r, p2, s2, _, v0, v1, hr⟩ := among_ex hx n (xs := [0, 100, 101]) (by simp) (by simp) (p := p1) (s := s1) (by omega) (by omega)
      refine ⟨_, p2, s2, hl.set (i := 0) (y := (r, (l.getD 0 (0, [])).2)) (hl.get 0), by omega, by omega, fun R k => ?_⟩
      rw [decide_eq_true h, cond_true, ht, cond_true, hr, cond_true]
    | false => exact ⟨l, p1, s1, hl, by omega, by omega, fun R k => by rw [decide_eq_true h, cond_true, ht, cond_false]⟩
  · exact ⟨l, p, s, hl, by omega, by omega, fun R k => by rw [decide_eq_false h, cond_false]⟩
theorem planTail_ex {x : List Int} (hx : Bytes x) (n : Nat) {p s : Int} (hp : 0 ≤ p) (hp2 : p ≤ 100000) {l : List (Int × List Int)} (hl : PlanIn l) : ∃ l' p' s', PlanIn l' ∧ 0 ≤ p' ∧ p' ≤ p + 20 ∧ ∀ (R : Type) (k : List (Int × List Int) → List Int → Int → Int → Option R), planTail n x p s l k = k l' x p' s' := by
  unfold planTail
  by_cases h : (l.length : Int) > 1
  · obtain ⟨b, p1, s1, u0, u1, ht⟩ := oneP_ex hx n (m := 12) (p := p) (s := s) (by omega) (by omega) (by omega)
    cases b with
    | true =>
      have hl2 : PlanIn (l.set 0 ((l.getD 0 (0, [])).1, [(IntKind.wrap .i64 ((l.length : Int) - 1))])) := hl.set (by simp)
      obtain ⟨l', p2, s2, a1, a2, a3, a4⟩ := planLong_ex hx n (p := p1) (s := s1) (by omega) (by omega) hl2
      refine ⟨l', p2, s2, a1, a2, by omega, fun R k => ?_⟩
      rw [decide_eq_true h, cond_true, ht, cond_true, decide_eq_true (show 0 < (l.length : Int) by omega), cond_true]
      exact a4 R k
    | false =>
      obtain ⟨l', p2, s2, a1, a2, a3, a4⟩ := planLong_ex hx n (p := p1) (s := s1) (by omega) (by omega) hl
      refine ⟨l', p2, s2, a1, a2, by omega, fun R k => ?_⟩
      rw [decide_eq_true h, cond_true, ht, cond_false]
      exact a4 R k
  · obtain ⟨l', p2, s2, a1, a2, a3, a4⟩ := planLong_ex hx n (p := p) (s := s) (by omega) (by omega) hl
    refine ⟨l', p2, s2, a1, a2, by omega, fun R k => ?_⟩
    rw [decide_eq_false h, cond_false]
    exact a4 R k
theorem planInner_ex {x : List Int} (hx : Bytes x) (a q : Int) (z : List (Int × List Int)) (g : Int) (hq : q ≤ 1000) : ∀ (c n : Nat) (i p s : Int) (need : List Int), c < n → q - i ≤ c → 0 ≤ i → 0 ≤ p → p + 2 * c ≤ 1000000 → need.length ≤ 4 →
    ∃ need' p' s', need'.length ≤ 4 ∧ p ≤ p' ∧ p' ≤ p + 2 * c ∧ ∀ (R : Type) (k : Int → Int → List Int → Int → Int → List (Int × List Int) → List Int → Int → Option R), spec_l1Cur_plan_l10 n a q i x p s z need g k = k a q x p' s' z need' g
  | _, 0, _, _, _, _, h, _, _, _, _, _ => by omega
  | 0, n + 1, i, p, s, need, _, hc, _, _, _, hn => ⟨need, p, s, hn, by omega, by omega, fun R k => by rw [spec_l1Cur_plan_l10, decide_eq_false (show ¬ i < q by omega)]; rfl⟩
  | c + 1, n + 1, i, p, s, need, hn, hc, h0, hp, hp2, hl => by
    by_cases h : i < q
    · obtain ⟨b, p1, s1, u0, u1, ht⟩ := oneP_ex hx n (m := 3) (p := p) (s := s) (by omega) (by omega) (by omega)
      have hw : IntKind.wrap .i64 (i + 1) = i + 1 := wrap64 (by omega) (by omega)
      have go : ∀ need2 : List Int, need2.length ≤ 4 → ∃ need' p' s', need'.length ≤ 4 ∧ p ≤ p' ∧ p' ≤ p + 2 * (c + 1 : Nat) ∧ ∀ (R : Type) (k : Int → Int → List Int → Int → Int → List (Int × List Int) → List Int → Int → Option R), spec_l1Cur_plan_l10 n a q (i + 1) x p1 s1 z need2 g k = k a q x p' s' z need' g := fun need2 h2 => by
        obtain ⟨need', p', s', e1, e2, e3, e4⟩ := planInner_ex hx a q z g hq c n (i + 1) p1 s1 need2 (by omega) (by omega) (by omega) (by omega) (by omega) h2
        exact ⟨need', p', s', e1, by omega, by omega, e4⟩
      cases b with
      | true =>
        by_cases h4 : (need.length : Int) < 4
        · obtain ⟨need', p', s', e1, e2, e3, e4⟩ := go (need ++ [i]) (by simp; omega)
          refine ⟨need', p', s', e1, e2, e3, fun R k => ?_⟩
          rw [spec_l1Cur_plan_l10, decide_eq_true h, cond_true, ht, cond_true, decide_eq_true h4, cond_true, decide_eq_true (show need.length + [i].length ≤ LIM by simp [LIM]; omega), cond_true, hw]
          exact e4 R k
        · obtain ⟨need', p', s', e1, e2, e3, e4⟩ := go need hl
          refine ⟨need', p', s', e1, e2, e3, fun R k => ?_⟩
          rw [spec_l1Cur_plan_l10, decide_eq_true h, cond_true, ht, cond_true, decide_eq_false h4, cond_false, hw]
          exact e4 R k
      | false =>
        obtain ⟨need', p', s', e1, e2, e3, e4⟩ := go need hl
        refine ⟨need', p', s', e1, e2, e3, fun R k => ?_⟩
        rw [spec_l1Cur_plan_l10, decide_eq_true h, cond_true, ht, cond_false, hw]
        exact e4 R k
    · exact ⟨need, p, s, hl, by omega, by omega, fun R k => by rw [spec_l1Cur_plan_l10, decide_eq_false h]; rfl⟩
theorem planOuter_ex {x : List Int} (hx : Bytes x) (a : Int) (ha : a ≤ 40) : ∀ (c n : Nat) (q p s : Int) (out : List (Int × List Int)), c + 50 < n → a - q ≤ c → 0 ≤ q → 0 ≤ p → p + 100 * c ≤ 500000 → out.length ≤ 40 - c → c ≤ 40 → (∀ x ∈ out, x.2.length ≤ 10) →
    ∃ out' p' s', PlanIn out' ∧ p ≤ p' ∧ p' ≤ p + 100 * c ∧ ∀ (R : Type) (k : List Int → Int → Int → List (Int × List Int) → Option R), spec_l1Cur_plan_l6 n a q x p s out k = k x p' s' out'
  | _, 0, _, _, _, _, h, _, _, _, _, _, _, _ => by omega
  | 0, n + 1, q, p, s, out, _, hc, _, _, _, hl, _, hb => ⟨out, p, s, ⟨by omega, hb⟩, by omega, by omega, fun R k => by rw [spec_l1Cur_plan_l6, decide_eq_false (show ¬ q < a by omega)]; rfl⟩
  | c + 1, n + 1, q, p, s, out, hn, hc, h0, hp, hp2, hl, hc4, hb => by
    by_cases h : q < a
    · obtain ⟨r, p1, s1, r0, r1, u0, u1, hr⟩ := pick_ex hx n (m := 9) (p := p) (s := s) (by omega) (by omega) (by omega)
      obtain ⟨need, p2, s2, e1, e2, e3, e4⟩ := planInner_ex hx a q out (IntKind.wrap .i64 (1 + r)) (by omega) 40 n 0 p1 s1 [] (by omega) (by omega) (by omega) (by omega) (by omega) (by simp)
      obtain ⟨out', p3, s3, f1, f2, f3, f4⟩ := planOuter_ex hx a ha c n (q + 1) p2 s2 (out ++ [(IntKind.wrap .i64 (1 + r), need)]) (by omega) (by omega) (by omega) (by omega) (by omega) (by simp; omega) (by omega) (fun y hy => by
        rcases List.mem_append.1 hy with hy | hy
        · exact hb y hy
        · rw [List.mem_singleton.1 hy]; show need.length ≤ 10; omega)
      refine ⟨out', p3, s3, f1, by omega, by omega, fun R k => ?_⟩
      rw [spec_l1Cur_plan_l6, decide_eq_true h, cond_true, hr, e4, decide_eq_true (show out.length + [(IntKind.wrap .i64 (1 + r), need)].length ≤ LIM by simp [LIM]; omega), cond_true, wrap64 (x := q + 1) (by omega) (by omega)]
      exact f4 R k
    · exact ⟨out, p, s, ⟨by omega, hb⟩, by omega, by omega, fun R k => by rw [spec_l1Cur_plan_l6, decide_eq_false h]; rfl⟩
theorem plan_ex {x : List Int} (hx : Bytes x) {n : Nat} (hn : 1000 ≤ n) : ∃ l p s, PlanIn l ∧ 0 ≤ p ∧ p ≤ 20000 ∧ ∀ (R : Type) (k : List (Int × List Int) → List Int → Int → Int → Option R), spec_l1Cur_plan n x 0 0 k = k l x p s := by
  obtain ⟨r, p1, s1, r0, r1, u0, u1, hr⟩ := pick_ex hx n (m := 9) (p := 0) (s := 0) (by omega) (by omega) (by omega)
  obtain ⟨b, p2, s2, v0, v1, ht⟩ := oneP_ex hx n (m := 20) (p := p1) (s := s1) (by omega) (by omega) (by omega)
  cases b with
  | true =>
    obtain ⟨q, p3, s3, q0, q1, w0, w1, hq⟩ := pick_ex hx n (m := 2) (p := p2) (s := s2) (by omega) (by omega) (by omega)
    obtain ⟨out, p4, s4, a1, a2, a3, a4⟩ := planOuter_ex hx (IntKind.wrap .i64 (30 + q)) (by rw [wrap64 (by omega) (by omega)]; omega) 40 n 0 p3 s3 [] (by omega) (by rw [wrap64 (by omega) (by omega)]; omega) (by omega) (by omega) (by omega) (by simp) (by omega) (fun y hy => by simp at hy)
    obtain ⟨l', p5, s5, b1, b2, b3, b4⟩ := planTail_ex hx n (p := p4) (s := s4) (by omega) (by omega) a1
    refine ⟨l', p5, s5, b1, b2, by omega, fun R k => ?_⟩
    unfold spec_l1Cur_plan
    rw [hr, ht, cond_true, hq, a4]
    exact b4 R k
  | false =>
    obtain ⟨out, p4, s4, a1, a2, a3, a4⟩ := planOuter_ex hx r (by omega) 40 n 0 p2 s2 [] (by omega) (by omega) (by omega) (by omega) (by omega) (by simp) (by omega) (fun y hy => by simp at hy)
    obtain ⟨l', p5, s5, b1, b2, b3, b4⟩ := planTail_ex hx n (p := p4) (s := s4) (by omega) (by omega) a1
    refine ⟨l', p5, s5, b1, b2, by omega, fun R k => ?_⟩
    unfold spec_l1Cur_plan
    rw [hr, ht, cond_false, a4]
    exact b4 R k
theorem PlanIn.b {l : List (Int × List Int)} (h : PlanIn l) : l.length ≤ 1000 ∧ ∀ x ∈ l, x.2.length ≤ 1000 := ⟨by have := h.1; omega, fun x hx => by have := h.2 x hx; omega⟩
def clash1 (l : List (Int × List Int)) (x o : Int × Int × Int) : Bool := (x.2.1 == o.2.1) && (decide (x.2.2 < o.2.2 + dur l o.1) && decide (o.2.2 < x.2.2 + dur l x.1))
structure SlotIn (l : List (Int × List Int)) (o : Int × Int × Int) : Prop where
  a : 0 ≤ o.1 ∧ o.1 < l.length
  b : 0 ≤ o.2.2 ∧ o.2.2 ≤ 1000000
theorem impl_clash {R : Type} {l : List (Int × List Int)} (hp : PlanOk l) (w : Int) (s s' : List (Int × Int × Int)) (sl i : Int) (fr : List Int) {x : Int × Int × Int} (hx : SlotIn l x) (pre : List (Int × Int × Int)) (hl : pre.length ≤ 1000) (hpre : ∀ o ∈ pre, SlotIn l o) (kr : Bool → Option R) (ke : Int → List (Int × Int × Int) → List (Int × Int × Int) → Int → Int → List (Int × List Int) → List Int → Option R) : ∀ (n q : Nat), pre.length - q < n → q ≤ pre.length →
    impl_slotsOk_l9 n w s s' sl i pre (pre.length : Int) (q : Int) l fr x.1 x.2.1 x.2.2 kr ke = bif (pre.drop q).any (clash1 l x) then kr false else ke w s s' sl i l fr
  | 0, _, h, _ => by omega
  | n + 1, q, hn, hq => by
    rw [impl_slotsOk_l9]
    by_cases h : q < pre.length
    · have ho := hpre _ (List.getElem_mem h)
      have hdo : 1 ≤ dur l pre[q].1 ∧ dur l pre[q].1 ≤ 100 := hp.long _ ho.a.1 ho.a.2
      have hdx : 1 ≤ dur l x.1 ∧ dur l x.1 ≤ 100 := hp.long _ hx.a.1 hx.a.2
      have ob := ho.b
      have xb := hx.b
      have e1 : (l.getD (Int.toNat pre[q].1) (0, [])).1 = dur l pre[q].1 := rfl
      have e2 : (l.getD (Int.toNat x.1) (0, [])).1 = dur l x.1 := rfl
      rw [dlt h, dnn, getD_at _ _ h, wrapS h (by omega), List.drop_eq_getElem_cons h, List.any_cons]
      have go := impl_clash hp w s s' sl i fr hx pre hl hpre kr ke n (q + 1) (by omega) (by omega)
      simp only [cond_true, decide_eq_true ho.a.1, decide_eq_true ho.a.2, decide_eq_true hx.a.1, decide_eq_true hx.a.2, e1, e2, wrap64 (x := pre[q].2.2 + dur l pre[q].1) (by omega) (by omega), wrap64 (x := x.2.2 + dur l x.1) (by omega) (by omega), clash1]
      cases x.2.1 == pre[q].2.1 with
      | false => exact go
      | true =>
        cases decide (x.2.2 < pre[q].2.2 + dur l pre[q].1) with
        | false => exact go
        | true =>
          cases decide (pre[q].2.2 < x.2.2 + dur l x.1) with
          | false => exact go
          | true => rfl
    · rw [dge (by omega), List.drop_eq_nil_iff.2 (by omega)]; rfl
theorem spec_clash {R : Type} {l : List (Int × List Int)} (hp : PlanOk l) (w : Int) (s s' : List (Int × Int × Int)) (sl i : Int) (fr : List Int) {x : Int × Int × Int} (hx : SlotIn l x) (pre : List (Int × Int × Int)) (hl : pre.length ≤ 1000) (hpre : ∀ o ∈ pre, SlotIn l o) (kr : Bool → Bool → Option R) (ke : List (Int × List Int) → Int → List (Int × Int × Int) → List (Int × Int × Int) → Int → Int → List Int → Option R) : ∀ (n q : Nat), pre.length - q < n → q ≤ pre.length →
    spec_IsSchedule_l16 n l w s s' sl i pre (pre.length : Int) (q : Int) fr x.1 x.2.1 x.2.2 kr ke = bif (pre.drop q).any (clash1 l x) then kr false true else ke l w s s' sl i fr
  | 0, _, h, _ => by omega
  | n + 1, q, hn, hq => by
    rw [spec_IsSchedule_l16]
    by_cases h : q < pre.length
    · have ho := hpre _ (List.getElem_mem h)
      have hdo : 1 ≤ dur l pre[q].1 ∧ dur l pre[q].1 ≤ 100 := hp.long _ ho.a.1 ho.a.2
      have hdx : 1 ≤ dur l x.1 ∧ dur l x.1 ≤ 100 := hp.long _ hx.a.1 hx.a.2
      have ob := ho.b
      have xb := hx.b
      have e1 : (l.getD (Int.toNat pre[q].1) (0, [])).1 = dur l pre[q].1 := rfl
      have e2 : (l.getD (Int.toNat x.1) (0, [])).1 = dur l x.1 := rfl
      have e3 : (pre[q].2.1 == x.2.1) = (x.2.1 == pre[q].2.1) := Bool.beq_comm
      rw [dlt h, dnn, getD_at _ _ h, wrapS h (by omega), List.drop_eq_getElem_cons h, List.any_cons]
      have go := spec_clash hp w s s' sl i fr hx pre hl hpre kr ke n (q + 1) (by omega) (by omega)
      simp only [cond_true, decide_eq_true ho.a.1, decide_eq_true ho.a.2, decide_eq_true hx.a.1, decide_eq_true hx.a.2, e1, e2, e3, wrap64 (x := pre[q].2.2 + dur l pre[q].1) (by omega) (by omega), wrap64 (x := x.2.2 + dur l x.1) (by omega) (by omega), clash1]
      cases x.2.1 == pre[q].2.1 with
      | false => exact go
      | true =>
        cases decide (pre[q].2.2 < x.2.2 + dur l x.1) with
        | false => rw [Bool.and_false, Bool.and_false, Bool.false_or]; exact go
        | true =>
          cases decide (x.2.2 < pre[q].2.2 + dur l pre[q].1) with
          | false => exact go
          | true => rfl
    · rw [dge (by omega), List.drop_eq_nil_iff.2 (by omega)]; rfl
def okSlot (l : List (Int × List Int)) (W : Int) (fr : List Int) (x : Int × Int × Int) : Bool := decide (0 ≤ x.1 ∧ x.1 ≤ (l.length : Int) - 1) && (decide (0 ≤ x.2.1 ∧ x.2.1 ≤ W - 1) && (decide (0 ≤ x.2.2 ∧ x.2.2 ≤ 1000000) && !decide (V fr x.1 ≥ 0)))
def slF (l : List (Int × List Int)) (W : Int) (s : List (Int × Int × Int)) : Nat → Nat → List Int → Option (List Int)
  | 0, _, fr => some fr
  | c + 1, j, fr => bif okSlot l W fr (s.getD j (0, (0, 0))) && !(s.take j).any (clash1 l (s.getD j (0, (0, 0)))) then slF l W s c (j + 1) (fr.set (s.getD j (0, (0, 0))).1.toNat (s.getD j (0, (0, 0))).2.2) else none
structure FrOk (l : List (Int × List Int)) (s : List (Int × Int × Int)) (j : Nat) (fr : List Int) : Prop where
  len : fr.length = l.length
  pre : ∀ o ∈ s.take j, SlotIn l o
  bd : ∀ x : Int, 0 ≤ x → x < l.length → -1 ≤ V fr x ∧ V fr x ≤ 1000000
theorem FrOk.step {l : List (Int × List Int)} {s : List (Int × Int × Int)} {W : Int} {j : Nat} {fr : List Int} (h : FrOk l s j fr) (hj : j < s.length) (hx : okSlot l W fr s[j] = true) : SlotIn l s[j] ∧ FrOk l s (j + 1) (fr.set s[j].1.toNat s[j].2.2) := by
  simp only [okSlot, Bool.and_eq_true, decide_eq_true_eq] at hx
  obtain ⟨a, b, c, d⟩ := hx
  have hs : SlotIn l s[j] := ⟨by omega, c⟩
  refine ⟨hs, by rw [List.length_set]; exact h.len, fun o ho => ?_, fun x x0 x1 => ?_⟩
  · rw [List.take_succ_eq_append_getElem hj] at ho
    rcases List.mem_append.1 ho with ho | ho
    · exact h.pre o ho
    · rw [List.mem_singleton.1 ho]; exact hs
  · rw [V_set h.len hs.a.1 hs.a.2 _ x0]
    split
    · omega
    · exact h.bd x x0 x1
def optL {R : Type} (o : Option (List Int)) (kr : Option R) (ke : List Int → Option R) : Option R := match o with
  | none => kr
  | some fr => ke fr
theorem impl_slots {R : Type} {l : List (Int × List Int)} (hp : PlanOk l) {W : Int} (hW : 1 ≤ W ∧ W ≤ 8) (s : List (Int × Int × Int)) (hs : s.length ≤ 30) (kr : Bool → Option R) (ke : List (Int × List Int) → List Int → Option R) : ∀ (c n j : Nat) (fr : List Int), c + 200 < n → j + c = s.length → FrOk l s j fr →
    impl_slotsOk_l3 n W s s (s.length : Int) (j : Int) l fr kr ke = optL (slF l W s c j fr) (kr false) (ke l)
  | c, 0, _, _, h, _, _ => by omega
  | 0, n + 1, j, fr, hn, hj, hf => by rw [impl_slotsOk_l3, dge (by omega)]; rfl
  | c + 1, n + 1, j, fr, hn, hj, hf => by
    have h : j < s.length := by omega
    have h30 := hp.len
    have hg : s.getD j (0, (0, 0)) = s[j] := by rw [List.getD_eq_getElem?_getD, List.getElem?_eq_getElem h]; rfl
    rw [impl_slotsOk_l3, dlt h, dnn, getD_at _ _ h, slF, hg]
    simp only [cond_true, impl_in_eq, wrap64 (x := (l.length : Int) - 1) (by omega) (by omega), wrap64 (x := W - 1) (by omega) (by omega)]
    by_cases c1 : 0 ≤ s[j].1 ∧ s[j].1 ≤ (l.length : Int) - 1
    case neg => simp only [okSlot, decide_eq_false c1, Bool.not_false, cond_true, Bool.false_and, cond_false]; rfl
    by_cases c2 : 0 ≤ s[j].2.1 ∧ s[j].2.1 ≤ W - 1
    case neg => simp only [okSlot, decide_eq_true c1, decide_eq_false c2, Bool.not_true, Bool.not_false, cond_true, Bool.false_and, Bool.and_false, cond_false]; rfl
    by_cases c3 : 0 ≤ s[j].2.2 ∧ s[j].2.2 ≤ 1000000
    case neg => simp only [okSlot, decide_eq_true c1, decide_eq_true c2, decide_eq_false c3, Bool.not_true, Bool.not_false, cond_true, Bool.false_and, Bool.and_false, cond_false]; rfl
    have e : fr.getD (Int.toNat s[j].1) 0 = V fr s[j].1 := rfl
    have hfr : decide (s[j].1 < (fr.length : Int)) = true := decide_eq_true (by rw [hf.len]; omega)
    simp only [decide_eq_true c1, decide_eq_true c2, decide_eq_true c3, Bool.not_true, cond_false, decide_eq_true c1.1, hfr, cond_true, e]
    by_cases c4 : V fr s[j].1 ≥ 0
    · simp only [okSlot, decide_eq_true c4, Bool.not_true, Bool.and_false, Bool.false_and, cond_false, cond_true]; rfl
    have hok : okSlot l W fr s[j] = true := by simp only [okSlot, decide_eq_true c1, decide_eq_true c2, decide_eq_true c3, decide_eq_false c4]; rfl
    obtain ⟨hsl, hf'⟩ := hf.step h hok
    have hpl : (s.take j).length = j := by simp; omega
    have e5 : ((s.drop 0).take (Int.toNat (j : Int) - 0)) = s.take j := by rw [List.drop_zero, Int.toNat_natCast, Nat.sub_zero]
    rw [decide_eq_false c4, cond_false, decide_eq_true (show (j : Int) ≤ (s.length : Int) by omega), e5, hok]
    have hc := impl_clash hp W s s (s.length : Int) (j : Int) (fr.set (Int.toNat s[j].1) s[j].2.2) hsl (s.take j) (by omega) hf.pre (fun r5 => kr r5) (fun r6 r7 r8 r9 r10 r11 r12 => impl_slotsOk_l3 n r6 r7 r8 r9 (IntKind.wrap .i64 (r10 + 1)) r11 r12 kr ke) n 0 (by omega) (by omega)
    rw [show ((0 : Nat) : Int) = 0 from rfl, List.drop_zero] at hc
    rw [cond_true, hc, Bool.true_and]
    cases (s.take j).any (clash1 l s[j]) with
    | true => rfl
    | false =>
      simp only [cond_false, Bool.not_false, cond_true, wrapS h (show s.length ≤ 9223372036854775807 by omega)]
      exact impl_slots hp hW s hs kr ke c n (j + 1) _ (by omega) (by omega) hf'
theorem spec_slots {R : Type} {l : List (Int × List Int)} (hp : PlanOk l) {W : Int} (hW : 1 ≤ W ∧ W ≤ 8) (s : List (Int × Int × Int)) (hs : s.length ≤ 30) (kr : Bool → Bool → Option R) (ke : List (Int × List Int) → List Int → Option R) : ∀ (c n j : Nat) (fr : List Int), c + 200 < n → j + c = s.length → FrOk l s j fr →
    spec_IsSchedule_l10 n l W s s (s.length : Int) (j : Int) fr kr ke = optL (slF l W s c j fr) (kr false true) (ke l)
  | c, 0, _, _, h, _, _ => by omega
  | 0, n + 1, j, fr, hn, hj, hf => by rw [spec_IsSchedule_l10, dge (by omega)]; rfl
  | c + 1, n + 1, j, fr, hn, hj, hf => by
    have h : j < s.length := by omega
    have h30 := hp.len
    have hg : s.getD j (0, (0, 0)) = s[j] := by rw [List.getD_eq_getElem?_getD, List.getElem?_eq_getElem h]; rfl
    rw [spec_IsSchedule_l10, dlt h, dnn, getD_at _ _ h, slF, hg]
    simp only [cond_true, spec_l1In_eq, wrap64 (x := (l.length : Int) - 1) (by omega) (by omega), wrap64 (x := W - 1) (by omega) (by omega)]
    by_cases c1 : 0 ≤ s[j].1 ∧ s[j].1 ≤ (l.length : Int) - 1
    case neg => simp only [okSlot, decide_eq_false c1, Bool.not_false, cond_true, Bool.false_and, cond_false]; rfl
    by_cases c2 : 0 ≤ s[j].2.1 ∧ s[j].2.1 ≤ W - 1
    case neg => simp only [okSlot, decide_eq_true c1, decide_eq_false c2, Bool.not_true, Bool.not_false, cond_true, Bool.false_and, Bool.and_false, cond_false]; rfl
    by_cases c3 : 0 ≤ s[j].2.2 ∧ s[j].2.2 ≤ 1000000
    case neg => simp only [okSlot, decide_eq_true c1, decide_eq_true c2, decide_eq_false c3, Bool.not_true, Bool.not_false, cond_true, Bool.false_and, Bool.and_false, cond_false]; rfl
    have e : fr.getD (Int.toNat s[j].1) 0 = V fr s[j].1 := rfl
    have hfr : decide (s[j].1 < (fr.length : Int)) = true := decide_eq_true (by rw [hf.len]; omega)
    simp only [decide_eq_true c1, decide_eq_true c2, decide_eq_true c3, Bool.not_true, cond_false, decide_eq_true c1.1, hfr, cond_true, e]
    by_cases c4 : V fr s[j].1 ≥ 0
    · simp only [okSlot, decide_eq_true c4, Bool.not_true, Bool.and_false, Bool.false_and, cond_false, cond_true]; rfl
    have hok : okSlot l W fr s[j] = true := by simp only [okSlot, decide_eq_true c1, decide_eq_true c2, decide_eq_true c3, decide_eq_false c4]; rfl
    obtain ⟨hsl, hf'⟩ := hf.step h hok
    have hpl : (s.take j).length = j := by simp; omega
    have e5 : ((s.drop 0).take (Int.toNat (j : Int) - 0)) = s.take j := by rw [List.drop_zero, Int.toNat_natCast, Nat.sub_zero]
    rw [decide_eq_false c4, cond_false, decide_eq_true (show (j : Int) ≤ (s.length : Int) by omega), e5, hok]
    have hc := spec_clash hp W s s (s.length : Int) (j : Int) (fr.set (Int.toNat s[j].1) s[j].2.2) hsl (s.take j) (by omega) hf.pre (fun r10 r11 => kr r10 r11) (fun r12 r13 r14 r15 r16 r17 r18 => spec_IsSchedule_l10 n r12 r13 r14 r15 r16 (IntKind.wrap .i64 (r17 + 1)) r18 kr ke) n 0 (by omega) (by omega)
    rw [show ((0 : Nat) : Int) = 0 from rfl, List.drop_zero] at hc
    rw [cond_true, hc, Bool.true_and]
    cases (s.take j).any (clash1 l s[j]) with
    | true => rfl
    | false =>
      simp only [cond_false, Bool.not_false, cond_true, wrapS h (show s.length ≤ 9223372036854775807 by omega)]
      exact spec_slots hp hW s hs kr ke c n (j + 1) _ (by omega) (by omega) hf'
theorem slF_ok {l : List (Int × List Int)} {W : Int} {s : List (Int × Int × Int)} : ∀ (c j : Nat) (fr fr' : List Int), j + c = s.length → FrOk l s j fr → slF l W s c j fr = some fr' → FrOk l s s.length fr'
  | 0, j, fr, fr', hj, h, e => by
    cases e
    rw [show s.length = j by omega]
    exact h
  | c + 1, j, fr, fr', hj, h, e => by
    have hj' : j < s.length := by omega
    have hg : s.getD j (0, (0, 0)) = s[j] := by rw [List.getD_eq_getElem?_getD, List.getElem?_eq_getElem hj']; rfl
    rw [slF, hg] at e
    cases hb : (okSlot l W fr s[j] && !(s.take j).any (clash1 l s[j])) with
    | false => rw [hb] at e; cases e
    | true =>
      rw [hb] at e
      simp only [Bool.and_eq_true] at hb
      exact slF_ok c (j + 1) _ fr' (by omega) (h.step hj' hb.1).2 e
def needF (l : List (Int × List Int)) (fr : List Int) : Nat → Nat → Bool
  | 0, _ => true
  | c + 1, j => (!decide (V fr j < 0) && (needs l j).all fun m => decide (V fr m + dur l m ≤ V fr j)) && needF l fr c (j + 1)
theorem impl_needC {R : Type} {l : List (Int × List Int)} (hp : PlanOk l) {fr : List Int} (hf : fr.length = l.length) (hb : ∀ x : Int, 0 ≤ x → x < l.length → -1 ≤ V fr x ∧ V fr x ≤ 1000000) {x : Int} (x0 : 0 ≤ x) (x1 : x < l.length) (ns : List Int) (hl : ns.length ≤ 1000) (hns : ∀ m ∈ ns, 0 ≤ m ∧ m < (l.length : Int)) (k : Bool → List Int → List (Int × List Int) → Int → Option R) : ∀ (n q : Nat), ns.length - q < n → q ≤ ns.length →
    slices_IndexFunc_int_impl_slotsOk_c1_l2 n ns (ns.length : Int) (q : Int) fr l x (fun r5 r6 r7 r8 => k (decide (r5 ≥ 0)) r6 r7 r8) (fun r9 r10 r11 => k (decide ((-1 : Int) ≥ 0)) r9 r10 r11) = k (!(ns.drop q).all fun m => decide (V fr m + dur l m ≤ V fr x)) fr l x
  | 0, _, h, _ => by omega
  | n + 1, q, hn, hq => by
    rw [slices_IndexFunc_int_impl_slotsOk_c1_l2]
    by_cases h : q < ns.length
    · obtain ⟨m0, m1⟩ := hns _ (List.getElem_mem h)
      have e1 : fr.getD (Int.toNat ns[q]) 0 = V fr ns[q] := rfl
      have e2 : (l.getD (Int.toNat ns[q]) (0, [])).1 = dur l ns[q] := rfl
      have e3 : fr.getD (Int.toNat x) 0 = V fr x := rfl
      have hd : 1 ≤ dur l ns[q] ∧ dur l ns[q] ≤ 100 := hp.long _ m0 m1
      have hv := hb _ m0 m1
      rw [dlt h, dnn, getD_at _ _ h, wrapS h (by omega), List.drop_eq_getElem_cons h, List.all_cons]
      simp only [cond_true, impl_slotsOk_c1, hf, decide_eq_true m0, decide_eq_true m1, decide_eq_true x0, decide_eq_true x1, e1, e2, e3, wrap64 (x := V fr ns[q] + dur l ns[q]) (by omega) (by omega)]
      by_cases c1 : V fr ns[q] + dur l ns[q] > V fr x
      · rw [decide_eq_true c1, decide_eq_false (show ¬ V fr ns[q] + dur l ns[q] ≤ V fr x by omega)]
        simp only [cond_true, decide_eq_true (show (q : Int) ≥ 0 by omega), Bool.false_and, Bool.not_false]
      · rw [decide_eq_false c1, decide_eq_true (show V fr ns[q] + dur l ns[q] ≤ V fr x by omega)]
        simp only [cond_false, Bool.true_and]
        exact impl_needC hp hf hb x0 x1 ns hl hns k n (q + 1) (by omega) (by omega)
    · rw [dge (by omega), List.drop_eq_nil_iff.2 (by omega)]; rfl
theorem impl_need {R : Type} {l : List (Int × List Int)} (hp : PlanOk l) {fr : List Int} (hf : fr.length = l.length) (hb : ∀ x : Int, 0 ≤ x → x < l.length → -1 ≤ V fr x ∧ V fr x ≤ 1000000) (kr : Bool → Option R) (ke : Option R) : ∀ (c n j : Nat), c + 100 < n → j + c = l.length →
    impl_slotsOk_l16 n l (l.length : Int) (j : Int) l fr kr ke = bif needF l fr c j then ke else kr false
  | c, 0, _, h, _ => by omega
  | 0, n + 1, j, hn, hj => by rw [impl_slotsOk_l16, dge (by omega)]; rfl
  | c + 1, n + 1, j, hn, hj => by
    have h : j < l.length := by omega
    have h30 := hp.len
    have hn1 : needs l (j : Int) = l[j].2 := by unfold needs; rw [getD_at _ _ h]
    have hlen : l[j].2.length ≤ 30 := by rw [← hn1]; exact hp.nlen (by omega) (by omega)
    have e : fr.getD (Int.toNat (j : Int)) 0 = V fr j := rfl
    have hfr : decide ((j : Int) < (fr.length : Int)) = true := by rw [hf]; exact dlt h
    rw [impl_slotsOk_l16, dlt h, dnn, getD_at _ _ h, wrapS h (by omega), hfr, e, needF, hn1]
    simp only [cond_true]
    cases decide (V fr j < 0) with
    | true => rfl
    | false =>
      unfold slices_ContainsFunc_int_impl_slotsOk_c1 slices_IndexFunc_int_impl_slotsOk_c1
      have := impl_needC hp hf hb (x := (j : Int)) (by omega) (by omega) l[j].2 (by omega) (fun x hx => hp.inn (x := (j : Int)) (by omega) (by omega) (by rw [hn1]; exact hx)) (fun r16 r17 r18 r19 => (bif r16 then kr false else impl_slotsOk_l16 n l (l.length : Int) ((j + 1 : Nat) : Int) r18 r17 kr ke)) n 0 (by omega) (by omega)
      rw [show ((0 : Nat) : Int) = 0 from rfl, List.drop_zero] at this
      rw [cond_false, this, Bool.not_false, Bool.true_and]
      cases (l[j].2.all fun m => decide (V fr m + dur l m ≤ V fr j)) with
      | false => rfl
      | true => exact impl_need hp hf hb kr ke c n (j + 1) (by omega) (by omega)
theorem spec_needC {R : Type} {l : List (Int × List Int)} (hp : PlanOk l) {fr : List Int} (hf : fr.length = l.length) (hb : ∀ x : Int, 0 ≤ x → x < l.length → -1 ≤ V fr x ∧ V fr x ≤ 1000000) {x : Int} (x0 : 0 ≤ x) (x1 : x < l.length) (ns : List Int) (hl : ns.length ≤ 1000) (hns : ∀ m ∈ ns, 0 ≤ m ∧ m < (l.length : Int)) (p : List (Int × List Int)) (b c : Int) (kr : Bool → Bool → Option R) (k : List (Int × List Int) → List (Int × List Int) → Int → Int → List Int → Option R) : ∀ (n q : Nat), ns.length - q < n → q ≤ ns.length →
    spec_IsSchedule_l28 n l x p b c ns (ns.length : Int) (q : Int) fr kr k = bif (ns.drop q).all fun m => decide (V fr m + dur l m ≤ V fr x) then k l p b c fr else kr false true
  | 0, _, h, _ => by omega
  | n + 1, q, hn, hq => by
    rw [spec_IsSchedule_l28]
    by_cases h : q < ns.length
    · obtain ⟨m0, m1⟩ := hns _ (List.getElem_mem h)
      have e1 : fr.getD (Int.toNat ns[q]) 0 = V fr ns[q] := rfl
      have e2 : (l.getD (Int.toNat ns[q]) (0, [])).1 = dur l ns[q] := rfl
      have e3 : fr.getD (Int.toNat x) 0 = V fr x := rfl
      have hd : 1 ≤ dur l ns[q] ∧ dur l ns[q] ≤ 100 := hp.long _ m0 m1
      have hv := hb _ m0 m1
      rw [dlt h, dnn, getD_at _ _ h, wrapS h (by omega), List.drop_eq_getElem_cons h, List.all_cons]
      simp only [cond_true, hf, decide_eq_true m0, decide_eq_true m1, decide_eq_true x0, decide_eq_true x1, e1, e2, e3, wrap64 (x := V fr ns[q] + dur l ns[q]) (by omega) (by omega)]
      by_cases c1 : V fr ns[q] + dur l ns[q] > V fr x
      · rw [decide_eq_true c1, decide_eq_false (show ¬ V fr ns[q] + dur l ns[q] ≤ V fr x by omega)]; rfl
      · rw [decide_eq_false c1, decide_eq_true (show V fr ns[q] + dur l ns[q] ≤ V fr x by omega), cond_false, Bool.true_and]
        exact spec_needC hp hf hb x0 x1 ns hl hns p b c kr k n (q + 1) (by omega) (by omega)
    · rw [dge (by omega), List.drop_eq_nil_iff.2 (by omega)]; rfl
theorem spec_need {R : Type} {l : List (Int × List Int)} (hp : PlanOk l) {fr : List Int} (hf : fr.length = l.length) (hb : ∀ x : Int, 0 ≤ x → x < l.length → -1 ≤ V fr x ∧ V fr x ≤ 1000000) (kr : Bool → Bool → Option R) (ke : Option R) : ∀ (c n j : Nat), c + 100 < n → j + c = l.length →
    spec_IsSchedule_l23 n l l (l.length : Int) (j : Int) fr kr ke = bif needF l fr c j then ke else kr false true
  | c, 0, _, h, _ => by omega
  | 0, n + 1, j, hn, hj => by rw [spec_IsSchedule_l23, dge (by omega)]; rfl
  | c + 1, n + 1, j, hn, hj => by
    have h : j < l.length := by omega
    have h30 := hp.len
    have hn1 : needs l (j : Int) = l[j].2 := by unfold needs; rw [getD_at _ _ h]
    have hlen : l[j].2.length ≤ 30 := by rw [← hn1]; exact hp.nlen (by omega) (by omega)
    have e : fr.getD (Int.toNat (j : Int)) 0 = V fr j := rfl
    have hfr : decide ((j : Int) < (fr.length : Int)) = true := by rw [hf]; exact dlt h
    rw [spec_IsSchedule_l23, dlt h, dnn, getD_at _ _ h, hfr, e, needF, hn1]
    simp only [cond_true]
    cases decide (V fr j < 0) with
    | true => rfl
    | false =>
      have := spec_needC hp hf hb (x := (j : Int)) (by omega) (by omega) l[j].2 (by omega) (fun x hx => hp.inn (x := (j : Int)) (by omega) (by omega) (by rw [hn1]; exact hx)) l (l.length : Int) (j : Int) (fun r23 r24 => kr r23 r24) (fun r25 r26 r27 r28 r29 => spec_IsSchedule_l23 n r25 r26 r27 (IntKind.wrap .i64 (r28 + 1)) r29 kr ke) n 0 (by omega) (by omega)
      rw [show ((0 : Nat) : Int) = 0 from rfl, List.drop_zero] at this
      rw [cond_false, this, Bool.not_false, Bool.true_and]
      cases (l[j].2.all fun m => decide (V fr m + dur l m ≤ V fr j)) with
      | false => rfl
      | true =>
        rw [cond_true, wrapS h (by omega)]
        exact spec_need hp hf hb kr ke c n (j + 1) (by omega) (by omega)
def slotsF (l : List (Int × List Int)) (W : Int) (s : List (Int × Int × Int)) : Bool := match slF l W s s.length 0 (List.replicate l.length (-1)) with
  | none => false
  | some fr => needF l fr l.length 0
def fineS (l : List (Int × List Int)) (W : Int) (s : List (Int × Int × Int)) : Bool := goodP l && (decide (1 ≤ W ∧ W ≤ 8) && !decide ((s.length : Int) > 30))
theorem fr0 (l : List (Int × List Int)) (s : List (Int × Int × Int)) : FrOk l s 0 (List.replicate l.length (-1)) := ⟨by simp, fun o ho => by simp at ho, fun x x0 x1 => by rw [V_rep _ _ x0 x1]; omega⟩
theorem impl_IsSchedule_eq {R : Type} {n : Nat} {l : List (Int × List Int)} (hl : PlanIn l) (W : Int) (s : List (Int × Int × Int)) (hn : 6000 ≤ n) (k : Bool → Bool → Option R) : impl_IsSchedule n l W s k = k (fineS l W s && slotsF l W s) (fineS l W s) := by
  unfold impl_IsSchedule impl_workersOk fineS
  rw [impl_GoodPlan_eq hl.b.1 hl.b.2 (by omega)]
  cases hG : goodP l with
  | false => rfl
  | true =>
    obtain ⟨hp, hc⟩ := goodP_ok hG
    have h30 := hp.len
    simp only [impl_in_eq, Bool.not_true, cond_false]
    by_cases hW : 1 ≤ W ∧ W ≤ 8
    case neg => rw [decide_eq_false hW]; rfl
    by_cases hs : (s.length : Int) > 30
    · rw [decide_eq_true hW, decide_eq_true hs]; rfl
    rw [decide_eq_true hW, decide_eq_false hs]
    simp only [Bool.not_true, Bool.not_false, cond_false, Bool.and_true, Bool.true_and]
    unfold impl_slotsOk slotsF
    rw [slices_Repeat_eq (-1) (by omega) (by omega)]
    have := impl_slots hp hW s (by omega) (fun r13 => k r13 true) (fun r14 r15 => (impl_slotsOk_l16 n r14 (r14.length : Int) 0 r14 r15 (fun r20 => k r20 true) (k true true))) s.length n 0 (List.replicate l.length (-1)) (by omega) (by omega) (fr0 l s)
    rw [show ((0 : Nat) : Int) = 0 from rfl] at this
    rw [this]
    cases hsl : slF l W s s.length 0 (List.replicate l.length (-1)) with
    | none => rfl
    | some fr =>
      have hf := slF_ok _ _ _ _ (by omega) (fr0 l s) hsl
      have := impl_need hp hf.len hf.bd (fun r20 => k r20 true) (k true true) l.length n 0 (by omega) (by omega)
      rw [show ((0 : Nat) : Int) = 0 from rfl] at this
      simp only [optL, this]
      cases needF l fr l.length 0 <;> rfl
theorem spec_IsSchedule_eq {R : Type} {n : Nat} {l : List (Int × List Int)} (hl : PlanIn l) (W : Int) (s : List (Int × Int × Int)) (hn : 6000 ≤ n) (k : Bool → Bool → Option R) : spec_IsSchedule n l W s k = k (fineS l W s && slotsF l W s) (fineS l W s) := by
  unfold spec_IsSchedule fineS
  rw [spec_GoodPlan_eq hl.b.1 hl.b.2 (by omega)]
  cases hG : goodP l with
  | false => rfl
  | true =>
    obtain ⟨hp, hc⟩ := goodP_ok hG
    have h30 := hp.len
    simp only [spec_l1In_eq, Bool.not_true, cond_false]
    by_cases hW : 1 ≤ W ∧ W ≤ 8
    case neg => rw [decide_eq_false hW]; rfl
    by_cases hs : (s.length : Int) > 30
    · rw [decide_eq_true hW, decide_eq_true hs]; rfl
    rw [decide_eq_true hW, decide_eq_false hs]
    simp only [Bool.not_true, Bool.not_false, cond_false, Bool.and_true, Bool.true_and]
    rw [dnn, decide_eq_true (show (l.length : Int) ≤ (l.length : Int) by omega), decide_eq_true (show (l.length : Int) ≤ 1099511627776 by omega), Int.toNat_natCast, List.length_replicate]
    simp only [cond_true]
    have h5 := spec_init5 l W s (N := l.length) (by omega) (fun r3 r4 r5 r6 => (spec_IsSchedule_l10 n r3 r4 r5 r5 (r5.length : Int) 0 r6 (fun r19 r20 => k r19 r20) (fun r21 r22 => (spec_IsSchedule_l23 n r21 r21 (r21.length : Int) 0 r22 (fun r30 r31 => k r30 r31) (k true true))))) l.length n 0 (List.replicate l.length 0) (by omega) (by omega) (by simp) (by simp)
    rw [show ((0 : Nat) : Int) = 0 from rfl] at h5
    rw [h5]
    unfold slotsF
    have := spec_slots hp hW s (by omega) (fun r19 r20 => k r19 r20) (fun r21 r22 => (spec_IsSchedule_l23 n r21 r21 (r21.length : Int) 0 r22 (fun r30 r31 => k r30 r31) (k true true))) s.length n 0 (List.replicate l.length (-1)) (by omega) (by omega) (fr0 l s)
    rw [show ((0 : Nat) : Int) = 0 from rfl] at this
    rw [this]
    cases hsl : slF l W s s.length 0 (List.replicate l.length (-1)) with
    | none => rfl
    | some fr =>
      have hf := slF_ok _ _ _ _ (by omega) (fr0 l s) hsl
      have := spec_need hp hf.len hf.bd (fun r30 r31 => k r30 r31) (k true true) l.length n 0 (by omega) (by omega)
      rw [show ((0 : Nat) : Int) = 0 from rfl] at this
      simp only [optL, this]
      cases needF l fr l.length 0 <;> rfl
theorem fin_slF {l : List (Int × List Int)} (hF : Full l) {all : Int} {W : Nat} {s : Sc} (h : Fin l all W s) : ∀ (c j : Nat) (fr : List Int), j + c = s.out.length → fr.length = l.length → (∀ y ∈ s.out.take j, V fr y.1 = y.2.2) → (∀ x : Int, 0 ≤ x → x < l.length → x ∉ (s.out.take j).map (·.1) → V fr x = -1) →
    ∃ fr', slF l W s.out c j fr = some fr' ∧ ∀ y ∈ s.out, V fr' y.1 = y.2.2
  | 0, j, fr, hj, hl, h1, h2 => ⟨fr, rfl, by rw [List.take_of_length_le (by omega)] at h1; exact h1⟩
  | c + 1, j, fr, hj, hl, h1, h2 => by
    have hj' : j < s.out.length := by omega
    have hg : s.out.getD j (0, (0, 0)) = s.out[j] := by rw [List.getD_eq_getElem?_getD, List.getElem?_eq_getElem hj']; rfl
    obtain ⟨a, b, c1, d, e⟩ := h.slot _ (List.getElem_mem hj')
    have hnot : s.out[j].1 ∉ (s.out.take j).map (·.1) := fun hm => by
      have hnd := h.nd
      have e2 : s.out.map (·.1) = (s.out.take j).map (·.1) ++ (s.out.drop j).map (·.1) := by rw [← List.map_append, List.take_append_drop]
      rw [e2, List.nodup_append] at hnd
      exact hnd.2.2 _ hm _ (by rw [List.drop_eq_getElem_cons hj', List.map_cons]; exact List.mem_cons_self ..) rfl
    have hv := h2 _ a.1 a.2 hnot
    have hok : okSlot l W fr s.out[j] = true := by
      simp only [okSlot, Bool.and_eq_true, decide_eq_true_eq, Bool.not_eq_true', decide_eq_false_iff_not]
      exact ⟨by omega, by omega, by omega, by omega⟩
    have hcl : (s.out.take j).any (clash1 l s.out[j]) = false := by
      rw [List.any_eq_false]
      intro o ho
      have hap := h.apart
      rw [← List.take_append_drop j s.out, List.pairwise_append] at hap
      have h3 := hap.2.2 o ho s.out[j] (by rw [List.drop_eq_getElem_cons hj']; exact List.mem_cons_self ..)
      unfold clash1
      by_cases hw : s.out[j].2.1 = o.2.1
      · have := h3 hw.symm
        rw [decide_eq_false (show ¬ s.out[j].2.2 < o.2.2 + dur l o.1 by omega)]
        simp
      · rw [show (s.out[j].2.1 == o.2.1) = false by simpa using hw]
        simp
    rw [slF, hg, hok, hcl]
    simp only [Bool.not_false, Bool.and_true, cond_true]
    refine fin_slF hF h c (j + 1) _ (by omega) (by rw [List.length_set]; exact hl) (fun y hy => ?_) (fun x x0 x1 hx => ?_)
    · rw [List.take_succ_eq_append_getElem hj'] at hy
      rcases List.mem_append.1 hy with hy | hy
      · have hy0 := h.slot y (List.mem_of_mem_take hy)
        rw [V_set hl a.1 a.2 _ hy0.1.1, if_neg fun e2 => hnot (by rw [← e2]; exact List.mem_map.2 ⟨y, hy, rfl⟩)]
        exact h1 y hy
      · rw [List.mem_singleton.1 hy, V_set hl a.1 a.2 _ a.1, if_pos rfl]
    · rw [List.take_succ_eq_append_getElem hj', List.map_append, List.mem_append] at hx
      rw [V_set hl a.1 a.2 _ x0, if_neg fun e2 => hx (.inr (by simp [e2]))]
      exact h2 x x0 x1 fun hm => hx (.inl hm)
theorem fin_need {l : List (Int × List Int)} (hF : Full l) {all : Int} {W : Nat} {s : Sc} (h : Fin l all W s) {fr : List Int} (hfr : ∀ y ∈ s.out, V fr y.1 = y.2.2) : ∀ (c j : Nat), j + c = l.length → needF l fr c j = true
  | 0, _, _ => rfl
  | c + 1, j, hj => by
    rw [needF, fin_need hF h hfr c (j + 1) (by omega), Bool.and_true]
    have get : ∀ x : Int, 0 ≤ x → x < l.length → ∃ y ∈ s.out, y.1 = x := fun x x0 x1 => by
      obtain ⟨y, hy, e⟩ := List.mem_map.1 (h.all x x0 x1)
      exact ⟨y, hy, e⟩
    obtain ⟨y, hy, e⟩ := get j (by omega) (by omega)
    obtain ⟨a, b, c1, d, f⟩ := h.slot y hy
    have hv := hfr y hy
    rw [e] at hv f
    rw [decide_eq_false (show ¬ V fr j < 0 by omega), Bool.not_false, Bool.true_and, List.all_eq_true]
    intro m hm
    rw [decide_eq_true_eq]
    obtain ⟨m0, m1⟩ := hF.ok.inn (x := (j : Int)) (by omega) (by omega) hm
    obtain ⟨z, hz, e2⟩ := get m m0 m1
    obtain ⟨_, _, _, d2, _⟩ := h.slot z hz
    have hv2 := hfr z hz
    have := f m hm
    rw [e2] at d2 hv2
    omega
theorem fin_slots {l : List (Int × List Int)} (hF : Full l) {all : Int} {W : Nat} {s : Sc} (h : Fin l all W s) : slotsF l W s.out = true := by
  unfold slotsF
  obtain ⟨fr, e, hfr⟩ := fin_slF hF h s.out.length 0 (List.replicate l.length (-1)) (by omega) (by simp) (fun y hy => by simp at hy) (fun x x0 x1 _ => V_rep _ _ x0 x1)
  rw [e]
  exact fin_need hF h hfr l.length 0 (by omega)
theorem earliestI_ex {n : Nat} {l : List (Int × List Int)} (hF : Full l) (hn : 10000 ≤ n) : ∃ E all, Early l E all ∧ (∀ (R : Type) (k : Int → List Int → Option R), impl_earliest n l k = k all E) := by
  have h30 := hF.ok.len
  have hlen := hF.len
  obtain ⟨E, all, a1, a2⟩ := impl_early_loop hF (ord l).length n 0 _ 0 (by omega) (by omega) (early0 l)
  rw [show ((0 : Nat) : Int) = 0 from rfl] at a2
  refine ⟨E, all, a1.early hF, fun R k => ?_⟩
  unfold impl_earliest
  rw [decide_eq_true (show (0 : Int) ≤ (l.length : Int) by omega), decide_eq_true (show (l.length : Int) ≤ (l.length : Int) by omega), decide_eq_true (show (l.length : Int) ≤ 1099511627776 by omega)]
  simp only [cond_true]
  rw [impl_order_eq hF.ok (by omega), Int.toNat_natCast, a2]
theorem tailAt_ex {l : List (Int × List Int)} (hF : Full l) : ∀ (j : Nat) (t : Int → Int), j ≤ (ord l).length → TailAt l t j → ∃ t', TailAt l t' 0
  | 0, t, _, h => ⟨t, h⟩
  | j + 1, t, hj, h => by
    have hlt : j < (ord l).length := by omega
    have hx : (ord l)[j]? = some (ord l)[j] := List.getElem?_eq_getElem hlt
    obtain ⟨x0, x1⟩ := (ord_ok l).inn _ (List.mem_of_getElem? hx)
    have hself := hF.ok.self _ x0 x1
    have e1 : (fun y => if y = (ord l)[j] then t y + dur l y else if y ∈ needs l (ord l)[j] then (if t (ord l)[j] + dur l (ord l)[j] > t y then t (ord l)[j] + dur l (ord l)[j] else t y) else t y) (ord l)[j] = t (ord l)[j] + dur l (ord l)[j] := if_pos rfl
    refine tailAt_ex hF j _ (by omega) (TailAt.step hF (t' := fun y => if y = (ord l)[j] then t y + dur l y else if y ∈ needs l (ord l)[j] then (if t (ord l)[j] + dur l (ord l)[j] > t y then t (ord l)[j] + dur l (ord l)[j] else t y) else t y) h hx e1 (fun y hy => ?_) fun y _ _ hne hny => ?_)
    · have hne : y ≠ (ord l)[j] := fun e => hself (e ▸ hy)
      simp only [if_true]
      rw [if_neg hne, if_pos hy]
    · show (if y = (ord l)[j] then _ else _) = _
      rw [if_neg hne, if_neg hny]
theorem tail_ex {l : List (Int × List Int)} (hF : Full l) : ∃ T : List Int, Tail l (V T) := by
  obtain ⟨t, ht⟩ := tailAt_ex hF (ord l).length (fun _ => 0) (Nat.le_refl _) (tail0 hF fun _ _ _ => rfl)
  have h := ht.tail hF
  have e : ∀ x : Int, 0 ≤ x → x < l.length → V ((List.range l.length).map fun i : Nat => t (i : Int)) x = t x := fun x x0 x1 => by
    unfold V
    have : x.toNat < l.length := by omega
    rw [List.getD_eq_getElem?_getD, List.getElem?_map, List.getElem?_range this]
    show t ((x.toNat : Nat) : Int) = _
    rw [show ((x.toNat : Nat) : Int) = x by omega]
  refine ⟨_, ⟨fun x x0 x1 => by rw [e x x0 x1]; exact h.a x x0 x1, fun x m x0 x1 m0 m1 hx => by rw [e x x0 x1, e m m0 m1]; exact h.b x m x0 x1 m0 m1 hx, fun x x0 x1 => ?_, fun x x0 x1 => by rw [e x x0 x1]; exact h.d x x0 x1⟩⟩
  rw [e x x0 x1]
  rcases h.c x x0 x1 with h1 | ⟨m, m0, m1, h2, h3⟩
  · exact .inl h1
  · exact .inr ⟨m, m0, m1, h2, by rw [e m m0 m1]; exact h3⟩
/-- Both make the same schedule. -/
theorem sched_ex {n : Nat} {l : List (Int × List Int)} (hl : PlanIn l) (w : Int) (hn : 20000 ≤ n) : ∃ fin ok out, out.length ≤ 30 ∧ (∀ (R : Type) (k : Int → Bool → List (Int × Int × Int) → Option R), impl_ScheduleOf n l w k = k fin ok out) ∧ (∀ (R : Type) (k : Int → Bool → List (Int × Int × Int) → Option R), spec_ScheduleOf n l w k = k fin ok out) ∧
    (ok = true → Full l ∧ 1 ≤ w ∧ w ≤ 8 ∧ ∀ E all, Early l E all → 0 ≤ fin ∧ fin ≤ 3200 ∧ all ≤ fin ∧ sumR (fun i => dur l i) l.length 0 ≤ fin * w ∧ fin * w ≤ sumR (fun i => dur l i) l.length 0 + (w - 1) * all ∧ slotsF l w out = true) := by
  by_cases hG : goodP l = true
  case neg =>
    have hG : goodP l = false := by simpa using hG
    refine ⟨0, false, [], by simp, fun R k => ?_, fun R k => ?_, fun h => by cases h⟩
    · unfold impl_ScheduleOf
      rw [impl_GoodPlan_eq hl.b.1 hl.b.2 (by omega), hG]; rfl
    · unfold spec_ScheduleOf
      rw [spec_GoodPlan_eq hl.b.1 hl.b.2 (by omega), hG]; rfl
  obtain ⟨hp, hc⟩ := goodP_ok hG
  have h30 := hp.len
  have hF : Full l := ⟨hp, hc⟩
  by_cases hw : 1 ≤ w ∧ w ≤ 8
  case neg =>
    refine ⟨0, false, [], by simp, fun R k => ?_, fun R k => ?_, fun h => by cases h⟩
    · unfold impl_ScheduleOf impl_workersOk
      rw [impl_GoodPlan_eq hl.b.1 hl.b.2 (by omega), hG, impl_in_eq, decide_eq_false hw]; rfl
    · unfold spec_ScheduleOf
      rw [spec_GoodPlan_eq hl.b.1 hl.b.2 (by omega), hG]
      simp only [spec_l1In_eq, decide_eq_false hw]; rfl
  obtain ⟨W, rfl⟩ : ∃ W : Nat, w = (W : Int) := ⟨w.toNat, by omega⟩
  obtain ⟨E, all, hE, _⟩ := earliestI_ex hF (n := 10000) (by omega)
  obtain ⟨T, hT⟩ := tail_ex hF
  obtain ⟨now, q, h1, h2⟩ := sch_crew hF hE hT (W := W) (by omega) 3102 0 0 (sc0 l W) (crew0 hF hE hT W) (by omega)
  have hfin := h1.done hF hE hT (by omega) h2
  refine ⟨(sch l W 3102 0 (sc0 l W)).fin, true, (sch l W 3102 0 (sc0 l W)).out, by rw [hfin.len]; omega, fun R k => ?_, fun R k => ?_, fun _ => ⟨hF, by omega, by omega, fun E' all' hE' => ?_⟩⟩
  · unfold impl_ScheduleOf impl_workersOk
    rw [impl_GoodPlan_eq hl.b.1 hl.b.2 (by omega), hG, impl_in_eq, decide_eq_true hw]
    simp only [Bool.not_true, cond_false]
    rw [decide_eq_true (show (0 : Int) ≤ (W : Int) by omega), decide_eq_true (show (W : Int) ≤ (W : Int) by omega), decide_eq_true (show (W : Int) ≤ 1099511627776 by omega), slices_Repeat_eq (-1) (by omega) (by omega), Int.toNat_natCast]
    exact impl_sch hF hE hT (by omega) (by omega) (fun r11 r12 => k r11 true r12) 3102 n 0 0 (sc0 l W) (crew0 hF hE hT W) (by omega) (by omega)
  · unfold spec_ScheduleOf
    rw [spec_GoodPlan_eq hl.b.1 hl.b.2 (by omega), hG]
    simp only [spec_l1In_eq, decide_eq_true hw, Bool.not_true, cond_false]
    rw [dnn, decide_eq_true (show (l.length : Int) ≤ (l.length : Int) by omega), decide_eq_true (show (l.length : Int) ≤ 1099511627776 by omega), decide_eq_true (show (0 : Int) ≤ (W : Int) by omega), decide_eq_true (show (W : Int) ≤ (W : Int) by omega), decide_eq_true (show (W : Int) ≤ 1099511627776 by omega), Int.toNat_natCast, Int.toNat_natCast, List.length_replicate]
    simp only [cond_true]
    have h7 := spec_init7 l [] (List.replicate W 0) (N := l.length) (by omega) (fun r3 r4 r5 r6 => (spec_ScheduleOf_l13 n r3 0 0 r4 r5 r6 (fun r38 r39 => k r38 true r39))) l.length n 0 (List.replicate l.length 0) (by omega) (by omega) (by simp) (by simp)
    rw [show ((0 : Nat) : Int) = 0 from rfl] at h7
    rw [h7]
    exact spec_sch hF hE hT (by omega) (by omega) (fun r38 r39 => k r38 true r39) 3102 n 0 0 (sc0 l W) (crew0 hF hE hT W) (by omega) (by omega)
  · obtain ⟨_, rfl⟩ := hE'.uniq hF hE
    exact ⟨hfin.fin.1, hfin.fin.2, hfin.ge, hfin.work, hfin.most, fin_slots hF hfin⟩
theorem drawS_ex {x : List Int} (hx : Bytes x) {n : Nat} (hn : 20000 ≤ n) : ∃ l w, PlanIn l ∧ ∀ (R : Type) (k : Int → List (Int × List Int) → Option R), spec_DrawScheduleOf n x k = k w l := by
  obtain ⟨l, p, s, hl, p0, p1, hd⟩ := plan_ex hx (n := n) (by omega)
  obtain ⟨w, p2, s2, _, _, _, hw⟩ := among_ex hx n (xs := [1, 1, 2, 2, 3, 8, 0, 9]) (by simp) (by simp) (p := p) (s := s) p0 (by omega)
  exact ⟨l, w, hl, fun R k => by unfold spec_DrawScheduleOf; rw [hd, hw]⟩
theorem drawI_ex {x : List Int} (hx : Bytes x) {n : Nat} (hn : 20000 ≤ n) : ∃ l w s, PlanIn l ∧ ∀ (R : Type) (k : Int → List (Int × List Int) → List (Int × Int × Int) → Option R), spec_DrawIsSchedule n x k = k w l s := by
  obtain ⟨l, w, hl, hd⟩ := drawS_ex hx hn
  obtain ⟨fin, ok, out, ho, _, hs, _⟩ := sched_ex hl w hn
  by_cases h : (out.length : Int) > 0
  case neg => exact ⟨l, w, out, hl, fun R k => by unfold spec_DrawIsSchedule; rw [hd, hs, decide_eq_false h]; rfl⟩
  obtain ⟨b, p1, s1, u0, u1, ht⟩ := oneP_ex hx n (m := 3) (p := 0) (s := 0) (by omega) (by omega) (by omega)
  cases b with
  | false => exact ⟨l, w, out, hl, fun R k => by unfold spec_DrawIsSchedule; rw [hd, hs, decide_eq_true h, cond_true, ht]; rfl⟩
  | true =>
    obtain ⟨i, p2, s2, i0, i1, v0, v1, hi⟩ := pick_ex hx n (m := (out.length : Int)) (p := p1) (s := s1) (by omega) (by omega) (by omega)
    obtain ⟨j, p3, s3, j0, j1, w0, w1, hj⟩ := pick_ex hx n (m := 3) (p := p2) (s := s2) (by omega) (by omega) (by omega)
    have i2 : i < (out.length : Int) := by omega
    by_cases c0 : j = 0
    · obtain ⟨d, p4, s4, _, _, _, _, hq⟩ := pick_ex hx n (m := 5) (p := p3) (s := s3) (by omega) (by omega) (by omega)
      exact ⟨l, w, _, hl, fun R k => by unfold spec_DrawIsSchedule; rw [hd, hs, decide_eq_true h, cond_true, ht, cond_true, hi, hj, show (j == 0) = true by simp [c0], decide_eq_true i0, decide_eq_true i2]; simp only [cond_true]; rw [hq]⟩
    · by_cases c1 : j = 1
      · obtain ⟨d, p4, s4, _, _, _, _, hq⟩ := pick_ex hx n (m := 3) (p := p3) (s := s3) (by omega) (by omega) (by omega)
        exact ⟨l, w, _, hl, fun R k => by unfold spec_DrawIsSchedule; rw [hd, hs, decide_eq_true h, cond_true, ht, cond_true, hi, hj, show (j == 0) = false by simp [c0], show (j == 1) = true by simp [c1], decide_eq_true i0, decide_eq_true i2]; simp only [cond_true, cond_false]; rw [hq]⟩
      · obtain ⟨d, p4, s4, _, _, _, _, hq⟩ := pick_ex hx n (m := (l.length : Int)) (p := p3) (s := s3) (by have := hl.1; omega) (by omega) (by omega)
        exact ⟨l, w, _, hl, fun R k => by unfold spec_DrawIsSchedule; rw [hd, hs, decide_eq_true h, cond_true, ht, cond_true, hi, hj, show (j == 0) = false by simp [c0], show (j == 1) = false by simp [c1], decide_eq_true i0, decide_eq_true i2]; simp only [cond_true, cond_false]; rw [hq]⟩
theorem law_same {R : Type} (a : List Int) (b c : Int) (d : Bool) (p : List (Int × List Int)) (s : List (Int × Int × Int)) (hs : s.length ≤ 1000) (kr : Bool → Option R) (ke : List Int → Int → Int → Bool → List (Int × List Int) → List (Int × Int × Int) → Option R) : ∀ (c0 n j : Nat), c0 < n → j + c0 = s.length → laws_FnGraham_l9 n a b c d (s.length : Int) (j : Int) p s s kr ke = ke a b c d p s
  | c0, 0, _, h, _ => by omega
  | 0, n + 1, j, hn, hj => by rw [laws_FnGraham_l9, dge (by omega)]; rfl
  | c0 + 1, n + 1, j, hn, hj => by
    have h : j < s.length := by omega
    rw [laws_FnGraham_l9, dlt h, dnn, wrapS h (by omega)]
    simp only [beq_self_eq_true, Bool.and_self, Bool.not_true, cond_false, cond_true]
    exact law_same a b c d p s hs kr ke c0 n (j + 1) (by omega) (by omega)
theorem law_sum {R : Type} {l : List (Int × List Int)} (hF : Full l) (x : List Int) (a b e g : Int) (c d f : Bool) (ke : List Int → Int → Int → Bool → Bool → Int → Bool → Int → Option R) : ∀ (c0 n j : Nat) (q : Int), c0 < n → j + c0 = l.length → 0 ≤ q → q + 100 * c0 ≤ 100000 →
    laws_FnGraham_l19 n x a b c d e f q (l.length : Int) (j : Int) l ke = ke x a b c d e f (q + sumR (fun i => dur l i) c0 j)
  | c0, 0, _, _, h, _, _, _ => by omega
  | 0, n + 1, j, q, hn, hj, _, _ => by rw [laws_FnGraham_l19, dge (by omega), sumR, Int.add_zero]; rfl
  | c0 + 1, n + 1, j, q, hn, hj, q0, q1 => by
    have h : j < l.length := by omega
    have h30 := hF.ok.len
    have hd := hF.dur (x := (j : Int)) (by omega) (by omega)
    have e2 : (l.getD (Int.toNat (j : Int)) (0, [])).1 = dur l j := rfl
    rw [laws_FnGraham_l19, dlt h, dnn, wrapS h (by omega), e2, wrap64 (x := q + dur l j) (by omega) (by omega), sumR]
    simp only [cond_true]
    rw [law_sum hF x a b e g c d f ke c0 n (j + 1) _ (by omega) (by omega) (by omega) (by omega), Int.add_assoc]
theorem law_rest {R : Type} {n : Nat} (x1 : List Int) (h1 : Bytes x1) (hn : 50000 ≤ n) (k : Bool → Option R) : (spec_DrawIsSchedule n x1 fun r29 r30 r31 => (impl_IsSchedule n r30 r29 r31 fun r32 r33 => (spec_IsSchedule n r30 r29 r31 fun r34 r35 => (bif (r33 == r35) then k (r32 == r34) else k false)))) = k true := by
  obtain ⟨l, w, s, hl, hd⟩ := drawI_ex h1 (n := n) (by omega)
  rw [hd, impl_IsSchedule_eq hl w s (by omega), spec_IsSchedule_eq hl w s (by omega), beq_self_eq_true, beq_self_eq_true]
  rfl
theorem law_key {R : Type} {n : Nat} (x0 x1 : List Int) (h0 : Bytes x0) (h1 : Bytes x1) (hn : 50000 ≤ n) (k : Bool → Option R) : laws_FnGraham n x0 x1 k = k true := by
  unfold laws_FnGraham
  by_cases hg : (IntKind.wrap .i64 ((x0.length : Int) + (x1.length : Int))) > 1048576
  · rw [decide_eq_true hg]; rfl
  rw [decide_eq_false hg, cond_false]
  obtain ⟨l, w, hl, hd⟩ := drawS_ex h0 (n := n) (by omega)
  obtain ⟨fin, ok, out, ho, hi, hs, hok⟩ := sched_ex hl w (n := n) (by omega)
  have hrest := law_rest x1 h1 hn k
  have hsame := law_same x1 w fin ok l out (by omega) (fun r9 => k r9) (fun r10 r11 r12 r13 r14 r15 => (bif r13 then (impl_IsSchedule n r14 r11 r15 fun r16 r17 => (impl_EarliestOf n r14 fun r18 r19 r20 => (laws_FnGraham_l19 n r10 r11 r12 r16 r17 r18 r19 0 (r14.length : Int) 0 r14 (fun r21 r22 r23 r24 r25 r26 r27 r28 => (bif (!r25) then k false else (bif (!r27) then k false else (bif (!r24) then k false else (bif (decide (r23 < r26)) then k false else (bif (decide ((IntKind.wrap .i64 (r23 * r22)) < r28)) then k false else (bif (decide ((IntKind.wrap .i64 (r23 * r22)) > (IntKind.wrap .i64 (r28 + (IntKind.wrap .i64 ((IntKind.wrap .i64 (r22 - 1)) * r26)))))) then k false else (spec_DrawIsSchedule n r21 fun r29 r30 r31 => (impl_IsSchedule n r30 r29 r31 fun r32 r33 => (spec_IsSchedule n r30 r29 r31 fun r34 r35 => (bif (r33 == r35) then k (r32 == r34) else k false)))))))))))))) else (spec_DrawIsSchedule n r10 fun r36 r37 r38 => (impl_IsSchedule n r37 r36 r38 fun r39 r40 => (spec_IsSchedule n r37 r36 r38 fun r41 r42 => (bif (r40 == r42) then k (r39 == r41) else k false)))))) out.length n 0 (by omega) (by omega)
  rw [show ((0 : Nat) : Int) = 0 from rfl] at hsame
  simp only [hd, hi, hs, beq_self_eq_true, bne_self_eq_false, Bool.not_true, cond_false]
  rw [hsame]
  cases ok with
  | false => exact hrest
  | true =>
    obtain ⟨hF, w1, w8, hall⟩ := hok rfl
    obtain ⟨E, all, hE, e1⟩ := earliestI_ex hF (n := n) (by omega)
    obtain ⟨f0, f1, f2, f3, f4, f5⟩ := hall E all hE
    have hG : goodP l = true := by
      cases hb : goodP l with
      | true => rfl
      | false =>
        have := hi Nat fun _ b _ => some (if b then 1 else 0)
        unfold impl_ScheduleOf at this
        rw [impl_GoodPlan_eq hl.b.1 hl.b.2 (by omega), hb] at this
        cases this
    have h30 := hF.ok.len
    have hfs : fineS l w out = true := by
      unfold fineS
      rw [hG, decide_eq_true ⟨w1, w8⟩, decide_eq_false (show ¬ (out.length : Int) > 30 by omega)]; rfl
    simp only [cond_true]
    unfold impl_EarliestOf
    rw [impl_IsSchedule_eq hl w out (by omega), hfs, f5, impl_GoodPlan_eq hl.b.1 hl.b.2 (by omega), hG]
    simp only [Bool.not_true, cond_false, e1, Bool.and_self]
    have hsum := law_sum hF x1 w fin all 0 true true true (fun r21 r22 r23 r24 r25 r26 r27 r28 => (bif (!r25) then k false else (bif (!r27) then k false else (bif (!r24) then k false else (bif (decide (r23 < r26)) then k false else (bif (decide ((IntKind.wrap .i64 (r23 * r22)) < r28)) then k false else (bif (decide ((IntKind.wrap .i64 (r23 * r22)) > (IntKind.wrap .i64 (r28 + (IntKind.wrap .i64 ((IntKind.wrap .i64 (r22 - 1)) * r26)))))) then k false else (spec_DrawIsSchedule n r21 fun r29 r30 r31 => (impl_IsSchedule n r30 r29 r31 fun r32 r33 => (spec_IsSchedule n r30 r29 r31 fun r34 r35 => (bif (r33 == r35) then k (r32 == r34) else k false))))))))))) l.length n 0 0 (by omega) (by omega) (by omega) (by omega)
    rw [show ((0 : Nat) : Int) = 0 from rfl] at hsum
    rw [hsum, Int.zero_add]
    have hall0 := hE.all0
    have g1 : fin * w ≤ 3200 * 8 := Int.le_trans (Int.mul_le_mul_of_nonneg_right f1 (by omega)) (Int.mul_le_mul_of_nonneg_left w8 (by omega))
    have g0 : 0 ≤ fin * w := Int.mul_nonneg f0 (by omega)
    have g2 : (w - 1) * all ≤ 7 * 3100 := Int.le_trans (Int.mul_le_mul_of_nonneg_right (show w - 1 ≤ 7 by omega) hall0.1) (Int.mul_le_mul_of_nonneg_left hall0.2 (by omega))
    have g3 : 0 ≤ (w - 1) * all := Int.mul_nonneg (by omega) hall0.1
    have hwk := work_le hF (List.replicate l.length 0)
    have hs0 : sumR (fun i => dur l i) l.length 0 ≤ 3000 := by
      have : workOf l (List.replicate l.length 0) = sumR (fun i => dur l i) l.length 0 := sumR_congr fun i _ hi => by rw [V_rep _ _ (by omega) (by omega)]; rfl
      omega
    have hs1 : 0 ≤ sumR (fun i => dur l i) l.length 0 := sumR_nn fun i _ hi => by
      have := hF.dur (x := (i : Int)) (by omega) (by omega)
      show 0 ≤ dur l i
      omega
    rw [wrap64 (x := w - 1) (by omega) (by omega), wrap64 (x := fin * w) (by omega) (by omega), wrap64 (x := (w - 1) * all) (by omega) (by omega), wrap64 (by omega) (by omega), decide_eq_false (show ¬ fin < all by omega), decide_eq_false (show ¬ fin * w < sumR (fun i => dur l i) l.length 0 by omega), decide_eq_false (show ¬ fin * w > sumR (fun i => dur l i) l.length 0 + (w - 1) * all by omega)]
    simp only [Bool.not_true, cond_false]
    exact hrest
theorem plain : Plain := fun x0 x1 h0 h1 R k => ⟨_, law_key x0 x1 (fun x hx => h0.2 x hx) (fun x hx => h1.2 x hx) (Nat.le_refl 50000) k⟩
end Go.Am.G
