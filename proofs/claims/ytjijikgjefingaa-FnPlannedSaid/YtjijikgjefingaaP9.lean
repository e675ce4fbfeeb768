/- The plain law: what the functions compute answers as the law says, for all arguments. -/
import Derived.Test.YtjijikgjefingaaF9
set_option linter.unusedVariables false
set_option linter.unusedSimpArgs false
namespace Go.Am.G
open Go Go.Am
theorem wrap64 {x : Int} (h1 : -9223372036854775808 ≤ x) (h2 : x ≤ 9223372036854775807) : IntKind.wrap .i64 x = x := by
  simp only [IntKind.wrap, IntKind.signed, IntKind.bits]
  simp
  omega
theorem getD_at {α : Type} (l : List α) (d : α) {j : Nat} (h : j < l.length) : l.getD (Int.toNat (j : Int)) d = l[j] := by
  rw [Int.toNat_natCast, List.getD_eq_getElem?_getD, List.getElem?_eq_getElem h]; rfl
theorem dlt {a b : Nat} (h : a < b) : decide ((a : Int) < (b : Int)) = true := decide_eq_true (by omega)
theorem dge {a b : Nat} (h : b ≤ a) : decide ((a : Int) < (b : Int)) = false := decide_eq_false (by omega)
theorem dnn (a : Nat) : decide (0 ≤ (a : Int)) = true := decide_eq_true (by omega)
theorem wrapS {j m : Nat} (h : j < m) (hm : m ≤ 9223372036854775807) : IntKind.wrap .i64 ((j : Int) + 1) = ((j + 1 : Nat) : Int) := by
  rw [wrap64 (by omega) (by omega)]; rfl
theorem spec_l1In_eq {R : Type} (n : Nat) (x a b : Int) (k : Bool → Option R) : spec_l1In n x a b k = k (decide (a ≤ x ∧ x ≤ b)) := by
  simp only [spec_l1In]
  by_cases h : x ≥ a
  · have : a ≤ x := h
    simp [this]
  · have : ¬ a ≤ x := h
    simp [this]
theorem impl_in_eq {R : Type} (n : Nat) (x a b : Int) (k : Bool → Option R) : impl_in n x a b k = k (decide (a ≤ x ∧ x ≤ b)) := by
  simp only [impl_in]
  by_cases h : x ≥ a
  · have : a ≤ x := h
    simp [this]
  · have : ¬ a ≤ x := h
    simp [this]
/-- Numbers that rise, from above one to below another. -/
def riseTo (B : Int) : Int → List Int → Bool
  | _, [] => true
  | v, x :: r => decide (v < x ∧ x < B) && riseTo B x r
theorem riseTo_iff {B : Int} : ∀ {l : List Int} {v : Int}, riseTo B v l = true ↔ l.Pairwise (· < ·) ∧ ∀ x ∈ l, v < x ∧ x < B
  | [], v => by simp [riseTo]
  | y :: r, v => by
    have ih := riseTo_iff (B := B) (l := r) (v := y)
    simp only [riseTo, Bool.and_eq_true, decide_eq_true_eq, ih, List.pairwise_cons, List.mem_cons]
    constructor
    · rintro ⟨h1, h2, h3⟩
      refine ⟨⟨fun x hx => (h3 x hx).1, h2⟩, fun x hx => ?_⟩
      rcases hx with rfl | hx
      · exact h1
      · have := h3 x hx
        omega
    · rintro ⟨⟨h1, h2⟩, h3⟩
      exact ⟨h3 y (.inl rfl), h2, fun x hx => ⟨h1 x hx, (h3 x (.inr hx)).2⟩⟩
theorem spec_l3List_loop {R : Type} (l : List Int) (hb : l.length ≤ 9223372036854775807) {B : Int} (hB : 0 ≤ B) (hB2 : B ≤ 1000) (kr : Bool → Option R) (ke : Option R) : ∀ (n j : Nat) (v : Int), l.length - j < n → j ≤ l.length → -1 ≤ v →
    (j = 0 → v = -1) → (∀ (h : j - 1 < l.length), 0 < j → l[j - 1] = v) →
    spec_l3List_l2 n l B l (l.length : Int) (j : Int) kr ke = bif riseTo B v (l.drop j) then ke else kr false
  | 0, _, _, h, _, _, _, _ => by omega
  | n + 1, j, v, hn, hj, hv, h0, h1 => by
    unfold spec_l3List_l2
    by_cases h : j < l.length
    · rw [dlt h, dnn, getD_at _ _ h, wrapS h hb, List.drop_eq_getElem_cons h, wrap64 (x := B - 1) (by omega) (by omega)]
      simp only [cond_true, spec_l1In_eq, riseTo]
      have ih := fun (h2 : -1 ≤ l[j]) => spec_l3List_loop l hb hB hB2 kr ke n (j + 1) l[j] (by omega) (by omega) h2 (by omega) (fun _ _ => rfl)
      by_cases hz : j = 0
      · have hv := h0 hz
        subst hv
        rw [decide_eq_false (show ¬ ((j : Int) > 0) by omega)]
        by_cases c1 : 0 ≤ l[j] ∧ l[j] ≤ B - 1
        · rw [decide_eq_true c1, decide_eq_true (show -1 < l[j] ∧ l[j] < B by omega)]
          simp only [Bool.not_true, cond_false, Bool.true_and]
          exact ih (by omega)
        · rw [decide_eq_false c1, decide_eq_false (show ¬ (-1 < l[j] ∧ l[j] < B) by omega)]; rfl
      · have hp : j - 1 < l.length := by omega
        have hq := h1 hp (by omega)
        rw [decide_eq_true (show ((j : Int) > 0) by omega), wrap64 (x := (j : Int) - 1) (by omega) (by omega), show (j : Int) - 1 = ((j - 1 : Nat) : Int) by omega, dnn, dlt hp, getD_at _ _ hp, hq]
        simp only [cond_true]
        by_cases c1 : 0 ≤ l[j] ∧ l[j] ≤ B - 1
        · rw [decide_eq_true c1]
          simp only [Bool.not_true, cond_false]
          by_cases c3 : v < l[j]
          · rw [decide_eq_false (show ¬ (v ≥ l[j]) by omega), decide_eq_true (show v < l[j] ∧ l[j] < B by omega)]
            simp only [cond_false, Bool.true_and]
            exact ih (by omega)
          · rw [decide_eq_true (show (v ≥ l[j]) by omega), decide_eq_false (show ¬ (v < l[j] ∧ l[j] < B) by omega)]; rfl
        · rw [decide_eq_false c1, decide_eq_false (show ¬ (v < l[j] ∧ l[j] < B) by omega)]; rfl
    · rw [dge (by omega), List.drop_eq_nil_iff.2 (by omega)]; rfl
theorem spec_l3List_eq {R : Type} {n : Nat} {l : List Int} (hb : l.length ≤ 9223372036854775807) {B : Int} (hB : 0 ≤ B) (hB2 : B ≤ 1000) (hn : l.length < n) (k : Bool → Option R) : spec_l3List n l B k = k (riseTo B (-1) l) := by
  unfold spec_l3List
  have := spec_l3List_loop l hb hB hB2 k (k true) n 0 (-1) (by omega) (by omega) (by omega) (fun _ => rfl) (fun _ h => by omega)
  rw [show ((0 : Nat) : Int) = 0 from rfl, List.drop_zero] at this
  rw [this]
  cases riseTo B (-1) l <;> rfl
theorem impl_rising_loop {R : Type} (l : List Int) (hb : l.length ≤ 9223372036854775807) {B : Int} (hB : 0 ≤ B) (hB2 : B ≤ 1000) (kr : Bool → Option R) (ke : Option R) : ∀ (n j : Nat) (v : Int), l.length - j < n → j ≤ l.length → -1 ≤ v →
    (j = 0 → v = -1) → (∀ (h : j - 1 < l.length), 0 < j → l[j - 1] = v) →
    impl_rising_l2 n l B l (l.length : Int) (j : Int) kr ke = bif riseTo B v (l.drop j) then ke else kr false
  | 0, _, _, h, _, _, _, _ => by omega
  | n + 1, j, v, hn, hj, hv, h0, h1 => by
    unfold impl_rising_l2
    by_cases h : j < l.length
    · rw [dlt h, dnn, getD_at _ _ h, wrapS h hb, List.drop_eq_getElem_cons h, wrap64 (x := B - 1) (by omega) (by omega)]
      simp only [cond_true, impl_in_eq, riseTo]
      have ih := fun (h2 : -1 ≤ l[j]) => impl_rising_loop l hb hB hB2 kr ke n (j + 1) l[j] (by omega) (by omega) h2 (by omega) (fun _ _ => rfl)
      by_cases hz : j = 0
      · have hv := h0 hz
        subst hv
        rw [decide_eq_false (show ¬ ((j : Int) > 0) by omega)]
        by_cases c1 : 0 ≤ l[j] ∧ l[j] ≤ B - 1
        · rw [decide_eq_true c1, decide_eq_true (show -1 < l[j] ∧ l[j] < B by omega)]
          simp only [Bool.not_true, cond_false, Bool.true_and]
          exact ih (by omega)
        · rw [decide_eq_false c1, decide_eq_false (show ¬ (-1 < l[j] ∧ l[j] < B) by omega)]; rfl
      · have hp : j - 1 < l.length := by omega
        have hq := h1 hp (by omega)
        rw [decide_eq_true (show ((j : Int) > 0) by omega), wrap64 (x := (j : Int) - 1) (by omega) (by omega), show (j : Int) - 1 = ((j - 1 : Nat) : Int) by omega, dnn, dlt hp, getD_at _ _ hp, hq]
        simp only [cond_true]
        by_cases c1 : 0 ≤ l[j] ∧ l[j] ≤ B - 1
        · rw [decide_eq_true c1]
          simp only [Bool.not_true, cond_false]
          by_cases c3 : v < l[j]
          · rw [decide_eq_false (show ¬ (v ≥ l[j]) by omega), decide_eq_true (show v < l[j] ∧ l[j] < B by omega)]
            simp only [cond_false, Bool.true_and]
            exact ih (by omega)
          · rw [decide_eq_true (show (v ≥ l[j]) by omega), decide_eq_false (show ¬ (v < l[j] ∧ l[j] < B) by omega)]; rfl
        · rw [decide_eq_false c1, decide_eq_false (show ¬ (v < l[j] ∧ l[j] < B) by omega)]; rfl
    · rw [dge (by omega), List.drop_eq_nil_iff.2 (by omega)]; rfl
theorem impl_rising_eq {R : Type} {n : Nat} {l : List Int} (hb : l.length ≤ 9223372036854775807) {B : Int} (hB : 0 ≤ B) (hB2 : B ≤ 1000) (hn : l.length < n) (k : Bool → Option R) : impl_rising n l B k = k (riseTo B (-1) l) := by
  unfold impl_rising
  have := impl_rising_loop l hb hB hB2 k (k true) n 0 (-1) (by omega) (by omega) (by omega) (fun _ => rfl) (fun _ h => by omega)
  rw [show ((0 : Nat) : Int) = 0 from rfl, List.drop_zero] at this
  rw [this]
  cases riseTo B (-1) l <;> rfl
def needs (l : List (Int × List Int)) (x : Int) : List Int := (l.getD x.toNat (0, [])).2
structure PlanOk (l : List (Int × List Int)) : Prop where
  len : l.length ≤ 30
  long : ∀ x : Int, 0 ≤ x → x < l.length → 1 ≤ (l.getD x.toNat (0, [])).1 ∧ (l.getD x.toNat (0, [])).1 ≤ 100
  rise : ∀ x : Int, 0 ≤ x → x < l.length → riseTo l.length (-1) (needs l x) = true
  self : ∀ x : Int, 0 ≤ x → x < l.length → x ∉ needs l x
theorem PlanOk.inn {l : List (Int × List Int)} (h : PlanOk l) {x n : Int} (h0 : 0 ≤ x) (h1 : x < l.length) (hn : n ∈ needs l x) : 0 ≤ n ∧ n < l.length := by
  have := (riseTo_iff.1 (h.rise x h0 h1)).2 n hn
  omega
theorem nodup_len : ∀ (N : Nat) (l : List Int), l.Nodup → (∀ x ∈ l, 0 ≤ x ∧ x < N) → l.length ≤ N
  | 0, l, _, h => by
    cases l with
    | nil => simp
    | cons x l => have := h x (List.mem_cons_self ..); omega
  | N + 1, l, hn, h => by
    have ih := nodup_len N (l.erase (N : Int)) (hn.erase _) (fun x hx => by
      have h1 := (hn.mem_erase_iff).1 hx
      have h2 := h x h1.2
      have h3 := h1.1
      omega)
    by_cases c : (N : Int) ∈ l
    · rw [List.length_erase_of_mem c] at ih
      omega
    · rw [List.erase_of_not_mem c] at ih
      omega
theorem PlanOk.nlen {l : List (Int × List Int)} (h : PlanOk l) {x : Int} (h0 : 0 ≤ x) (h1 : x < l.length) : (needs l x).length ≤ 30 := by
  have h2 := riseTo_iff.1 (h.rise x h0 h1)
  have h3 := nodup_len l.length (needs l x) (h2.1.imp fun hab => by omega) (fun n hn => h.inn h0 h1 hn)
  exact Nat.le_trans h3 h.len
def rdy (l : List (Int × List Int)) (out : List Int) (k : Nat) : Bool := !decide ((k : Int) ∈ out) && (needs l k).all fun n => decide (n ∈ out)
def pickF (l : List (Int × List Int)) (out : List Int) : Nat → Nat → Option Nat
  | 0, _ => none
  | c + 1, j => bif rdy l out j then some j else pickF l out c (j + 1)
def ordO (l : List (Int × List Int)) : Nat → List Int → List Int
  | 0, out => out
  | f + 1, out => match pickF l out l.length 0 with
    | none => out
    | some k => ordO l f (out ++ [(k : Int)])
def ord (l : List (Int × List Int)) : List Int := ordO l (l.length + 1) []
structure OutOk (l : List (Int × List Int)) (out : List Int) : Prop where
  nd : out.Nodup
  inn : ∀ x ∈ out, 0 ≤ x ∧ x < (l.length : Int)
  pre : ∀ i x, out[i]? = some x → ∀ n ∈ needs l x, n ∈ out.take i
theorem OutOk.len {l : List (Int × List Int)} {out : List Int} (h : OutOk l out) : out.length ≤ l.length := nodup_len l.length out h.nd h.inn
theorem pickF_some {l : List (Int × List Int)} {out : List Int} : ∀ {c j k : Nat}, pickF l out c j = some k → j ≤ k ∧ k < j + c ∧ rdy l out k = true
  | 0, _, _, h => by cases h
  | c + 1, j, k, h => by
    unfold pickF at h
    cases hr : rdy l out j with
    | true =>
      rw [hr] at h
      cases h
      exact ⟨Nat.le_refl _, by omega, hr⟩
    | false =>
      rw [hr] at h
      obtain ⟨a, b, c⟩ := pickF_some (show pickF l out c (j + 1) = some k from h)
      exact ⟨by omega, by omega, c⟩
theorem OutOk.nil (l : List (Int × List Int)) : OutOk l [] := ⟨List.nodup_nil, fun x h => by simp at h, fun i x h => by simp at h⟩
theorem OutOk.step {l : List (Int × List Int)} {out : List Int} (h : OutOk l out) {k : Nat} (hk : pickF l out l.length 0 = some k) : OutOk l (out ++ [(k : Int)]) := by
  obtain ⟨_, h1, h2⟩ := pickF_some hk
  simp only [rdy, Bool.and_eq_true, Bool.not_eq_true', decide_eq_false_iff_not, List.all_eq_true, decide_eq_true_eq] at h2
  refine ⟨?_, fun x hx => ?_, fun i x hx n hn => ?_⟩
  · rw [List.nodup_append]
    refine ⟨h.nd, by simp, fun a ha b hb e => ?_⟩
    rw [List.mem_singleton.1 hb] at e
    exact h2.1 (e ▸ ha)
  · rcases List.mem_append.1 hx with hx | hx
    · exact h.inn x hx
    · rw [List.mem_singleton.1 hx]; omega
  · by_cases c : i < out.length
    · rw [List.getElem?_append_left c] at hx
      rw [List.take_append_of_le_length (by omega)]
      exact h.pre i x hx n hn
    · rw [List.getElem?_append_right (by omega)] at hx
      have hi : i - out.length = 0 := by
        have := (List.getElem?_eq_some_iff.1 hx).1
        simp at this; omega
      rw [hi] at hx
      simp at hx
      subst hx
      rw [show i = out.length by omega, List.take_left]
      exact h2.2 n hn
theorem ordO_ok {l : List (Int × List Int)} : ∀ (f : Nat) (out : List Int), OutOk l out → OutOk l (ordO l f out)
  | 0, _, h => h
  | f + 1, out, h => by
    unfold ordO
    cases e : pickF l out l.length 0 with
    | none => exact h
    | some k => exact ordO_ok f _ (h.step e)
theorem ord_ok (l : List (Int × List Int)) : OutOk l (ord l) := ordO_ok _ _ (.nil l)
theorem has_idx (out : List Int) (x : Int) (j : Nat) (h : j < out.length) : (decide (x ∈ out.drop j)) = ((x == out[j]) || decide (x ∈ out.drop (j + 1))) := by
  rw [List.drop_eq_getElem_cons h]
  by_cases c : x = out[j]
  · rw [decide_eq_true (show x ∈ out[j] :: out.drop (j + 1) by rw [c]; exact List.mem_cons_self ..), show (x == out[j]) = true by simp [c], Bool.true_or]
  · have : (x == out[j]) = false := by simpa using c
    rw [this, Bool.false_or]
    exact decide_eq_decide.2 (by rw [List.mem_cons]; exact ⟨fun h => h.resolve_left c, .inr⟩)
theorem spec_l1Has_loop {R : Type} (out : List Int) (x : Int) (hl : out.length ≤ 1048576) (kr : Bool → Option R) (ke : Option R) : ∀ (n j : Nat), out.length - j < n → j ≤ out.length → spec_l1Has_l2 n x out (out.length : Int) (j : Int) kr ke = bif decide (x ∈ out.drop j) then kr true else ke
  | 0, _, h, _ => by omega
  | n + 1, j, hn, hj => by
    rw [spec_l1Has_l2]
    by_cases h : j < out.length
    · rw [dlt h, dnn, getD_at _ _ h, wrapS h (by omega), has_idx out x j h, Bool.beq_comm (a := x)]
      simp only [cond_true]
      cases out[j] == x with
      | true => rfl
      | false => exact spec_l1Has_loop out x hl kr ke n (j + 1) (by omega) (by omega)
    · rw [dge (by omega), List.drop_eq_nil_iff.2 (by omega)]; rfl
theorem spec_l1Has_eq {R : Type} {n : Nat} {out : List Int} (x : Int) (hl : out.length ≤ 1048576) (hn : out.length < n) (k : Bool → Option R) : spec_l1Has n out x k = k (decide (x ∈ out)) := by
  unfold spec_l1Has
  have := spec_l1Has_loop out x hl k (k false) n 0 (by omega) (by omega)
  rw [show ((0 : Nat) : Int) = 0 from rfl, List.drop_zero] at this
  rw [this]
  cases decide (x ∈ out) <;> rfl
theorem slices_Index_loop {R : Type} (out : List Int) (x : Int) (hl : out.length ≤ 1048576) (k : Bool → Option R) : ∀ (n j : Nat), out.length - j < n → j ≤ out.length → slices_Index_int_l2 n out x (out.length : Int) (j : Int) (fun r1 => k (decide (r1 ≥ 0))) (k (decide ((-1 : Int) ≥ 0))) = k (decide (x ∈ out.drop j))
  | 0, _, h, _ => by omega
  | n + 1, j, hn, hj => by
    rw [slices_Index_int_l2]
    by_cases h : j < out.length
    · rw [dlt h, dnn, getD_at _ _ h, wrapS h (by omega), has_idx out x j h]
      simp only [cond_true]
      cases x == out[j] with
      | true => simp only [cond_true, decide_eq_true (show (j : Int) ≥ 0 by omega), Bool.true_or]
      | false => exact slices_Index_loop out x hl k n (j + 1) (by omega) (by omega)
    · rw [dge (by omega), List.drop_eq_nil_iff.2 (by omega)]; rfl
theorem slices_Contains_eq {R : Type} {n : Nat} {out : List Int} (x : Int) (hl : out.length ≤ 1048576) (hn : out.length < n) (k : Bool → Option R) : slices_Contains_int n out x k = k (decide (x ∈ out)) := by
  unfold slices_Contains_int slices_Index_int
  have := slices_Index_loop out x hl k n 0 (by omega) (by omega)
  rw [show ((0 : Nat) : Int) = 0 from rfl, List.drop_zero] at this
  exact this
/-- Flags of what is in a list. -/
def Flags (N : Nat) (done : List Bool) (S : Int → Prop) : Prop := done.length = N ∧ ∀ x : Int, 0 ≤ x → x < N → (done.getD x.toNat false = true ↔ S x)
theorem Flags.get {N : Nat} {done : List Bool} {S : Int → Prop} (h : Flags N done S) {x : Int} [Decidable (S x)] (h0 : 0 ≤ x) (h1 : x < N) : done.getD x.toNat false = decide (S x) := by
  have := h.2 x h0 h1
  cases e : done.getD x.toNat false with
  | true => rw [decide_eq_true (this.1 e)]
  | false => rw [decide_eq_false fun hs => by rw [this.2 hs] at e; cases e]
theorem getD_setB {l : List Bool} {i j : Nat} (v : Bool) (h : j < l.length) : (l.set i v).getD j false = if i = j then v else l.getD j false := by
  rw [List.getD_eq_getElem?_getD, List.getD_eq_getElem?_getD, List.getElem?_set]
  by_cases c : i = j
  · subst c; simp [h]
  · simp [c]
theorem Flags.set {N : Nat} {done : List Bool} {S : Int → Prop} (h : Flags N done S) {y : Int} (h0 : 0 ≤ y) (h1 : y < N) : Flags N (done.set y.toNat true) fun x => S x ∨ x = y :=
  ⟨by rw [List.length_set]; exact h.1, fun x x0 x1 => by
    have := h.2 x x0 x1
    rw [getD_setB _ (by rw [h.1]; omega)]
    split
    · rename_i e; exact ⟨fun _ => .inr (by omega), fun _ => rfl⟩
    · rename_i e; rw [this]; exact ⟨.inl, fun h => h.resolve_right fun e2 => e (by omega)⟩⟩
theorem Flags.congr {N : Nat} {done : List Bool} {S S' : Int → Prop} (h : Flags N done S) (hs : ∀ x : Int, 0 ≤ x → x < N → (S x ↔ S' x)) : Flags N done S' := ⟨h.1, fun x a b => (h.2 x a b).trans (hs x a b)⟩
theorem impl_readyS {R : Type} (done : List Bool) {N : Nat} {out : List Int} (hf : Flags N done (· ∈ out)) (ns : List Int) (hl : ns.length ≤ 1048576) (hns : ∀ x ∈ ns, 0 ≤ x ∧ x < (N : Int)) (k : Bool → List Bool → Option R) : ∀ (n j : Nat), ns.length - j < n → j ≤ ns.length →
    slices_IndexFunc_int_impl_order_c1_l2 n ns (ns.length : Int) (j : Int) done (fun r3 r4 => k (decide (r3 ≥ 0)) r4) (fun r5 => k (decide ((-1 : Int) ≥ 0)) r5) = k (!(ns.drop j).all fun x => decide (x ∈ out)) done
  | 0, _, h, _ => by omega
  | n + 1, j, hn, hj => by
    rw [slices_IndexFunc_int_impl_order_c1_l2]
    by_cases h : j < ns.length
    · obtain ⟨h0, h1⟩ := hns _ (List.getElem_mem h)
      rw [dlt h, dnn, getD_at _ _ h, wrapS h (by omega), List.drop_eq_getElem_cons h, List.all_cons]
      simp only [cond_true, impl_order_c1, decide_eq_true h0, hf.1, decide_eq_true h1, hf.get h0 h1]
      cases decide (ns[j] ∈ out) with
      | true => exact impl_readyS done hf ns hl hns k n (j + 1) (by omega) (by omega)
      | false => simp only [Bool.not_false, cond_true, decide_eq_true (show (j : Int) ≥ 0 by omega), Bool.false_and]
    · rw [dge (by omega), List.drop_eq_nil_iff.2 (by omega)]; rfl
theorem impl_pick {R : Type} {l : List (Int × List Int)} (hp : PlanOk l) {out : List Int} {done : List Bool} (hf : Flags l.length done (· ∈ out)) (k : List (Int × List Int) → Int → List Int → List Bool → Option R) : ∀ (c n j : Nat), c + 100 < n → j + c = l.length →
    impl_order_l4 n l (-1) l (l.length : Int) (j : Int) out done k = k l (match pickF l out c j with
      | none => -1
      | some k => (k : Int)) out done
  | c, 0, _, h, _ => by omega
  | 0, n + 1, j, hn, hj => by
    rw [impl_order_l4, dge (by omega)]; rfl
  | c + 1, n + 1, j, hn, hj => by
    have h : j < l.length := by omega
    have hlen30 := hp.len
    have hd : (decide ((j : Int) < (done.length : Int))) = true := by rw [hf.1]; exact dlt h
    rw [impl_order_l4, dlt h, dnn, getD_at _ _ h, wrapS h (by omega), hd]
    have hg : done.getD (Int.toNat (j : Int)) false = decide ((j : Int) ∈ out) := hf.get (x := (j : Int)) (by omega) (by omega)
    have hn1 : needs l (j : Int) = l[j].2 := by unfold needs; rw [getD_at _ _ h]
    rw [hg, pickF, rdy, hn1]
    simp only [cond_true]
    by_cases hm : (j : Int) ∈ out
    · rw [decide_eq_true hm]
      exact impl_pick hp hf k c n (j + 1) (by omega) (by omega)
    · rw [decide_eq_false hm]
      simp only [Bool.not_false, cond_true, Bool.true_and]
      unfold slices_ContainsFunc_int_impl_order_c1 slices_IndexFunc_int_impl_order_c1
      have hlen : l[j].2.length ≤ 30 := by rw [← hn1]; exact hp.nlen (by omega) (by omega)
      have := impl_readyS done hf l[j].2 (by omega) (fun x hx => hp.inn (x := (j : Int)) (by omega) (by omega) (by rw [hn1]; exact hx)) (fun r1 r2 => (bif (!r1) then k l (j : Int) out r2 else impl_order_l4 n l (-1) l (l.length : Int) ((j + 1 : Nat) : Int) out r2 k)) n 0 (by omega) (by omega)
      rw [show ((0 : Nat) : Int) = 0 from rfl, List.drop_zero] at this
      rw [this]
      cases (l[j].2.all fun n => decide (n ∈ out)) with
      | true => rfl
      | false => exact impl_pick hp hf k c n (j + 1) (by omega) (by omega)
theorem impl_order_loop {R : Type} {l : List (Int × List Int)} (hp : PlanOk l) (k : List Int → Option R) : ∀ (f n : Nat) (out : List Int) (done : List Bool), f + 200 < n → OutOk l out → Flags l.length done (· ∈ out) → l.length < f + out.length →
    impl_order_l2 n l out done k = k (ordO l f out)
  | 0, n, out, done, _, ho, _, hlt => by have := ho.len; omega
  | f + 1, 0, _, _, h, _, _, _ => by omega
  | f + 1, n + 1, out, done, hn, ho, hf, hlt => by
    have hlen := hp.len
    rw [impl_order_l2]
    have hpk := impl_pick hp hf (fun r3 r4 r5 r6 => (bif (decide (r4 < 0)) then k r5 else (bif decide (0 ≤ r4) then (bif decide (r4 < (r6.length : Int)) then (bif decide (r5.length + [r4].length ≤ LIM) then impl_order_l2 n r3 (r5 ++ [r4]) (r6.set (Int.toNat r4) true) k else none) else none) else none))) l.length n 0 (by omega) (by omega)
    rw [show ((0 : Nat) : Int) = 0 from rfl] at hpk
    rw [hpk, ordO]
    cases e : pickF l out l.length 0 with
    | none => rfl
    | some q =>
      obtain ⟨_, h1, _⟩ := pickF_some e
      have hol := ho.len
      simp only
      rw [decide_eq_false (show ¬ (q : Int) < 0 by omega), dnn, hf.1, dlt (show q < l.length by omega), decide_eq_true (show out.length + [(q : Int)].length ≤ LIM by simp [LIM]; omega)]
      simp only [cond_true, cond_false]
      exact impl_order_loop hp k f n _ _ (by omega) (ho.step e) ((hf.set (y := (q : Int)) (by omega) (by omega)).congr fun x _ _ => by simp) (by simp; omega)
theorem flags_none (N : Nat) : Flags N (List.replicate N false) (fun _ => False) := ⟨by simp, fun x h0 h1 => by
  rw [List.getD_eq_getElem?_getD, List.getElem?_replicate]
  split <;> simp⟩
theorem impl_order_eq {R : Type} {n : Nat} {l : List (Int × List Int)} (hp : PlanOk l) (hn : 1000 ≤ n) (k : List Int → Option R) : impl_order n l k = k (ord l) := by
  have hlen := hp.len
  unfold impl_order
  rw [decide_eq_true (show (0 : Int) ≤ (l.length : Int) by omega), decide_eq_true (show (l.length : Int) ≤ (l.length : Int) by omega), decide_eq_true (show (l.length : Int) ≤ 1099511627776 by omega)]
  simp only [cond_true, Int.toNat_natCast]
  exact impl_order_loop hp k (l.length + 1) n [] _ (by omega) (.nil l) ((flags_none _).congr fun x _ _ => by simp) (by simp)
theorem spec_ready {R : Type} (l : List (Int × List Int)) (a b c d : Int) (out : List Int) (hl : out.length ≤ 1000) (ns : List Int) (hl2 : ns.length ≤ 1000) (k : List (Int × List Int) → Int → Int → Bool → List (Int × List Int) → Int → Int → List Int → Option R) : ∀ (n j : Nat) (f : Bool), ns.length - j + 1001 < n → j ≤ ns.length →
    spec_l4Order_l9 n l a b f l c d ns (ns.length : Int) (j : Int) out k = k l a b (f && (ns.drop j).all fun n => decide (n ∈ out)) l c d out
  | 0, _, _, h, _ => by omega
  | n + 1, j, f, hn, hj => by
    rw [spec_l4Order_l9]
    by_cases h : j < ns.length
    · rw [dlt h, dnn, getD_at _ _ h, wrapS h (by omega), List.drop_eq_getElem_cons h, List.all_cons]
      simp only [cond_true]
      cases f with
      | true =>
        simp only [cond_true, Bool.true_and, spec_l1Has_eq (n := n) (out := out) ns[j] (by omega) (by omega)]
        rw [spec_ready l a b c d out hl ns hl2 k n (j + 1) _ (by omega) (by omega)]
      | false =>
        simp only [cond_false]
        rw [spec_ready l a b c d out hl ns hl2 k n (j + 1) false (by omega) (by omega)]
        rfl
    · rw [dge (by omega), List.drop_eq_nil_iff.2 (by omega)]; simp
theorem spec_pick {R : Type} {l : List (Int × List Int)} (hp : PlanOk l) {out : List Int} (hl : out.length ≤ 1000) (k : List (Int × List Int) → Int → List Int → Option R) : ∀ (c n j : Nat), c + 3000 < n → j + c = l.length →
    spec_l4Order_l5 n l (-1) l (l.length : Int) (j : Int) out k = k l (match pickF l out c j with
      | none => -1
      | some k => (k : Int)) out
  | c, 0, _, h, _ => by omega
  | 0, n + 1, j, hn, hj => by
    rw [spec_l4Order_l5, dge (by omega)]; rfl
  | c + 1, n + 1, j, hn, hj => by
    have h : j < l.length := by omega
    have hlen := hp.len
    have hn1 : needs l (j : Int) = l[j].2 := by unfold needs; rw [getD_at _ _ h]
    have hlen2 : l[j].2.length ≤ 30 := by rw [← hn1]; exact hp.nlen (by omega) (by omega)
    rw [spec_l4Order_l5, dlt h, dnn, getD_at _ _ h, pickF, rdy, hn1]
    simp only [cond_true]
    rw [spec_l1Has_eq (n := n) (out := out) (j : Int) (by omega) (by omega)]
    have := spec_ready l (-1) (j : Int) (l.length : Int) (j : Int) out hl l[j].2 (by omega) (fun r3 r4 r5 r6 r7 r8 r9 r10 => (bif r6 then k r3 r5 r10 else spec_l4Order_l5 n r3 r4 r7 r8 (IntKind.wrap .i64 (r9 + 1)) r10 k)) n 0 (!decide ((j : Int) ∈ out)) (by omega) (by omega)
    rw [show ((0 : Nat) : Int) = 0 from rfl, List.drop_zero] at this
    rw [this, wrapS h (by omega)]
    cases (!decide ((j : Int) ∈ out) && l[j].2.all fun n => decide (n ∈ out)) with
    | true => rfl
    | false => exact spec_pick hp hl k c n (j + 1) (by omega) (by omega)
theorem full_none {l : List (Int × List Int)} {out : List Int} (ho : OutOk l out) (hl : out.length = l.length) : pickF l out l.length 0 = none := by
  cases e : pickF l out l.length 0 with
  | none => rfl
  | some k => have := (ho.step e).len; simp at this; omega
theorem spec_order_loop {R : Type} {l : List (Int × List Int)} (hp : PlanOk l) (kr : List Int → Bool → Option R) (ke : List Int → Option R) : ∀ (f n : Nat) (out : List Int), f + 4000 < n → OutOk l out → l.length < f + out.length →
    spec_l4Order_l2 n l out kr ke = bif decide ((ordO l f out).length = l.length) then ke (ordO l f out) else kr [] false
  | 0, n, out, _, ho, hlt => by have := ho.len; omega
  | f + 1, 0, _, h, _, _ => by omega
  | f + 1, n + 1, out, hn, ho, hlt => by
    have hlen := hp.len
    have hol := ho.len
    rw [spec_l4Order_l2]
    by_cases c : out.length < l.length
    · rw [dlt c]
      have hpk := spec_pick hp (out := out) (by omega) (fun r11 r12 r13 => (bif (decide (r12 < 0)) then kr ([] : List Int) false else (bif decide (r13.length + [r12].length ≤ LIM) then spec_l4Order_l2 n r11 (r13 ++ [r12]) kr ke else none))) l.length n 0 (by omega) (by omega)
      rw [show ((0 : Nat) : Int) = 0 from rfl] at hpk
      rw [cond_true, hpk, ordO]
      cases e : pickF l out l.length 0 with
      | none => simp only; rw [decide_eq_false (show ¬ out.length = l.length by omega)]; rfl
      | some q =>
        simp only
        rw [decide_eq_false (show ¬ (q : Int) < 0 by omega), decide_eq_true (show out.length + [(q : Int)].length ≤ LIM by simp [LIM]; omega)]
        simp only [cond_true, cond_false]
        exact spec_order_loop hp kr ke f n _ (by omega) (ho.step e) (by simp; omega)
    · rw [dge (by omega), ordO, full_none ho (by omega)]
      simp only [cond_false]
      rw [decide_eq_true (show out.length = l.length by omega)]; rfl
theorem spec_order_eq {R : Type} {n : Nat} {l : List (Int × List Int)} (hp : PlanOk l) (hn : 5000 ≤ n) (k : List Int → Bool → Option R) : spec_l4Order n l k = bif decide ((ord l).length = l.length) then k (ord l) true else k [] false := by
  have hlen := hp.len
  unfold spec_l4Order
  exact spec_order_loop hp (fun r14 r15 => k r14 r15) (fun r16 => k r16 true) (l.length + 1) n [] (by omega) (.nil l) (by simp)
def tasksOk (l : List (Int × List Int)) : Nat → Nat → Bool
  | 0, _ => true
  | c + 1, j => decide (1 ≤ (l.getD j (0, [])).1 ∧ (l.getD j (0, [])).1 ≤ 100) && (riseTo l.length (-1) (needs l j) && (!decide ((j : Int) ∈ needs l j) && tasksOk l c (j + 1)))
theorem tasksOk_iff {l : List (Int × List Int)} : ∀ {c j : Nat}, tasksOk l c j = true ↔ ∀ x, j ≤ x → x < j + c → (1 ≤ (l.getD x (0, [])).1 ∧ (l.getD x (0, [])).1 ≤ 100) ∧ riseTo l.length (-1) (needs l x) = true ∧ (x : Int) ∉ needs l x
  | 0, j => ⟨fun _ x h1 h2 => by omega, fun _ => rfl⟩
  | c + 1, j => by
    simp only [tasksOk, Bool.and_eq_true, decide_eq_true_eq, Bool.not_eq_true', decide_eq_false_iff_not, tasksOk_iff (c := c)]
    constructor
    · rintro ⟨h1, h2, h3, h4⟩ x hx hx2
      by_cases e : x = j
      · subst e; exact ⟨h1, h2, h3⟩
      · exact h4 x (by omega) (by omega)
    · intro h
      obtain ⟨a, b, d⟩ := h j (Nat.le_refl _) (by omega)
      exact ⟨a, b, d, fun x hx hx2 => h x (by omega) (by omega)⟩
def goodP (l : List (Int × List Int)) : Bool := decide (l.length ≤ 30) && (tasksOk l l.length 0 && decide ((ord l).length = l.length))
theorem planOk_of {l : List (Int × List Int)} (h : l.length ≤ 30) (ht : tasksOk l l.length 0 = true) : PlanOk l := by
  have h1 := fun (x : Int) (h0 : 0 ≤ x) (h1 : x < l.length) => tasksOk_iff.1 ht x.toNat (by omega) (by omega)
  refine ⟨h, fun x a b => (h1 x a b).1, fun x a b => ?_, fun x a b => ?_⟩
  · have := (h1 x a b).2.1
    rw [Int.toNat_of_nonneg a] at this
    exact this
  · have := (h1 x a b).2.2
    rw [Int.toNat_of_nonneg a] at this
    exact this
theorem goodP_ok {l : List (Int × List Int)} (h : goodP l = true) : PlanOk l ∧ (ord l).length = l.length := by
  simp only [goodP, Bool.and_eq_true, decide_eq_true_eq] at h
  exact ⟨planOk_of h.1 h.2.1, h.2.2⟩
theorem impl_tasks {R : Type} {l : List (Int × List Int)} (hl : l.length ≤ 30) (hb : ∀ x ∈ l, x.2.length ≤ 1000) (kr : Bool → Option R) (ke : List (Int × List Int) → Option R) : ∀ (c n j : Nat), c + 3000 < n → j + c = l.length → impl_GoodPlan_l4 n l l (l.length : Int) (j : Int) kr ke = bif tasksOk l c j then ke l else kr false
  | c, 0, _, h, _ => by omega
  | 0, n + 1, j, hn, hj => by rw [impl_GoodPlan_l4, dge (by omega)]; rfl
  | c + 1, n + 1, j, hn, hj => by
    have h : j < l.length := by omega
    have hb1 := hb _ (List.getElem_mem h)
    have hn1 : needs l (j : Int) = l[j].2 := by unfold needs; rw [getD_at _ _ h]
    have hg : l.getD j (0, []) = l[j] := by rw [List.getD_eq_getElem?_getD, List.getElem?_eq_getElem h]; rfl
    rw [impl_GoodPlan_l4, dlt h, dnn, getD_at _ _ h, wrapS h (by omega), tasksOk, hn1, hg]
    simp only [cond_true, impl_in_eq, impl_rising_eq (n := n) (l := l[j].2) (B := (l.length : Int)) (by omega) (by omega) (by omega) (by omega), slices_Contains_eq (n := n) (out := l[j].2) (j : Int) (by omega) (by omega)]
    cases decide (1 ≤ l[j].1 ∧ l[j].1 ≤ 100) with
    | false => rfl
    | true =>
      cases riseTo l.length (-1) l[j].2 with
      | false => rfl
      | true =>
        cases decide ((j : Int) ∈ l[j].2) with
        | true => rfl
        | false =>
          simp only [Bool.not_true, Bool.not_false, cond_false, Bool.true_and]
          exact impl_tasks hl hb kr ke c n (j + 1) (by omega) (by omega)
theorem spec_tasks {R : Type} {l : List (Int × List Int)} (hl : l.length ≤ 30) (hb : ∀ x ∈ l, x.2.length ≤ 1000) (kr : Bool → Option R) (ke : List (Int × List Int) → Option R) : ∀ (c n j : Nat), c + 3000 < n → j + c = l.length → spec_GoodPlan_l4 n l l (l.length : Int) (j : Int) kr ke = bif tasksOk l c j then ke l else kr false
  | c, 0, _, h, _ => by omega
  | 0, n + 1, j, hn, hj => by rw [spec_GoodPlan_l4, dge (by omega)]; rfl
  | c + 1, n + 1, j, hn, hj => by
    have h : j < l.length := by omega
    have hb1 := hb _ (List.getElem_mem h)
    have hn1 : needs l (j : Int) = l[j].2 := by unfold needs; rw [getD_at _ _ h]
    have hg : l.getD j (0, []) = l[j] := by rw [List.getD_eq_getElem?_getD, List.getElem?_eq_getElem h]; rfl
    rw [spec_GoodPlan_l4, dlt h, dnn, getD_at _ _ h, wrapS h (by omega), tasksOk, hn1, hg]
    simp only [cond_true, spec_l1In_eq, spec_l3List_eq (n := n) (l := l[j].2) (B := (l.length : Int)) (by omega) (by omega) (by omega) (by omega), spec_l1Has_eq (n := n) (out := l[j].2) (j : Int) (by omega) (by omega)]
    cases decide (1 ≤ l[j].1 ∧ l[j].1 ≤ 100) with
    | false => rfl
    | true =>
      cases riseTo l.length (-1) l[j].2 with
      | false => rfl
      | true =>
        cases decide ((j : Int) ∈ l[j].2) with
        | true => rfl
        | false =>
          simp only [Bool.not_true, Bool.not_false, cond_false, Bool.true_and]
          exact spec_tasks hl hb kr ke c n (j + 1) (by omega) (by omega)
theorem impl_GoodPlan_eq {R : Type} {n : Nat} {l : List (Int × List Int)} (hl : l.length ≤ 1000) (hb : ∀ x ∈ l, x.2.length ≤ 1000) (hn : 5000 ≤ n) (k : Bool → Option R) : impl_GoodPlan n l k = k (goodP l) := by
  unfold impl_GoodPlan goodP
  by_cases h : l.length ≤ 30
  · rw [decide_eq_false (show ¬ (l.length : Int) > 30 by omega), decide_eq_true h, cond_false, Bool.true_and]
    have := impl_tasks h hb (fun r4 => k r4) (fun r5 => (impl_order n r5 fun r6 => k ((r6.length : Int) == (r5.length : Int)))) l.length n 0 (by omega) (by omega)
    rw [show ((0 : Nat) : Int) = 0 from rfl] at this
    rw [this]
    cases ht : tasksOk l l.length 0 with
    | false => rfl
    | true =>
      rw [cond_true, impl_order_eq (planOk_of h ht) (by omega), Bool.true_and]
      congr 1
      rw [Bool.eq_iff_iff]
      simp only [beq_iff_eq, decide_eq_true_eq]
      omega
  · rw [decide_eq_true (show (l.length : Int) > 30 by omega), decide_eq_false h]; rfl
theorem spec_GoodPlan_eq {R : Type} {n : Nat} {l : List (Int × List Int)} (hl : l.length ≤ 1000) (hb : ∀ x ∈ l, x.2.length ≤ 1000) (hn : 6000 ≤ n) (k : Bool → Option R) : spec_GoodPlan n l k = k (goodP l) := by
  unfold spec_GoodPlan goodP
  by_cases h : l.length ≤ 30
  · rw [decide_eq_false (show ¬ (l.length : Int) > 30 by omega), decide_eq_true h, cond_false, Bool.true_and]
    have := spec_tasks h hb (fun r4 => k r4) (fun r5 => (spec_l4Order n r5 fun r6 r7 => k r7)) l.length n 0 (by omega) (by omega)
    rw [show ((0 : Nat) : Int) = 0 from rfl] at this
    rw [this]
    cases ht : tasksOk l l.length 0 with
    | false => rfl
    | true =>
      rw [cond_true, spec_order_eq (planOk_of h ht) (by omega), Bool.true_and]
      cases decide ((ord l).length = l.length) <;> rfl
  · rw [decide_eq_true (show (l.length : Int) > 30 by omega), decide_eq_false h]; rfl
theorem full_mem {N : Nat} {o : List Int} (hn : o.Nodup) (hi : ∀ x ∈ o, 0 ≤ x ∧ x < (N : Int)) (hl : o.length = N) {x : Int} (h0 : 0 ≤ x) (h1 : x < N) : x ∈ o := by
  by_cases h : x ∈ o
  · exact h
  · have := nodup_len N (x :: o) (List.nodup_cons.2 ⟨h, hn⟩) (fun y hy => by
      rcases List.mem_cons.1 hy with rfl | hy
      · exact ⟨h0, h1⟩
      · exact hi y hy)
    simp at this
    omega
def Pos (o : List Int) (at' : Int → Int) : Prop := ∀ (i : Nat) (x : Int), o[i]? = some x → at' x = (i : Int)
theorem idx_nodup : ∀ (o : List Int) (i : Nat) (x : Int), o.Nodup → o[i]? = some x → o.idxOf x = i
  | [], i, x, _, h => by simp at h
  | a :: o, 0, x, _, h => by
    simp at h; subst h; simp [List.idxOf_cons]
  | a :: o, i + 1, x, hn, h => by
    have hn' := List.nodup_cons.1 hn
    have h' : o[i]? = some x := by simpa using h
    have hx : x ∈ o := List.mem_of_getElem? h'
    have hne : ¬ a = x := fun e => hn'.1 (e ▸ hx)
    have ih := idx_nodup o i x hn'.2 h'
    rw [List.idxOf_cons, show (a == x) = false by simpa using hne, ih]
    rfl
theorem pos_ex {o : List Int} (hn : o.Nodup) : Pos o fun x => (o.idxOf x : Int) := fun i x h => by
  show ((o.idxOf x : Nat) : Int) = i
  rw [idx_nodup o i x hn h]
structure Full (l : List (Int × List Int)) : Prop where
  ok : PlanOk l
  len : (ord l).length = l.length
theorem Full.mem {l : List (Int × List Int)} (h : Full l) {x : Int} (h0 : 0 ≤ x) (h1 : x < l.length) : ∃ i : Nat, (ord l)[i]? = some x := by
  obtain ⟨i, hi, e⟩ := List.mem_iff_getElem.1 (full_mem (ord_ok l).nd (ord_ok l).inn h.len h0 h1)
  exact ⟨i, by rw [List.getElem?_eq_getElem hi, e]⟩
theorem Full.before {l : List (Int × List Int)} (h : Full l) {at' : Int → Int} (hp : Pos (ord l) at') {x n : Int} (h0 : 0 ≤ x) (h1 : x < l.length) (hn : n ∈ needs l x) : at' n < at' x := by
  obtain ⟨i, hi⟩ := h.mem h0 h1
  have hm := (ord_ok l).pre i x hi n hn
  obtain ⟨j, hj, e⟩ := List.mem_iff_getElem.1 hm
  have hj' : j < i := by rw [List.length_take] at hj; omega
  have e2 : (ord l)[j]? = some n := by
    rw [← e, List.getElem_take, List.getElem?_eq_getElem]
  rw [hp i x hi, hp j n e2]
  omega
def V (a : List Int) (x : Int) : Int := a.getD x.toNat 0
def dur (l : List (Int × List Int)) (x : Int) : Int := (l.getD x.toNat (0, [])).1
theorem V_set {a : List Int} {N : Nat} (ha : a.length = N) {y : Int} (y0 : 0 ≤ y) (y1 : y < N) (v : Int) {x : Int} (x0 : 0 ≤ x) : V (a.set y.toNat v) x = if x = y then v else V a x := by
  unfold V
  rw [List.getD_eq_getElem?_getD, List.getD_eq_getElem?_getD, List.getElem?_set]
  by_cases c : x = y
  · subst c
    rw [if_pos rfl, if_pos (by omega), if_pos rfl]; rfl
  · rw [if_neg (by omega), if_neg c]
def mx (f : Int → Int) : List Int → Int → Int
  | [], c => c
  | m :: r, c => mx f r (if f m > c then f m else c)
theorem mx_ge (f : Int → Int) : ∀ (l : List Int) (c : Int), c ≤ mx f l c ∧ ∀ m ∈ l, f m ≤ mx f l c
  | [], c => ⟨Int.le_refl c, fun m h => by simp at h⟩
  | a :: r, c => by
    obtain ⟨h1, h2⟩ := mx_ge f r (if f a > c then f a else c)
    have h3 : c ≤ (if f a > c then f a else c) ∧ f a ≤ (if f a > c then f a else c) := by split <;> omega
    refine ⟨Int.le_trans h3.1 h1, fun m hm => ?_⟩
    rcases List.mem_cons.1 hm with rfl | hm
    · exact Int.le_trans h3.2 h1
    · exact h2 m hm
theorem mx_in (f : Int → Int) : ∀ (l : List Int) (c : Int), mx f l c = c ∨ ∃ m ∈ l, mx f l c = f m
  | [], c => .inl rfl
  | a :: r, c => by
    rcases mx_in f r (if f a > c then f a else c) with h | ⟨m, h1, h2⟩
    · unfold mx
      rw [h]
      split
      · exact .inr ⟨a, List.mem_cons_self .., rfl⟩
      · exact .inl rfl
    · exact .inr ⟨m, List.mem_cons_of_mem _ h1, h2⟩
theorem impl_early_in {l : List (Int × List Int)} {x : Int} (x0 : 0 ≤ x) (x1 : x < l.length) (ns : List Int) (hl : ns.length ≤ 1000) (f : Int → Int) (hns : ∀ m ∈ ns, 0 ≤ m ∧ m < l.length ∧ m ≠ x) (hf : ∀ m ∈ ns, -100000 ≤ f m ∧ f m ≤ 100000) (b c d : Int) (w : List Int) : ∀ (n q : Nat) (a : List Int), ns.length - q < n → q ≤ ns.length → a.length = l.length → (∀ m ∈ ns, V a m + dur l m = f m) →
    ∃ a', a'.length = l.length ∧ V a' x = mx f (ns.drop q) (V a x) ∧ (∀ y, 0 ≤ y → y ≠ x → V a' y = V a y) ∧
      ∀ (R : Type) (k : List (Int × List Int) → Int → Int → Int → Int → List Int → List Int → Option R), impl_earliest_l6 n l b x c d ns (ns.length : Int) (q : Int) a w k = k l b x c d a' w
  | 0, _, _, h, _, _, _ => by omega
  | n + 1, q, a, hn, hq, ha, hv => by
    by_cases h : q < ns.length
    · have hm := List.getElem_mem h
      obtain ⟨h0, h1, h2⟩ := hns _ hm
      have hb := hf _ hm
      have hfm := hv _ hm
      have hs := fun (v y : Int) (y0 : 0 ≤ y) => V_set ha x0 x1 v y0
      obtain ⟨a', e1, e2, e3, e4⟩ := impl_early_in x0 x1 ns hl f hns hf b c d w n (q + 1) (a.set x.toNat (if f ns[q] > V a x then f ns[q] else V a x)) (by omega) (by omega) (by simpa using ha) (fun m hm => by
        obtain ⟨m0, m1, m2⟩ := hns m hm
        rw [hs _ m m0, if_neg m2]; exact hv m hm)
      refine ⟨a', e1, ?_, fun y y0 hy => ?_, fun R k => ?_⟩
      · rw [e2, hs _ x x0, if_pos rfl, List.drop_eq_getElem_cons h]; rfl
      · rw [e3 y y0 hy, hs _ y y0, if_neg hy]
      · have hw : IntKind.wrap .i64 (a.getD ns[q].toNat 0 + (l.getD ns[q].toNat (0, [])).1) = f ns[q] := by
          rw [← hfm]; exact wrap64 (by have := hfm; unfold V dur at this; omega) (by have := hfm; unfold V dur at this; omega)
        rw [impl_earliest_l6, dlt h, dnn, getD_at _ _ h, decide_eq_true x0, ha, decide_eq_true x1, decide_eq_true h0, decide_eq_true h1, wrapS h (by omega), hw]
        exact e4 R k
    · refine ⟨a, ha, by rw [List.drop_eq_nil_iff.2 (by omega)]; rfl, fun _ _ _ => rfl, fun R k => ?_⟩
      rw [impl_earliest_l6, dge (by omega)]; rfl
theorem spec_early_in {l : List (Int × List Int)} {x : Int} (x0 : 0 ≤ x) (x1 : x < l.length) (ns : List Int) (hl : ns.length ≤ 1000) (f : Int → Int) (hns : ∀ m ∈ ns, 0 ≤ m ∧ m < l.length ∧ m ≠ x) (hf : ∀ m ∈ ns, -100000 ≤ f m ∧ f m ≤ 100000) (b c d : Int) (w : List Int) : ∀ (n q : Nat) (a : List Int), ns.length - q < n → q ≤ ns.length → a.length = l.length → (∀ m ∈ ns, V a m + dur l m = f m) →
    ∃ a', a'.length = l.length ∧ V a' x = mx f (ns.drop q) (V a x) ∧ (∀ y, 0 ≤ y → y ≠ x → V a' y = V a y) ∧
      ∀ (R : Type) (k : List (Int × List Int) → Int → Int → List Int → Int → Int → List Int → Option R), spec_l4Earliest_l8 n l b x w c d ns (ns.length : Int) (q : Int) a k = k l b x w c d a'
  | 0, _, _, h, _, _, _ => by omega
  | n + 1, q, a, hn, hq, ha, hv => by
    by_cases h : q < ns.length
    · have hm := List.getElem_mem h
      obtain ⟨h0, h1, h2⟩ := hns _ hm
      have hb := hf _ hm
      have hfm := hv _ hm
      have hs := fun (v y : Int) (y0 : 0 ≤ y) => V_set ha x0 x1 v y0
      have hw : IntKind.wrap .i64 (a.getD ns[q].toNat 0 + (l.getD ns[q].toNat (0, [])).1) = f ns[q] := by
        rw [← hfm]; exact wrap64 (by have := hfm; unfold V dur at this; omega) (by have := hfm; unfold V dur at this; omega)
      by_cases g : f ns[q] > V a x
      · obtain ⟨a', e1, e2, e3, e4⟩ := spec_early_in x0 x1 ns hl f hns hf b c d w n (q + 1) (a.set x.toNat (f ns[q])) (by omega) (by omega) (by simpa using ha) (fun m hm => by
          obtain ⟨m0, m1, m2⟩ := hns m hm
          rw [hs _ m m0, if_neg m2]; exact hv m hm)
        refine ⟨a', e1, ?_, fun y y0 hy => ?_, fun R k => ?_⟩
        · rw [e2, hs _ x x0, if_pos rfl, List.drop_eq_getElem_cons h, mx, if_pos g]
        · rw [e3 y y0 hy, hs _ y y0, if_neg hy]
        · rw [spec_l4Earliest_l8, dlt h, dnn, getD_at _ _ h, decide_eq_true h0, ha, decide_eq_true h1, decide_eq_true x0, decide_eq_true x1, wrapS h (by omega), hw, show a.getD x.toNat 0 = V a x from rfl, decide_eq_true g]
          exact e4 R k
      · obtain ⟨a', e1, e2, e3, e4⟩ := spec_early_in x0 x1 ns hl f hns hf b c d w n (q + 1) a (by omega) (by omega) ha hv
        refine ⟨a', e1, ?_, e3, fun R k => ?_⟩
        · rw [e2, List.drop_eq_getElem_cons h, mx, if_neg g]
        · rw [spec_l4Earliest_l8, dlt h, dnn, getD_at _ _ h, decide_eq_true h0, ha, decide_eq_true h1, decide_eq_true x0, decide_eq_true x1, wrapS h (by omega), hw, show a.getD x.toNat 0 = V a x from rfl, decide_eq_false g]
          exact e4 R k
    · refine ⟨a, ha, by rw [List.drop_eq_nil_iff.2 (by omega)]; rfl, fun _ _ _ => rfl, fun R k => ?_⟩
      rw [spec_l4Earliest_l8, dge (by omega)]; rfl
/-- Up to a place in the order. -/
structure EarlyAt (l : List (Int × List Int)) (a : List Int) (all : Int) (j : Nat) : Prop where
  len : a.length = l.length
  ge : ∀ (i : Nat) (x : Int), i < j → (ord l)[i]? = some x → ∀ m ∈ needs l x, V a m + dur l m ≤ V a x
  inn : ∀ (i : Nat) (x : Int), i < j → (ord l)[i]? = some x → V a x = 0 ∨ ∃ m ∈ needs l x, V a x = V a m + dur l m
  nn : ∀ (i : Nat) (x : Int), (ord l)[i]? = some x → 0 ≤ V a x ∧ V a x ≤ 100 * (i : Int)
  rest : ∀ (i : Nat) (x : Int), j ≤ i → (ord l)[i]? = some x → V a x = 0
  all1 : ∀ (i : Nat) (x : Int), i < j → (ord l)[i]? = some x → V a x + dur l x ≤ all
  all2 : all = 0 ∨ ∃ (i : Nat) (x : Int), i < j ∧ (ord l)[i]? = some x ∧ V a x + dur l x = all
  all0 : 0 ≤ all
theorem Full.dur {l : List (Int × List Int)} (h : Full l) {x : Int} (h0 : 0 ≤ x) (h1 : x < l.length) : 1 ≤ dur l x ∧ dur l x ≤ 100 := h.ok.long x h0 h1
theorem Full.need {l : List (Int × List Int)} (h : Full l) {i : Nat} {x m : Int} (hi : (ord l)[i]? = some x) (hm : m ∈ needs l x) : 0 ≤ m ∧ m < l.length ∧ m ≠ x ∧ ∃ q : Nat, q < i ∧ (ord l)[q]? = some m := by
  obtain ⟨x0, x1⟩ := (ord_ok l).inn x (List.mem_of_getElem? hi)
  have h1 := h.ok.inn x0 x1 hm
  have hm2 := (ord_ok l).pre i x hi m hm
  obtain ⟨q, hq, e⟩ := List.mem_iff_getElem.1 hm2
  have hq' : q < i := by rw [List.length_take] at hq; omega
  exact ⟨h1.1, h1.2, fun e => h.ok.self x x0 x1 (e ▸ hm), q, hq', by rw [← e, List.getElem_take, List.getElem?_eq_getElem]⟩
theorem ord_inj {l : List (Int × List Int)} {i q : Nat} {x : Int} (hi : (ord l)[i]? = some x) (hq : (ord l)[q]? = some x) : i = q := by
  have p1 := pos_ex (ord_ok l).nd i x hi
  have p2 := pos_ex (ord_ok l).nd q x hq
  rw [p1] at p2
  omega
theorem EarlyAt.step {l : List (Int × List Int)} (hF : Full l) {a a' : List Int} {all : Int} {j : Nat} {x : Int} (h : EarlyAt l a all j) (hx : (ord l)[j]? = some x) (hl : a'.length = l.length) (hv : V a' x = mx (fun m => V a m + dur l m) (needs l x) (V a x)) (ho : ∀ y, 0 ≤ y → y ≠ x → V a' y = V a y) :
    EarlyAt l a' (if V a' x + dur l x > all then V a' x + dur l x else all) (j + 1) := by
  obtain ⟨x0, x1⟩ := (ord_ok l).inn x (List.mem_of_getElem? hx)
  have hd := hF.dur x0 x1
  have hax : V a x = 0 := h.rest j x (Nat.le_refl _) hx
  have other : ∀ {i : Nat} {y : Int}, i ≠ j → (ord l)[i]? = some y → V a' y = V a y := fun {i y} hi hy => by
    obtain ⟨y0, y1⟩ := (ord_ok l).inn y (List.mem_of_getElem? hy)
    exact ho y y0 fun e => hi (ord_inj hy (e ▸ hx))
  have needV : ∀ {i : Nat} {y m : Int}, i ≤ j → (ord l)[i]? = some y → m ∈ needs l y → V a' m = V a m := fun {i y m} hi hy hm => by
    obtain ⟨m0, m1, _, q, hq, hqm⟩ := hF.need hy hm
    exact other (by omega) hqm
  have hge := mx_ge (fun m => V a m + dur l m) (needs l x) (V a x)
  have hin := mx_in (fun m => V a m + dur l m) (needs l x) (V a x)
  rw [← hv] at hge hin
  have hb : 0 ≤ V a' x ∧ V a' x ≤ 100 * (j : Int) := by
    rcases hin with e | ⟨m, hm, e⟩
    · rw [e, hax]; omega
    · obtain ⟨m0, m1, _, q, hq, hqm⟩ := hF.need hx hm
      have h1 := h.nn q m hqm
      have h2 := hF.dur m0 m1
      rw [e]
      show 0 ≤ V a m + dur l m ∧ V a m + dur l m ≤ 100 * (j : Int)
      omega
  refine ⟨hl, fun i y hi hy m hm => ?_, fun i y hi hy => ?_, fun i y hy => ?_, fun i y hi hy => ?_, fun i y hi hy => ?_, ?_, ?_⟩
  · by_cases c : i = j
    · subst c
      rw [hx] at hy; cases hy
      rw [needV (Nat.le_refl _) hx hm]
      exact hge.2 m hm
    · rw [needV (by omega) hy hm, other c hy]
      exact h.ge i y (by omega) hy m hm
  · by_cases c : i = j
    · subst c
      rw [hx] at hy; cases hy
      rcases hin with e | ⟨m, hm, e⟩
      · exact .inl (e.trans hax)
      · exact .inr ⟨m, hm, by rw [needV (Nat.le_refl _) hx hm]; exact e⟩
    · rcases h.inn i y (by omega) hy with e | ⟨m, hm, e⟩
      · exact .inl ((other c hy).trans e)
      · exact .inr ⟨m, hm, by rw [other c hy, needV (by omega) hy hm]; exact e⟩
  · by_cases c : i = j
    · subst c
      rw [hx] at hy; cases hy
      exact hb
    · rw [other c hy]; exact h.nn i y hy
  · rw [other (by omega) hy]; exact h.rest i y (by omega) hy
  · by_cases c : i = j
    · subst c
      rw [hx] at hy; cases hy
      split <;> omega
    · have := h.all1 i y (by omega) hy
      rw [other c hy]
      split <;> omega
  · split
    · exact .inr ⟨j, x, by omega, hx, rfl⟩
    · rcases h.all2 with e | ⟨i, y, hi, hy, e⟩
      · exact .inl e
      · exact .inr ⟨i, y, by omega, hy, by rw [other (by omega) hy]; exact e⟩
  · have := h.all0
    split <;> omega
theorem impl_early_loop {l : List (Int × List Int)} (hF : Full l) : ∀ (c n j : Nat) (a : List Int) (all : Int), c + 2000 < n → j + c = (ord l).length → EarlyAt l a all j →
    ∃ a' all', EarlyAt l a' all' (ord l).length ∧ ∀ (R : Type) (k : Int → List Int → Option R), impl_earliest_l3 n l all ((ord l).length : Int) (j : Int) a (ord l) k = k all' a'
  | _, 0, _, _, _, h, _, _ => by omega
  | 0, n + 1, j, a, all, hn, hj, h => ⟨a, all, by rw [show (ord l).length = j by omega]; exact h, fun R k => by rw [impl_earliest_l3, dge (by omega)]; rfl⟩
  | c + 1, n + 1, j, a, all, hn, hj, h => by
    have hlt : j < (ord l).length := by omega
    have hx : (ord l)[j]? = some (ord l)[j] := List.getElem?_eq_getElem hlt
    obtain ⟨x0, x1⟩ := (ord_ok l).inn _ (List.getElem_mem hlt)
    have h30 := hF.ok.len
    have hlen := hF.len
    have hnl := hF.ok.nlen x0 x1
    have hd := hF.dur x0 x1
    obtain ⟨a', e1, e2, e3, e4⟩ := impl_early_in x0 x1 (needs l (ord l)[j]) (by omega) (fun m => V a m + dur l m) (fun m hm => by
      obtain ⟨m0, m1, m2, _⟩ := hF.need hx hm
      exact ⟨m0, m1, m2⟩) (fun m hm => by
      obtain ⟨m0, m1, _, q, hq, hqm⟩ := hF.need hx hm
      have h1 := h.nn q m hqm
      have h2 := hF.dur m0 m1
      show -100000 ≤ V a m + dur l m ∧ V a m + dur l m ≤ 100000
      omega) all ((ord l).length : Int) (j : Int) (ord l) n 0 a (by omega) (by omega) h.len (fun m hm => rfl)
    rw [List.drop_zero] at e2
    rw [show ((0 : Nat) : Int) = 0 from rfl] at e4
    have hs := h.step hF hx e1 e2 e3
    obtain ⟨a2, all2, f1, f2⟩ := impl_early_loop hF c n (j + 1) a' _ (by omega) (by omega) hs
    have hb := hs.nn j _ hx
    refine ⟨a2, all2, f1, fun R k => ?_⟩
    rw [impl_earliest_l3, dlt hlt, dnn, getD_at _ _ hlt, decide_eq_true x0, decide_eq_true x1]
    simp only [cond_true]
    rw [show (l.getD (Int.toNat (ord l)[j]) (0, [])).2 = needs l (ord l)[j] from rfl, e4, decide_eq_true x0, e1, decide_eq_true x1]
    simp only [cond_true]
    rw [show a'.getD (Int.toNat (ord l)[j]) 0 = V a' (ord l)[j] from rfl, show (l.getD (Int.toNat (ord l)[j]) (0, [])).1 = dur l (ord l)[j] from rfl, wrap64 (x := V a' (ord l)[j] + dur l (ord l)[j]) (by omega) (by omega), wrapS hlt (by omega)]
    exact f2 R k
theorem spec_early_loop {l : List (Int × List Int)} (hF : Full l) : ∀ (c n j : Nat) (a : List Int) (all : Int), c + 2000 < n → j + c = (ord l).length → EarlyAt l a all j →
    ∃ a' all', EarlyAt l a' all' (ord l).length ∧ ∀ (R : Type) (k : Int → List Int → Option R), spec_l4Earliest_l5 n l all (ord l) ((ord l).length : Int) (j : Int) a k = k all' a'
  | _, 0, _, _, _, h, _, _ => by omega
  | 0, n + 1, j, a, all, hn, hj, h => ⟨a, all, by rw [show (ord l).length = j by omega]; exact h, fun R k => by rw [spec_l4Earliest_l5, dge (by omega)]; rfl⟩
  | c + 1, n + 1, j, a, all, hn, hj, h => by
    have hlt : j < (ord l).length := by omega
    have hx : (ord l)[j]? = some (ord l)[j] := List.getElem?_eq_getElem hlt
    obtain ⟨x0, x1⟩ := (ord_ok l).inn _ (List.getElem_mem hlt)
    have h30 := hF.ok.len
    have hlen := hF.len
    have hnl := hF.ok.nlen x0 x1
    have hd := hF.dur x0 x1
    obtain ⟨a', e1, e2, e3, e4⟩ := spec_early_in x0 x1 (needs l (ord l)[j]) (by omega) (fun m => V a m + dur l m) (fun m hm => by
      obtain ⟨m0, m1, m2, _⟩ := hF.need hx hm
      exact ⟨m0, m1, m2⟩) (fun m hm => by
      obtain ⟨m0, m1, _, q, hq, hqm⟩ := hF.need hx hm
      have h1 := h.nn q m hqm
      have h2 := hF.dur m0 m1
      show -100000 ≤ V a m + dur l m ∧ V a m + dur l m ≤ 100000
      omega) all ((ord l).length : Int) (j : Int) (ord l) n 0 a (by omega) (by omega) h.len (fun m hm => rfl)
    rw [List.drop_zero] at e2
    rw [show ((0 : Nat) : Int) = 0 from rfl] at e4
    have hs := h.step hF hx e1 e2 e3
    obtain ⟨a2, all2, f1, f2⟩ := spec_early_loop hF c n (j + 1) a' _ (by omega) (by omega) hs
    have hb := hs.nn j _ hx
    refine ⟨a2, all2, f1, fun R k => ?_⟩
    rw [spec_l4Earliest_l5, dlt hlt, dnn, getD_at _ _ hlt, decide_eq_true x0, decide_eq_true x1]
    simp only [cond_true]
    rw [show (l.getD (Int.toNat (ord l)[j]) (0, [])).2 = needs l (ord l)[j] from rfl, e4, decide_eq_true x0, e1, decide_eq_true x1]
    simp only [cond_true]
    rw [show a'.getD (Int.toNat (ord l)[j]) 0 = V a' (ord l)[j] from rfl, show (l.getD (Int.toNat (ord l)[j]) (0, [])).1 = dur l (ord l)[j] from rfl, wrap64 (x := V a' (ord l)[j] + dur l (ord l)[j]) (by omega) (by omega), wrapS hlt (by omega)]
    by_cases g : V a' (ord l)[j] + dur l (ord l)[j] > all
    · rw [decide_eq_true g, cond_true]
      rw [if_pos g] at f2
      exact f2 R k
    · rw [decide_eq_false g, cond_false]
      rw [if_neg g] at f2
      exact f2 R k
structure Early (l : List (Int × List Int)) (E : List Int) (all : Int) : Prop where
  len : E.length = l.length
  ge : ∀ x : Int, 0 ≤ x → x < l.length → ∀ m ∈ needs l x, V E m + dur l m ≤ V E x
  inn : ∀ x : Int, 0 ≤ x → x < l.length → V E x = 0 ∨ ∃ m ∈ needs l x, V E x = V E m + dur l m
  nn : ∀ x : Int, 0 ≤ x → x < l.length → 0 ≤ V E x ∧ V E x ≤ 3000
  all1 : ∀ x : Int, 0 ≤ x → x < l.length → V E x + dur l x ≤ all
  all2 : all = 0 ∨ ∃ x : Int, 0 ≤ x ∧ x < l.length ∧ V E x + dur l x = all
  all0 : 0 ≤ all ∧ all ≤ 3100
theorem EarlyAt.early {l : List (Int × List Int)} (hF : Full l) {a : List Int} {all : Int} (h : EarlyAt l a all (ord l).length) : Early l a all := by
  have h30 := hF.ok.len
  have hlen := hF.len
  have pos := fun (x : Int) (x0 : 0 ≤ x) (x1 : x < l.length) => hF.mem x0 x1
  have bd : ∀ x : Int, 0 ≤ x → x < l.length → 0 ≤ V a x ∧ V a x ≤ 3000 := fun x x0 x1 => by
    obtain ⟨i, hi⟩ := pos x x0 x1
    have := h.nn i x hi
    have := (List.getElem?_eq_some_iff.1 hi).1
    omega
  refine ⟨h.len, fun x x0 x1 m hm => ?_, fun x x0 x1 => ?_, bd, fun x x0 x1 => ?_, ?_, ?_⟩
  · obtain ⟨i, hi⟩ := pos x x0 x1
    exact h.ge i x (List.getElem?_eq_some_iff.1 hi).1 hi m hm
  · obtain ⟨i, hi⟩ := pos x x0 x1
    exact h.inn i x (List.getElem?_eq_some_iff.1 hi).1 hi
  · obtain ⟨i, hi⟩ := pos x x0 x1
    exact h.all1 i x (List.getElem?_eq_some_iff.1 hi).1 hi
  · rcases h.all2 with e | ⟨i, x, _, hx, e⟩
    · exact .inl e
    · obtain ⟨x0, x1⟩ := (ord_ok l).inn x (List.mem_of_getElem? hx)
      exact .inr ⟨x, x0, x1, e⟩
  · refine ⟨h.all0, ?_⟩
    rcases h.all2 with e | ⟨i, x, _, hx, e⟩
    · omega
    · obtain ⟨x0, x1⟩ := (ord_ok l).inn x (List.mem_of_getElem? hx)
      have := bd x x0 x1
      have := hF.dur x0 x1
      omega
theorem list_ext_V {N : Nat} {a b : List Int} (ha : a.length = N) (hb : b.length = N) (h : ∀ x : Int, 0 ≤ x → x < N → V a x = V b x) : a = b := by
  apply List.ext_getElem
  · omega
  · intro i h1 h2
    have := h (i : Int) (by omega) (by omega)
    unfold V at this
    rw [Int.toNat_natCast, List.getD_eq_getElem?_getD, List.getD_eq_getElem?_getD, List.getElem?_eq_getElem h1, List.getElem?_eq_getElem h2] at this
    exact this
theorem Early.uniq {l : List (Int × List Int)} (hF : Full l) {E E' : List Int} {all all' : Int} (h : Early l E all) (h' : Early l E' all') : E = E' ∧ all = all' := by
  have key : ∀ (i : Nat) (x : Int), (ord l)[i]? = some x → V E x = V E' x := by
    intro i
    induction i using Nat.strongRecOn with
    | ind i ih =>
      intro x hx
      obtain ⟨x0, x1⟩ := (ord_ok l).inn x (List.mem_of_getElem? hx)
      have hn : ∀ m ∈ needs l x, V E m = V E' m := fun m hm => by
        obtain ⟨_, _, _, q, hq, hqm⟩ := hF.need hx hm
        exact ih q hq m hqm
      have a1 := h.nn x x0 x1
      have a2 := h'.nn x x0 x1
      have le1 : V E x ≤ V E' x := by
        rcases h.inn x x0 x1 with e | ⟨m, hm, e⟩
        · omega
        · rw [e, hn m hm]; exact h'.ge x x0 x1 m hm
      have le2 : V E' x ≤ V E x := by
        rcases h'.inn x x0 x1 with e | ⟨m, hm, e⟩
        · omega
        · rw [e, ← hn m hm]; exact h.ge x x0 x1 m hm
      omega
  have keyx : ∀ x : Int, 0 ≤ x → x < l.length → V E x = V E' x := fun x x0 x1 => by
    obtain ⟨i, hi⟩ := hF.mem x0 x1
    exact key i x hi
  refine ⟨list_ext_V h.len h'.len keyx, ?_⟩
  have le1 : all ≤ all' := by
    rcases h.all2 with e | ⟨x, x0, x1, e⟩
    · have := h'.all0; omega
    · have := h'.all1 x x0 x1; rw [← keyx x x0 x1] at this; omega
  have le2 : all' ≤ all := by
    rcases h'.all2 with e | ⟨x, x0, x1, e⟩
    · have := h.all0; omega
    · have := h.all1 x x0 x1; rw [keyx x x0 x1] at this; omega
  omega
theorem V_zero (N : Nat) (x : Int) : V (List.replicate N 0) x = 0 := by
  unfold V
  rw [List.getD_eq_getElem?_getD, List.getElem?_replicate]
  split <;> rfl
theorem early0 (l : List (Int × List Int)) : EarlyAt l (List.replicate l.length 0) 0 0 :=
  ⟨by simp, fun i x h => by omega, fun i x h => by omega, fun i x _ => by rw [V_zero]; omega, fun i x _ _ => V_zero _ _, fun i x h => by omega, .inl rfl, Int.le_refl 0⟩
theorem earliest_ex {n : Nat} {l : List (Int × List Int)} (hF : Full l) (hn : 10000 ≤ n) : ∃ E all, Early l E all ∧ (∀ (R : Type) (k : Int → List Int → Option R), impl_earliest n l k = k all E) ∧ ∀ (R : Type) (k : Int → List Int → Option R), spec_l4Earliest n l k = k all E := by
  have h30 := hF.ok.len
  have hlen := hF.len
  obtain ⟨E, all, a1, a2⟩ := impl_early_loop hF (ord l).length n 0 _ 0 (by omega) (by omega) (early0 l)
  obtain ⟨E', all', b1, b2⟩ := spec_early_loop hF (ord l).length n 0 _ 0 (by omega) (by omega) (early0 l)
  obtain ⟨rfl, rfl⟩ := (a1.early hF).uniq hF (b1.early hF)
  rw [show ((0 : Nat) : Int) = 0 from rfl] at a2 b2
  refine ⟨E, all, a1.early hF, fun R k => ?_, fun R k => ?_⟩
  · unfold impl_earliest
    rw [decide_eq_true (show (0 : Int) ≤ (l.length : Int) by omega), decide_eq_true (show (l.length : Int) ≤ (l.length : Int) by omega), decide_eq_true (show (l.length : Int) ≤ 1099511627776 by omega)]
    simp only [cond_true]
    rw [impl_order_eq hF.ok (by omega), Int.toNat_natCast, a2]
  · unfold spec_l4Earliest
    rw [spec_order_eq hF.ok (by omega), decide_eq_true hlen, cond_true, decide_eq_true (show (0 : Int) ≤ (l.length : Int) by omega), decide_eq_true (show (l.length : Int) ≤ (l.length : Int) by omega), decide_eq_true (show (l.length : Int) ≤ 1099511627776 by omega)]
    simp only [cond_true]
    rw [Int.toNat_natCast, b2]
def place (l : List (Int × List Int)) (x : Int) : Nat := (ord l).idxOf x
theorem place_eq {l : List (Int × List Int)} {i : Nat} {x : Int} (h : (ord l)[i]? = some x) : place l x = i := idx_nodup _ _ _ (ord_ok l).nd h
theorem Full.at_place {l : List (Int × List Int)} (hF : Full l) {x : Int} (x0 : 0 ≤ x) (x1 : x < l.length) : (ord l)[place l x]? = some x := by
  obtain ⟨i, hi⟩ := hF.mem x0 x1
  rw [place_eq hi]; exact hi
def durAt (l : List (Int × List Int)) (j : Nat) (x : Int) : Int := if j ≤ place l x then dur l x else 0
structure TailAt (l : List (Int × List Int)) (t : Int → Int) (j : Nat) : Prop where
  a : ∀ x : Int, 0 ≤ x → x < l.length → durAt l j x ≤ t x
  b : ∀ x m : Int, 0 ≤ x → x < l.length → 0 ≤ m → m < l.length → j ≤ place l m → x ∈ needs l m → durAt l j x + t m ≤ t x
  c : ∀ x : Int, 0 ≤ x → x < l.length → t x = durAt l j x ∨ ∃ m : Int, 0 ≤ m ∧ m < l.length ∧ j ≤ place l m ∧ x ∈ needs l m ∧ t x = durAt l j x + t m
  d : ∀ x : Int, 0 ≤ x → x < l.length → t x ≤ 100 * ((ord l).length - j : Nat)
theorem TailAt.step {l : List (Int × List Int)} (hF : Full l) {t t' : Int → Int} {j : Nat} {x : Int} (h : TailAt l t (j + 1)) (hx : (ord l)[j]? = some x) (h1 : t' x = t x + dur l x) (h2 : ∀ y ∈ needs l x, t' y = if t' x > t y then t' x else t y) (h3 : ∀ y : Int, 0 ≤ y → y < l.length → y ≠ x → y ∉ needs l x → t' y = t y) : TailAt l t' j := by
  obtain ⟨x0, x1⟩ := (ord_ok l).inn x (List.mem_of_getElem? hx)
  have hlt := (List.getElem?_eq_some_iff.1 hx).1
  have hpx := place_eq hx
  have hd := hF.dur x0 x1
  have D0 : durAt l (j + 1) x = 0 := by unfold durAt; rw [if_neg (by omega)]
  have D1 : durAt l j x = dur l x := by unfold durAt; rw [if_pos (by omega)]
  have Dn : ∀ y : Int, 0 ≤ y → y < l.length → y ≠ x → durAt l j y = durAt l (j + 1) y := fun y y0 y1 hy => by
    have hp : place l y ≠ j := fun e => by
      have := hF.at_place y0 y1
      rw [e, hx] at this
      cases this; exact hy rfl
    unfold durAt
    by_cases c : j + 1 ≤ place l y
    · rw [if_pos c, if_pos (by omega)]
    · rw [if_neg c, if_neg (by omega)]
  have nd : ∀ y ∈ needs l x, 0 ≤ y ∧ y < l.length ∧ y ≠ x ∧ place l y < j := fun y hy => by
    obtain ⟨y0, y1, hy, q, hq, hqy⟩ := hF.need hx hy
    exact ⟨y0, y1, hy, by rw [place_eq hqy]; exact hq⟩
  -- those that come later stay
  have late : ∀ m : Int, 0 ≤ m → m < l.length → j + 1 ≤ place l m → t' m = t m := fun m m0 m1 hm => by
    refine h3 m m0 m1 (fun e => ?_) fun hn => ?_
    · rw [e, hpx] at hm; omega
    · have := (nd m hn).2.2.2; omega
  have xx : x ∉ needs l x := hF.ok.self x x0 x1
  have plm : ∀ m : Int, 0 ≤ m → m < l.length → j ≤ place l m → m = x ∨ j + 1 ≤ place l m := fun m m0 m1 hm => by
    by_cases c : place l m = j
    · have := hF.at_place m0 m1
      rw [c, hx] at this
      cases this; exact .inl rfl
    · exact .inr (by omega)
  refine ⟨fun y y0 y1 => ?_, fun y m y0 y1 m0 m1 hm hy => ?_, fun y y0 y1 => ?_, fun y y0 y1 => ?_⟩
  · by_cases c : y = x
    · subst c
      have := h.a y y0 y1
      rw [D0] at this
      rw [D1, h1]; omega
    · rw [Dn y y0 y1 c]
      have := h.a y y0 y1
      by_cases cn : y ∈ needs l x
      · rw [h2 y cn]; split <;> omega
      · rw [h3 y y0 y1 c cn]; exact this
  · rcases plm m m0 m1 hm with e | hm'
    · subst e
      have hyx : y ≠ m := fun e => xx (e ▸ hy)
      have hp := (nd y hy).2.2.2
      have : durAt l j y = 0 := by unfold durAt; rw [if_neg (by omega)]
      rw [this, h2 y hy]; split <;> omega
    · rw [late m m0 m1 hm']
      by_cases c : y = x
      · subst c
        have := h.b y m y0 y1 m0 m1 hm' hy
        rw [D0] at this
        rw [D1, h1]; omega
      · rw [Dn y y0 y1 c]
        have := h.b y m y0 y1 m0 m1 hm' hy
        by_cases cn : y ∈ needs l x
        · rw [h2 y cn]; split <;> omega
        · rw [h3 y y0 y1 c cn]; exact this
  · by_cases c : y = x
    · subst c
      rcases h.c y y0 y1 with e | ⟨m, m0, m1, hm, hy, e⟩
      · exact .inl (by rw [h1, e, D0, D1]; omega)
      · exact .inr ⟨m, m0, m1, by omega, hy, by rw [h1, e, D0, D1, late m m0 m1 hm]; omega⟩
    · rw [Dn y y0 y1 c]
      by_cases cn : y ∈ needs l x
      · by_cases g : t' x > t y
        · refine .inr ⟨x, x0, x1, by omega, cn, ?_⟩
          have hp := (nd y cn).2.2.2
          have : durAt l (j + 1) y = 0 := by unfold durAt; rw [if_neg (by omega)]
          rw [h2 y cn, if_pos g, this]; omega
        · have ey : t' y = t y := by rw [h2 y cn, if_neg g]
          rcases h.c y y0 y1 with e | ⟨m, m0, m1, hm, hy, e⟩
          · exact .inl (by rw [ey, e])
          · exact .inr ⟨m, m0, m1, by omega, hy, by rw [ey, e, late m m0 m1 hm]⟩
      · have ey := h3 y y0 y1 c cn
        rcases h.c y y0 y1 with e | ⟨m, m0, m1, hm, hy, e⟩
        · exact .inl (by rw [ey, e])
        · exact .inr ⟨m, m0, m1, by omega, hy, by rw [ey, e, late m m0 m1 hm]⟩
  · have dx := h.d x x0 x1
    by_cases c : y = x
    · subst c; rw [h1]; omega
    · have := h.d y y0 y1
      by_cases cn : y ∈ needs l x
      · rw [h2 y cn]; split <;> omega
      · rw [h3 y y0 y1 c cn]; omega
theorem place_lt {l : List (Int × List Int)} (hF : Full l) {x : Int} (x0 : 0 ≤ x) (x1 : x < l.length) : place l x < (ord l).length := (List.getElem?_eq_some_iff.1 (hF.at_place x0 x1)).1
theorem tail0 {l : List (Int × List Int)} (hF : Full l) {t : Int → Int} (h : ∀ x : Int, 0 ≤ x → x < l.length → t x = 0) : TailAt l t (ord l).length := by
  have D : ∀ x : Int, 0 ≤ x → x < l.length → durAt l (ord l).length x = 0 := fun x x0 x1 => by
    have := place_lt hF x0 x1
    unfold durAt; rw [if_neg (by omega)]
  exact ⟨fun x x0 x1 => by rw [D x x0 x1, h x x0 x1]; omega, fun x m _ _ m0 m1 hm => by have := place_lt hF m0 m1; omega, fun x x0 x1 => .inl (by rw [D x x0 x1, h x x0 x1]), fun x x0 x1 => by rw [h x x0 x1]; omega⟩
structure Tail (l : List (Int × List Int)) (t : Int → Int) : Prop where
  a : ∀ x : Int, 0 ≤ x → x < l.length → dur l x ≤ t x
  b : ∀ x m : Int, 0 ≤ x → x < l.length → 0 ≤ m → m < l.length → x ∈ needs l m → dur l x + t m ≤ t x
  c : ∀ x : Int, 0 ≤ x → x < l.length → t x = dur l x ∨ ∃ m : Int, 0 ≤ m ∧ m < l.length ∧ x ∈ needs l m ∧ t x = dur l x + t m
  d : ∀ x : Int, 0 ≤ x → x < l.length → t x ≤ 3000
theorem TailAt.tail {l : List (Int × List Int)} (hF : Full l) {t : Int → Int} (h : TailAt l t 0) : Tail l t := by
  have h30 := hF.ok.len
  have hlen := hF.len
  have D : ∀ x : Int, durAt l 0 x = dur l x := fun x => by unfold durAt; rw [if_pos (Nat.zero_le _)]
  exact ⟨fun x x0 x1 => by have := h.a x x0 x1; rw [D] at this; exact this, fun x m x0 x1 m0 m1 hx => by have := h.b x m x0 x1 m0 m1 (Nat.zero_le _) hx; rw [D] at this; exact this,
    fun x x0 x1 => by
      rcases h.c x x0 x1 with e | ⟨m, m0, m1, _, hm, e⟩
      · rw [D] at e; exact .inl e
      · rw [D] at e; exact .inr ⟨m, m0, m1, hm, e⟩,
    fun x x0 x1 => by have := h.d x x0 x1; omega⟩
theorem Tail.uniq {l : List (Int × List Int)} (hF : Full l) {t t' : Int → Int} (h : Tail l t) (h' : Tail l t') : ∀ x : Int, 0 ≤ x → x < l.length → t x = t' x := by
  have key : ∀ (c i : Nat) (x : Int), (ord l).length - i = c → (ord l)[i]? = some x → t x = t' x := by
    intro c
    induction c using Nat.strongRecOn with
    | ind c ih =>
      intro i x hc hx
      obtain ⟨x0, x1⟩ := (ord_ok l).inn x (List.mem_of_getElem? hx)
      have up : ∀ m : Int, 0 ≤ m → m < l.length → x ∈ needs l m → t m = t' m := fun m m0 m1 hm => by
        have hpm := hF.at_place m0 m1
        obtain ⟨_, _, _, q, hq, hqx⟩ := hF.need hpm hm
        have := ord_inj hqx hx
        have hl := (List.getElem?_eq_some_iff.1 hpm).1
        exact ih ((ord l).length - place l m) (by omega) (place l m) m rfl hpm
      have a1 := h.a x x0 x1
      have a2 := h'.a x x0 x1
      have le1 : t x ≤ t' x := by
        rcases h.c x x0 x1 with e | ⟨m, m0, m1, hm, e⟩
        · omega
        · rw [e, up m m0 m1 hm]; exact h'.b x m x0 x1 m0 m1 hm
      have le2 : t' x ≤ t x := by
        rcases h'.c x x0 x1 with e | ⟨m, m0, m1, hm, e⟩
        · omega
        · rw [e, ← up m m0 m1 hm]; exact h.b x m x0 x1 m0 m1 hm
      omega
  intro x x0 x1
  exact key _ _ x rfl (hF.at_place x0 x1)
theorem impl_tails_in {l : List (Int × List Int)} {x : Int} (x0 : 0 ≤ x) (x1 : x < l.length) (ns : List Int) (hl : ns.length ≤ 1000) (hnd : ns.Nodup) (hns : ∀ m ∈ ns, 0 ≤ m ∧ m < l.length ∧ m ≠ x) (p : List (Int × List Int)) (w : List Int) : ∀ (n q : Nat) (a : List Int), ns.length - q < n → q ≤ ns.length → a.length = l.length →
    ∃ a', a'.length = l.length ∧ (∀ y : Int, 0 ≤ y → y ∈ ns.drop q → V a' y = if V a x > V a y then V a x else V a y) ∧ (∀ y : Int, 0 ≤ y → y ∉ ns.drop q → V a' y = V a y) ∧
      ∀ (R : Type) (k : List (Int × List Int) → List Int → List Int → Option R), impl_tails_l6 n x ns (ns.length : Int) (q : Int) p a w k = k p a' w
  | 0, _, _, h, _, _ => by omega
  | n + 1, q, a, hn, hq, ha => by
    by_cases h : q < ns.length
    · have hm := List.getElem_mem h
      obtain ⟨h0, h1, h2⟩ := hns _ hm
      have hs := fun (v y : Int) (y0 : 0 ≤ y) => V_set ha h0 h1 v y0
      have hdr : ns.drop q = ns[q] :: ns.drop (q + 1) := List.drop_eq_getElem_cons h
      have hnq : ns[q] ∉ ns.drop (q + 1) := by
        have := hnd.sublist (List.drop_sublist q ns)
        rw [hdr, List.nodup_cons] at this
        exact this.1
      obtain ⟨a', e1, e2, e3, e4⟩ := impl_tails_in x0 x1 ns hl hnd hns p w n (q + 1) (a.set ns[q].toNat (if V a x > V a ns[q] then V a x else V a ns[q])) (by omega) (by omega) (by simpa using ha)
      have hx' : V (a.set ns[q].toNat (if V a x > V a ns[q] then V a x else V a ns[q])) x = V a x := by rw [hs _ x x0, if_neg (Ne.symm h2)]
      refine ⟨a', e1, fun y y0 hy => ?_, fun y y0 hy => ?_, fun R k => ?_⟩
      · rw [hdr] at hy
        by_cases c : y = ns[q]
        · rw [e3 y y0 (c ▸ hnq), hs _ y y0, if_pos c, c]
        · have hy' := (List.mem_cons.1 hy).resolve_left c
          rw [e2 y y0 hy', hx', hs _ y y0, if_neg c]
      · rw [hdr, List.mem_cons, not_or] at hy
        rw [e3 y y0 hy.2, hs _ y y0, if_neg hy.1]
      · rw [impl_tails_l6, dlt h, dnn, getD_at _ _ h, decide_eq_true h0, ha, decide_eq_true h1, decide_eq_true x0, decide_eq_true x1, wrapS h (by omega)]
        exact e4 R k
    · have : ns.drop q = [] := List.drop_eq_nil_iff.2 (by omega)
      refine ⟨a, ha, fun y _ hy => by rw [this] at hy; simp at hy, fun _ _ _ => rfl, fun R k => ?_⟩
      rw [impl_tails_l6, dge (by omega)]; rfl
theorem needs_nodup {l : List (Int × List Int)} (h : PlanOk l) {x : Int} (x0 : 0 ≤ x) (x1 : x < l.length) : (needs l x).Nodup := ((riseTo_iff.1 (h.rise x x0 x1)).1).imp fun h => by omega
theorem impl_tails_loop {l : List (Int × List Int)} (hF : Full l) : ∀ (j n : Nat) (a : List Int), j + 2000 < n → j ≤ (ord l).length → a.length = l.length → TailAt l (V a) j →
    ∃ a', a'.length = l.length ∧ TailAt l (V a') 0 ∧ ∀ (R : Type) (k : List Int → Option R), impl_tails_l4 n (ord l) l a ((j : Int) - 1) k = k a'
  | _, 0, _, h, _, _, _ => by omega
  | 0, n + 1, a, _, _, ha, h => ⟨a, ha, h, fun R k => by rw [impl_tails_l4, decide_eq_false (show ¬ ((0 : Nat) : Int) - 1 ≥ 0 by omega)]; rfl⟩
  | j + 1, n + 1, a, hn, hj, ha, h => by
    have hlt : j < (ord l).length := by omega
    have hx : (ord l)[j]? = some (ord l)[j] := List.getElem?_eq_getElem hlt
    obtain ⟨x0, x1⟩ := (ord_ok l).inn _ (List.getElem_mem hlt)
    have h30 := hF.ok.len
    have hlen := hF.len
    have hnl := hF.ok.nlen x0 x1
    have hd := hF.dur x0 x1
    have hb := h.d _ x0 x1
    have ha0 := h.a _ x0 x1
    have hpx := place_eq hx
    have D0 : durAt l (j + 1) (ord l)[j] = 0 := by unfold durAt; rw [if_neg (by omega)]
    rw [D0] at ha0
    have hs := fun (v y : Int) (y0 : 0 ≤ y) => V_set ha x0 x1 v y0
    obtain ⟨a', e1, e2, e3, e4⟩ := impl_tails_in x0 x1 (needs l (ord l)[j]) (by omega) (needs_nodup hF.ok x0 x1) (fun m hm => by
      obtain ⟨m0, m1, m2, _⟩ := hF.need hx hm
      exact ⟨m0, m1, m2⟩) l (ord l) n 0 (a.set (ord l)[j].toNat (V a (ord l)[j] + dur l (ord l)[j])) (by omega) (by omega) (by simpa using ha)
    rw [List.drop_zero] at e2 e3
    rw [show ((0 : Nat) : Int) = 0 from rfl] at e4
    have hxn := hF.ok.self _ x0 x1
    have ex : V a' (ord l)[j] = V a (ord l)[j] + dur l (ord l)[j] := by rw [e3 _ x0 hxn, hs _ _ x0, if_pos rfl]
    have hst : TailAt l (V a') j := h.step hF hx ex (fun y hy => by
      obtain ⟨y0, y1, y2, _⟩ := hF.need hx hy
      rw [e2 y y0 hy, hs _ _ x0, if_pos rfl, hs _ y y0, if_neg y2, ex]) (fun y y0 y1 hy hyn => by rw [e3 y y0 hyn, hs _ y y0, if_neg hy])
    obtain ⟨a2, f1, f2, f3⟩ := impl_tails_loop hF j n a' (by omega) (by omega) e1 hst
    refine ⟨a2, f1, f2, fun R k => ?_⟩
    rw [impl_tails_l4, show ((j + 1 : Nat) : Int) - 1 = (j : Int) by omega, decide_eq_true (show (j : Int) ≥ 0 by omega), dlt hlt, getD_at _ _ hlt, decide_eq_true x0, ha, decide_eq_true x1]
    simp only [cond_true]
    rw [show (l.getD (Int.toNat (ord l)[j]) (0, [])).2 = needs l (ord l)[j] from rfl, show a.getD (Int.toNat (ord l)[j]) 0 = V a (ord l)[j] from rfl, show (l.getD (Int.toNat (ord l)[j]) (0, [])).1 = dur l (ord l)[j] from rfl, wrap64 (x := V a (ord l)[j] + dur l (ord l)[j]) (by omega) (by omega), e4, wrap64 (x := (j : Int) - 1) (by omega) (by omega)]
    exact f3 R k
theorem tails_ex {n : Nat} {l : List (Int × List Int)} (hF : Full l) (hn : 10000 ≤ n) : ∃ T, T.length = l.length ∧ Tail l (V T) ∧ ∀ (R : Type) (k : List Int → Option R), impl_tails n l k = k T := by
  have h30 := hF.ok.len
  have hlen := hF.len
  obtain ⟨T, a1, a2, a3⟩ := impl_tails_loop hF (ord l).length n (List.replicate l.length 0) (by omega) (Nat.le_refl _) (by simp) (tail0 hF fun x _ _ => V_zero _ _)
  refine ⟨T, a1, a2.tail hF, fun R k => ?_⟩
  unfold impl_tails
  rw [decide_eq_true (show (0 : Int) ≤ (l.length : Int) by omega), decide_eq_true (show (l.length : Int) ≤ (l.length : Int) by omega), decide_eq_true (show (l.length : Int) ≤ 1099511627776 by omega)]
  simp only [cond_true]
  rw [impl_order_eq hF.ok (by omega)]
  simp only [slices_Backward_int]
  rw [Int.toNat_natCast, wrap64 (x := ((ord l).length : Int) - 1) (by omega) (by omega), a3]
theorem spec_late_in {l : List (Int × List Int)} {x : Int} (x0 : 0 ≤ x) (x1 : x < l.length) (ns : List Int) (hl : ns.length ≤ 1000) (hnd : ns.Nodup) (hns : ∀ m ∈ ns, 0 ≤ m ∧ m < l.length ∧ m ≠ x ∧ 1 ≤ dur l m ∧ dur l m ≤ 100) (w : List Int) (c : Int) : ∀ (n q : Nat) (a : List Int), ns.length - q < n → q ≤ ns.length → a.length = l.length → -100000 ≤ V a x → V a x ≤ 100000 →
    ∃ a', a'.length = l.length ∧ (∀ y : Int, 0 ≤ y → y ∈ ns.drop q → V a' y = if V a x - dur l y < V a y then V a x - dur l y else V a y) ∧ (∀ y : Int, 0 ≤ y → y ∉ ns.drop q → V a' y = V a y) ∧
      ∀ (R : Type) (k : List (Int × List Int) → List Int → Int → List Int → Option R), spec_l4Latest_l14 n l w c x ns (ns.length : Int) (q : Int) a k = k l w c a'
  | 0, _, _, h, _, _, _, _ => by omega
  | n + 1, q, a, hn, hq, ha, b0, b1 => by
    by_cases h : q < ns.length
    · have hm := List.getElem_mem h
      obtain ⟨h0, h1, h2, h3, h4⟩ := hns _ hm
      have hs := fun (v y : Int) (y0 : 0 ≤ y) => V_set ha h0 h1 v y0
      have hdr : ns.drop q = ns[q] :: ns.drop (q + 1) := List.drop_eq_getElem_cons h
      have hnq : ns[q] ∉ ns.drop (q + 1) := by
        have := hnd.sublist (List.drop_sublist q ns)
        rw [hdr, List.nodup_cons] at this
        exact this.1
      have hw : IntKind.wrap .i64 (a.getD x.toNat 0 - (l.getD ns[q].toNat (0, [])).1) = V a x - dur l ns[q] := wrap64 (by unfold V dur at *; omega) (by unfold V dur at *; omega)
      by_cases g : V a x - dur l ns[q] < V a ns[q]
      · have hx' : V (a.set ns[q].toNat (V a x - dur l ns[q])) x = V a x := by rw [hs _ x x0, if_neg (Ne.symm h2)]
        obtain ⟨a', e1, e2, e3, e4⟩ := spec_late_in x0 x1 ns hl hnd hns w c n (q + 1) (a.set ns[q].toNat (V a x - dur l ns[q])) (by omega) (by omega) (by simpa using ha) (by rw [hx']; exact b0) (by rw [hx']; exact b1)
        refine ⟨a', e1, fun y y0 hy => ?_, fun y y0 hy => ?_, fun R k => ?_⟩
        · rw [hdr] at hy
          by_cases c : y = ns[q]
          · rw [e3 y y0 (c ▸ hnq), hs _ y y0, if_pos c, c, if_pos g]
          · have hy' := (List.mem_cons.1 hy).resolve_left c
            rw [e2 y y0 hy', hx', hs _ y y0, if_neg c]
        · rw [hdr, List.mem_cons, not_or] at hy
          rw [e3 y y0 hy.2, hs _ y y0, if_neg hy.1]
        · rw [spec_l4Latest_l14, dlt h, dnn, getD_at _ _ h, decide_eq_true x0, ha, decide_eq_true x1, decide_eq_true h0, decide_eq_true h1, wrapS h (by omega), hw, show a.getD ns[q].toNat 0 = V a ns[q] from rfl, decide_eq_true g]
          exact e4 R k
      · obtain ⟨a', e1, e2, e3, e4⟩ := spec_late_in x0 x1 ns hl hnd hns w c n (q + 1) a (by omega) (by omega) ha b0 b1
        refine ⟨a', e1, fun y y0 hy => ?_, fun y y0 hy => ?_, fun R k => ?_⟩
        · rw [hdr] at hy
          by_cases c : y = ns[q]
          · rw [e3 y y0 (c ▸ hnq), c, if_neg g]
          · exact e2 y y0 ((List.mem_cons.1 hy).resolve_left c)
        · rw [hdr, List.mem_cons, not_or] at hy
          exact e3 y y0 hy.2
        · rw [spec_l4Latest_l14, dlt h, dnn, getD_at _ _ h, decide_eq_true x0, ha, decide_eq_true x1, decide_eq_true h0, decide_eq_true h1, wrapS h (by omega), hw, show a.getD ns[q].toNat 0 = V a ns[q] from rfl, decide_eq_false g]
          exact e4 R k
    · have : ns.drop q = [] := List.drop_eq_nil_iff.2 (by omega)
      refine ⟨a, ha, fun y _ hy => by rw [this] at hy; simp at hy, fun _ _ _ => rfl, fun R k => ?_⟩
      rw [spec_l4Latest_l14, dge (by omega)]; rfl
/-- The tails that the latest beginnings tell. -/
def tOf (l : List (Int × List Int)) (all : Int) (W : List Int) (j : Nat) (x : Int) : Int := durAt l j x + (all - dur l x - V W x)
theorem spec_late_loop {l : List (Int × List Int)} (hF : Full l) {all : Int} (hall : 0 ≤ all ∧ all ≤ 3100) : ∀ (j n : Nat) (a : List Int), j + 2000 < n → j ≤ (ord l).length → a.length = l.length → TailAt l (tOf l all a j) j →
    ∃ a', a'.length = l.length ∧ TailAt l (tOf l all a' 0) 0 ∧ ∀ (R : Type) (k : List Int → Option R), spec_l4Latest_l10 n l (ord l) ((j : Int) - 1) a k = k a'
  | _, 0, _, h, _, _, _ => by omega
  | 0, n + 1, a, _, _, ha, h => ⟨a, ha, h, fun R k => by rw [spec_l4Latest_l10, decide_eq_false (show ¬ ((0 : Nat) : Int) - 1 ≥ 0 by omega)]; rfl⟩
  | j + 1, n + 1, a, hn, hj, ha, h => by
    have hlt : j < (ord l).length := by omega
    have hx : (ord l)[j]? = some (ord l)[j] := List.getElem?_eq_getElem hlt
    obtain ⟨x0, x1⟩ := (ord_ok l).inn _ (List.getElem_mem hlt)
    have h30 := hF.ok.len
    have hlen := hF.len
    have hnl := hF.ok.nlen x0 x1
    have hd := hF.dur x0 x1
    have hb := h.d _ x0 x1
    have ha0 := h.a _ x0 x1
    have hpx := place_eq hx
    have D0 : durAt l (j + 1) (ord l)[j] = 0 := by unfold durAt; rw [if_neg (by omega)]
    have D1 : durAt l j (ord l)[j] = dur l (ord l)[j] := by unfold durAt; rw [if_pos (by omega)]
    have htx : tOf l all a (j + 1) (ord l)[j] = all - dur l (ord l)[j] - V a (ord l)[j] := by unfold tOf; rw [D0]; omega
    rw [D0] at ha0
    rw [htx] at ha0 hb
    obtain ⟨a', e1, e2, e3, e4⟩ := spec_late_in x0 x1 (needs l (ord l)[j]) (by omega) (needs_nodup hF.ok x0 x1) (fun m hm => by
      obtain ⟨m0, m1, m2, _⟩ := hF.need hx hm
      have := hF.dur m0 m1
      exact ⟨m0, m1, m2, this.1, this.2⟩) (ord l) (j : Int) n 0 a (by omega) (by omega) ha (by omega) (by omega)
    rw [List.drop_zero] at e2 e3
    rw [show ((0 : Nat) : Int) = 0 from rfl] at e4
    have hxn := hF.ok.self _ x0 x1
    have ex : V a' (ord l)[j] = V a (ord l)[j] := e3 _ x0 hxn
    have Dn : ∀ y : Int, 0 ≤ y → y < l.length → y ≠ (ord l)[j] → durAt l j y = durAt l (j + 1) y := fun y y0 y1 hy => by
      have hp : place l y ≠ j := fun e => by
        have := hF.at_place y0 y1
        rw [e, hx] at this
        cases this; exact hy rfl
      unfold durAt
      by_cases c : j + 1 ≤ place l y
      · rw [if_pos c, if_pos (by omega)]
      · rw [if_neg c, if_neg (by omega)]
    have tx' : tOf l all a' j (ord l)[j] = all - V a (ord l)[j] := by unfold tOf; rw [D1, ex]; omega
    have hst : TailAt l (tOf l all a' j) j := h.step hF hx (by rw [tx', htx]; omega) (fun y hy => by
      obtain ⟨y0, y1, y2, q, hq, hqy⟩ := hF.need hx hy
      have hp := place_eq hqy
      have Dy : durAt l (j + 1) y = 0 := by unfold durAt; rw [if_neg (by omega)]
      have Dy' : durAt l j y = 0 := by unfold durAt; rw [if_neg (by omega)]
      rw [tx']
      unfold tOf
      rw [Dy, Dy', e2 y y0 hy]
      split <;> split <;> omega) (fun y y0 y1 hy hyn => by unfold tOf; rw [e3 y y0 hyn, Dn y y0 y1 hy])
    obtain ⟨a2, f1, f2, f3⟩ := spec_late_loop hF hall j n a' (by omega) (by omega) e1 hst
    refine ⟨a2, f1, f2, fun R k => ?_⟩
    rw [spec_l4Latest_l10, show ((j + 1 : Nat) : Int) - 1 = (j : Int) by omega, decide_eq_true (show (j : Int) ≥ 0 by omega), dlt hlt, getD_at _ _ hlt, decide_eq_true x0, decide_eq_true x1]
    simp only [cond_true]
    rw [show (l.getD (Int.toNat (ord l)[j]) (0, [])).2 = needs l (ord l)[j] from rfl, e4, wrap64 (x := (j : Int) - 1) (by omega) (by omega)]
    exact f3 R k
theorem spec_late_init {l : List (Int × List Int)} (hF : Full l) {all : Int} (hall : 0 ≤ all ∧ all ≤ 3100) (w : List Int) : ∀ (c n j : Nat) (a : List Int), c < n → j + c = l.length → a.length = l.length → (∀ x : Int, 0 ≤ x → x < j → V a x = all - dur l x) →
    ∃ a', a'.length = l.length ∧ (∀ x : Int, 0 ≤ x → x < l.length → V a' x = all - dur l x) ∧ ∀ (R : Type) (k : List (Int × List Int) → List Int → List Int → Option R), spec_l4Latest_l5 n l w all (l.length : Int) (j : Int) a k = k l w a'
  | _, 0, _, _, h, _, _, _ => by omega
  | 0, n + 1, j, a, _, hj, ha, h => ⟨a, ha, fun x x0 x1 => h x x0 (by omega), fun R k => by rw [spec_l4Latest_l5, dge (by omega)]; rfl⟩
  | c + 1, n + 1, j, a, hn, hj, ha, h => by
    have h30 := hF.ok.len
    have hlt : j < l.length := by omega
    have hd := hF.dur (x := (j : Int)) (by omega) (by omega)
    have hs := fun (v y : Int) (y0 : 0 ≤ y) => V_set ha (y := (j : Int)) (by omega) (by omega) v y0
    obtain ⟨a', e1, e2, e3⟩ := spec_late_init hF hall w c n (j + 1) (a.set (j : Int).toNat (all - dur l (j : Int))) (by omega) (by omega) (by simpa using ha) (fun x x0 x1 => by
      rw [hs _ x x0]
      by_cases c : x = (j : Int)
      · rw [if_pos c, c]
      · rw [if_neg c]; exact h x x0 (by omega))
    refine ⟨a', e1, e2, fun R k => ?_⟩
    rw [spec_l4Latest_l5, dlt hlt, dnn, ha, dlt hlt, wrapS hlt (by omega), show (l.getD (Int.toNat (j : Int)) (0, [])).1 = dur l (j : Int) from rfl, wrap64 (x := all - dur l (j : Int)) (by omega) (by omega)]
    exact e3 R k
/-- Tails, latest beginnings: both sides'. -/
theorem late_ex {n : Nat} {l : List (Int × List Int)} (hF : Full l) (hn : 10000 ≤ n) {E : List Int} {all : Int} (hE : Early l E all) (hs : ∀ (R : Type) (k : Int → List Int → Option R), spec_l4Earliest n l k = k all E) {T : List Int} (hT : Tail l (V T)) (hTl : T.length = l.length) :
    ∃ W, W.length = l.length ∧ (∀ x : Int, 0 ≤ x → x < l.length → V W x = all - V T x) ∧ ∀ (R : Type) (k : List Int → Option R), spec_l4Latest n l k = k W := by
  have h30 := hF.ok.len
  have hlen := hF.len
  obtain ⟨a, a1, a2, a3⟩ := spec_late_init hF hE.all0 (ord l) l.length n 0 (List.replicate l.length 0) (by omega) (by omega) (by simp) (fun x x0 x1 => by omega)
  rw [show ((0 : Nat) : Int) = 0 from rfl] at a3
  have t0 : TailAt l (tOf l all a (ord l).length) (ord l).length := tail0 hF fun x x0 x1 => by
    have := place_lt hF x0 x1
    unfold tOf durAt
    rw [if_neg (by omega), a2 x x0 x1]; omega
  obtain ⟨W, b1, b2, b3⟩ := spec_late_loop hF hE.all0 (ord l).length n a (by omega) (Nat.le_refl _) a1 t0
  have hu := (b2.tail hF).uniq hF hT
  refine ⟨W, b1, fun x x0 x1 => ?_, fun R k => ?_⟩
  · have := hu x x0 x1
    unfold tOf durAt at this
    rw [if_pos (Nat.zero_le _)] at this
    omega
  · unfold spec_l4Latest
    rw [spec_order_eq hF.ok (by omega), decide_eq_true hlen, cond_true, hs, decide_eq_true (show (0 : Int) ≤ (l.length : Int) by omega), decide_eq_true (show (l.length : Int) ≤ (l.length : Int) by omega), decide_eq_true (show (l.length : Int) ≤ 1099511627776 by omega)]
    simp only [cond_true]
    rw [Int.toNat_natCast, List.length_replicate, a3, wrap64 (x := ((ord l).length : Int) - 1) (by omega) (by omega), b3]
def sumd (l : List (Int × List Int)) : List Int → Int
  | [] => 0
  | x :: r => dur l x + sumd l r
theorem sumd_append (l : List (Int × List Int)) : ∀ a b : List Int, sumd l (a ++ b) = sumd l a + sumd l b
  | [], b => by simp [sumd]
  | x :: r, b => by
    have := sumd_append l r b
    simp only [List.cons_append, sumd]; omega
def findF (f : Nat → Bool) : Nat → Nat → Option Nat
  | 0, _ => none
  | c + 1, j => bif f j then some j else findF f c (j + 1)
theorem findF_congr {f g : Nat → Bool} : ∀ {c j : Nat}, (∀ i, j ≤ i → i < j + c → f i = g i) → findF f c j = findF g c j
  | 0, _, _ => rfl
  | c + 1, j, h => by
    unfold findF
    rw [h j (Nat.le_refl _) (by omega), findF_congr (c := c) fun i a b => h i (by omega) (by omega)]
theorem findF_ex {f : Nat → Bool} : ∀ {c j : Nat}, (∃ i, j ≤ i ∧ i < j + c ∧ f i = true) → ∃ k, findF f c j = some k ∧ j ≤ k ∧ k < j + c ∧ f k = true
  | 0, j, ⟨i, h1, h2, _⟩ => by omega
  | c + 1, j, ⟨i, h1, h2, h3⟩ => by
    unfold findF
    cases hf : f j with
    | true => exact ⟨j, rfl, Nat.le_refl _, by omega, hf⟩
    | false =>
      have hij : i ≠ j := fun e => by rw [e, hf] at h3; cases h3
      obtain ⟨k, a1, a2, a3, a4⟩ := findF_ex (f := f) (c := c) (j := j + 1) ⟨i, by omega, by omega, h3⟩
      exact ⟨k, a1, by omega, by omega, a4⟩
def orD (o : Option Nat) (d : Int) : Int := match o with
  | none => d
  | some i => (i : Int)
def fitE (l : List (Int × List Int)) (T : List Int) (left : Int) (i : Nat) : Bool := (T.getD (Int.toNat (i : Int)) 0 == left) && (((l.getD (Int.toNat (i : Int)) (0, [])).2.length : Int) == 0)
def fitS (l : List (Int × List Int)) (T : List Int) (left p : Int) (i : Nat) : Bool := (T.getD (Int.toNat (i : Int)) 0 == left) && decide (p ∈ (l.getD (Int.toNat (i : Int)) (0, [])).2)
theorem impl_pickE {R : Type} {l : List (Int × List Int)} (h30 : l.length ≤ 30) {T : List Int} (hT : T.length = l.length) (left d : Int) (k : List (Int × List Int) → Int → Int → List Int → List Int → Option R) : ∀ (c n j : Nat), c < n → j + c = l.length → impl_CriticalOf_l8 n l left d l (l.length : Int) (j : Int) T [] k = k l left (orD (findF (fitE l T left) c j) d) T []
  | _, 0, _, h, _ => by omega
  | 0, n + 1, j, _, hj => by rw [impl_CriticalOf_l8, dge (by omega)]; rfl
  | c + 1, n + 1, j, hn, hj => by
    have h : j < l.length := by omega
    have ih := impl_pickE h30 hT left d k c n (j + 1) (by omega) (by omega)
    rw [impl_CriticalOf_l8, hT, dlt h, dnn, wrapS h (by omega), show (((([] : List Int).length : Int)) == 0) = true from rfl, show (decide ((([] : List Int).length : Int) > 0)) = false from rfl, ih, findF]
    unfold fitE
    simp only [cond_true, cond_false]
    cases (T.getD (Int.toNat (j : Int)) 0 == left) with
    | false => rfl
    | true => cases (((l.getD (Int.toNat (j : Int)) (0, [])).2.length : Int) == 0) <;> rfl
theorem impl_pickS {R : Type} {l : List (Int × List Int)} (hP : PlanOk l) {T : List Int} (hT : T.length = l.length) (left d : Int) (v : List Int) (p : Int) (hv : v.length ≤ 1000000) (k : List (Int × List Int) → Int → Int → List Int → List Int → Option R) : ∀ (c n j : Nat), c + 100 < n → j + c = l.length → impl_CriticalOf_l8 n l left d l (l.length : Int) (j : Int) T (v ++ [p]) k = k l left (orD (findF (fitS l T left p) c j) d) T (v ++ [p])
  | _, 0, _, h, _ => by omega
  | 0, n + 1, j, _, hj => by rw [impl_CriticalOf_l8, dge (by omega)]; rfl
  | c + 1, n + 1, j, hn, hj => by
    have h : j < l.length := by omega
    have h30 := hP.len
    have ih := impl_pickS hP hT left d v p hv k c n (j + 1) (by omega) (by omega)
    have hl : ((v ++ [p]).length : Int) = (v.length : Int) + 1 := by simp
    have hz : (((v.length : Int) + 1) == 0) = false := by simp; omega
    have hw : IntKind.wrap .i64 ((v.length : Int) + 1 - 1) = (v.length : Int) := by rw [wrap64 (by omega) (by omega)]; omega
    have hg : (v ++ [p]).getD (Int.toNat (v.length : Int)) 0 = p := by rw [Int.toNat_natCast, List.getD_eq_getElem?_getD]; simp
    have hnl : (needs l (j : Int)).length ≤ 30 := hP.nlen (by omega) (by omega)
    rw [impl_CriticalOf_l8, hT, dlt h, dnn, wrapS h (by omega), hl, hz, decide_eq_true (show (v.length : Int) + 1 > 0 by omega), hw, dnn, decide_eq_true (show (v.length : Int) < (v.length : Int) + 1 by omega), hg, ih, findF]
    unfold fitS
    simp only [cond_true, cond_false]
    rw [slices_Contains_eq p (by unfold needs at hnl; omega) (by unfold needs at hnl; omega)]
    cases (T.getD (Int.toNat (j : Int)) 0 == left) with
    | false => rfl
    | true => cases (decide (p ∈ (l.getD (Int.toNat (j : Int)) (0, [])).2)) <;> rfl
def fitE2 (l : List (Int × List Int)) (E L : List Int) (a : Int) (i : Nat) : Bool := (E.getD (Int.toNat (i : Int)) 0 == a) && ((L.getD (Int.toNat (i : Int)) 0 == a) && (((l.getD (Int.toNat (i : Int)) (0, [])).2.length : Int) == 0))
def fitS2 (l : List (Int × List Int)) (E L : List Int) (a p : Int) (i : Nat) : Bool := (E.getD (Int.toNat (i : Int)) 0 == a) && ((L.getD (Int.toNat (i : Int)) 0 == a) && decide (p ∈ (l.getD (Int.toNat (i : Int)) (0, [])).2))
theorem spec_pickE {R : Type} {l : List (Int × List Int)} (h30 : l.length ≤ 30) {E L : List Int} (hE : E.length = l.length) (hL : L.length = l.length) (all a d : Int) (w : List Int) (k : List (Int × List Int) → Int → Int → Int → List Int → List Int → List Int → Option R) : ∀ (c n j : Nat), c < n → j + c = l.length → spec_CriticalOf_l11 n l all a (-1) d l (l.length : Int) (j : Int) E L w k = k l all a (orD (findF (fitE2 l E L a) c j) d) E L w
  | _, 0, _, h, _ => by omega
  | 0, n + 1, j, _, hj => by rw [spec_CriticalOf_l11, dge (by omega)]; rfl
  | c + 1, n + 1, j, hn, hj => by
    have h : j < l.length := by omega
    have ih := spec_pickE h30 hE hL all a d w k c n (j + 1) (by omega) (by omega)
    rw [spec_CriticalOf_l11, hE, hL, dlt h, dnn, wrapS h (by omega), show (decide ((-1 : Int) < 0)) = true from rfl, show (decide ((-1 : Int) ≥ 0)) = false from rfl, ih, findF]
    unfold fitE2
    simp only [cond_true, cond_false]
    cases (E.getD (Int.toNat (j : Int)) 0 == a) with
    | false => rfl
    | true =>
      cases (L.getD (Int.toNat (j : Int)) 0 == a) with
      | false => rfl
      | true => cases (((l.getD (Int.toNat (j : Int)) (0, [])).2.length : Int) == 0) <;> rfl
theorem spec_pickS {R : Type} {l : List (Int × List Int)} (hP : PlanOk l) {E L : List Int} (hE : E.length = l.length) (hL : L.length = l.length) (all a d p : Int) (p0 : 0 ≤ p) (w : List Int) (k : List (Int × List Int) → Int → Int → Int → List Int → List Int → List Int → Option R) : ∀ (c n j : Nat), c + 100 < n → j + c = l.length → spec_CriticalOf_l11 n l all a p d l (l.length : Int) (j : Int) E L w k = k l all a (orD (findF (fitS2 l E L a p) c j) d) E L w
  | _, 0, _, h, _ => by omega
  | 0, n + 1, j, _, hj => by rw [spec_CriticalOf_l11, dge (by omega)]; rfl
  | c + 1, n + 1, j, hn, hj => by
    have h : j < l.length := by omega
    have h30 := hP.len
    have ih := spec_pickS hP hE hL all a d p p0 w k c n (j + 1) (by omega) (by omega)
    have hnl : (needs l (j : Int)).length ≤ 30 := hP.nlen (by omega) (by omega)
    rw [spec_CriticalOf_l11, hE, hL, dlt h, dnn, wrapS h (by omega), decide_eq_false (show ¬ p < 0 by omega), decide_eq_true (show p ≥ 0 by omega), ih, findF]
    unfold fitS2
    simp only [cond_true, cond_false]
    rw [spec_l1Has_eq p (by unfold needs at hnl; omega) (by unfold needs at hnl; omega)]
    cases (E.getD (Int.toNat (j : Int)) 0 == a) with
    | false => rfl
    | true =>
      cases (L.getD (Int.toNat (j : Int)) 0 == a) with
      | false => rfl
      | true => cases (decide (p ∈ (l.getD (Int.toNat (j : Int)) (0, [])).2)) <;> rfl
/-- What is early and what comes behind fit into the whole. -/
theorem both_le {l : List (Int × List Int)} {E T : List Int} {all : Int} (hF : Full l) (hE : Early l E all) (hT : Tail l (V T)) : ∀ (c : Nat) (x : Int), 0 ≤ x → x < l.length → V T x ≤ c → V E x + V T x ≤ all := by
  intro c
  induction c using Nat.strongRecOn with
  | ind c ih =>
    intro x x0 x1 hc
    rcases hT.c x x0 x1 with e | ⟨m, m0, m1, hm, e⟩
    · rw [e]; exact hE.all1 x x0 x1
    · have h1 := hF.dur x0 x1
      have h2 := hF.dur m0 m1
      have h3 := hT.a m m0 m1
      have h4 := hE.ge m m0 m1 x hm
      have := ih (V T m).toNat (by omega) m m0 m1 (by omega)
      omega
/-- Somewhere it begins. -/
theorem crit_start {l : List (Int × List Int)} {E T : List Int} {all : Int} (hF : Full l) (hE : Early l E all) (hT : Tail l (V T)) : ∀ (c : Nat) (x : Int), 0 ≤ x → x < l.length → V E x ≤ c → V E x + V T x = all → ∃ y : Int, 0 ≤ y ∧ y < l.length ∧ V T y = all ∧ needs l y = [] := by
  intro c
  induction c using Nat.strongRecOn with
  | ind c ih =>
    intro x x0 x1 hc he
    have hb := fun y y0 y1 => both_le hF hE hT (V T y).toNat y y0 y1 (by have := hT.a y y0 y1; have := hF.dur y0 y1; omega)
    rcases hE.inn x x0 x1 with e | ⟨m, hm, e⟩
    · refine ⟨x, x0, x1, by omega, ?_⟩
      cases hn : needs l x with
      | nil => rfl
      | cons m r =>
        have hm : m ∈ needs l x := by rw [hn]; exact List.mem_cons_self ..
        obtain ⟨m0, m1⟩ := hF.ok.inn x0 x1 hm
        have h1 := hE.ge x x0 x1 m hm
        have h2 := hF.dur m0 m1
        have h3 := hE.nn m m0 m1
        omega
    · obtain ⟨m0, m1⟩ := hF.ok.inn x0 x1 hm
      have h1 := hF.dur m0 m1
      have h2 := hT.b m x m0 m1 x0 x1 hm
      have h3 := hb m m0 m1
      have h4 := hE.nn m m0 m1
      exact ih (V E m).toNat (by omega) m m0 m1 (by omega) (by omega)
structure WayOk (l : List (Int × List Int)) (E T : List Int) (all : Int) (w : List Int) : Prop where
  at' : ∀ (i : Nat) (x : Int), w[i]? = some x → 0 ≤ x ∧ x < l.length ∧ V E x = sumd l (w.take i) ∧ V T x = all - sumd l (w.take i) ∧ (i = 0 ∨ ∃ p, w[i - 1]? = some p ∧ p ∈ needs l x)
  le : sumd l w ≤ all
  len : (w.length : Int) ≤ sumd l w
theorem WayOk.step {l : List (Int × List Int)} {E T : List Int} {all : Int} (hF : Full l) (hT : Tail l (V T)) {w : List Int} (h : WayOk l E T all w) {x : Int} (x0 : 0 ≤ x) (x1 : x < l.length) (hx : V E x = sumd l w) (hx2 : V T x = all - sumd l w) (hr : w = [] ∨ ∃ v p, w = v ++ [p] ∧ p ∈ needs l x) : WayOk l E T all (w ++ [x]) := by
  have hd := hF.dur x0 x1
  have ha := hT.a x x0 x1
  have hs : sumd l (w ++ [x]) = sumd l w + dur l x := by rw [sumd_append]; simp [sumd]
  refine ⟨fun i y hy => ?_, by rw [hs]; omega, by rw [hs]; have := h.len; simp; omega⟩
  by_cases hi : i < w.length
  · rw [List.getElem?_append_left hi] at hy
    rw [List.take_append_of_le_length (by omega)]
    obtain ⟨a, b, c, d, e⟩ := h.at' i y hy
    refine ⟨a, b, c, d, ?_⟩
    rcases e with e | ⟨p, e, f⟩
    · exact .inl e
    · exact .inr ⟨p, by rw [List.getElem?_append_left (by omega)]; exact e, f⟩
  · have hlt := (List.getElem?_eq_some_iff.1 hy).1
    have hi' : i = w.length := by simp at hlt; omega
    subst hi'
    have hyx : x = y := by simpa using hy
    subst hyx
    rw [List.take_append_of_le_length (Nat.le_refl _), List.take_length]
    refine ⟨x0, x1, hx, hx2, ?_⟩
    rcases hr with e | ⟨v, p, e, f⟩
    · exact .inl (by rw [e]; rfl)
    · refine .inr ⟨p, ?_, f⟩
      rw [e]
      simp
def lastOr (w : List Int) : Int := w.getLast?.getD (-1)
theorem crit_loop {l : List (Int × List Int)} {E T L : List Int} {all : Int} (hF : Full l) (hE : Early l E all) (hT : Tail l (V T)) (hTl : T.length = l.length) (hLl : L.length = l.length) (hL : ∀ x : Int, 0 ≤ x → x < l.length → V L x = all - V T x) : ∀ (c n : Nat) (w : List Int), c + 2000 < n → all - sumd l w ≤ c → WayOk l E T all w →
    ∃ way, WayOk l E T all way ∧ sumd l way = all ∧ ∀ (R : Type) (k : List Int → Option R), impl_CriticalOf_l5 n l (all - sumd l w) T w k = k way ∧ spec_CriticalOf_l8 n l all (sumd l w) (lastOr w) E L w k = k way := by
  intro c
  induction c with
  | zero =>
    intro n w hn hc hw
    have := hw.le
    obtain ⟨n, rfl⟩ : ∃ m, n = m + 1 := ⟨n - 1, by omega⟩
    refine ⟨w, hw, by omega, fun R k => ⟨?_, ?_⟩⟩
    · rw [impl_CriticalOf_l5, decide_eq_false (show ¬ all - sumd l w > 0 by omega)]; rfl
    · rw [spec_CriticalOf_l8, decide_eq_false (show ¬ sumd l w < all by omega)]; rfl
  | succ c ih =>
    intro n w hn hc hw
    obtain ⟨n, rfl⟩ : ∃ m, n = m + 1 := ⟨n - 1, by omega⟩
    by_cases hz : sumd l w < all
    · have h30 := hF.ok.len
      have hall := hE.all0
      have hlen0 := hw.len
      have hb := fun (y : Int) (y0 : 0 ≤ y) (y1 : y < l.length) => both_le hF hE hT (V T y).toNat y y0 y1 (by have := hT.a y y0 y1; have := hF.dur y0 y1; omega)
      have hb' := fun (y : Int) (y0 : 0 ≤ y) (y1 : y < l.length) => hE.nn y y0 y1
      have key : ∃ i : Nat, i < l.length ∧ V T i = all - sumd l w ∧ V E i = sumd l w ∧ (w = [] ∨ ∃ v p, w = v ++ [p] ∧ p ∈ needs l (i : Int)) ∧
          ∀ (R : Type) (k1 : List (Int × List Int) → Int → Int → List Int → List Int → Option R) (k2 : List (Int × List Int) → Int → Int → Int → List Int → List Int → List Int → Option R),
            impl_CriticalOf_l8 n l (all - sumd l w) 0 l (l.length : Int) 0 T w k1 = k1 l (all - sumd l w) (i : Int) T w ∧ spec_CriticalOf_l11 n l all (sumd l w) (lastOr w) (-1) l (l.length : Int) 0 E L w k2 = k2 l all (sumd l w) (i : Int) E L w := by
        rcases List.eq_nil_or_concat w with rfl | ⟨v, p, rfl⟩
        · have hs0 : sumd l [] = 0 := rfl
          have hsame : ∀ i, 0 ≤ i → i < 0 + l.length → fitE2 l E L (sumd l []) i = fitE l T (all - sumd l []) i := fun i _ hi => by
            have e1 : E.getD (Int.toNat (i : Int)) 0 = V E (i : Int) := rfl
            have e2 : L.getD (Int.toNat (i : Int)) 0 = all - V T (i : Int) := hL (i : Int) (by omega) (by omega)
            have e3 : T.getD (Int.toNat (i : Int)) 0 = V T (i : Int) := rfl
            have h1 := hb (i : Int) (by omega) (by omega)
            have h2 := hb' (i : Int) (by omega) (by omega)
            unfold fitE2 fitE
            rw [e1, e2, e3, hs0]
            cases hnn : ((((l.getD (Int.toNat (i : Int)) (0, [])).2.length : Int)) == 0) with
            | false => simp
            | true =>
              rw [Bool.eq_iff_iff]
              simp
              omega
          obtain ⟨x, x0, x1, hx, hxn⟩ : ∃ y : Int, 0 ≤ y ∧ y < l.length ∧ V T y = all ∧ needs l y = [] := by
            rcases hE.all2 with e | ⟨x, x0, x1, e⟩
            · omega
            · have h1 := hT.a x x0 x1
              have h2 := hb x x0 x1
              exact crit_start hF hE hT (V E x).toNat x x0 x1 (by have := hb' x x0 x1; omega) (by omega)
          obtain ⟨i, i1, i2, i3, i4⟩ := findF_ex (f := fitE l T (all - sumd l [])) (c := l.length) (j := 0) ⟨x.toNat, by omega, by omega, by
            unfold fitE
            rw [show ((x.toNat : Nat) : Int) = x by omega, show T.getD x.toNat 0 = V T x from rfl, show (l.getD x.toNat (0, [])).2 = needs l x from rfl, hx, hxn, hs0]
            simp⟩
          have i4' : fitE2 l E L (sumd l []) i = true := by rw [hsame i i2 i3]; exact i4
          unfold fitE at i4
          unfold fitE2 at i4'
          simp only [Bool.and_eq_true, beq_iff_eq] at i4 i4'
          refine ⟨i, by omega, i4.1, i4'.1, .inl rfl, fun R k1 k2 => ⟨?_, ?_⟩⟩
          · have := impl_pickE h30 hTl (all - sumd l []) 0 k1 l.length n 0 (by omega) (by omega)
            rw [show ((0 : Nat) : Int) = 0 from rfl, i1] at this
            exact this
          · have := spec_pickE h30 hE.len hLl all (sumd l []) (-1) [] k2 l.length n 0 (by omega) (by omega)
            rw [show ((0 : Nat) : Int) = 0 from rfl, findF_congr hsame, i1] at this
            exact this
        · rw [List.concat_eq_append] at hw hlen0 hz ⊢
          have hp := hw.at' v.length p (by simp)
          rw [List.take_append_of_le_length (Nat.le_refl _), List.take_length] at hp
          obtain ⟨p0, p1, pE, pT, _⟩ := hp
          have hsv : sumd l (v ++ [p]) = sumd l v + dur l p := by rw [sumd_append]; simp [sumd]
          have hlo : lastOr (v ++ [p]) = p := by unfold lastOr; simp
          have hsame : ∀ i, 0 ≤ i → i < 0 + l.length → fitS2 l E L (sumd l (v ++ [p])) p i = fitS l T (all - sumd l (v ++ [p])) p i := fun i _ hi => by
            have e1 : E.getD (Int.toNat (i : Int)) 0 = V E (i : Int) := rfl
            have e2 : L.getD (Int.toNat (i : Int)) 0 = all - V T (i : Int) := hL (i : Int) (by omega) (by omega)
            have e3 : T.getD (Int.toNat (i : Int)) 0 = V T (i : Int) := rfl
            have h1 := hb (i : Int) (by omega) (by omega)
            have h2 := hE.ge (i : Int) (by omega) (by omega) p
            unfold fitS2 fitS
            rw [e1, e2, e3, hsv]
            by_cases hm : p ∈ (l.getD (Int.toNat (i : Int)) (0, [])).2
            · have := h2 hm
              rw [decide_eq_true hm, Bool.eq_iff_iff]
              simp
              omega
            · rw [decide_eq_false hm]; simp
          obtain ⟨x, x0, x1, hxn, hx⟩ : ∃ m : Int, 0 ≤ m ∧ m < l.length ∧ p ∈ needs l m ∧ V T p = dur l p + V T m := by
            rcases hT.c p p0 p1 with e | h
            · omega
            · exact h
          obtain ⟨i, i1, i2, i3, i4⟩ := findF_ex (f := fitS l T (all - sumd l (v ++ [p])) p) (c := l.length) (j := 0) ⟨x.toNat, by omega, by omega, by
            unfold fitS
            rw [show ((x.toNat : Nat) : Int) = x by omega, show T.getD x.toNat 0 = V T x from rfl, show (l.getD x.toNat (0, [])).2 = needs l x from rfl, decide_eq_true hxn]
            simp
            omega⟩
          have i4' : fitS2 l E L (sumd l (v ++ [p])) p i = true := by rw [hsame i i2 i3]; exact i4
          unfold fitS at i4
          unfold fitS2 at i4'
          simp only [Bool.and_eq_true, beq_iff_eq, decide_eq_true_eq] at i4 i4'
          refine ⟨i, by omega, i4.1, i4'.1, .inr ⟨v, p, rfl, i4.2⟩, fun R k1 k2 => ⟨?_, ?_⟩⟩
          · have := impl_pickS hF.ok hTl (all - sumd l (v ++ [p])) 0 v p (by simp at hlen0; omega) k1 l.length n 0 (by omega) (by omega)
            rw [show ((0 : Nat) : Int) = 0 from rfl, i1] at this
            exact this
          · have := spec_pickS hF.ok hE.len hLl all (sumd l (v ++ [p])) (-1) p p0 (v ++ [p]) k2 l.length n 0 (by omega) (by omega)
            rw [show ((0 : Nat) : Int) = 0 from rfl, findF_congr hsame, i1] at this
            rw [hlo]
            exact this
      obtain ⟨i, h1, h2, h3, h4, h5⟩ := key
      have hd := hF.dur (x := (i : Int)) (by omega) (by omega)
      have hw' := hw.step hF hT (x := (i : Int)) (by omega) (by omega) h3 h2 h4
      have hs : sumd l (w ++ [(i : Int)]) = sumd l w + dur l i := by rw [sumd_append]; simp [sumd]
      have hlo : lastOr (w ++ [(i : Int)]) = i := by unfold lastOr; simp
      have hle' := hw'.le
      obtain ⟨way, a1, a2, a3⟩ := ih n (w ++ [(i : Int)]) (by omega) (by omega) hw'
      refine ⟨way, a1, a2, fun R k => ⟨?_, ?_⟩⟩
      · rw [impl_CriticalOf_l5, decide_eq_true (show all - sumd l w > 0 by omega), cond_true, (h5 R _ (fun _ _ _ _ _ _ _ => none)).1, decide_eq_true (show w.length + [(i : Int)].length ≤ LIM by simp [LIM]; omega), dnn, dlt h1, show (l.getD (Int.toNat (i : Int)) (0, [])).1 = dur l i from rfl, wrap64 (by omega) (by omega)]
        have := (a3 R k).1
        rw [hs, show all - (sumd l w + dur l i) = all - sumd l w - dur l i by omega] at this
        exact this
      · rw [spec_CriticalOf_l8, decide_eq_true hz, cond_true, (h5 R (fun _ _ _ _ _ => none) _).2, decide_eq_true (show w.length + [(i : Int)].length ≤ LIM by simp [LIM]; omega), dnn, dlt h1, show (l.getD (Int.toNat (i : Int)) (0, [])).1 = dur l i from rfl, wrap64 (by omega) (by omega)]
        have := (a3 R k).2
        rw [hs, hlo] at this
        exact this
    · have := hw.le
      refine ⟨w, hw, by omega, fun R k => ⟨?_, ?_⟩⟩
      · rw [impl_CriticalOf_l5, decide_eq_false (show ¬ all - sumd l w > 0 by omega)]; rfl
      · rw [spec_CriticalOf_l8, decide_eq_false hz]; rfl
theorem impl_late_loop {l : List (Int × List Int)} {T : List Int} {all : Int} (hF : Full l) (hT : Tail l (V T)) (hTl : T.length = l.length) (hall : 0 ≤ all ∧ all ≤ 3100) : ∀ (c n j : Nat) (out : List Int), c < n → j + c = l.length → out.length = j → (∀ x : Int, 0 ≤ x → x < j → V out x = all - V T x) →
    ∃ L, L.length = l.length ∧ (∀ x : Int, 0 ≤ x → x < l.length → V L x = all - V T x) ∧ ∀ (R : Type) (k : List Int → Option R), impl_LatestOf_l6 n all (l.length : Int) (j : Int) out T k = k L
  | _, 0, _, _, h, _, _, _ => by omega
  | 0, n + 1, j, out, _, hj, ho, h => ⟨out, by omega, fun x x0 x1 => h x x0 (by omega), fun R k => by rw [impl_LatestOf_l6, dge (by omega)]; rfl⟩
  | c + 1, n + 1, j, out, hn, hj, ho, h => by
    have hlt : j < l.length := by omega
    have h30 := hF.ok.len
    have h1 := hT.a (j : Int) (by omega) (by omega)
    have h2 := hT.d (j : Int) (by omega) (by omega)
    have h3 := hF.dur (x := (j : Int)) (by omega) (by omega)
    obtain ⟨L, e1, e2, e3⟩ := impl_late_loop hF hT hTl hall c n (j + 1) (out ++ [all - V T (j : Int)]) (by omega) (by omega) (by simp; omega) (fun x x0 x1 => by
      by_cases cx : x = (j : Int)
      · subst cx
        unfold V
        rw [Int.toNat_natCast, List.getD_eq_getElem?_getD, ← ho]
        simp
      · have := h x x0 (by omega)
        rw [← this]
        unfold V
        rw [List.getD_eq_getElem?_getD, List.getElem?_append_left (by omega), ← List.getD_eq_getElem?_getD])
    refine ⟨L, e1, e2, fun R k => ?_⟩
    have hv : T.getD (Int.toNat (j : Int)) 0 = V T (j : Int) := rfl
    rw [impl_LatestOf_l6, hTl, dlt hlt, dnn, hv, wrap64 (x := all - V T (j : Int)) (by omega) (by omega), decide_eq_true (show out.length + [all - V T (j : Int)].length ≤ LIM by simp [LIM]; omega), wrapS hlt (by omega)]
    exact e3 R k
theorem impl_slack_loop {l : List (Int × List Int)} {E : List Int} (hF : Full l) (hE : E.length = l.length) (f : Int → Int) (hb : ∀ x : Int, 0 ≤ x → x < l.length → -10000 ≤ f x ∧ f x ≤ 10000 ∧ -10000 ≤ V E x ∧ V E x ≤ 10000) : ∀ (c n j : Nat) (a : List Int), c < n → j + c = l.length → a.length = l.length → (∀ x : Int, 0 ≤ x → x < j → V a x = f x - V E x) → (∀ x : Int, (j : Int) ≤ x → x < l.length → V a x = f x) →
    ∃ S, S.length = l.length ∧ (∀ x : Int, 0 ≤ x → x < l.length → V S x = f x - V E x) ∧ ∀ (R : Type) (k : List Int → Option R), impl_SlackOf_l6 n (l.length : Int) (j : Int) a E k = k S
  | _, 0, _, _, h, _, _, _, _ => by omega
  | 0, n + 1, j, a, _, hj, ha, h, _ => ⟨a, ha, fun x x0 x1 => h x x0 (by omega), fun R k => by rw [impl_SlackOf_l6, dge (by omega)]; rfl⟩
  | c + 1, n + 1, j, a, hn, hj, ha, h, h' => by
    have hlt : j < l.length := by omega
    have h30 := hF.ok.len
    have hv := h' (j : Int) (by omega) (by omega)
    have hbj := hb (j : Int) (by omega) (by omega)
    have hs := fun (v y : Int) (y0 : 0 ≤ y) => V_set ha (y := (j : Int)) (by omega) (by omega) v y0
    obtain ⟨S, e1, e2, e3⟩ := impl_slack_loop hF hE f hb c n (j + 1) (a.set (Int.toNat (j : Int)) (f j - V E j)) (by omega) (by omega) (by simpa using ha) (fun x x0 x1 => by
      rw [hs _ x x0]
      by_cases cx : x = (j : Int)
      · rw [if_pos cx, cx]
      · rw [if_neg cx]; exact h x x0 (by omega)) (fun x x0 x1 => by
      rw [hs _ x (by omega), if_neg (by omega)]; exact h' x (by omega) x1)
    refine ⟨S, e1, e2, fun R k => ?_⟩
    have hv1 : a.getD (Int.toNat (j : Int)) 0 = f j := hv
    have hv2 : E.getD (Int.toNat (j : Int)) 0 = V E j := rfl
    rw [impl_SlackOf_l6, ha, hE, dlt hlt, dnn, hv1, hv2, wrap64 (x := f j - V E j) (by omega) (by omega), wrapS hlt (by omega)]
    exact e3 R k
theorem law_needs {R : Type} {l : List (Int × List Int)} {E T L : List Int} {all : Int} (hF : Full l) (hE : Early l E all) (hT : Tail l (V T)) (hLl : L.length = l.length) (hL : ∀ x : Int, 0 ≤ x → x < l.length → V L x = all - V T x) (S way : List Int) (b c d : Int) {x : Int} (x0 : 0 ≤ x) (x1 : x < l.length) (ns : List Int) (hns : ∀ m ∈ ns, m ∈ needs l x) (hl : ns.length ≤ 1000) (kr : Bool → Option R) (k : Int → Int → Int → List (Int × List Int) → List Int → List Int → List Int → List Int → Option R) : ∀ (n q : Nat), ns.length - q < n → q ≤ ns.length →
    laws_FnPlanned_l20 n b x c d ns (ns.length : Int) (q : Int) l E L S way kr k = k b c d l E L S way
  | 0, _, h, _ => by omega
  | n + 1, q, hn, hq => by
    by_cases h : q < ns.length
    · have hm := hns _ (List.getElem_mem h)
      obtain ⟨m0, m1⟩ := hF.ok.inn x0 x1 hm
      have h1 := hE.ge x x0 x1 _ hm
      have h2 := hT.b _ x m0 m1 x0 x1 hm
      have h3 := hF.dur m0 m1
      have h4 := hE.nn _ m0 m1
      have h5 := hT.a _ m0 m1
      have h6 := hT.d _ m0 m1
      have h7 := hL _ m0 m1
      have h8 := hL _ x0 x1
      have h9 := hE.all0
      have v1 : E.getD (Int.toNat ns[q]) 0 = V E ns[q] := rfl
      have v2 : L.getD (Int.toNat ns[q]) 0 = V L ns[q] := rfl
      have v3 : (l.getD (Int.toNat ns[q]) (0, [])).1 = dur l ns[q] := rfl
      have v4 : E.getD (Int.toNat x) 0 = V E x := rfl
      have v5 : L.getD (Int.toNat x) 0 = V L x := rfl
      rw [laws_FnPlanned_l20, dlt h, dnn, getD_at _ _ h, hE.len, hLl, decide_eq_true m0, decide_eq_true m1, decide_eq_true x0, decide_eq_true x1, v1, v2, v3, v4, v5, wrap64 (x := V E ns[q] + dur l ns[q]) (by omega) (by omega), wrap64 (x := V L ns[q] + dur l ns[q]) (by omega) (by omega), decide_eq_false (show ¬ V E ns[q] + dur l ns[q] > V E x by omega), decide_eq_false (show ¬ V L ns[q] + dur l ns[q] > V L x by omega), wrapS h (by omega)]
      exact law_needs hF hE hT hLl hL S way b c d x0 x1 ns hns hl kr k n (q + 1) (by omega) (by omega)
    · rw [laws_FnPlanned_l20, dge (by omega)]; rfl
theorem law_tasks {R : Type} {l : List (Int × List Int)} {E T L S : List Int} {all : Int} (hF : Full l) (hE : Early l E all) (hT : Tail l (V T)) (hLl : L.length = l.length) (hL : ∀ x : Int, 0 ≤ x → x < l.length → V L x = all - V T x) (hSl : S.length = l.length) (hS : ∀ x : Int, 0 ≤ x → x < l.length → V S x = all - V T x - V E x) (way : List Int) (kr : Bool → Option R) (k : Int → List (Int × List Int) → List Int → List Int → List Int → Option R) : ∀ (c n j : Nat), c + 2000 < n → j + c = l.length →
    laws_FnPlanned_l15 n all (l.length : Int) (j : Int) l E L S way kr k = k all l E S way
  | _, 0, _, h, _ => by omega
  | 0, n + 1, j, _, hj => by rw [laws_FnPlanned_l15, dge (by omega)]; rfl
  | c + 1, n + 1, j, hn, hj => by
    have hlt : j < l.length := by omega
    have h30 := hF.ok.len
    have j0 : (0 : Int) ≤ j := by omega
    have j1 : (j : Int) < l.length := by omega
    have h1 := both_le hF hE hT (V T j).toNat j j0 j1 (by have := hT.a j j0 j1; have := hF.dur j0 j1; omega)
    have h2 := hL j j0 j1
    have h3 := hS j j0 j1
    have h4 := hE.nn j j0 j1
    have h5 := hT.a j j0 j1
    have h6 := hF.dur j0 j1
    have h7 := hE.all0
    have h8 := hT.d j j0 j1
    have hnl := hF.ok.nlen j0 j1
    have v1 : E.getD (Int.toNat (j : Int)) 0 = V E j := rfl
    have v2 : L.getD (Int.toNat (j : Int)) 0 = V L j := rfl
    have v3 : (l.getD (Int.toNat (j : Int)) (0, [])).1 = dur l j := rfl
    have v4 : S.getD (Int.toNat (j : Int)) 0 = V S j := rfl
    have v5 : (l.getD (Int.toNat (j : Int)) (0, [])).2 = needs l j := rfl
    have hin := law_needs hF hE hT hLl hL S way all (l.length : Int) (j : Int) j0 j1 (needs l j) (fun _ h => h) (by omega) kr (fun r20 r21 r22 r23 r24 r25 r26 r27 => laws_FnPlanned_l15 n r20 r21 (IntKind.wrap .i64 (r22 + 1)) r23 r24 r25 r26 r27 kr k) n 0 (by omega) (by omega)
    rw [show ((0 : Nat) : Int) = 0 from rfl] at hin
    rw [laws_FnPlanned_l15, hE.len, hLl, hSl, dlt hlt, dnn, v1, v2, v3, v4, v5, decide_eq_false (show ¬ V E j > V L j by omega), wrap64 (x := V L j - V E j) (by omega) (by omega), wrap64 (x := V L j + dur l j) (by omega) (by omega), decide_eq_false (show ¬ V L j + dur l j > all by omega), show (V S j != V L j - V E j) = false by simp; omega]
    simp only [cond_true, cond_false]
    rw [hin, wrapS hlt (by omega)]
    exact law_tasks hF hE hT hLl hL hSl hS way kr k c n (j + 1) (by omega) (by omega)
theorem law_prev {R : Type} {l : List (Int × List Int)} (a b x d e : Int) (ns : List Int) (hl : ns.length ≤ 1000) (E S way : List Int) (i : Nat) (hi : i < way.length) (hw : way.length ≤ 100000) (k : Int → Int → Int → Bool → Int → Int → List (Int × List Int) → List Int → List Int → List Int → Option R) : ∀ (n q : Nat) (ok : Bool), (i = 0 → ok = true) → (ok = true ∨ ∃ p, way[i - 1]? = some p ∧ p ∈ ns.drop q) → ns.length - q < n → q ≤ ns.length →
    laws_FnPlanned_l34 n a b (i : Int) x ok d e ns (ns.length : Int) (q : Int) l E S way k = k a b x true d e l E S way
  | 0, _, _, _, _, h, _ => by omega
  | n + 1, q, ok, h0, hk, hn, hq => by
    by_cases h : q < ns.length
    · rw [laws_FnPlanned_l34, dlt h, dnn, getD_at _ _ h, wrapS h (by omega)]
      cases ok with
      | true => exact law_prev a b x d e ns hl E S way i hi hw k n (q + 1) true (fun _ => rfl) (.inl rfl) (by omega) (by omega)
      | false =>
        have hi0 : i ≠ 0 := fun e => by have := h0 e; cases this
        have hk' : ∃ p, way[i - 1]? = some p ∧ p ∈ ns.drop q := by
          rcases hk with e | h
          · cases e
          · exact h
        obtain ⟨p, hp, hpn⟩ := hk'
        have hlt : i - 1 < way.length := by omega
        have hg : way.getD (Int.toNat ((i - 1 : Nat) : Int)) 0 = p := by rw [Int.toNat_natCast, List.getD_eq_getElem?_getD, hp]; rfl
        have hw1 : IntKind.wrap .i64 ((i : Int) - 1) = ((i - 1 : Nat) : Int) := by rw [wrap64 (by omega) (by omega)]; omega
        rw [hw1, dnn, dlt hlt, hg]
        refine law_prev a b x d e ns hl E S way i hi hw k n (q + 1) (ns[q] == p) (fun e => absurd e hi0) ?_ (by omega) (by omega)
        rw [List.drop_eq_getElem_cons h, List.mem_cons] at hpn
        rcases hpn with e | hpn
        · exact .inl (by rw [e]; simp)
        · exact .inr ⟨p, hp, hpn⟩
    · have hok : ok = true := by
        rcases hk with e | ⟨p, _, hp⟩
        · exact e
        · rw [List.drop_eq_nil_iff.2 (by omega)] at hp; simp at hp
      rw [laws_FnPlanned_l34, dge (by omega), hok]; rfl
theorem law_way {R : Type} {l : List (Int × List Int)} {E T S : List Int} {all : Int} (hF : Full l) (hE : Early l E all) (hSl : S.length = l.length) (hS : ∀ x : Int, 0 ≤ x → x < l.length → V S x = all - V T x - V E x) {way : List Int} (hw : WayOk l E T all way) (kr : Bool → Option R) (k : Int → Int → Option R) : ∀ (c n j : Nat), c + 2000 < n → j + c = way.length →
    laws_FnPlanned_l28 n all (sumd l (way.take j)) (way.length : Int) (j : Int) l E S way kr k = k all (sumd l way)
  | _, 0, _, h, _ => by omega
  | 0, n + 1, j, _, hj => by rw [laws_FnPlanned_l28, dge (by omega), List.take_of_length_le (by omega)]; rfl
  | c + 1, n + 1, j, hn, hj => by
    have hlt : j < way.length := by omega
    have h30 := hF.ok.len
    have h7 := hE.all0
    have hlen := hw.len
    have hle := hw.le
    obtain ⟨x0, x1, eE, eT, hr⟩ := hw.at' j way[j] (List.getElem?_eq_getElem hlt)
    have h3 := hS _ x0 x1
    have h4 := hE.nn _ x0 x1
    have h6 := hF.dur x0 x1
    have hnl := hF.ok.nlen x0 x1
    have v1 : E.getD (Int.toNat way[j]) 0 = V E way[j] := rfl
    have v3 : (l.getD (Int.toNat way[j]) (0, [])).1 = dur l way[j] := rfl
    have v4 : S.getD (Int.toNat way[j]) 0 = V S way[j] := rfl
    have v5 : (l.getD (Int.toNat way[j]) (0, [])).2 = needs l way[j] := rfl
    have hs : sumd l (way.take (j + 1)) = sumd l (way.take j) + dur l way[j] := by
      rw [List.take_succ_eq_append_getElem hlt, sumd_append]; simp [sumd]
    have hin := law_prev (R := R) (l := l) all (sumd l (way.take j)) way[j] (way.length : Int) (j : Int) (needs l way[j]) (by omega) E S way j hlt (by omega) (fun r34 r35 r36 r37 r38 r39 r40 r41 r42 r43 => (bif (!r37) then kr false else (bif decide (0 ≤ r36) then (bif decide (r36 < (r40.length : Int)) then laws_FnPlanned_l28 n r34 (IntKind.wrap .i64 (r35 + ((r40.getD (Int.toNat r36) (0, [])).1))) r38 (IntKind.wrap .i64 (r39 + 1)) r40 r41 r42 r43 kr k else none) else none))) n 0 ((j : Int) == 0) (fun e => by rw [e]; rfl) (by
        rcases hr with e | ⟨p, e, f⟩
        · exact .inl (by rw [e]; rfl)
        · exact .inr ⟨p, e, by rw [List.drop_zero]; exact f⟩) (by omega) (by omega)
    rw [show ((0 : Nat) : Int) = 0 from rfl] at hin
    rw [laws_FnPlanned_l28, dlt hlt, dnn, getD_at _ _ hlt, decide_eq_true x0, hE.len, hSl, decide_eq_true x1, v1, v4, v5, show (V S way[j] != 0) = false by simp; omega, show (V E way[j] != sumd l (way.take j)) = false by simp; omega]
    simp only [cond_true, cond_false]
    rw [hin]
    simp only [Bool.not_true, cond_false]
    rw [decide_eq_true x0, decide_eq_true x1, v3, wrap64 (x := sumd l (way.take j) + dur l way[j]) (by omega) (by omega), wrapS hlt (by omega), ← hs]
    exact law_way hF hE hSl hS hw kr k c n (j + 1) (by omega) (by omega)
theorem and255 (x : Int) : 0 ≤ IntKind.wrap .i64 (IntKind.wrap .u64 (Int.ofNat (BitVec.toNat (BitVec.ofInt (IntKind.bits .u64) x &&& BitVec.ofInt (IntKind.bits .u64) 255)))) ∧ IntKind.wrap .i64 (IntKind.wrap .u64 (Int.ofNat (BitVec.toNat (BitVec.ofInt (IntKind.bits .u64) x &&& BitVec.ofInt (IntKind.bits .u64) 255)))) ≤ 255 := by
  have h : BitVec.toNat (BitVec.ofInt (IntKind.bits .u64) x &&& BitVec.ofInt (IntKind.bits .u64) 255) ≤ 255 := by
    rw [BitVec.toNat_and]
    exact Nat.le_trans Nat.and_le_right (by decide)
  generalize BitVec.toNat (BitVec.ofInt (IntKind.bits .u64) x &&& BitVec.ofInt (IntKind.bits .u64) 255) = y at h
  have h1 : IntKind.wrap .u64 (Int.ofNat y) = (y : Int) := by
    simp only [IntKind.wrap, IntKind.signed, IntKind.bits]
    simp
    omega
  rw [h1, wrap64 (by omega) (by omega)]
  omega
/-- Bytes. -/
def Bytes (l : List Int) : Prop := ∀ x ∈ l, 0 ≤ x ∧ x ≤ 255
theorem bytes_getD {l : List Int} (hl : Bytes l) {i : Nat} (h : i < l.length) : 0 ≤ l.getD i 0 ∧ l.getD i 0 ≤ 255 := by
  rw [List.getD_eq_getElem?_getD, List.getElem?_eq_getElem h]
  exact hl _ (List.getElem_mem h)
def seedN (s b : Int) : Int := IntKind.wrap .u64 ((IntKind.wrap .u64 ((IntKind.wrap .u64 (s * 6364136223846793005)) + b)) + 1442695040888963407)
theorem next_ex {l : List Int} (hl : Bytes l) (n : Nat) {p s : Int} (h0 : 0 ≤ p) (h1 : p ≤ 4611686018427387904) : ∃ r s', 0 ≤ r ∧ r ≤ 255 ∧ ∀ (R : Type) (k : Int → List Int → Int → Int → Option R), spec_l1Cur_next n l p s k = k r l (p + 1) s' := by
  have hw : IntKind.wrap .i64 (p + 1) = p + 1 := wrap64 (by omega) (by omega)
  by_cases c : p < (l.length : Int)
  · obtain ⟨b1, b2⟩ := bytes_getD hl (i := Int.toNat p) (by omega)
    have hg : IntKind.wrap .i64 (l.getD (Int.toNat p) 0) = l.getD (Int.toNat p) 0 := wrap64 (by omega) (by omega)
    refine ⟨l.getD (Int.toNat p) 0, seedN s (IntKind.wrap .u64 (l.getD (Int.toNat p) 0)), b1, b2, fun R k => ?_⟩
    unfold spec_l1Cur_next
    rw [decide_eq_true c, decide_eq_true h0, hw, decide_eq_true (show p + 1 ≤ (l.length : Int) by omega), hg]
    rfl
  · have hn := and255 (Int.fdiv (seedN s 0) (2 ^ (min (Int.toNat 40) (IntKind.bits .u64))))
    refine ⟨_, seedN s 0, hn.1, hn.2, fun R k => ?_⟩
    unfold spec_l1Cur_next
    rw [decide_eq_false c, hw, decide_eq_false (show ¬ p + 1 ≤ (l.length : Int) by omega)]
    rfl
theorem pick_ex {l : List Int} (hl : Bytes l) (n : Nat) {m p s : Int} (hm : m ≤ 60000) (h0 : 0 ≤ p) (h1 : p ≤ 4611686018427387000) : ∃ r p' s', 0 ≤ r ∧ (r < m ∨ (m ≤ 1 ∧ r = 0)) ∧ p ≤ p' ∧ p' ≤ p + 2 ∧ ∀ (R : Type) (k : Int → List Int → Int → Int → Option R), spec_l1Cur_pick n m l p s k = k r l p' s' := by
  by_cases c : m ≤ 1
  · exact ⟨0, p, s, by omega, .inr ⟨c, rfl⟩, by omega, by omega, fun R k => by unfold spec_l1Cur_pick; rw [decide_eq_true c]; rfl⟩
  · obtain ⟨r, s1, r0, r1, hr⟩ := next_ex hl n (s := s) h0 (by omega)
    by_cases c2 : m > 200
    · obtain ⟨q, s2, q0, q1, hq⟩ := next_ex hl n (p := p + 1) (s := s1) (by omega) (by omega)
      have e : IntKind.wrap .i64 (IntKind.wrap .i64 (r * 256) + q) = r * 256 + q := by rw [wrap64 (x := r * 256) (by omega) (by omega), wrap64 (by omega) (by omega)]
      have t0 := Int.tmod_nonneg m (show 0 ≤ r * 256 + q by omega)
      have t1 := Int.tmod_lt_of_pos (r * 256 + q) (show 0 < m by omega)
      refine ⟨Int.tmod (r * 256 + q) m, p + 1 + 1, s2, t0, .inl t1, by omega, by omega, fun R k => ?_⟩
      unfold spec_l1Cur_pick
      rw [decide_eq_false c, hr, decide_eq_true c2, hq, decide_eq_true (show m ≠ 0 by omega), e]
      rfl
    · have t0 := Int.tmod_nonneg m (show 0 ≤ r by omega)
      have t1 := Int.tmod_lt_of_pos r (show 0 < m by omega)
      refine ⟨Int.tmod r m, p + 1, s1, t0, .inl t1, by omega, by omega, fun R k => ?_⟩
      unfold spec_l1Cur_pick
      rw [decide_eq_false c, hr, decide_eq_false c2, decide_eq_true (show m ≠ 0 by omega)]
      rfl
theorem among_ex {l : List Int} (hl : Bytes l) (n : Nat) {xs : List Int} (hx : xs ≠ []) (hx2 : xs.length ≤ 200) {p s : Int} (h0 : 0 ≤ p) (h1 : p ≤ 4611686018427387000) : ∃ r p' s', r ∈ xs ∧ p ≤ p' ∧ p' ≤ p + 2 ∧ ∀ (R : Type) (k : Int → List Int → Int → Int → Option R), spec_l1Cur_among n xs l p s k = k r l p' s' := by
  have hp := List.length_pos_iff.2 hx
  obtain ⟨i, p', s', i0, i1, q0, q1, hi⟩ := pick_ex hl n (m := (xs.length : Int)) (s := s) (by omega) h0 h1
  have hlt : Int.toNat i < xs.length := by omega
  refine ⟨xs.getD (Int.toNat i) 0, p', s', ?_, q0, q1, fun R k => ?_⟩
  · rw [List.getD_eq_getElem?_getD, List.getElem?_eq_getElem hlt]
    exact List.getElem_mem hlt
  · unfold spec_l1Cur_among
    rw [hi, decide_eq_true i0, decide_eq_true (show i < (xs.length : Int) by omega)]
    rfl
def planTail {R : Type} (n : Nat) (r29 : List Int) (r30 : Int) (r31 : Int) (r32 : List (Int × List Int)) (k : List (Int × List Int) → List Int → Int → Int → Option R) : Option R := (bif (decide ((r32.length : Int) > 1)) then (spec_l1Cur_one n 12 r29 r30 r31 fun r33 r34 r35 r36 => (bif r33 then (bif decide (0 < (r32.length : Int)) then (bif (decide (((r32.set 0 ((r32.getD 0 (0, [])).1, [(IntKind.wrap .i64 ((r32.length : Int) - 1))])).length : Int) > 0)) then (spec_l1Cur_one n 40 r34 r35 r36 fun r37 r38 r39 r40 => (bif r37 then (spec_l1Cur_among n ([0, 100, 101]) r38 r39 r40 fun r41 r42 r43 r44 => (bif decide (0 < ((r32.set 0 ((r32.getD 0 (0, [])).1, [(IntKind.wrap .i64 ((r32.length : Int) - 1))])).length : Int)) then k ((r32.set 0 ((r32.getD 0 (0, [])).1, [(IntKind.wrap .i64 ((r32.length : Int) - 1))])).set 0 (r41, ((r32.set 0 ((r32.getD 0 (0, [])).1, [(IntKind.wrap .i64 ((r32.length : Int) - 1))])).getD 0 (0, [])).2)) r42 r43 r44 else none)) else k (r32.set 0 ((r32.getD 0 (0, [])).1, [(IntKind.wrap .i64 ((r32.length : Int) - 1))])) r38 r39 r40)) else k (r32.set 0 ((r32.getD 0 (0, [])).1, [(IntKind.wrap .i64 ((r32.length : Int) - 1))])) r34 r35 r36) else none) else (bif (decide ((r32.length : Int) > 0)) then (spec_l1Cur_one n 40 r34 r35 r36 fun r45 r46 r47 r48 => (bif r45 then (spec_l1Cur_among n ([0, 100, 101]) r46 r47 r48 fun r49 r50 r51 r52 => (bif decide (0 < (r32.length : Int)) then k (r32.set 0 (r49, (r32.getD 0 (0, [])).2)) r50 r51 r52 else none)) else k r32 r46 r47 r48)) else k r32 r34 r35 r36))) else (bif (decide ((r32.length : Int) > 0)) then (spec_l1Cur_one n 40 r29 r30 r31 fun r53 r54 r55 r56 => (bif r53 then (spec_l1Cur_among n ([0, 100, 101]) r54 r55 r56 fun r57 r58 r59 r60 => (bif decide (0 < (r32.length : Int)) then k (r32.set 0 (r57, (r32.getD 0 (0, [])).2)) r58 r59 r60 else none)) else k r32 r54 r55 r56)) else k r32 r29 r30 r31))
theorem oneP_ex {l : List Int} (hl : Bytes l) (n : Nat) {m p s : Int} (hm : m ≤ 60000) (h0 : 0 ≤ p) (h1 : p ≤ 4611686018427387000) : ∃ b p' s', p ≤ p' ∧ p' ≤ p + 2 ∧ ∀ (R : Type) (k : Bool → List Int → Int → Int → Option R), spec_l1Cur_one n m l p s k = k b l p' s' := by
  obtain ⟨r, p1, s1, _, _, q0, q1, hr⟩ := pick_ex hl n (m := m) (s := s) hm h0 h1
  exact ⟨r == 0, p1, s1, q0, q1, fun R k => by unfold spec_l1Cur_one; rw [hr]⟩
def PlanIn (l : List (Int × List Int)) : Prop := l.length ≤ 40 ∧ ∀ x ∈ l, x.2.length ≤ 10
theorem PlanIn.set {l : List (Int × List Int)} (h : PlanIn l) {i : Nat} {y : Int × List Int} (hy : y.2.length ≤ 10) : PlanIn (l.set i y) := ⟨by simpa using h.1, fun x hx => by
  rcases List.mem_or_eq_of_mem_set hx with hx | rfl
  · exact h.2 x hx
  · exact hy⟩
theorem PlanIn.get {l : List (Int × List Int)} (h : PlanIn l) (i : Nat) : (l.getD i (0, [])).2.length ≤ 10 := by
  rw [List.getD_eq_getElem?_getD]
  cases e : l[i]? with
  | none => simp
  | some x => exact h.2 x (List.mem_of_getElem? e)
theorem planLong_ex {x : List Int} (hx : Bytes x) (n : Nat) {p s : Int} (hp : 0 ≤ p) (hp2 : p ≤ 1000000) {l : List (Int × List Int)} (hl : PlanIn l) : ∃ l' p' s', PlanIn l' ∧ 0 ≤ p' ∧ p' ≤ p + 10 ∧ ∀ (R : Type) (k : List (Int × List Int) → List Int → Int → Int → Option R),
    (bif (decide ((l.length : Int) > 0)) then (spec_l1Cur_one n 40 x p s fun r45 r46 r47 r48 => (bif r45 then (spec_l1Cur_among n ([0, 100, 101]) r46 r47 r48 fun r49 r50 r51 r52 => (bif decide (0 < (l.length : Int)) then k (l.set 0 (r49, (l.getD 0 (0, [])).2)) r50 r51 r52 else none)) else k l r46 r47 r48)) else k l x p s) = k l' x p' s' := by
  by_cases h : (l.length : Int) > 0
  · obtain ⟨b, p1, s1, u0, u1, ht⟩ := oneP_ex hx n (m := 40) (p := p) (s := s) (by omega) (by omega) (by omega)
    cases b with
    | true =>
      obtain ⟨r, p2, s2, _, v0, v1, hr⟩ := among_ex hx n (xs := [0, 100, 101]) (by simp) (by simp) (p := p1) (s := s1) (by omega) (by omega)
      refine ⟨_, p2, s2, hl.set (i := 0) (y := (r, (l.getD 0 (0, [])).2)) (hl.get 0), by omega, by omega, fun R k => ?_⟩
      rw [decide_eq_true h, cond_true, ht, cond_true, hr, cond_true]
    | false => exact ⟨l, p1, s1, hl, by omega, by omega, fun R k => by rw [decide_eq_true h, cond_true, ht, cond_false]⟩
  · exact ⟨l, p, s, hl, by omega, by omega, fun R k => by rw [decide_eq_false h, cond_false]⟩
theorem planTail_ex {x : List Int} (hx : Bytes x) (n : Nat) {p s : Int} (hp : 0 ≤ p) (hp2 : p ≤ 100000) {l : List (Int × List Int)} (hl : PlanIn l) : ∃ l' p' s', PlanIn l' ∧ 0 ≤ p' ∧ p' ≤ p + 20 ∧ ∀ (R : Type) (k : List (Int × List Int) → List Int → Int → Int → Option R), planTail n x p s l k = k l' x p' s' := by
  unfold planTail
  by_cases h : (l.length : Int) > 1
  · obtain ⟨b, p1, s1, u0, u1, ht⟩ := oneP_ex hx n (m := 12) (p := p) (s := s) (by omega) (by omega) (by omega)
    cases b with
    | true =>
      have hl2 : PlanIn (l.set 0 ((l.getD 0 (0, [])).1, [(IntKind.wrap .i64 ((l.length : Int) - 1))])) := hl.set (by simp)
      obtain ⟨l', p2, s2, a1, a2, a3, a4⟩ := planLong_ex hx n (p := p1) (s := s1) (by omega) (by omega) hl2
      refine ⟨l', p2, s2, a1, a2, by omega, fun R k => ?_⟩
      rw [decide_eq_true h, cond_true, ht, cond_true, decide_eq_true (show 0 < (l.length : Int) by omega), cond_true]
      exact a4 R k
    | false =>
      obtain ⟨l', p2, s2, a1, a2, a3, a4⟩ := planLong_ex hx n (p := p1) (s := s1) (by omega) (by omega) hl
      refine ⟨l', p2, s2, a1, a2, by omega, fun R k => ?_⟩
      rw [decide_eq_true h, cond_true, ht, cond_false]
      exact a4 R k
  · obtain ⟨l', p2, s2, a1, a2, a3, a4⟩ := planLong_ex hx n (p := p) (s := s) (by omega) (by omega) hl
    refine ⟨l', p2, s2, a1, a2, by omega, fun R k => ?_⟩
    rw [decide_eq_false h, cond_false]
    exact a4 R k
theorem planInner_ex {x : List Int} (hx : Bytes x) (a q : Int) (z : List (Int × List Int)) (g : Int) (hq : q ≤ 1000) : ∀ (c n : Nat) (i p s : Int) (need : List Int), c < n → q - i ≤ c → 0 ≤ i → 0 ≤ p → p + 2 * c ≤ 1000000 → need.length ≤ 4 →
    ∃ need' p' s', need'.length ≤ 4 ∧ p ≤ p' ∧ p' ≤ p + 2 * c ∧ ∀ (R : Type) (k : Int → Int → List Int → Int → Int → List (Int × List Int) → List Int → Int → Option R), spec_l1Cur_plan_l10 n a q i x p s z need g k = k a q x p' s' z need' g
  | _, 0, _, _, _, _, h, _, _, _, _, _ => by omega
  | 0, n + 1, i, p, s, need, _, hc, _, _, _, hn => ⟨need, p, s, hn, by omega, by omega, fun R k => by rw [spec_l1Cur_plan_l10, decide_eq_false (show ¬ i < q by omega)]; rfl⟩
  | c + 1, n + 1, i, p, s, need, hn, hc, h0, hp, hp2, hl => by
    by_cases h : i < q
    · obtain ⟨b, p1, s1, u0, u1, ht⟩ := oneP_ex hx n (m := 3) (p := p) (s := s) (by omega) (by omega) (by omega)
      have hw : IntKind.wrap .i64 (i + 1) = i + 1 := wrap64 (by omega) (by omega)
      have go : ∀ need2 : List Int, need2.length ≤ 4 → ∃ need' p' s', need'.length ≤ 4 ∧ p ≤ p' ∧ p' ≤ p + 2 * (c + 1 : Nat) ∧ ∀ (R : Type) (k : Int → Int → List Int → Int → Int → List (Int × List Int) → List Int → Int → Option R), spec_l1Cur_plan_l10 n a q (i + 1) x p1 s1 z need2 g k = k a q x p' s' z need' g := fun need2 h2 => by
        obtain ⟨need', p', s', e1, e2, e3, e4⟩ := planInner_ex hx a q z g hq c n (i + 1) p1 s1 need2 (by omega) (by omega) (by omega) (by omega) (by omega) h2
        exact ⟨need', p', s', e1, by omega, by omega, e4⟩
      cases b with
      | true =>
        by_cases h4 : (need.length : Int) < 4
        · obtain ⟨need', p', s', e1, e2, e3, e4⟩ := go (need ++ [i]) (by simp; omega)
          refine ⟨need', p', s', e1, e2, e3, fun R k => ?_⟩
          rw [spec_l1Cur_plan_l10, decide_eq_true h, cond_true, ht, cond_true, decide_eq_true h4, cond_true, decide_eq_true (show need.length + [i].length ≤ LIM by simp [LIM]; omega), cond_true, hw]
          exact e4 R k
        · obtain ⟨need', p', s', e1, e2, e3, e4⟩ := go need hl
          refine ⟨need', p', s', e1, e2, e3, fun R k => ?_⟩
          rw [spec_l1Cur_plan_l10, decide_eq_true h, cond_true, ht, cond_true, decide_eq_false h4, cond_false, hw]
          exact e4 R k
      | false =>
        obtain ⟨need', p', s', e1, e2, e3, e4⟩ := go need hl
        refine ⟨need', p', s', e1, e2, e3, fun R k => ?_⟩
        rw [spec_l1Cur_plan_l10, decide_eq_true h, cond_true, ht, cond_false, hw]
        exact e4 R k
    · exact ⟨need, p, s, hl, by omega, by omega, fun R k => by rw [spec_l1Cur_plan_l10, decide_eq_false h]; rfl⟩
theorem planOuter_ex {x : List Int} (hx : Bytes x) (a : Int) (ha : a ≤ 40) : ∀ (c n : Nat) (q p s : Int) (out : List (Int × List Int)), c + 50 < n → a - q ≤ c → 0 ≤ q → 0 ≤ p → p + 100 * c ≤ 500000 → out.length ≤ 40 - c → c ≤ 40 → (∀ x ∈ out, x.2.length ≤ 10) →
    ∃ out' p' s', PlanIn out' ∧ p ≤ p' ∧ p' ≤ p + 100 * c ∧ ∀ (R : Type) (k : List Int → Int → Int → List (Int × List Int) → Option R), spec_l1Cur_plan_l6 n a q x p s out k = k x p' s' out'
  | _, 0, _, _, _, _, h, _, _, _, _, _, _, _ => by omega
  | 0, n + 1, q, p, s, out, _, hc, _, _, _, hl, _, hb => ⟨out, p, s, ⟨by omega, hb⟩, by omega, by omega, fun R k => by rw [spec_l1Cur_plan_l6, decide_eq_false (show ¬ q < a by omega)]; rfl⟩
  | c + 1, n + 1, q, p, s, out, hn, hc, h0, hp, hp2, hl, hc4, hb => by
    by_cases h : q < a
    · obtain ⟨r, p1, s1, r0, r1, u0, u1, hr⟩ := pick_ex hx n (m := 9) (p := p) (s := s) (by omega) (by omega) (by omega)
      obtain ⟨need, p2, s2, e1, e2, e3, e4⟩ := planInner_ex hx a q out (IntKind.wrap .i64 (1 + r)) (by omega) 40 n 0 p1 s1 [] (by omega) (by omega) (by omega) (by omega) (by omega) (by simp)
      obtain ⟨out', p3, s3, f1, f2, f3, f4⟩ := planOuter_ex hx a ha c n (q + 1) p2 s2 (out ++ [(IntKind.wrap .i64 (1 + r), need)]) (by omega) (by omega) (by omega) (by omega) (by omega) (by simp; omega) (by omega) (fun y hy => by
        rcases List.mem_append.1 hy with hy | hy
        · exact hb y hy
        · rw [List.mem_singleton.1 hy]; show need.length ≤ 10; omega)
      refine ⟨out', p3, s3, f1, by omega, by omega, fun R k => ?_⟩
      rw [spec_l1Cur_plan_l6, decide_eq_true h, cond_true, hr, e4, decide_eq_true (show out.length + [(IntKind.wrap .i64 (1 + r), need)].length ≤ LIM by simp [LIM]; omega), cond_true, wrap64 (x := q + 1) (by omega) (by omega)]
      exact f4 R k
    · exact ⟨out, p, s, ⟨by omega, hb⟩, by omega, by omega, fun R k => by rw [spec_l1Cur_plan_l6, decide_eq_false h]; rfl⟩
theorem plan_ex {x : List Int} (hx : Bytes x) {n : Nat} (hn : 1000 ≤ n) : ∃ l p s, PlanIn l ∧ 0 ≤ p ∧ p ≤ 20000 ∧ ∀ (R : Type) (k : List (Int × List Int) → List Int → Int → Int → Option R), spec_l1Cur_plan n x 0 0 k = k l x p s := by
  obtain ⟨r, p1, s1, r0, r1, u0, u1, hr⟩ := pick_ex hx n (m := 9) (p := 0) (s := 0) (by omega) (by omega) (by omega)
  obtain ⟨b, p2, s2, v0, v1, ht⟩ := oneP_ex hx n (m := 20) (p := p1) (s := s1) (by omega) (by omega) (by omega)
  cases b with
  | true =>
    obtain ⟨q, p3, s3, q0, q1, w0, w1, hq⟩ := pick_ex hx n (m := 2) (p := p2) (s := s2) (by omega) (by omega) (by omega)
    obtain ⟨out, p4, s4, a1, a2, a3, a4⟩ := planOuter_ex hx (IntKind.wrap .i64 (30 + q)) (by rw [wrap64 (by omega) (by omega)]; omega) 40 n 0 p3 s3 [] (by omega) (by rw [wrap64 (by omega) (by omega)]; omega) (by omega) (by omega) (by omega) (by simp) (by omega) (fun y hy => by simp at hy)
    obtain ⟨l', p5, s5, b1, b2, b3, b4⟩ := planTail_ex hx n (p := p4) (s := s4) (by omega) (by omega) a1
    refine ⟨l', p5, s5, b1, b2, by omega, fun R k => ?_⟩
    unfold spec_l1Cur_plan
    rw [hr, ht, cond_true, hq, a4]
    exact b4 R k
  | false =>
    obtain ⟨out, p4, s4, a1, a2, a3, a4⟩ := planOuter_ex hx r (by omega) 40 n 0 p2 s2 [] (by omega) (by omega) (by omega) (by omega) (by omega) (by simp) (by omega) (fun y hy => by simp at hy)
    obtain ⟨l', p5, s5, b1, b2, b3, b4⟩ := planTail_ex hx n (p := p4) (s := s4) (by omega) (by omega) a1
    refine ⟨l', p5, s5, b1, b2, by omega, fun R k => ?_⟩
    unfold spec_l1Cur_plan
    rw [hr, ht, cond_false, a4]
    exact b4 R k
theorem PlanIn.b {l : List (Int × List Int)} (h : PlanIn l) : l.length ≤ 1000 ∧ ∀ x ∈ l, x.2.length ≤ 1000 := ⟨by have := h.1; omega, fun x hx => by have := h.2 x hx; omega⟩
theorem laws_sameInts_loop {R : Type} (xs ys : List Int) (hl : xs.length = ys.length) (hb : xs.length ≤ 9223372036854775807) (kr : Bool → Option R) (ke : Option R) : ∀ (n j : Nat), xs.length - j < n → j ≤ xs.length →
    laws_sameInts_l4 n xs ys (xs.length : Int) (j : Int) kr ke = if xs.drop j = ys.drop j then ke else kr false
  | 0, _, h, _ => by omega
  | n + 1, j, hn, hj => by
    unfold laws_sameInts_l4
    by_cases h : j < xs.length
    · have h' : j < ys.length := by omega
      rw [dlt h, dlt h', dnn, getD_at _ _ h, getD_at _ _ h', wrapS h hb, List.drop_eq_getElem_cons h, List.drop_eq_getElem_cons h']
      simp only [cond_true]
      by_cases he : xs[j] = ys[j]
      · have : (xs[j] != ys[j]) = false := by simp [he]
        rw [this, cond_false, laws_sameInts_loop xs ys hl hb kr ke n (j + 1) (by omega) (by omega)]
        simp only [List.cons.injEq, he, true_and]
      · have : (xs[j] != ys[j]) = true := by simpa using he
        rw [this, cond_true, if_neg fun h => he (List.cons.inj h).1]
    · rw [dge (by omega)]
      have h1 : xs.drop j = [] := List.drop_eq_nil_iff.2 (by omega)
      have h2 : ys.drop j = [] := List.drop_eq_nil_iff.2 (by omega)
      simp [h1, h2]
theorem laws_sameInts_eq {R : Type} {n : Nat} {xs ys : List Int} (hb : xs.length ≤ 9223372036854775807) (hn : xs.length < n) (k : Bool → Option R) : laws_sameInts n xs ys k = k (decide (xs = ys)) := by
  unfold laws_sameInts
  by_cases hl : xs.length = ys.length
  · have : ((xs.length : Int) != (ys.length : Int)) = false := by simp [hl]
    rw [this, cond_false]
    have := laws_sameInts_loop xs ys hl hb k (k true) n 0 (by omega) (by omega)
    simp only [List.drop_zero] at this
    rw [show ((0 : Nat) : Int) = 0 from rfl] at this
    rw [this]
    split <;> simp_all
  · have : ((xs.length : Int) != (ys.length : Int)) = true := by simp; omega
    rw [this, cond_true, decide_eq_false fun h => hl (by rw [h])]
theorem key {R : Type} {n : Nat} (x0 : List Int) (h0 : Bytes x0) (hn : 50000 ≤ n) (k : Bool → Option R) : laws_FnPlanned n x0 k = k true := by
  unfold laws_FnPlanned
  by_cases hg : (x0.length : Int) > 1048576
  · rw [decide_eq_true hg]; rfl
  rw [decide_eq_false hg, cond_false]
  obtain ⟨l, p, s, hl, p0, p1, hd⟩ := plan_ex h0 (n := n) (by omega)
  unfold spec_DrawCriticalOf spec_DrawGoodPlan impl_EarliestOf spec_EarliestOf impl_SlackOf impl_LatestOf impl_CriticalOf spec_CriticalOf
  rw [hd]
  simp only [impl_GoodPlan_eq hl.b.1 hl.b.2 (show 5000 ≤ n by omega), spec_GoodPlan_eq hl.b.1 hl.b.2 (show 6000 ≤ n by omega)]
  cases hG : goodP l with
  | false =>
    simp only [beq_self_eq_true, Bool.not_true, Bool.not_false, cond_false, cond_true]
    rw [show ((0 : Int) != 0) = false from rfl, cond_false, laws_sameInts_eq (by simp) (by simp; omega), decide_eq_true rfl]
    simp only [Bool.not_true, cond_false]
    rw [laws_sameInts_eq (by simp) (by simp; omega), decide_eq_true rfl]
    rfl
  | true =>
    obtain ⟨hp, hc⟩ := goodP_ok hG
    have hF : Full l := ⟨hp, hc⟩
    have h30 := hp.len
    obtain ⟨E, all, hE, e1, e2⟩ := earliest_ex hF (n := n) (by omega)
    obtain ⟨T, hTl, hT, t1⟩ := tails_ex hF (n := n) (by omega)
    obtain ⟨W, hWl, hW, w1⟩ := late_ex hF (n := n) (by omega) hE e2 hT hTl
    obtain ⟨L, hLl, hL, l1⟩ := impl_late_loop hF hT hTl hE.all0 l.length n 0 [] (by omega) (by omega) rfl (fun x x0 x1 => by omega)
    obtain ⟨S, hSl, hS, s1⟩ := impl_slack_loop hF hE.len (fun x => all - V T x) (fun x x0 x1 => by
      have h1 := hT.a x x0 x1
      have h2 := hT.d x x0 x1
      have h3 := hF.dur x0 x1
      have h4 := hE.nn x x0 x1
      have h5 := hE.all0
      omega) l.length n 0 L (by omega) (by omega) hLl (fun x x0 x1 => by omega) (fun x x0 x1 => hL x (by omega) x1)
    obtain ⟨way, hw, hws, c1⟩ := crit_loop hF hE hT hTl hWl hW 3200 n [] (by omega) (by have := hE.all0; simp [sumd]; omega) ⟨fun i x h => by simp at h, by have := hE.all0; simp [sumd]; omega, by simp [sumd]⟩
    rw [show ((0 : Nat) : Int) = 0 from rfl] at l1 s1
    have c1a : ∀ (R : Type) (k : List Int → Option R), impl_CriticalOf_l5 n l all T [] k = k way := fun R k => by
      have := (c1 R k).1
      rw [show sumd l [] = 0 from rfl, Int.sub_zero] at this
      exact this
    have c1b : ∀ (R : Type) (k : List Int → Option R), spec_CriticalOf_l8 n l all 0 (-1) E W [] k = k way := fun R k => (c1 R k).2
    have hway : way.length ≤ 3100 := by have := hw.len; have := hE.all0; have := hw.le; omega
    simp only [Bool.not_true, cond_false, e1, e2, t1, w1, hTl, l1, hLl, s1, c1a, c1b, beq_self_eq_true]
    rw [show (all != all) = false by simp, cond_false, laws_sameInts_eq (by have := hE.len; omega) (by have := hE.len; omega), decide_eq_true rfl]
    simp only [Bool.not_true, cond_false]
    rw [laws_sameInts_eq (by omega) (by omega), decide_eq_true rfl]
    simp only [Bool.not_true, cond_false]
    have h1 := law_tasks hF hE hT hLl hL hSl hS way (fun r28 => k r28) (fun r29 r30 r31 r32 r33 => (laws_FnPlanned_l28 n r29 0 (r33.length : Int) 0 r30 r31 r32 r33 (fun r44 => k r44) (fun r45 r46 => k (r46 == r45)))) l.length n 0 (by omega) (by omega)
    rw [show ((0 : Nat) : Int) = 0 from rfl] at h1
    rw [h1]
    have h2 := law_way hF hE hSl hS hw (fun r44 => k r44) (fun r45 r46 => k (r46 == r45)) way.length n 0 (by omega) (by omega)
    rw [show ((0 : Nat) : Int) = 0 from rfl, List.take_zero, show sumd l [] = 0 from rfl] at h2
    rw [h2, hws, beq_self_eq_true]
theorem plain : Plain := fun x0 h0 R k => ⟨_, key x0 (fun x hx => h0.2 x hx) (Nat.le_refl _) k⟩
end Go.Am.G
