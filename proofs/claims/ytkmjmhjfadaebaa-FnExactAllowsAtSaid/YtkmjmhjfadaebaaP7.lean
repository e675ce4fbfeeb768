/- The plain law: what the functions compute answers as the law says, for all arguments. -/
import Derived.Test.YtkmjmhjfadaebaaF7
set_option linter.unusedVariables false
set_option linter.unusedSimpArgs false
namespace Go.Am.G
open Go Go.Am
theorem wrap64 {x : Int} (h1 : -9223372036854775808 ≤ x) (h2 : x ≤ 9223372036854775807) : IntKind.wrap .i64 x = x := by
  simp only [IntKind.wrap, IntKind.signed, IntKind.bits]
  simp
  omega
theorem bif_true {α : Type} (a b : α) : (bif true then a else b) = a := rfl
theorem bif_false {α : Type} (a b : α) : (bif false then a else b) = b := rfl
/-- What is a good breaker. -/
def goodB (a b c e g : Int) : Bool := decide (1 ≤ a ∧ a ≤ 20 ∧ 1 ≤ b ∧ b ≤ 10000 ∧ 0 ≤ c ∧ c ≤ 2 ∧ 0 ≤ e ∧ e ≤ a ∧ 0 ≤ g ∧ g ≤ 1000000 ∧ (if c = 0 then e < a ∧ g = 0 else e = a))
theorem spec_l1In_eq {R : Type} (n : Nat) (x a b : Int) (k : Bool → Option R) : spec_l1In n x a b k = k (decide (a ≤ x ∧ x ≤ b)) := by
  simp only [spec_l1In]
  by_cases h : x ≥ a
  · have : a ≤ x := h
    simp [this]
  · have : ¬ a ≤ x := h
    simp [this]
theorem impl_in_eq {R : Type} (n : Nat) (x a b : Int) (k : Bool → Option R) : impl_in n x a b k = k (decide (a ≤ x ∧ x ≤ b)) := by
  simp only [impl_in]
  by_cases h : x ≥ a
  · have : a ≤ x := h
    simp [this]
  · have : ¬ a ≤ x := h
    simp [this]
theorem bifk {R α : Type} (b : Bool) (x y : α) (k : α → Option R) : (bif b then k x else k y) = k (bif b then x else y) := by cases b <;> rfl
theorem spec_GoodBreaker_eq {R : Type} (n : Nat) (a b c e g : Int) (k : Bool → Option R) : spec_GoodBreaker n a b c e g k = k (goodB a b c e g) := by
  simp only [spec_GoodBreaker, spec_l1In_eq, bifk]
  congr 1
  by_cases h : 1 ≤ a ∧ a ≤ 20
  · rw [wrap64 (by omega) (by omega)]
    apply Bool.eq_iff_iff.2
    simp only [goodB, cond_eq_ite, Bool.not_eq_true', decide_eq_false_iff_not, decide_eq_true_eq, beq_iff_eq]
    repeat' split
    all_goals first | omega | (simp_all; omega) | simp_all
  · simp only [goodB, h, decide_false, Bool.not_false, cond_true]
    symm
    apply decide_eq_false
    omega
theorem impl_isTime_eq {R : Type} (n : Nat) (x : Int) (k : Bool → Option R) : impl_isTime n x k = k (decide (0 ≤ x ∧ x ≤ 1000000)) := by
  simp only [impl_isTime, impl_in_eq]
theorem impl_GoodBreaker_eq {R : Type} (n : Nat) (a b c e g : Int) (k : Bool → Option R) : impl_GoodBreaker n a b c e g k = k (goodB a b c e g) := by
  simp only [impl_GoodBreaker, impl_in_eq, impl_isTime_eq, bifk]
  congr 1
  apply Bool.eq_iff_iff.2
  simp only [goodB, cond_eq_ite, Bool.not_eq_true', decide_eq_false_iff_not, decide_eq_true_eq, beq_iff_eq]
  repeat' split
  all_goals first | omega | (simp_all; omega) | simp_all
theorem plain : Plain := by
  intro ⟨a, b, c, e, g⟩ x _ _ R k
  refine ⟨0, ?_⟩
  simp only [laws_FnExactAllowsAt, laws_toBreaker, spec_AllowsAt, impl_AllowsAt, spec_GoodBreaker_eq, impl_GoodBreaker_eq, spec_l1In_eq, impl_isTime_eq, impl_Breaker_allows]
  generalize goodB a b c e g = p1
  generalize decide (0 ≤ x ∧ x ≤ 1000000) = p2
  generalize (c != 1) = p3
  generalize decide (x ≥ IntKind.wrap .i64 (g + b)) = p4
  cases p1 <;> cases p2 <;> cases p3 <;> cases p4 <;> rfl
end Go.Am.G
