/- What the functions that the law reaches compute, each as a plain function. -/
import Derived.Test.YtkmjmhjfadaebaaAmA
set_option linter.unusedVariables false
set_option maxRecDepth 100000
namespace Go.Am.G
open Go Go.Am
def laws_toPolicy {R : Type} (n : Nat) (x0 : Int) (x1 : Int) (x2 : Int) (x3 : Int) (k : Int → Int → Int → Int → Option R) : Option R := k x0 x1 x2 x3
def spec_l1In {R : Type} (n : Nat) (x0 : Int) (x1 : Int) (x2 : Int) (k : Bool → Option R) : Option R := (bif (decide (x0 ≥ x1)) then k (decide (x0 ≤ x2)) else k false)
def spec_GoodPolicy {R : Type} (n : Nat) (x0 : Int) (x1 : Int) (x2 : Int) (x3 : Int) (k : Bool → Option R) : Option R := (spec_l1In n x0 1 1000 fun r1 => (bif r1 then (spec_l1In n x1 1 10 fun r2 => (bif r2 then (spec_l1In n x2 x0 1000000 fun r3 => (bif r3 then (spec_l1In n x3 1 40 fun r4 => k r4) else k false)) else k false)) else k false))
def spec_l10Wait_l2 {R : Type} : Nat → Int → Int → Int → Int → Int → Int → (Int → Option R) → (Int → Option R) → Option R
  | 0, _, _, _, _, _, _, _, _ => none
  | n + 1, y2_0, y2_1, y2_2, y2_3, y2_4, y2_5, kret, kexit0 => (bif (decide (y2_0 > 1)) then (bif (decide ((IntKind.wrap .i64 (y2_1 * y2_3)) > y2_4)) then kret y2_4 else spec_l10Wait_l2 n (IntKind.wrap .i64 (y2_0 - 1)) (IntKind.wrap .i64 (y2_1 * y2_3)) y2_2 y2_3 y2_4 y2_5 kret kexit0) else kexit0 y2_1)
def spec_l10Wait {R : Type} (n : Nat) (x0 : Int) (x1 : Int) (x2 : Int) (x3 : Int) (x4 : Int) (k : Int → Option R) : Option R := (spec_l10Wait_l2 n x4 x0 x0 x1 x2 x3 (fun r1 => k r1) (fun r2 => k r2))
def spec_WaitOf {R : Type} (n : Nat) (x0 : Int) (x1 : Int) (x2 : Int) (x3 : Int) (x4 : Int) (k : Int → Bool → Option R) : Option R := (spec_GoodPolicy n x0 x1 x2 x3 fun r1 => (bif (!r1) then k 0 false else (spec_l1In n x4 1 x3 fun r2 => (bif (!r2) then k 0 false else (spec_l10Wait n x0 x1 x2 x3 x4 fun r3 => k r3 true)))))
def impl_in {R : Type} (n : Nat) (x0 : Int) (x1 : Int) (x2 : Int) (k : Bool → Option R) : Option R := (bif (decide (x0 ≥ x1)) then k (decide (x0 ≤ x2)) else k false)
def impl_GoodPolicy {R : Type} (n : Nat) (x0 : Int) (x1 : Int) (x2 : Int) (x3 : Int) (k : Bool → Option R) : Option R := (impl_in n x0 1 1000 fun r1 => (bif r1 then (impl_in n x1 1 10 fun r2 => (bif r2 then (impl_in n x2 x0 1000000 fun r3 => (bif r3 then (impl_in n x3 1 40 fun r4 => k r4) else k false)) else k false)) else k false))
def impl_Policy_wait_l3 {R : Type} : Nat → Int → Int → Int → Int → Int → Int → Int → (Int → Int → Int → Int → Int → Option R) → Option R
  | 0, _, _, _, _, _, _, _, _ => none
  | n + 1, y3_0, y3_1, y3_2, y3_3, y3_4, y3_5, y3_6, kexit0 => (bif (decide (y3_2 < y3_0)) then (bif (decide (y3_1 < y3_5)) then impl_Policy_wait_l3 n y3_0 (IntKind.wrap .i64 (y3_1 * y3_4)) (IntKind.wrap .i64 (y3_2 + 1)) y3_3 y3_4 y3_5 y3_6 kexit0 else kexit0 y3_1 y3_3 y3_4 y3_5 y3_6) else kexit0 y3_1 y3_3 y3_4 y3_5 y3_6)
def impl_Policy_wait {R : Type} (n : Nat) (x0 : Int) (x1 : Int) (x2 : Int) (x3 : Int) (x4 : Int) (k : Int → Int → Int → Int → Int → Option R) : Option R := (impl_Policy_wait_l3 n x0 x1 1 x1 x2 x3 x4 (fun r1 r2 r3 r4 r5 => k (if r4 < r1 then r4 else r1) r2 r3 r4 r5))
def impl_WaitOf {R : Type} (n : Nat) (x0 : Int) (x1 : Int) (x2 : Int) (x3 : Int) (x4 : Int) (k : Int → Bool → Option R) : Option R := (impl_GoodPolicy n x0 x1 x2 x3 fun r1 => (bif (!r1) then k 0 false else (impl_in n x4 1 x3 fun r2 => (bif (!r2) then k 0 false else (impl_Policy_wait n x4 x0 x1 x2 x3 fun r3 r4 r5 r6 r7 => k r3 true)))))
def laws_FnExactWaitOf {R : Type} (n : Nat) (x0 : Int) (x1 : Int) (x2 : Int) (x3 : Int) (x4 : Int) (k : Bool → Option R) : Option R := (laws_toPolicy n x0 x1 x2 x3 fun r1 r2 r3 r4 => (spec_WaitOf n r1 r2 r3 r4 x4 fun r5 r6 => (laws_toPolicy n x0 x1 x2 x3 fun r7 r8 r9 r10 => (impl_WaitOf n r7 r8 r9 r10 x4 fun r11 r12 => (bif (r11 != r5) then k false else (bif (!(r12 == r6)) then k false else k true))))))
/-- The plain law. -/
def Plain : Prop := ∀ (d0 : Kd.den (.pr (.int .i64) (.pr (.int .i64) (.pr (.int .i64) (.int .i64))))) (d1 : Kd.den (.int .i64)), wfD (.pr (.int .i64) (.pr (.int .i64) (.pr (.int .i64) (.int .i64)))) d0 → wfD (.int .i64) d1 → ∀ (R : Type) (k : Bool → Option R), ∃ n, laws_FnExactWaitOf n d0.1 d0.2.1 d0.2.2.1 d0.2.2.2 d1 k = k true
end Go.Am.G
