/- What the functions that the law reaches compute, each as a plain function. -/
import Derived.Test.YtkmjmhjfadaebaaAmA
set_option linter.unusedVariables false
set_option maxRecDepth 100000
namespace Go.Am.G
open Go Go.Am
def laws_toPolicy {R : Type} (n : Nat) (x0 : Int) (x1 : Int) (x2 : Int) (x3 : Int) (k : Int → Int → Int → Int → Option R) : Option R := k x0 x1 x2 x3
def spec_l1In {R : Type} (n : Nat) (x0 : Int) (x1 : Int) (x2 : Int) (k : Bool → Option R) : Option R := (bif (decide (x0 ≥ x1)) then k (decide (x0 ≤ x2)) else k false)
def spec_GoodPolicy {R : Type} (n : Nat) (x0 : Int) (x1 : Int) (x2 : Int) (x3 : Int) (k : Bool → Option R) : Option R := (spec_l1In n x0 1 1000 fun r1 => (bif r1 then (spec_l1In n x1 1 10 fun r2 => (bif r2 then (spec_l1In n x2 x0 1000000 fun r3 => (bif r3 then (spec_l1In n x3 1 40 fun r4 => k r4) else k false)) else k false)) else k false))
def spec_l10Wait_l2 {R : Type} : Nat → Int → Int → Int → Int → Int → Int → (Int → Option R) → (Int → Option R) → Option R
  | 0, _, _, _, _, _, _, _, _ => none
  | n + 1, y2_0, y2_1, y2_2, y2_3, y2_4, y2_5, kret, kexit0 => (bif (decide (y2_0 > 1)) then (bif (decide ((IntKind.wrap .i64 (y2_1 * y2_3)) > y2_4)) then kret y2_4 else spec_l10Wait_l2 n (IntKind.wrap .i64 (y2_0 - 1)) (IntKind.wrap .i64 (y2_1 * y2_3)) y2_2 y2_3 y2_4 y2_5 kret kexit0) else kexit0 y2_1)
def spec_l10Wait {R : Type} (n : Nat) (x0 : Int) (x1 : Int) (x2 : Int) (x3 : Int) (x4 : Int) (k : Int → Option R) : Option R := (spec_l10Wait_l2 n x4 x0 x0 x1 x2 x3 (fun r1 => k r1) (fun r2 => k r2))
def spec_WaitsOf_l6 {R : Type} : Nat → Int → Int → Int → Int → Int → Int → (List Int) → (Int → (List Int) → Option R) → Option R
  | 0, _, _, _, _, _, _, _, _ => none
  | n + 1, y6_0, y6_1, y6_2, y6_3, y6_4, y6_5, y6_6, kexit0 => (bif (decide (y6_1 < y6_5)) then (spec_l10Wait n y6_2 y6_3 y6_4 y6_5 y6_1 fun r2 => (bif decide (y6_6.length + [r2].length ≤ LIM) then (spec_l10Wait n y6_2 y6_3 y6_4 y6_5 y6_1 fun r3 => spec_WaitsOf_l6 n (IntKind.wrap .i64 (y6_0 + r3)) (IntKind.wrap .i64 (y6_1 + 1)) y6_2 y6_3 y6_4 y6_5 (y6_6 ++ [r2]) kexit0) else none)) else kexit0 y6_0 y6_6)
def spec_WaitsOf {R : Type} (n : Nat) (x0 : Int) (x1 : Int) (x2 : Int) (x3 : Int) (k : Int → Bool → (List Int) → Option R) : Option R := (spec_GoodPolicy n x0 x1 x2 x3 fun r1 => (bif (!r1) then k 0 false [] else (spec_WaitsOf_l6 n 0 1 x0 x1 x2 x3 [] (fun r4 r5 => k r4 true r5))))
def impl_in {R : Type} (n : Nat) (x0 : Int) (x1 : Int) (x2 : Int) (k : Bool → Option R) : Option R := (bif (decide (x0 ≥ x1)) then k (decide (x0 ≤ x2)) else k false)
def impl_GoodPolicy {R : Type} (n : Nat) (x0 : Int) (x1 : Int) (x2 : Int) (x3 : Int) (k : Bool → Option R) : Option R := (impl_in n x0 1 1000 fun r1 => (bif r1 then (impl_in n x1 1 10 fun r2 => (bif r2 then (impl_in n x2 x0 1000000 fun r3 => (bif r3 then (impl_in n x3 1 40 fun r4 => k r4) else k false)) else k false)) else k false))
def impl_Policy_wait_l3 {R : Type} : Nat → Int → Int → Int → Int → Int → Int → Int → (Int → Int → Int → Int → Int → Option R) → Option R
  | 0, _, _, _, _, _, _, _, _ => none
  | n + 1, y3_0, y3_1, y3_2, y3_3, y3_4, y3_5, y3_6, kexit0 => (bif (decide (y3_2 < y3_0)) then (bif (decide (y3_1 < y3_5)) then impl_Policy_wait_l3 n y3_0 (IntKind.wrap .i64 (y3_1 * y3_4)) (IntKind.wrap .i64 (y3_2 + 1)) y3_3 y3_4 y3_5 y3_6 kexit0 else kexit0 y3_1 y3_3 y3_4 y3_5 y3_6) else kexit0 y3_1 y3_3 y3_4 y3_5 y3_6)
def impl_Policy_wait {R : Type} (n : Nat) (x0 : Int) (x1 : Int) (x2 : Int) (x3 : Int) (x4 : Int) (k : Int → Int → Int → Int → Int → Option R) : Option R := (impl_Policy_wait_l3 n x0 x1 1 x1 x2 x3 x4 (fun r1 r2 r3 r4 r5 => k (if r4 < r1 then r4 else r1) r2 r3 r4 r5))
def impl_WaitsOf_l5 {R : Type} : Nat → Int → Int → Int → Int → Int → Int → (List Int) → (Int → (List Int) → Option R) → Option R
  | 0, _, _, _, _, _, _, _, _ => none
  | n + 1, y5_0, y5_1, y5_2, y5_3, y5_4, y5_5, y5_6, kexit0 => (bif (decide (y5_1 < y5_5)) then (impl_Policy_wait n y5_1 y5_2 y5_3 y5_4 y5_5 fun r2 r3 r4 r5 r6 => (bif decide (y5_6.length + [r2].length ≤ LIM) then (impl_Policy_wait n y5_1 r3 r4 r5 r6 fun r7 r8 r9 r10 r11 => impl_WaitsOf_l5 n (IntKind.wrap .i64 (y5_0 + r7)) (IntKind.wrap .i64 (y5_1 + 1)) r8 r9 r10 r11 (y5_6 ++ [r2]) kexit0) else none)) else kexit0 y5_0 y5_6)
def impl_WaitsOf {R : Type} (n : Nat) (x0 : Int) (x1 : Int) (x2 : Int) (x3 : Int) (k : Int → Bool → (List Int) → Option R) : Option R := (impl_GoodPolicy n x0 x1 x2 x3 fun r1 => (bif (!r1) then k 0 false [] else (impl_WaitsOf_l5 n 0 1 x0 x1 x2 x3 [] (fun r12 r13 => k r12 true r13))))
def laws_eqIntS_l4 {R : Type} : Nat → (List Int) → (List Int) → Int → (Bool → Option R) → (Option R) → Option R
  | 0, _, _, _, _, _ => none
  | n + 1, y4_0, y4_1, y4_2, kret, kexit0 => (bif (decide (y4_2 < (y4_0.length : Int))) then (bif decide (0 ≤ y4_2) then (bif decide (y4_2 < (y4_0.length : Int)) then (bif decide (0 ≤ y4_2) then (bif decide (y4_2 < (y4_1.length : Int)) then (bif ((y4_0.getD (Int.toNat y4_2) 0) != (y4_1.getD (Int.toNat y4_2) 0)) then kret false else laws_eqIntS_l4 n y4_0 y4_1 (IntKind.wrap .i64 (y4_2 + 1)) kret kexit0) else none) else none) else none) else none) else kexit0)
def laws_eqIntS {R : Type} (n : Nat) (x0 : List Int) (x1 : List Int) (k : Bool → Option R) : Option R := (bif ((x0.length : Int) != (x1.length : Int)) then k false else (laws_eqIntS_l4 n x0 x1 0 (fun r1 => k r1) (k true)))
def laws_markIntS_l2 {R : Type} : Nat → Int → Int → (List Int) → (Int → (List Int) → Option R) → Option R
  | 0, _, _, _, _ => none
  | n + 1, y2_0, y2_1, y2_2, kexit0 => (bif (decide (y2_1 < (y2_2.length : Int))) then (bif decide (0 ≤ y2_1) then (bif decide (y2_1 < (y2_2.length : Int)) then laws_markIntS_l2 n (IntKind.wrap .i64 (y2_0 + 1)) (IntKind.wrap .i64 (y2_1 + 1)) (y2_2.set (Int.toNat y2_1) y2_0) kexit0 else none) else none) else kexit0 y2_0 y2_2)
def laws_markIntS {R : Type} (n : Nat) (x0 : Int) (x1 : List Int) (k : Int → (List Int) → Option R) : Option R := (laws_markIntS_l2 n x0 0 x1 (fun r1 r2 => k r1 r2))
def laws_heldIntS_l2 {R : Type} : Nat → (List Int) → Int → Int → (Int → Option R) → (Int → Option R) → Option R
  | 0, _, _, _, _, _ => none
  | n + 1, y2_0, y2_1, y2_2, kret, kexit0 => (bif (decide (y2_2 < (y2_0.length : Int))) then (bif decide (0 ≤ y2_2) then (bif decide (y2_2 < (y2_0.length : Int)) then (bif ((y2_0.getD (Int.toNat y2_2) 0) != y2_1) then kret (-1) else laws_heldIntS_l2 n y2_0 (IntKind.wrap .i64 (y2_1 + 1)) (IntKind.wrap .i64 (y2_2 + 1)) kret kexit0) else none) else none) else kexit0 y2_1)
def laws_heldIntS {R : Type} (n : Nat) (x0 : List Int) (x1 : Int) (k : Int → Option R) : Option R := (laws_heldIntS_l2 n x0 x1 0 (fun r1 => k r1) (fun r2 => k r2))
def laws_FnExactWaitsOf {R : Type} (n : Nat) (x0 : Int) (x1 : Int) (x2 : Int) (x3 : Int) (k : Bool → Option R) : Option R := (laws_toPolicy n x0 x1 x2 x3 fun r1 r2 r3 r4 => (spec_WaitsOf n r1 r2 r3 r4 fun r5 r6 r7 => (laws_toPolicy n x0 x1 x2 x3 fun r8 r9 r10 r11 => (impl_WaitsOf n r8 r9 r10 r11 fun r12 r13 r14 => (laws_eqIntS n r14 r7 fun r15 => (bif (!r15) then k false else (bif (r12 != r5) then k false else (bif (!(r13 == r6)) then k false else (laws_markIntS n 1 r14 fun r16 r17 => (laws_heldIntS n r17 1 fun r18 => (bif (decide (r18 < 0)) then k false else (bif (r18 != r16) then k false else (laws_toPolicy n x0 x1 x2 x3 fun r19 r20 r21 r22 => (impl_WaitsOf n r19 r20 r21 r22 fun r23 r24 r25 => (laws_eqIntS n r25 r7 fun r26 => (bif (!r26) then k false else (bif (r23 != r5) then k false else (bif (!(r24 == r6)) then k false else (laws_heldIntS n r17 1 fun r27 => (bif (decide (r27 < 0)) then k false else (bif (r27 != r16) then k false else k true)))))))))))))))))))))
/-- The plain law. -/
def Plain : Prop := ∀ (d0 : Kd.den (.pr (.int .i64) (.pr (.int .i64) (.pr (.int .i64) (.int .i64))))), wfD (.pr (.int .i64) (.pr (.int .i64) (.pr (.int .i64) (.int .i64)))) d0 → ∀ (R : Type) (k : Bool → Option R), ∃ n, laws_FnExactWaitsOf n d0.1 d0.2.1 d0.2.2.1 d0.2.2.2 k = k true
end Go.Am.G
