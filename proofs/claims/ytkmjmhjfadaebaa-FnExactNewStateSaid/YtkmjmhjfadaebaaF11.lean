/- What the functions that the law reaches compute, each as a plain function. -/
import Derived.Test.YtkmjmhjfadaebaaAmA
set_option linter.unusedVariables false
set_option maxRecDepth 100000
namespace Go.Am.G
open Go Go.Am
def spec_NewState {R : Type} (n : Nat)  (k : Int → Int → Bool → Int → (List ByteArray) → (List ByteArray) → Option R) : Option R := k 0 1 false 0 ([] : List ByteArray) ([] : List ByteArray)
def impl_NewState {R : Type} (n : Nat)  (k : Int → Int → Bool → Int → (List ByteArray) → (List ByteArray) → Option R) : Option R := k 0 1 false 0 ([] : List ByteArray) ([] : List ByteArray)
def laws_eqStringS_l4 {R : Type} : Nat → (List ByteArray) → (List ByteArray) → Int → (Bool → Option R) → (Option R) → Option R
  | 0, _, _, _, _, _ => none
  | n + 1, y4_0, y4_1, y4_2, kret, kexit0 => (bif (decide (y4_2 < (y4_0.length : Int))) then (bif decide (0 ≤ y4_2) then (bif decide (y4_2 < (y4_0.length : Int)) then (bif decide (0 ≤ y4_2) then (bif decide (y4_2 < (y4_1.length : Int)) then (bif (!((ByteArray.toList (y4_0.getD (Int.toNat y4_2) ByteArray.empty)) == (ByteArray.toList (y4_1.getD (Int.toNat y4_2) ByteArray.empty)))) then kret false else laws_eqStringS_l4 n y4_0 y4_1 (IntKind.wrap .i64 (y4_2 + 1)) kret kexit0) else none) else none) else none) else none) else kexit0)
def laws_eqStringS {R : Type} (n : Nat) (x0 : List ByteArray) (x1 : List ByteArray) (k : Bool → Option R) : Option R := (bif ((x0.length : Int) != (x1.length : Int)) then k false else (laws_eqStringS_l4 n x0 x1 0 (fun r1 => k r1) (k true)))
def laws_eqState {R : Type} (n : Nat) (x0 : Int) (x1 : Int) (x2 : Bool) (x3 : Int) (x4 : List ByteArray) (x5 : List ByteArray) (x6 : Int) (x7 : Int) (x8 : Bool) (x9 : Int) (x10 : List ByteArray) (x11 : List ByteArray) (k : Bool → Option R) : Option R := (bif (x0 != x6) then k false else (bif (x1 != x7) then k false else (bif (!(x2 == x8)) then k false else (bif (x3 != x9) then k false else (laws_eqStringS n x4 x10 fun r1 => (bif (!r1) then k false else (laws_eqStringS n x5 x11 fun r2 => (bif (!r2) then k false else k true))))))))
def laws_markText_l4 {R : Type} : Nat → Int → ByteArray → (ByteArray → Option R) → Option R
  | 0, _, _, _ => none
  | n + 1, y4_0, y4_1, kexit0 => (bif (decide (y4_0 > 0)) then (bif decide ((bytesOf ([(IntKind.wrap .u8 ((IntKind.wrap .i64 (48 + (Int.tmod y4_0 10)))))])).size + y4_1.size ≤ STR) then laws_markText_l4 n (IntKind.wrap .i64 (Int.tdiv y4_0 10)) ((bytesOf ([(IntKind.wrap .u8 ((IntKind.wrap .i64 (48 + (Int.tmod y4_0 10)))))])) ++ y4_1) kexit0 else none) else kexit0 y4_1)
def laws_markText {R : Type} (n : Nat) (x0 : Int) (k : ByteArray → Option R) : Option R := (bif (decide (x0 ≤ 0)) then k (ByteArray.mk #[109, 48]) else (laws_markText_l4 n x0 (ByteArray.mk #[]) (fun r1 => (bif decide ((ByteArray.mk #[109]).size + r1.size ≤ STR) then k ((ByteArray.mk #[109]) ++ r1) else none))))
def laws_markStringS_l2 {R : Type} : Nat → Int → Int → (List ByteArray) → (Int → (List ByteArray) → Option R) → Option R
  | 0, _, _, _, _ => none
  | n + 1, y2_0, y2_1, y2_2, kexit0 => (bif (decide (y2_1 < (y2_2.length : Int))) then (laws_markText n y2_0 fun r1 => (bif decide (0 ≤ y2_1) then (bif decide (y2_1 < (y2_2.length : Int)) then laws_markStringS_l2 n (IntKind.wrap .i64 (y2_0 + 1)) (IntKind.wrap .i64 (y2_1 + 1)) (y2_2.set (Int.toNat y2_1) r1) kexit0 else none) else none)) else kexit0 y2_0 y2_2)
def laws_markStringS {R : Type} (n : Nat) (x0 : Int) (x1 : List ByteArray) (k : Int → (List ByteArray) → Option R) : Option R := (laws_markStringS_l2 n x0 0 x1 (fun r2 r3 => k r2 r3))
def laws_markState {R : Type} (n : Nat) (x0 : Int) (x1 : Int) (x2 : Bool) (x3 : Int) (x4 : Int) (x5 : List ByteArray) (x6 : List ByteArray) (k : Int → Int → Int → Bool → Int → (List ByteArray) → (List ByteArray) → Option R) : Option R := (laws_markStringS n x4 x5 fun r1 r2 => (laws_markStringS n r1 x6 fun r3 r4 => k r3 x0 x1 x2 x3 r2 r4))
def laws_heldStringS_l2 {R : Type} : Nat → (List ByteArray) → Int → Int → (Int → Option R) → (Int → Option R) → Option R
  | 0, _, _, _, _, _ => none
  | n + 1, y2_0, y2_1, y2_2, kret, kexit0 => (bif (decide (y2_2 < (y2_0.length : Int))) then (bif decide (0 ≤ y2_2) then (bif decide (y2_2 < (y2_0.length : Int)) then (laws_markText n y2_1 fun r1 => (bif (!((ByteArray.toList (y2_0.getD (Int.toNat y2_2) ByteArray.empty)) == (ByteArray.toList r1))) then kret (-1) else laws_heldStringS_l2 n y2_0 (IntKind.wrap .i64 (y2_1 + 1)) (IntKind.wrap .i64 (y2_2 + 1)) kret kexit0)) else none) else none) else kexit0 y2_1)
def laws_heldStringS {R : Type} (n : Nat) (x0 : List ByteArray) (x1 : Int) (k : Int → Option R) : Option R := (laws_heldStringS_l2 n x0 x1 0 (fun r2 => k r2) (fun r3 => k r3))
def laws_heldState {R : Type} (n : Nat) (x0 : Int) (x1 : Int) (x2 : Bool) (x3 : Int) (x4 : List ByteArray) (x5 : List ByteArray) (x6 : Int) (k : Int → Option R) : Option R := (laws_heldStringS n x4 x6 fun r1 => (bif (decide (r1 < 0)) then k (-1) else (laws_heldStringS n x5 r1 fun r2 => (bif (decide (r2 < 0)) then k (-1) else k r2))))
def laws_FnExactNewState {R : Type} (n : Nat)  (k : Bool → Option R) : Option R := (spec_NewState n fun r1 r2 r3 r4 r5 r6 => (impl_NewState n fun r7 r8 r9 r10 r11 r12 => (laws_eqState n r7 r8 r9 r10 r11 r12 r1 r2 r3 r4 r5 r6 fun r13 => (bif (!r13) then k false else (laws_markState n r7 r8 r9 r10 1 r11 r12 fun r14 r15 r16 r17 r18 r19 r20 => (laws_heldState n r7 r8 r9 r10 r19 r20 1 fun r21 => (bif (decide (r21 < 0)) then k false else (bif (r21 != r14) then k false else (impl_NewState n fun r22 r23 r24 r25 r26 r27 => (laws_eqState n r22 r23 r24 r25 r26 r27 r1 r2 r3 r4 r5 r6 fun r28 => (bif (!r28) then k false else (laws_heldState n r7 r8 r9 r10 r19 r20 1 fun r29 => (bif (decide (r29 < 0)) then k false else (bif (r29 != r14) then k false else k true))))))))))))))
/-- The plain law. -/
def Plain : Prop := ∀ (R : Type) (k : Bool → Option R), ∃ n, laws_FnExactNewState n k = k true
end Go.Am.G
