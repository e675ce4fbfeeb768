/- The code of the functions that the law reaches does what the plain functions say. -/
import Derived.Test.YtkbaenelfhakbaaDoorF5
import Derived.Test.YtkbaenelfhakbaaDoorAmD
import Derived.KernelRfl
import Derived.Test.YtkbaenelfhakbaaDoorProg
set_option linter.unusedVariables false
set_option maxRecDepth 100000
namespace Go.Am.G
open Go Go.Am
open Go.Proofs
def tt : TT := [(3, ⟨1, false, (.int .i64), 0, [], [.int .i64 0], 8, true, false, [], none⟩), (4, ⟨1, false, .bool, 0, [], [.bool false], 1, true, false, [], none⟩), (9, ⟨1, false, .str, 0, [], [.str ByteArray.empty], 16, true, false, [], none⟩), (50, ⟨1, false, (.sl .str), 9, [], [.nil], 24, true, true, [], none⟩), (52, ⟨6, true, (.pr (.int .i64) (.pr (.int .i64) (.pr .bool (.pr (.int .i64) (.pr (.sl .str) (.sl .str)))))), 0, [(0, 1, false), (1, 1, false), (2, 1, false), (3, 1, false), (4, 1, false), (5, 1, false)], [.int .i64 0, .int .i64 0, .bool false, .int .i64 0, .nil, .nil], 80, true, false, [], none⟩), (55, ⟨6, true, (.pr (.int .i64) (.pr (.int .i64) (.pr .bool (.pr (.int .i64) (.pr (.sl .str) (.sl .str)))))), 0, [(0, 1, false), (1, 1, false), (2, 1, false), (3, 1, false), (4, 1, false), (5, 1, false)], [.int .i64 0, .int .i64 0, .bool false, .int .i64 0, .nil, .nil], 80, true, false, [], none⟩)]
def sig : Sig := sigOf [(5, [.agg [.any, .any, .any, .any, (.ro .str), (.ro .str)]]), (28, [.agg [.any, .any, .any, .any, (.ro .str), (.ro .str)], .one .any]), (29, [.agg [.any, .any, .any, .any, (.ro .str), (.ro .str)]]), (30, [.agg [.any, .any, .any, .any, (.ro .str), (.ro .str)]]), (31, [.agg [.any, .any, .any, .any, (.ro .str), (.ro .str)]]), (32, [.agg [.any, .any, .any, .any, (.ro .str), (.ro .str)], .agg [.any, .any, .any, .any, (.ro .str), (.ro .str)]]), (53, [.one .any, .one .any, .one .any]), (59, [.one .any, .one .any, .one .any]), (63, [.one (.ro .str), .one .any]), (64, [.one (.ro .str), .one .any]), (65, [.one (.ro .str)]), (66, [.one (.ro .str), .one .any]), (67, [.one (.ro .str)]), (68, [.one (.ro .str)]), (69, [.one (.ro .str), .one (.ro .str)]), (70, [.one .any]), (73, [.one .any]), (85, [.one (.ro .str), .fn 86 []]), (86, [.one .any]), (87, [.one (.ro .str), .one .any]), (88, [.one .any, .one .any]), (92, [.one .any, .one .any]), (97, [.one (.ro .str), .fn 86 []]), (98, [.one (.ro .str), .one .any]), (99, [.one .any])]
theorem ttok : TTok Tryd.prog tt := .of_chk (by kernel_rfl)
theorem mixed : Tryd.prog.follows .mixedOrders = true := by kernel_rfl

/-! ### loop.example/g00269/laws.szStringS -/
theorem claws_szStringS (n : Nat) : AllOk Tryd.prog [] := trivial
@[reducible] def Slaws_szStringS_l5 : PkS := ⟨[.one (.ro .str), .one (.int .i64), .one (.int .i64), .one (.dead), .one (.dead)], []⟩
@[reducible] def Tlaws_szStringS_l5_0 : PkS := ⟨[.one (.int .i64), .one (.dead), .one (.dead)], []⟩
@[reducible] def Tlaws_szStringS_l5_1 : PkS := ⟨[.one (.int .i64), .one (.dead), .one (.dead)], []⟩
def Dlaws_szStringS_l5 : LoopD := ⟨28, [0, 1, 5], [.one (.ro .str), .one .any, .one .any, .skip, .skip], fun x => match x with
  | .ret => some ([4], [.one .any, .skip, .skip])
  | .exit 0 => some ([1], [.one .any, .skip, .skip])
  | _ => none⟩
def Plaws_szStringS_l5 (g : ∀ {R : Type}, Nat → (List ByteArray) → Int → Int → (Int → Option R) → (Int → Option R) → Option R) (n : Nat) : LPs := fun R q kk => match (PkS.un Slaws_szStringS_l5 q : Option ((List ByteArray) × Int × Int × Unit)) with
  | some (y5_0, y5_1, y5_2, _) => g n y5_0 y5_1 y5_2 (fun r0 => kk .ret (PkS.pack Tlaws_szStringS_l5_0 (r0, ()))) (fun r0 => kk (.exit 0) (PkS.pack Tlaws_szStringS_l5_1 (r0, ())))
  | none => none
theorem elaws_szStringS_l5 (laws_szStringS_l5 : ∀ {R : Type}, Nat → (List ByteArray) → Int → Int → (Int → Option R) → (Int → Option R) → Option R) {R : Type} (n : Nat) (y5_0 : List ByteArray) (y5_1 : Int) (y5_2 : Int) (kk : Ex → Pk → Option R) : Dlaws_szStringS_l5.step tt sig (mkK [] R) (mkL (mkK []) [] R) (loopIn 5 (bodyOf Tryd.f63)) (fun q' => Plaws_szStringS_l5 @laws_szStringS_l5 n R q' kk) (PkS.pack Slaws_szStringS_l5 (y5_0, y5_1, y5_2, ())) kk = (fun (kret : Int → Option R) (kexit0 : Int → Option R) => (bif (decide (y5_2 < (y5_0.length : Int))) then (bif decide (0 ≤ y5_2) then (bif decide (y5_2 < (y5_0.length : Int)) then (bif (decide ((IntKind.wrap .i64 (y5_1 - ((y5_0.getD (Int.toNat y5_2) ByteArray.empty).size : Int))) < 0)) then kret (-1) else laws_szStringS_l5 n y5_0 (IntKind.wrap .i64 (y5_1 - ((y5_0.getD (Int.toNat y5_2) ByteArray.empty).size : Int))) (IntKind.wrap .i64 (y5_2 + 1)) kret kexit0) else none) else none) else kexit0 y5_1)) (fun r0 => kk .ret (PkS.pack Tlaws_szStringS_l5_0 (r0, ()))) (fun r0 => kk (.exit 0) (PkS.pack Tlaws_szStringS_l5_1 (r0, ()))) := by kernel_rfl
theorem lelaws_szStringS_l5 : LoopEq tt sig (fun n => mkK []) (fun n => mkL (mkK []) []) Dlaws_szStringS_l5 Slaws_szStringS_l5 (loopIn 5 (bodyOf Tryd.f63)) (Plaws_szStringS_l5 @laws_szStringS_l5) where
  zero R q kk := by unfold Plaws_szStringS_l5; cases (PkS.un Slaws_szStringS_l5 q) <;> rfl
  succ n R q kk := by
    unfold Plaws_szStringS_l5
    cases h : (PkS.un Slaws_szStringS_l5 q) with
    | none => rfl
    | some d =>
      obtain ⟨y5_0, y5_1, y5_2, u⟩ := (d : (List ByteArray) × Int × Int × Unit)
      have hp := PkS.un_pack h
      subst hp
      exact (elaws_szStringS_l5 @laws_szStringS_l5 n y5_0 y5_1 y5_2 kk).symm
theorem nllaws_szStringS_l5 : ∀ n, NatLP (Plaws_szStringS_l5 @laws_szStringS_l5 n) := lelaws_szStringS_l5.nat (fun n => mkK_nat (claws_szStringS n)) fun n => mkL_nat (mkK_nat (claws_szStringS n)) (l := []) trivial
theorem inlaws_szStringS_l5 (n : Nat) (R : Type) : LoopsOk Tryd.prog (mkL (mkK []) [] R) (loopIn 5 (bodyOf Tryd.f63)) := .eq (l := []) (by kernel_rfl) trivial
theorem lklaws_szStringS_l5 (n : Nat) (R : Type) (L0 : LK R) (h0 : ∀ id, firstRegion (loopIn 5 (bodyOf Tryd.f63)) = some id → L0 id = Dlaws_szStringS_l5.oracle (mkK [] R) (Plaws_szStringS_l5 @laws_szStringS_l5 n R)) : LoopOk Tryd.prog L0 (loopIn 5 (bodyOf Tryd.f63)) :=
  lelaws_szStringS_l5.ok mixed ttok (fun n => mkK_nat (claws_szStringS n)) (fun n => mkK_ok (claws_szStringS n)) (fun n => inlaws_szStringS_l5 n R) (mkK_nat (claws_szStringS n)) h0
@[reducible] def Slaws_szStringS : PkS := ⟨[.one (.ro .str), .one (.int .i64)], []⟩
@[reducible] def Tlaws_szStringS : PkS := ⟨[.one (.int .i64), .one (.dead), .one (.dead)], []⟩
def Hlaws_szStringS : List Sh := [.one .any, .skip, .skip]
def Klaws_szStringS (g : ∀ {R : Type}, Nat → (List ByteArray) → Int → (Int → Option R) → Option R) (n : Nat) : KPs := fun R p k => match (PkS.un Slaws_szStringS p : Option ((List ByteArray) × Int × Unit)) with
  | some (x0, x1, _) => g n x0 x1 (fun r0 => k (PkS.pack Tlaws_szStringS (r0, ())))
  | none => none
theorem elaws_szStringS (laws_szStringS_l5 : ∀ {R : Type}, Nat → (List ByteArray) → Int → Int → (Int → Option R) → (Int → Option R) → Option R) {R : Type} (n : Nat) (x0 : List ByteArray) (x1 : Int) (k : Pk → Option R) : evF tt sig (mkK [] R) (mkL (mkK []) [(5, Dlaws_szStringS_l5, Plaws_szStringS_l5 @laws_szStringS_l5 n)] R) Tryd.f63 Hlaws_szStringS (PkS.pack Slaws_szStringS (x0, x1, ())) k = (fun (k : Int → Option R) => (bif (decide ((IntKind.wrap .i64 (x1 - (x0.length : Int))) < 0)) then k (-1) else (laws_szStringS_l5 n x0 (IntKind.wrap .i64 (x1 - (x0.length : Int))) 0 (fun r1 => k r1) (fun r2 => k r2)))) (fun r0 => k (PkS.pack Tlaws_szStringS (r0, ()))) := by kernel_rfl
theorem oklaws_szStringS (n : Nat) : FnOk Tryd.prog 63 (Klaws_szStringS @laws_szStringS n) := by
  refine fn_ok (sig := sig) mixed ttok (mkK_nat (claws_szStringS n)) (mkK_ok (claws_szStringS n)) (mkL_nat (mkK_nat (claws_szStringS n)) (l := [(5, Dlaws_szStringS_l5, Plaws_szStringS_l5 @laws_szStringS_l5 n)]) ⟨nllaws_szStringS_l5 n, trivial⟩) (fn := Tryd.f63) (c := bodyOf Tryd.f63) (by kernel_rfl) (by kernel_rfl) (by kernel_rfl) (.eq (l := [.lo (loopIn 5 (bodyOf Tryd.f63))]) (by kernel_rfl) ⟨(lklaws_szStringS_l5 n _ _ (at_id (i := 5) (by kernel_rfl) rfl)), trivial⟩) (shs := Hlaws_szStringS) (S := Slaws_szStringS) (h1 := by kernel_rfl) fun R p k => ?_
  unfold Klaws_szStringS
  cases h : (PkS.un Slaws_szStringS p) with
  | none => rfl
  | some d =>
    obtain ⟨x0, x1, u⟩ := (d : (List ByteArray) × Int × Unit)
    have hp := PkS.un_pack h
    subst hp
    exact (elaws_szStringS @laws_szStringS_l5 n x0 x1 k).symm

/-! ### loop.example/g00269/laws.szState -/
theorem claws_szState (n : Nat) : AllOk Tryd.prog [(63, Klaws_szStringS @laws_szStringS n)] := ⟨oklaws_szStringS n, trivial⟩
@[reducible] def Slaws_szState : PkS := ⟨[.agg [.int .i64, .int .i64, .bool, .int .i64, .ro .str, .ro .str], .one (.int .i64)], []⟩
@[reducible] def Tlaws_szState : PkS := ⟨[.one (.int .i64), .one (.dead), .one (.dead)], []⟩
def Hlaws_szState : List Sh := [.one .any, .skip, .skip]
def Klaws_szState (g : ∀ {R : Type}, Nat → Int → Int → Bool → Int → (List ByteArray) → (List ByteArray) → Int → (Int → Option R) → Option R) (n : Nat) : KPs := fun R p k => match (PkS.un Slaws_szState p : Option (Int × Int × Bool × Int × (List ByteArray) × (List ByteArray) × Int × Unit)) with
  | some (x0, x1, x2, x3, x4, x5, x6, _) => g n x0 x1 x2 x3 x4 x5 x6 (fun r0 => k (PkS.pack Tlaws_szState (r0, ())))
  | none => none
theorem elaws_szState (laws_szStringS : ∀ {R : Type}, Nat → (List ByteArray) → Int → (Int → Option R) → Option R) {R : Type} (n : Nat) (x0 : Int) (x1 : Int) (x2 : Bool) (x3 : Int) (x4 : List ByteArray) (x5 : List ByteArray) (x6 : Int) (k : Pk → Option R) : evF tt sig (mkK [(63, Klaws_szStringS @laws_szStringS n)] R) (mkL (mkK [(63, Klaws_szStringS @laws_szStringS n)]) [] R) Tryd.f28 Hlaws_szState (PkS.pack Slaws_szState (x0, x1, x2, x3, x4, x5, x6, ())) k = (fun (k : Int → Option R) => (laws_szStringS n x4 x6 fun r1 => (bif (decide (r1 < 0)) then k (-1) else (laws_szStringS n x5 r1 fun r2 => (bif (decide (r2 < 0)) then k (-1) else k r2))))) (fun r0 => k (PkS.pack Tlaws_szState (r0, ()))) := by kernel_rfl
theorem oklaws_szState (n : Nat) : FnOk Tryd.prog 28 (Klaws_szState @laws_szState n) := by
  refine fn_ok (sig := sig) mixed ttok (mkK_nat (claws_szState n)) (mkK_ok (claws_szState n)) (mkL_nat (mkK_nat (claws_szState n)) (l := []) trivial) (fn := Tryd.f28) (c := bodyOf Tryd.f28) (by kernel_rfl) (by kernel_rfl) (by kernel_rfl) (.eq (l := []) (by kernel_rfl) trivial) (shs := Hlaws_szState) (S := Slaws_szState) (h1 := by kernel_rfl) fun R p k => ?_
  unfold Klaws_szState
  cases h : (PkS.un Slaws_szState p) with
  | none => rfl
  | some d =>
    obtain ⟨x0, x1, x2, x3, x4, x5, x6, u⟩ := (d : Int × Int × Bool × Int × (List ByteArray) × (List ByteArray) × Int × Unit)
    have hp := PkS.un_pack h
    subst hp
    exact (elaws_szState @laws_szStringS n x0 x1 x2 x3 x4 x5 x6 k).symm

/-! ### loop.example/g00269/laws.toStringS -/
theorem claws_toStringS (n : Nat) : AllOk Tryd.prog [] := trivial
@[reducible] def Slaws_toStringS_l3 : PkS := ⟨[.one (.ro .str), .one (.whole (100000, 0)), .one (.int .i64), .one (.dead)], [((100000, 0), .arr .str)]⟩
@[reducible] def Tlaws_toStringS_l3_0 : PkS := ⟨[.one (.whole (100000, 0)), .one (.dead)], [((100000, 0), .arr .str)]⟩
def Dlaws_toStringS_l3 : LoopD := ⟨22, [0, 3, 4], [.one (.ro .str), .one (.own .str), .one .any, .skip], fun x => match x with
  | .exit 0 => some ([3], [.one (.own .str), .skip])
  | _ => none⟩
def Plaws_toStringS_l3 (g : ∀ {R : Type}, Nat → (List ByteArray) → Int → (List ByteArray) → ((List ByteArray) → Option R) → Option R) (n : Nat) : LPs := fun R q kk => match (PkS.un Slaws_toStringS_l3 q : Option ((List ByteArray) × Int × (List ByteArray) × Unit)) with
  | some (y3_0, y3_1, y3_2, _) => g n y3_0 y3_1 y3_2 (fun r0 => kk (.exit 0) (PkS.pack Tlaws_toStringS_l3_0 (r0, ())))
  | none => none
theorem elaws_toStringS_l3 (laws_toStringS_l3 : ∀ {R : Type}, Nat → (List ByteArray) → Int → (List ByteArray) → ((List ByteArray) → Option R) → Option R) {R : Type} (n : Nat) (y3_0 : List ByteArray) (y3_1 : Int) (y3_2 : List ByteArray) (kk : Ex → Pk → Option R) : Dlaws_toStringS_l3.step tt sig (mkK [] R) (mkL (mkK []) [] R) (loopIn 3 (bodyOf Tryd.f65)) (fun q' => Plaws_toStringS_l3 @laws_toStringS_l3 n R q' kk) (PkS.pack Slaws_toStringS_l3 (y3_0, y3_1, y3_2, ())) kk = (fun (kexit0 : (List ByteArray) → Option R) => (bif (decide (y3_1 < (y3_0.length : Int))) then (bif decide (0 ≤ y3_1) then (bif decide (y3_1 < (y3_0.length : Int)) then (bif decide (0 ≤ y3_1) then (bif decide (y3_1 < (y3_2.length : Int)) then laws_toStringS_l3 n y3_0 (IntKind.wrap .i64 (y3_1 + 1)) (y3_2.set (Int.toNat y3_1) (y3_0.getD (Int.toNat y3_1) ByteArray.empty)) kexit0 else none) else none) else none) else none) else kexit0 y3_2)) (fun r0 => kk (.exit 0) (PkS.pack Tlaws_toStringS_l3_0 (r0, ()))) := by kernel_rfl
theorem lelaws_toStringS_l3 : LoopEq tt sig (fun n => mkK []) (fun n => mkL (mkK []) []) Dlaws_toStringS_l3 Slaws_toStringS_l3 (loopIn 3 (bodyOf Tryd.f65)) (Plaws_toStringS_l3 @laws_toStringS_l3) where
  zero R q kk := by unfold Plaws_toStringS_l3; cases (PkS.un Slaws_toStringS_l3 q) <;> rfl
  succ n R q kk := by
    unfold Plaws_toStringS_l3
    cases h : (PkS.un Slaws_toStringS_l3 q) with
    | none => rfl
    | some d =>
      obtain ⟨y3_0, y3_1, y3_2, u⟩ := (d : (List ByteArray) × Int × (List ByteArray) × Unit)
      have hp := PkS.un_pack h
      subst hp
      exact (elaws_toStringS_l3 @laws_toStringS_l3 n y3_0 y3_1 y3_2 kk).symm
theorem nllaws_toStringS_l3 : ∀ n, NatLP (Plaws_toStringS_l3 @laws_toStringS_l3 n) := lelaws_toStringS_l3.nat (fun n => mkK_nat (claws_toStringS n)) fun n => mkL_nat (mkK_nat (claws_toStringS n)) (l := []) trivial
theorem inlaws_toStringS_l3 (n : Nat) (R : Type) : LoopsOk Tryd.prog (mkL (mkK []) [] R) (loopIn 3 (bodyOf Tryd.f65)) := .eq (l := []) (by kernel_rfl) trivial
theorem lklaws_toStringS_l3 (n : Nat) (R : Type) (L0 : LK R) (h0 : ∀ id, firstRegion (loopIn 3 (bodyOf Tryd.f65)) = some id → L0 id = Dlaws_toStringS_l3.oracle (mkK [] R) (Plaws_toStringS_l3 @laws_toStringS_l3 n R)) : LoopOk Tryd.prog L0 (loopIn 3 (bodyOf Tryd.f65)) :=
  lelaws_toStringS_l3.ok mixed ttok (fun n => mkK_nat (claws_toStringS n)) (fun n => mkK_ok (claws_toStringS n)) (fun n => inlaws_toStringS_l3 n R) (mkK_nat (claws_toStringS n)) h0
@[reducible] def Slaws_toStringS : PkS := ⟨[.one (.ro .str)], []⟩
@[reducible] def Tlaws_toStringS : PkS := ⟨[.one (.whole (300000, 0)), .one (.dead)], [((300000, 0), .arr .str)]⟩
def Hlaws_toStringS : List Sh := [.one (.own .str), .skip]
def Klaws_toStringS (g : ∀ {R : Type}, Nat → (List ByteArray) → ((List ByteArray) → Option R) → Option R) (n : Nat) : KPs := fun R p k => match (PkS.un Slaws_toStringS p : Option ((List ByteArray) × Unit)) with
  | some (x0, _) => g n x0 (fun r0 => k (PkS.pack Tlaws_toStringS (r0, ())))
  | none => none
theorem elaws_toStringS (laws_toStringS_l3 : ∀ {R : Type}, Nat → (List ByteArray) → Int → (List ByteArray) → ((List ByteArray) → Option R) → Option R) {R : Type} (n : Nat) (x0 : List ByteArray) (k : Pk → Option R) : evF tt sig (mkK [] R) (mkL (mkK []) [(3, Dlaws_toStringS_l3, Plaws_toStringS_l3 @laws_toStringS_l3 n)] R) Tryd.f65 Hlaws_toStringS (PkS.pack Slaws_toStringS (x0, ())) k = (fun (k : (List ByteArray) → Option R) => (bif decide (0 ≤ (x0.length : Int)) then (bif decide ((x0.length : Int) ≤ (x0.length : Int)) then (bif decide ((x0.length : Int) ≤ 1099511627776) then (laws_toStringS_l3 n x0 0 (List.replicate (Int.toNat (x0.length : Int)) ByteArray.empty) (fun r1 => k r1)) else none) else none) else none)) (fun r0 => k (PkS.pack Tlaws_toStringS (r0, ()))) := by kernel_rfl
theorem oklaws_toStringS (n : Nat) : FnOk Tryd.prog 65 (Klaws_toStringS @laws_toStringS n) := by
  refine fn_ok (sig := sig) mixed ttok (mkK_nat (claws_toStringS n)) (mkK_ok (claws_toStringS n)) (mkL_nat (mkK_nat (claws_toStringS n)) (l := [(3, Dlaws_toStringS_l3, Plaws_toStringS_l3 @laws_toStringS_l3 n)]) ⟨nllaws_toStringS_l3 n, trivial⟩) (fn := Tryd.f65) (c := bodyOf Tryd.f65) (by kernel_rfl) (by kernel_rfl) (by kernel_rfl) (.eq (l := [.lo (loopIn 3 (bodyOf Tryd.f65))]) (by kernel_rfl) ⟨(lklaws_toStringS_l3 n _ _ (at_id (i := 3) (by kernel_rfl) rfl)), trivial⟩) (shs := Hlaws_toStringS) (S := Slaws_toStringS) (h1 := by kernel_rfl) fun R p k => ?_
  unfold Klaws_toStringS
  cases h : (PkS.un Slaws_toStringS p) with
  | none => rfl
  | some d =>
    obtain ⟨x0, u⟩ := (d : (List ByteArray) × Unit)
    have hp := PkS.un_pack h
    subst hp
    exact (elaws_toStringS @laws_toStringS_l3 n x0 k).symm

/-! ### loop.example/g00269/laws.toState -/
theorem claws_toState (n : Nat) : AllOk Tryd.prog [(65, Klaws_toStringS @laws_toStringS n)] := ⟨oklaws_toStringS n, trivial⟩
@[reducible] def Slaws_toState : PkS := ⟨[.agg [.int .i64, .int .i64, .bool, .int .i64, .ro .str, .ro .str]], []⟩
@[reducible] def Tlaws_toState : PkS := ⟨[.agg [.int .i64, .int .i64, .bool, .int .i64, .whole (300000, 0), .whole (300000, 1)], .one (.dead)], [((300000, 0), .arr .str), ((300000, 1), .arr .str)]⟩
def Hlaws_toState : List Sh := [.agg [.any, .any, .any, .any, (.own .str), (.own .str)], .skip]
def Klaws_toState (g : ∀ {R : Type}, Nat → Int → Int → Bool → Int → (List ByteArray) → (List ByteArray) → (Int → Int → Bool → Int → (List ByteArray) → (List ByteArray) → Option R) → Option R) (n : Nat) : KPs := fun R p k => match (PkS.un Slaws_toState p : Option (Int × Int × Bool × Int × (List ByteArray) × (List ByteArray) × Unit)) with
  | some (x0, x1, x2, x3, x4, x5, _) => g n x0 x1 x2 x3 x4 x5 (fun r0 r1 r2 r3 r4 r5 => k (PkS.pack Tlaws_toState (r0, r1, r2, r3, r4, r5, ())))
  | none => none
theorem elaws_toState (laws_toStringS : ∀ {R : Type}, Nat → (List ByteArray) → ((List ByteArray) → Option R) → Option R) {R : Type} (n : Nat) (x0 : Int) (x1 : Int) (x2 : Bool) (x3 : Int) (x4 : List ByteArray) (x5 : List ByteArray) (k : Pk → Option R) : evF tt sig (mkK [(65, Klaws_toStringS @laws_toStringS n)] R) (mkL (mkK [(65, Klaws_toStringS @laws_toStringS n)]) [] R) Tryd.f30 Hlaws_toState (PkS.pack Slaws_toState (x0, x1, x2, x3, x4, x5, ())) k = (fun (k : Int → Int → Bool → Int → (List ByteArray) → (List ByteArray) → Option R) => (laws_toStringS n x4 fun r1 => (laws_toStringS n x5 fun r2 => k x0 x1 x2 x3 r1 r2))) (fun r0 r1 r2 r3 r4 r5 => k (PkS.pack Tlaws_toState (r0, r1, r2, r3, r4, r5, ()))) := by kernel_rfl
theorem oklaws_toState (n : Nat) : FnOk Tryd.prog 30 (Klaws_toState @laws_toState n) := by
  refine fn_ok (sig := sig) mixed ttok (mkK_nat (claws_toState n)) (mkK_ok (claws_toState n)) (mkL_nat (mkK_nat (claws_toState n)) (l := []) trivial) (fn := Tryd.f30) (c := bodyOf Tryd.f30) (by kernel_rfl) (by kernel_rfl) (by kernel_rfl) (.eq (l := []) (by kernel_rfl) trivial) (shs := Hlaws_toState) (S := Slaws_toState) (h1 := by kernel_rfl) fun R p k => ?_
  unfold Klaws_toState
  cases h : (PkS.un Slaws_toState p) with
  | none => rfl
  | some d =>
    obtain ⟨x0, x1, x2, x3, x4, x5, u⟩ := (d : Int × Int × Bool × Int × (List ByteArray) × (List ByteArray) × Unit)
    have hp := PkS.un_pack h
    subst hp
    exact (elaws_toState @laws_toStringS n x0 x1 x2 x3 x4 x5 k).symm

/-! ### loop.example/g00269/spec.l1In -/
theorem cspec_l1In (n : Nat) : AllOk Tryd.prog [] := trivial
@[reducible] def Sspec_l1In : PkS := ⟨[.one (.int .i64), .one (.int .i64), .one (.int .i64)], []⟩
@[reducible] def Tspec_l1In : PkS := ⟨[.one (.bool), .one (.dead), .one (.dead), .one (.dead)], []⟩
def Hspec_l1In : List Sh := [.one .any, .skip, .skip, .skip]
def Kspec_l1In (g : ∀ {R : Type}, Nat → Int → Int → Int → (Bool → Option R) → Option R) (n : Nat) : KPs := fun R p k => match (PkS.un Sspec_l1In p : Option (Int × Int × Int × Unit)) with
  | some (x0, x1, x2, _) => g n x0 x1 x2 (fun r0 => k (PkS.pack Tspec_l1In (r0, ())))
  | none => none
theorem espec_l1In  {R : Type} (n : Nat) (x0 : Int) (x1 : Int) (x2 : Int) (k : Pk → Option R) : evF tt sig (mkK [] R) (mkL (mkK []) [] R) Tryd.f59 Hspec_l1In (PkS.pack Sspec_l1In (x0, x1, x2, ())) k = (fun (k : Bool → Option R) => (bif (decide (x0 ≥ x1)) then k (decide (x0 ≤ x2)) else k false)) (fun r0 => k (PkS.pack Tspec_l1In (r0, ()))) := by kernel_rfl
theorem okspec_l1In (n : Nat) : FnOk Tryd.prog 59 (Kspec_l1In @spec_l1In n) := by
  refine fn_ok (sig := sig) mixed ttok (mkK_nat (cspec_l1In n)) (mkK_ok (cspec_l1In n)) (mkL_nat (mkK_nat (cspec_l1In n)) (l := []) trivial) (fn := Tryd.f59) (c := bodyOf Tryd.f59) (by kernel_rfl) (by kernel_rfl) (by kernel_rfl) (.eq (l := []) (by kernel_rfl) trivial) (shs := Hspec_l1In) (S := Sspec_l1In) (h1 := by kernel_rfl) fun R p k => ?_
  unfold Kspec_l1In
  cases h : (PkS.un Sspec_l1In p) with
  | none => rfl
  | some d =>
    obtain ⟨x0, x1, x2, u⟩ := (d : Int × Int × Int × Unit)
    have hp := PkS.un_pack h
    subst hp
    exact (espec_l1In  n x0 x1 x2 k).symm

/-! ### loop.example/g00269/spec.l1Name -/
theorem cspec_l1Name (n : Nat) : AllOk Tryd.prog [] := trivial
@[reducible] def Sspec_l1Name_l2 : PkS := ⟨[.one (.str), .one (.int .i64), .one (.dead)], []⟩
@[reducible] def Tspec_l1Name_l2_0 : PkS := ⟨[.one (.bool), .one (.dead)], []⟩
@[reducible] def Tspec_l1Name_l2_1 : PkS := ⟨[.one (.str), .one (.dead)], []⟩
def Dspec_l1Name_l2 : LoopD := ⟨36, [0, 3], [.one .any, .one .any, .skip], fun x => match x with
  | .ret => some ([2], [.one .any, .skip])
  | .exit 0 => some ([0], [.one .any, .skip])
  | _ => none⟩
def Pspec_l1Name_l2 (g : ∀ {R : Type}, Nat → ByteArray → Int → (Bool → Option R) → (ByteArray → Option R) → Option R) (n : Nat) : LPs := fun R q kk => match (PkS.un Sspec_l1Name_l2 q : Option (ByteArray × Int × Unit)) with
  | some (y2_0, y2_1, _) => g n y2_0 y2_1 (fun r0 => kk .ret (PkS.pack Tspec_l1Name_l2_0 (r0, ()))) (fun r0 => kk (.exit 0) (PkS.pack Tspec_l1Name_l2_1 (r0, ())))
  | none => none
theorem espec_l1Name_l2 (spec_l1Name_l2 : ∀ {R : Type}, Nat → ByteArray → Int → (Bool → Option R) → (ByteArray → Option R) → Option R) {R : Type} (n : Nat) (y2_0 : ByteArray) (y2_1 : Int) (kk : Ex → Pk → Option R) : Dspec_l1Name_l2.step tt sig (mkK [] R) (mkL (mkK []) [] R) (loopIn 2 (bodyOf Tryd.f70)) (fun q' => Pspec_l1Name_l2 @spec_l1Name_l2 n R q' kk) (PkS.pack Sspec_l1Name_l2 (y2_0, y2_1, ())) kk = (fun (kret : Bool → Option R) (kexit0 : ByteArray → Option R) => (bif (decide (y2_1 < (y2_0.size : Int))) then (bif decide (0 ≤ y2_1) then (bif decide (y2_1 < (y2_0.size : Int)) then (bif (decide (((y2_0.data.getD (Int.toNat y2_1) 0).toNat : Int) ≥ 97)) then (bif decide (0 ≤ y2_1) then (bif decide (y2_1 < (y2_0.size : Int)) then (bif (decide (((y2_0.data.getD (Int.toNat y2_1) 0).toNat : Int) ≤ 122)) then spec_l1Name_l2 n y2_0 (IntKind.wrap .i64 (y2_1 + 1)) kret kexit0 else (bif decide (0 ≤ y2_1) then (bif decide (y2_1 < (y2_0.size : Int)) then (bif (decide (((y2_0.data.getD (Int.toNat y2_1) 0).toNat : Int) ≥ 48)) then (bif decide (0 ≤ y2_1) then (bif decide (y2_1 < (y2_0.size : Int)) then (bif (!(decide (((y2_0.data.getD (Int.toNat y2_1) 0).toNat : Int) ≤ 57))) then kret false else spec_l1Name_l2 n y2_0 (IntKind.wrap .i64 (y2_1 + 1)) kret kexit0) else none) else none) else kret false) else none) else none)) else none) else none) else (bif decide (0 ≤ y2_1) then (bif decide (y2_1 < (y2_0.size : Int)) then (bif (decide (((y2_0.data.getD (Int.toNat y2_1) 0).toNat : Int) ≥ 48)) then (bif decide (0 ≤ y2_1) then (bif decide (y2_1 < (y2_0.size : Int)) then (bif (!(decide (((y2_0.data.getD (Int.toNat y2_1) 0).toNat : Int) ≤ 57))) then kret false else spec_l1Name_l2 n y2_0 (IntKind.wrap .i64 (y2_1 + 1)) kret kexit0) else none) else none) else kret false) else none) else none)) else none) else none) else kexit0 y2_0)) (fun r0 => kk .ret (PkS.pack Tspec_l1Name_l2_0 (r0, ()))) (fun r0 => kk (.exit 0) (PkS.pack Tspec_l1Name_l2_1 (r0, ()))) := by kernel_rfl
theorem lespec_l1Name_l2 : LoopEq tt sig (fun n => mkK []) (fun n => mkL (mkK []) []) Dspec_l1Name_l2 Sspec_l1Name_l2 (loopIn 2 (bodyOf Tryd.f70)) (Pspec_l1Name_l2 @spec_l1Name_l2) where
  zero R q kk := by unfold Pspec_l1Name_l2; cases (PkS.un Sspec_l1Name_l2 q) <;> rfl
  succ n R q kk := by
    unfold Pspec_l1Name_l2
    cases h : (PkS.un Sspec_l1Name_l2 q) with
    | none => rfl
    | some d =>
      obtain ⟨y2_0, y2_1, u⟩ := (d : ByteArray × Int × Unit)
      have hp := PkS.un_pack h
      subst hp
      exact (espec_l1Name_l2 @spec_l1Name_l2 n y2_0 y2_1 kk).symm
theorem nlspec_l1Name_l2 : ∀ n, NatLP (Pspec_l1Name_l2 @spec_l1Name_l2 n) := lespec_l1Name_l2.nat (fun n => mkK_nat (cspec_l1Name n)) fun n => mkL_nat (mkK_nat (cspec_l1Name n)) (l := []) trivial
theorem inspec_l1Name_l2 (n : Nat) (R : Type) : LoopsOk Tryd.prog (mkL (mkK []) [] R) (loopIn 2 (bodyOf Tryd.f70)) := .eq (l := []) (by kernel_rfl) trivial
theorem lkspec_l1Name_l2 (n : Nat) (R : Type) (L0 : LK R) (h0 : ∀ id, firstRegion (loopIn 2 (bodyOf Tryd.f70)) = some id → L0 id = Dspec_l1Name_l2.oracle (mkK [] R) (Pspec_l1Name_l2 @spec_l1Name_l2 n R)) : LoopOk Tryd.prog L0 (loopIn 2 (bodyOf Tryd.f70)) :=
  lespec_l1Name_l2.ok mixed ttok (fun n => mkK_nat (cspec_l1Name n)) (fun n => mkK_ok (cspec_l1Name n)) (fun n => inspec_l1Name_l2 n R) (mkK_nat (cspec_l1Name n)) h0
@[reducible] def Sspec_l1Name : PkS := ⟨[.one (.str)], []⟩
@[reducible] def Tspec_l1Name : PkS := ⟨[.one (.bool), .one (.dead)], []⟩
def Hspec_l1Name : List Sh := [.one .any, .skip]
def Kspec_l1Name (g : ∀ {R : Type}, Nat → ByteArray → (Bool → Option R) → Option R) (n : Nat) : KPs := fun R p k => match (PkS.un Sspec_l1Name p : Option (ByteArray × Unit)) with
  | some (x0, _) => g n x0 (fun r0 => k (PkS.pack Tspec_l1Name (r0, ())))
  | none => none
theorem espec_l1Name (spec_l1Name_l2 : ∀ {R : Type}, Nat → ByteArray → Int → (Bool → Option R) → (ByteArray → Option R) → Option R) {R : Type} (n : Nat) (x0 : ByteArray) (k : Pk → Option R) : evF tt sig (mkK [] R) (mkL (mkK []) [(2, Dspec_l1Name_l2, Pspec_l1Name_l2 @spec_l1Name_l2 n)] R) Tryd.f70 Hspec_l1Name (PkS.pack Sspec_l1Name (x0, ())) k = (fun (k : Bool → Option R) => (spec_l1Name_l2 n x0 0 (fun r1 => k r1) (fun r2 => k (decide ((r2.size : Int) ≤ 12))))) (fun r0 => k (PkS.pack Tspec_l1Name (r0, ()))) := by kernel_rfl
theorem okspec_l1Name (n : Nat) : FnOk Tryd.prog 70 (Kspec_l1Name @spec_l1Name n) := by
  refine fn_ok (sig := sig) mixed ttok (mkK_nat (cspec_l1Name n)) (mkK_ok (cspec_l1Name n)) (mkL_nat (mkK_nat (cspec_l1Name n)) (l := [(2, Dspec_l1Name_l2, Pspec_l1Name_l2 @spec_l1Name_l2 n)]) ⟨nlspec_l1Name_l2 n, trivial⟩) (fn := Tryd.f70) (c := bodyOf Tryd.f70) (by kernel_rfl) (by kernel_rfl) (by kernel_rfl) (.eq (l := [.lo (loopIn 2 (bodyOf Tryd.f70))]) (by kernel_rfl) ⟨(lkspec_l1Name_l2 n _ _ (at_id (i := 2) (by kernel_rfl) rfl)), trivial⟩) (shs := Hspec_l1Name) (S := Sspec_l1Name) (h1 := by kernel_rfl) fun R p k => ?_
  unfold Kspec_l1Name
  cases h : (PkS.un Sspec_l1Name p) with
  | none => rfl
  | some d =>
    obtain ⟨x0, u⟩ := (d : ByteArray × Unit)
    have hp := PkS.un_pack h
    subst hp
    exact (espec_l1Name @spec_l1Name_l2 n x0 k).symm

/-! ### loop.example/g00269/spec.l12Names -/
theorem cspec_l12Names (n : Nat) : AllOk Tryd.prog [(70, Kspec_l1Name @spec_l1Name n)] := ⟨okspec_l1Name n, trivial⟩
@[reducible] def Sspec_l12Names_l7 : PkS := ⟨[.one (.ro .str), .one (.bool), .one (.int .i64), .one (.str), .one (.ro .str), .one (.int .i64), .one (.int .i64), .one (.ro .str), .one (.int .i64), .one (.int .i64), .one (.dead), .one (.dead)], []⟩
@[reducible] def Tspec_l12Names_l7_0 : PkS := ⟨[.one (.bool), .one (.dead), .one (.dead)], []⟩
@[reducible] def Tspec_l12Names_l7_1 : PkS := ⟨[.one (.ro .str), .one (.bool), .one (.ro .str), .one (.int .i64), .one (.int .i64), .one (.dead), .one (.dead)], []⟩
def Dspec_l12Names_l7 : LoopD := ⟨50, [0, 1, 5, 6, 9, 10, 11, 21, 22, 23], [.one (.ro .str), .one .any, .one .any, .one .any, .one (.ro .str), .one .any, .one .any, .one (.ro .str), .one .any, .one .any, .skip, .skip], fun x => match x with
  | .ret => some ([4], [.one .any, .skip, .skip])
  | .exit 2 => some ([0, 1, 9, 10, 11], [.one (.ro .str), .one .any, .one (.ro .str), .one .any, .one .any, .skip, .skip])
  | _ => none⟩
def Pspec_l12Names_l7 (g : ∀ {R : Type}, Nat → (List ByteArray) → Bool → Int → ByteArray → (List ByteArray) → Int → Int → (List ByteArray) → Int → Int → (Bool → Option R) → ((List ByteArray) → Bool → (List ByteArray) → Int → Int → Option R) → Option R) (n : Nat) : LPs := fun R q kk => match (PkS.un Sspec_l12Names_l7 q : Option ((List ByteArray) × Bool × Int × ByteArray × (List ByteArray) × Int × Int × (List ByteArray) × Int × Int × Unit)) with
  | some (y7_0, y7_1, y7_2, y7_3, y7_4, y7_5, y7_6, y7_7, y7_8, y7_9, _) => g n y7_0 y7_1 y7_2 y7_3 y7_4 y7_5 y7_6 y7_7 y7_8 y7_9 (fun r0 => kk .ret (PkS.pack Tspec_l12Names_l7_0 (r0, ()))) (fun r0 r1 r2 r3 r4 => kk (.exit 2) (PkS.pack Tspec_l12Names_l7_1 (r0, r1, r2, r3, r4, ())))
  | none => none
theorem espec_l12Names_l7 (spec_l1Name : ∀ {R : Type}, Nat → ByteArray → (Bool → Option R) → Option R) (spec_l12Names_l7 : ∀ {R : Type}, Nat → (List ByteArray) → Bool → Int → ByteArray → (List ByteArray) → Int → Int → (List ByteArray) → Int → Int → (Bool → Option R) → ((List ByteArray) → Bool → (List ByteArray) → Int → Int → Option R) → Option R) {R : Type} (n : Nat) (y7_0 : List ByteArray) (y7_1 : Bool) (y7_2 : Int) (y7_3 : ByteArray) (y7_4 : List ByteArray) (y7_5 : Int) (y7_6 : Int) (y7_7 : List ByteArray) (y7_8 : Int) (y7_9 : Int) (kk : Ex → Pk → Option R) : Dspec_l12Names_l7.step tt sig (mkK [(70, Kspec_l1Name @spec_l1Name n)] R) (mkL (mkK [(70, Kspec_l1Name @spec_l1Name n)]) [] R) (loopIn 7 (bodyOf Tryd.f64)) (fun q' => Pspec_l12Names_l7 @spec_l12Names_l7 n R q' kk) (PkS.pack Sspec_l12Names_l7 (y7_0, y7_1, y7_2, y7_3, y7_4, y7_5, y7_6, y7_7, y7_8, y7_9, ())) kk = (fun (kret : Bool → Option R) (kexit2 : (List ByteArray) → Bool → (List ByteArray) → Int → Int → Option R) => (bif (decide (y7_9 < y7_8)) then (bif decide (0 ≤ y7_9) then (bif decide (y7_9 < (y7_7.length : Int)) then (bif ((ByteArray.toList (y7_7.getD (Int.toNat y7_9) ByteArray.empty)) == (ByteArray.toList y7_3)) then kret false else (bif y7_1 then (bif (y7_9 == (IntKind.wrap .i64 (y7_2 - 1))) then (bif (!((Op.bytesLess (ByteArray.toList (y7_7.getD (Int.toNat y7_9) ByteArray.empty)) (ByteArray.toList y7_3)) || ((ByteArray.toList (y7_7.getD (Int.toNat y7_9) ByteArray.empty)) == (ByteArray.toList y7_3)))) then kret false else spec_l12Names_l7 n y7_0 y7_1 y7_2 y7_3 y7_4 y7_5 y7_6 y7_7 y7_8 (IntKind.wrap .i64 (y7_9 + 1)) kret kexit2) else spec_l12Names_l7 n y7_0 y7_1 y7_2 y7_3 y7_4 y7_5 y7_6 y7_7 y7_8 (IntKind.wrap .i64 (y7_9 + 1)) kret kexit2) else spec_l12Names_l7 n y7_0 y7_1 y7_2 y7_3 y7_4 y7_5 y7_6 y7_7 y7_8 (IntKind.wrap .i64 (y7_9 + 1)) kret kexit2)) else none) else none) else kexit2 y7_0 y7_1 y7_4 y7_5 y7_6)) (fun r0 => kk .ret (PkS.pack Tspec_l12Names_l7_0 (r0, ()))) (fun r0 r1 r2 r3 r4 => kk (.exit 2) (PkS.pack Tspec_l12Names_l7_1 (r0, r1, r2, r3, r4, ()))) := by kernel_rfl
theorem lespec_l12Names_l7 : LoopEq tt sig (fun n => mkK [(70, Kspec_l1Name @spec_l1Name n)]) (fun n => mkL (mkK [(70, Kspec_l1Name @spec_l1Name n)]) []) Dspec_l12Names_l7 Sspec_l12Names_l7 (loopIn 7 (bodyOf Tryd.f64)) (Pspec_l12Names_l7 @spec_l12Names_l7) where
  zero R q kk := by unfold Pspec_l12Names_l7; cases (PkS.un Sspec_l12Names_l7 q) <;> rfl
  succ n R q kk := by
    unfold Pspec_l12Names_l7
    cases h : (PkS.un Sspec_l12Names_l7 q) with
    | none => rfl
    | some d =>
      obtain ⟨y7_0, y7_1, y7_2, y7_3, y7_4, y7_5, y7_6, y7_7, y7_8, y7_9, u⟩ := (d : (List ByteArray) × Bool × Int × ByteArray × (List ByteArray) × Int × Int × (List ByteArray) × Int × Int × Unit)
      have hp := PkS.un_pack h
      subst hp
      exact (espec_l12Names_l7 @spec_l1Name @spec_l12Names_l7 n y7_0 y7_1 y7_2 y7_3 y7_4 y7_5 y7_6 y7_7 y7_8 y7_9 kk).symm
theorem nlspec_l12Names_l7 : ∀ n, NatLP (Pspec_l12Names_l7 @spec_l12Names_l7 n) := lespec_l12Names_l7.nat (fun n => mkK_nat (cspec_l12Names n)) fun n => mkL_nat (mkK_nat (cspec_l12Names n)) (l := []) trivial
theorem inspec_l12Names_l7 (n : Nat) (R : Type) : LoopsOk Tryd.prog (mkL (mkK [(70, Kspec_l1Name @spec_l1Name n)]) [] R) (loopIn 7 (bodyOf Tryd.f64)) := .eq (l := []) (by kernel_rfl) trivial
theorem lkspec_l12Names_l7 (n : Nat) (R : Type) (L0 : LK R) (h0 : ∀ id, firstRegion (loopIn 7 (bodyOf Tryd.f64)) = some id → L0 id = Dspec_l12Names_l7.oracle (mkK [(70, Kspec_l1Name @spec_l1Name n)] R) (Pspec_l12Names_l7 @spec_l12Names_l7 n R)) : LoopOk Tryd.prog L0 (loopIn 7 (bodyOf Tryd.f64)) :=
  lespec_l12Names_l7.ok mixed ttok (fun n => mkK_nat (cspec_l12Names n)) (fun n => mkK_ok (cspec_l12Names n)) (fun n => inspec_l12Names_l7 n R) (mkK_nat (cspec_l12Names n)) h0
@[reducible] def Sspec_l12Names_l2 : PkS := ⟨[.one (.ro .str), .one (.bool), .one (.ro .str), .one (.int .i64), .one (.int .i64), .one (.dead), .one (.dead)], []⟩
@[reducible] def Tspec_l12Names_l2_0 : PkS := ⟨[.one (.bool), .one (.dead), .one (.dead)], []⟩
@[reducible] def Tspec_l12Names_l2_1 : PkS := ⟨[.one (.ro .str), .one (.dead), .one (.dead)], []⟩
def Dspec_l12Names_l2 : LoopD := ⟨50, [0, 1, 9, 10, 11], [.one (.ro .str), .one .any, .one (.ro .str), .one .any, .one .any, .skip, .skip], fun x => match x with
  | .ret => some ([4], [.one .any, .skip, .skip])
  | .exit 0 => some ([0], [.one (.ro .str), .skip, .skip])
  | _ => none⟩
def Pspec_l12Names_l2 (g : ∀ {R : Type}, Nat → (List ByteArray) → Bool → (List ByteArray) → Int → Int → (Bool → Option R) → ((List ByteArray) → Option R) → Option R) (n : Nat) : LPs := fun R q kk => match (PkS.un Sspec_l12Names_l2 q : Option ((List ByteArray) × Bool × (List ByteArray) × Int × Int × Unit)) with
  | some (y2_0, y2_1, y2_2, y2_3, y2_4, _) => g n y2_0 y2_1 y2_2 y2_3 y2_4 (fun r0 => kk .ret (PkS.pack Tspec_l12Names_l2_0 (r0, ()))) (fun r0 => kk (.exit 0) (PkS.pack Tspec_l12Names_l2_1 (r0, ())))
  | none => none
theorem espec_l12Names_l2 (spec_l1Name : ∀ {R : Type}, Nat → ByteArray → (Bool → Option R) → Option R) (spec_l12Names_l7 : ∀ {R : Type}, Nat → (List ByteArray) → Bool → Int → ByteArray → (List ByteArray) → Int → Int → (List ByteArray) → Int → Int → (Bool → Option R) → ((List ByteArray) → Bool → (List ByteArray) → Int → Int → Option R) → Option R) (spec_l12Names_l2 : ∀ {R : Type}, Nat → (List ByteArray) → Bool → (List ByteArray) → Int → Int → (Bool → Option R) → ((List ByteArray) → Option R) → Option R) {R : Type} (n : Nat) (y2_0 : List ByteArray) (y2_1 : Bool) (y2_2 : List ByteArray) (y2_3 : Int) (y2_4 : Int) (kk : Ex → Pk → Option R) : Dspec_l12Names_l2.step tt sig (mkK [(70, Kspec_l1Name @spec_l1Name n)] R) (mkL (mkK [(70, Kspec_l1Name @spec_l1Name n)]) [(7, Dspec_l12Names_l7, Pspec_l12Names_l7 @spec_l12Names_l7 n)] R) (loopIn 2 (bodyOf Tryd.f64)) (fun q' => Pspec_l12Names_l2 @spec_l12Names_l2 n R q' kk) (PkS.pack Sspec_l12Names_l2 (y2_0, y2_1, y2_2, y2_3, y2_4, ())) kk = (fun (kret : Bool → Option R) (kexit0 : (List ByteArray) → Option R) => (bif (decide (y2_4 < y2_3)) then (bif decide (0 ≤ y2_4) then (bif decide (y2_4 < (y2_2.length : Int)) then (spec_l1Name n (y2_2.getD (Int.toNat y2_4) ByteArray.empty) fun r1 => (bif (!r1) then kret false else (bif decide (0 ≤ y2_4) then (bif decide (y2_4 ≤ (y2_0.length : Int)) then (spec_l12Names_l7 n y2_0 y2_1 y2_4 (y2_2.getD (Int.toNat y2_4) ByteArray.empty) y2_2 y2_3 y2_4 ((y2_0.drop 0).take ((Int.toNat y2_4) - 0)) (((y2_0.drop 0).take ((Int.toNat y2_4) - 0)).length : Int) 0 (fun r2 => kret r2) (fun r3 r4 r5 r6 r7 => spec_l12Names_l2 n r3 r4 r5 r6 (IntKind.wrap .i64 (r7 + 1)) kret kexit0)) else none) else none))) else none) else none) else kexit0 y2_0)) (fun r0 => kk .ret (PkS.pack Tspec_l12Names_l2_0 (r0, ()))) (fun r0 => kk (.exit 0) (PkS.pack Tspec_l12Names_l2_1 (r0, ()))) := by kernel_rfl
theorem lespec_l12Names_l2 : LoopEq tt sig (fun n => mkK [(70, Kspec_l1Name @spec_l1Name n)]) (fun n => mkL (mkK [(70, Kspec_l1Name @spec_l1Name n)]) [(7, Dspec_l12Names_l7, Pspec_l12Names_l7 @spec_l12Names_l7 n)]) Dspec_l12Names_l2 Sspec_l12Names_l2 (loopIn 2 (bodyOf Tryd.f64)) (Pspec_l12Names_l2 @spec_l12Names_l2) where
  zero R q kk := by unfold Pspec_l12Names_l2; cases (PkS.un Sspec_l12Names_l2 q) <;> rfl
  succ n R q kk := by
    unfold Pspec_l12Names_l2
    cases h : (PkS.un Sspec_l12Names_l2 q) with
    | none => rfl
    | some d =>
      obtain ⟨y2_0, y2_1, y2_2, y2_3, y2_4, u⟩ := (d : (List ByteArray) × Bool × (List ByteArray) × Int × Int × Unit)
      have hp := PkS.un_pack h
      subst hp
      exact (espec_l12Names_l2 @spec_l1Name @spec_l12Names_l7 @spec_l12Names_l2 n y2_0 y2_1 y2_2 y2_3 y2_4 kk).symm
theorem nlspec_l12Names_l2 : ∀ n, NatLP (Pspec_l12Names_l2 @spec_l12Names_l2 n) := lespec_l12Names_l2.nat (fun n => mkK_nat (cspec_l12Names n)) fun n => mkL_nat (mkK_nat (cspec_l12Names n)) (l := [(7, Dspec_l12Names_l7, Pspec_l12Names_l7 @spec_l12Names_l7 n)]) ⟨nlspec_l12Names_l7 n, trivial⟩
theorem inspec_l12Names_l2 (n : Nat) (R : Type) : LoopsOk Tryd.prog (mkL (mkK [(70, Kspec_l1Name @spec_l1Name n)]) [(7, Dspec_l12Names_l7, Pspec_l12Names_l7 @spec_l12Names_l7 n)] R) (loopIn 2 (bodyOf Tryd.f64)) := .eq (l := [.lo (loopIn 7 (bodyOf Tryd.f64))]) (by kernel_rfl) ⟨(lkspec_l12Names_l7 n R _ (at_id (i := 7) (by kernel_rfl) rfl)), trivial⟩
theorem lkspec_l12Names_l2 (n : Nat) (R : Type) (L0 : LK R) (h0 : ∀ id, firstRegion (loopIn 2 (bodyOf Tryd.f64)) = some id → L0 id = Dspec_l12Names_l2.oracle (mkK [(70, Kspec_l1Name @spec_l1Name n)] R) (Pspec_l12Names_l2 @spec_l12Names_l2 n R)) : LoopOk Tryd.prog L0 (loopIn 2 (bodyOf Tryd.f64)) :=
  lespec_l12Names_l2.ok mixed ttok (fun n => mkK_nat (cspec_l12Names n)) (fun n => mkK_ok (cspec_l12Names n)) (fun n => inspec_l12Names_l2 n R) (mkK_nat (cspec_l12Names n)) h0
@[reducible] def Sspec_l12Names : PkS := ⟨[.one (.ro .str), .one (.bool)], []⟩
@[reducible] def Tspec_l12Names : PkS := ⟨[.one (.bool), .one (.dead), .one (.dead)], []⟩
def Hspec_l12Names : List Sh := [.one .any, .skip, .skip]
def Kspec_l12Names (g : ∀ {R : Type}, Nat → (List ByteArray) → Bool → (Bool → Option R) → Option R) (n : Nat) : KPs := fun R p k => match (PkS.un Sspec_l12Names p : Option ((List ByteArray) × Bool × Unit)) with
  | some (x0, x1, _) => g n x0 x1 (fun r0 => k (PkS.pack Tspec_l12Names (r0, ())))
  | none => none
theorem espec_l12Names (spec_l1Name : ∀ {R : Type}, Nat → ByteArray → (Bool → Option R) → Option R) (spec_l12Names_l7 : ∀ {R : Type}, Nat → (List ByteArray) → Bool → Int → ByteArray → (List ByteArray) → Int → Int → (List ByteArray) → Int → Int → (Bool → Option R) → ((List ByteArray) → Bool → (List ByteArray) → Int → Int → Option R) → Option R) (spec_l12Names_l2 : ∀ {R : Type}, Nat → (List ByteArray) → Bool → (List ByteArray) → Int → Int → (Bool → Option R) → ((List ByteArray) → Option R) → Option R) {R : Type} (n : Nat) (x0 : List ByteArray) (x1 : Bool) (k : Pk → Option R) : evF tt sig (mkK [(70, Kspec_l1Name @spec_l1Name n)] R) (mkL (mkK [(70, Kspec_l1Name @spec_l1Name n)]) [(7, Dspec_l12Names_l7, Pspec_l12Names_l7 @spec_l12Names_l7 n), (2, Dspec_l12Names_l2, Pspec_l12Names_l2 @spec_l12Names_l2 n)] R) Tryd.f64 Hspec_l12Names (PkS.pack Sspec_l12Names (x0, x1, ())) k = (fun (k : Bool → Option R) => (spec_l12Names_l2 n x0 x1 x0 (x0.length : Int) 0 (fun r8 => k r8) (fun r9 => k (decide ((r9.length : Int) ≤ 30))))) (fun r0 => k (PkS.pack Tspec_l12Names (r0, ()))) := by kernel_rfl
theorem okspec_l12Names (n : Nat) : FnOk Tryd.prog 64 (Kspec_l12Names @spec_l12Names n) := by
  refine fn_ok (sig := sig) mixed ttok (mkK_nat (cspec_l12Names n)) (mkK_ok (cspec_l12Names n)) (mkL_nat (mkK_nat (cspec_l12Names n)) (l := [(7, Dspec_l12Names_l7, Pspec_l12Names_l7 @spec_l12Names_l7 n), (2, Dspec_l12Names_l2, Pspec_l12Names_l2 @spec_l12Names_l2 n)]) ⟨nlspec_l12Names_l7 n, ⟨nlspec_l12Names_l2 n, trivial⟩⟩) (fn := Tryd.f64) (c := bodyOf Tryd.f64) (by kernel_rfl) (by kernel_rfl) (by kernel_rfl) (.eq (l := [.lo (loopIn 2 (bodyOf Tryd.f64))]) (by kernel_rfl) ⟨(lkspec_l12Names_l2 n _ _ (at_id (i := 2) (by kernel_rfl) rfl)), trivial⟩) (shs := Hspec_l12Names) (S := Sspec_l12Names) (h1 := by kernel_rfl) fun R p k => ?_
  unfold Kspec_l12Names
  cases h : (PkS.un Sspec_l12Names p) with
  | none => rfl
  | some d =>
    obtain ⟨x0, x1, u⟩ := (d : (List ByteArray) × Bool × Unit)
    have hp := PkS.un_pack h
    subst hp
    exact (espec_l12Names @spec_l1Name @spec_l12Names_l7 @spec_l12Names_l2 n x0 x1 k).symm

/-! ### loop.example/g00269/spec.GoodState -/
theorem cspec_GoodState (n : Nat) : AllOk Tryd.prog [(59, Kspec_l1In @spec_l1In n), (64, Kspec_l12Names @spec_l12Names n)] := ⟨okspec_l1In n, ⟨okspec_l12Names n, trivial⟩⟩
@[reducible] def Sspec_GoodState : PkS := ⟨[.agg [.int .i64, .int .i64, .bool, .int .i64, .ro .str, .ro .str]], []⟩
@[reducible] def Tspec_GoodState : PkS := ⟨[.one (.bool), .one (.dead)], []⟩
def Hspec_GoodState : List Sh := [.one .any, .skip]
def Kspec_GoodState (g : ∀ {R : Type}, Nat → Int → Int → Bool → Int → (List ByteArray) → (List ByteArray) → (Bool → Option R) → Option R) (n : Nat) : KPs := fun R p k => match (PkS.un Sspec_GoodState p : Option (Int × Int × Bool × Int × (List ByteArray) × (List ByteArray) × Unit)) with
  | some (x0, x1, x2, x3, x4, x5, _) => g n x0 x1 x2 x3 x4 x5 (fun r0 => k (PkS.pack Tspec_GoodState (r0, ())))
  | none => none
theorem espec_GoodState (spec_l1In : ∀ {R : Type}, Nat → Int → Int → Int → (Bool → Option R) → Option R) (spec_l12Names : ∀ {R : Type}, Nat → (List ByteArray) → Bool → (Bool → Option R) → Option R) {R : Type} (n : Nat) (x0 : Int) (x1 : Int) (x2 : Bool) (x3 : Int) (x4 : List ByteArray) (x5 : List ByteArray) (k : Pk → Option R) : evF tt sig (mkK [(59, Kspec_l1In @spec_l1In n), (64, Kspec_l12Names @spec_l12Names n)] R) (mkL (mkK [(59, Kspec_l1In @spec_l1In n), (64, Kspec_l12Names @spec_l12Names n)]) [] R) Tryd.f29 Hspec_GoodState (PkS.pack Sspec_GoodState (x0, x1, x2, x3, x4, x5, ())) k = (fun (k : Bool → Option R) => (spec_l1In n x1 1 1001 fun r1 => (bif (!r1) then k false else (spec_l1In n x3 0 1000 fun r2 => (bif (!r2) then k false else (spec_l12Names n x4 false fun r3 => (bif (!r3) then k false else (spec_l12Names n x5 true fun r4 => (bif (!r4) then k false else (spec_l1In n x0 0 2 fun r5 => (bif (!r5) then k false else (bif (x0 == 0) then (bif (x1 == 1) then (bif (!x2) then (bif (x3 == 0) then (bif ((x4.length : Int) == 0) then k ((x5.length : Int) == 0) else k false) else k false) else k false) else k false) else k (decide (x1 > 1)))))))))))))) (fun r0 => k (PkS.pack Tspec_GoodState (r0, ()))) := by kernel_rfl
theorem okspec_GoodState (n : Nat) : FnOk Tryd.prog 29 (Kspec_GoodState @spec_GoodState n) := by
  refine fn_ok (sig := sig) mixed ttok (mkK_nat (cspec_GoodState n)) (mkK_ok (cspec_GoodState n)) (mkL_nat (mkK_nat (cspec_GoodState n)) (l := []) trivial) (fn := Tryd.f29) (c := bodyOf Tryd.f29) (by kernel_rfl) (by kernel_rfl) (by kernel_rfl) (.eq (l := []) (by kernel_rfl) trivial) (shs := Hspec_GoodState) (S := Sspec_GoodState) (h1 := by kernel_rfl) fun R p k => ?_
  unfold Kspec_GoodState
  cases h : (PkS.un Sspec_GoodState p) with
  | none => rfl
  | some d =>
    obtain ⟨x0, x1, x2, x3, x4, x5, u⟩ := (d : Int × Int × Bool × Int × (List ByteArray) × (List ByteArray) × Unit)
    have hp := PkS.un_pack h
    subst hp
    exact (espec_GoodState @spec_l1In @spec_l12Names n x0 x1 x2 x3 x4 x5 k).symm

/-! ### loop.example/g00269/impl.in -/
theorem cimpl_in (n : Nat) : AllOk Tryd.prog [] := trivial
@[reducible] def Simpl_in : PkS := ⟨[.one (.int .i64), .one (.int .i64), .one (.int .i64)], []⟩
@[reducible] def Timpl_in : PkS := ⟨[.one (.bool), .one (.dead), .one (.dead), .one (.dead)], []⟩
def Himpl_in : List Sh := [.one .any, .skip, .skip, .skip]
def Kimpl_in (g : ∀ {R : Type}, Nat → Int → Int → Int → (Bool → Option R) → Option R) (n : Nat) : KPs := fun R p k => match (PkS.un Simpl_in p : Option (Int × Int × Int × Unit)) with
  | some (x0, x1, x2, _) => g n x0 x1 x2 (fun r0 => k (PkS.pack Timpl_in (r0, ())))
  | none => none
theorem eimpl_in  {R : Type} (n : Nat) (x0 : Int) (x1 : Int) (x2 : Int) (k : Pk → Option R) : evF tt sig (mkK [] R) (mkL (mkK []) [] R) Tryd.f53 Himpl_in (PkS.pack Simpl_in (x0, x1, x2, ())) k = (fun (k : Bool → Option R) => (bif (decide (x0 ≥ x1)) then k (decide (x0 ≤ x2)) else k false)) (fun r0 => k (PkS.pack Timpl_in (r0, ()))) := by kernel_rfl
theorem okimpl_in (n : Nat) : FnOk Tryd.prog 53 (Kimpl_in @impl_in n) := by
  refine fn_ok (sig := sig) mixed ttok (mkK_nat (cimpl_in n)) (mkK_ok (cimpl_in n)) (mkL_nat (mkK_nat (cimpl_in n)) (l := []) trivial) (fn := Tryd.f53) (c := bodyOf Tryd.f53) (by kernel_rfl) (by kernel_rfl) (by kernel_rfl) (.eq (l := []) (by kernel_rfl) trivial) (shs := Himpl_in) (S := Simpl_in) (h1 := by kernel_rfl) fun R p k => ?_
  unfold Kimpl_in
  cases h : (PkS.un Simpl_in p) with
  | none => rfl
  | some d =>
    obtain ⟨x0, x1, x2, u⟩ := (d : Int × Int × Int × Unit)
    have hp := PkS.un_pack h
    subst hp
    exact (eimpl_in  n x0 x1 x2 k).symm

/-! ### strings.Trim -/
theorem cstrings_Trim (n : Nat) : AllOk Tryd.prog [] := trivial
@[reducible] def Sstrings_Trim : PkS := ⟨[.one (.str), .one (.str)], []⟩
@[reducible] def Tstrings_Trim : PkS := ⟨[.one (.str), .one (.dead), .one (.dead)], []⟩
def Kstrings_Trim (g : ∀ {R : Type}, Nat → ByteArray → ByteArray → (ByteArray → Option R) → Option R) (n : Nat) : KPs := fun R p k => match (PkS.un Sstrings_Trim p : Option (ByteArray × ByteArray × Unit)) with
  | some (x0, x1, _) => g n x0 x1 (fun r0 => k (PkS.pack Tstrings_Trim (r0, ())))
  | none => none
def ren160 : Go.Shelf.Ren := ⟨fun n => match n with
  | 160 => 92
  | 232 => 101
  | 231 => 100
  | 227 => 102
  | 234 => 104
  | 233 => 103
  | 236 => 106
  | 235 => 105
  | 228 => 110
  | 271 => 113
  | 151 => 112
  | 197 => 111
  | 120 => 119
  | 152 => 118
  | 260 => 117
  | 137 => 121
  | 119 => 122
  | 224 => 123
  | 225 => 124
  | 217 => 126
  | 266 => 127
  | _ => 0, fun n => match n with
  | 0 => 0
  | 3 => 3
  | 4 => 4
  | 5 => 5
  | 9 => 9
  | 21 => 21
  | 46 => 112
  | 105 => 125
  | 116 => 116
  | 117 => 117
  | 119 => 130
  | 124 => 120
  | 138 => 132
  | 139 => 133
  | _ => 0, fun n => match n with
  | 3 => 0
  | 4 => 1
  | _ => 0⟩
theorem lays160 : Go.Proofs.Lays.n160 Tryd.prog ren160 where
  mixed := by kernel_rfl
  f119 := by kernel_rfl
  f120 := by kernel_rfl
  f137 := by kernel_rfl
  f151 := by kernel_rfl
  f152 := by kernel_rfl
  f160 := by kernel_rfl
  f197 := by kernel_rfl
  f217 := by kernel_rfl
  f224 := by kernel_rfl
  f225 := by kernel_rfl
  f227 := by kernel_rfl
  f228 := by kernel_rfl
  f231 := by kernel_rfl
  f232 := by kernel_rfl
  f233 := by kernel_rfl
  f234 := by kernel_rfl
  f235 := by kernel_rfl
  f236 := by kernel_rfl
  f260 := by kernel_rfl
  f266 := by kernel_rfl
  f271 := by kernel_rfl
  t0 := by kernel_rfl
  a0 w := by kernel_rfl
  z0 w := by kernel_rfl
  v0 w := by kernel_rfl
  t3 := by kernel_rfl
  a3 w := by kernel_rfl
  z3 w := by kernel_rfl
  v3 w := by kernel_rfl
  t4 := by kernel_rfl
  a4 w := by kernel_rfl
  z4 w := by kernel_rfl
  v4 w := by kernel_rfl
  t5 := by kernel_rfl
  a5 w := by kernel_rfl
  z5 w := by kernel_rfl
  v5 w := by kernel_rfl
  t9 := by kernel_rfl
  a9 w := by kernel_rfl
  z9 w := by kernel_rfl
  v9 w := by kernel_rfl
  t21 := by kernel_rfl
  a21 w := by kernel_rfl
  z21 w := by kernel_rfl
  v21 w := by kernel_rfl
  t46 := by kernel_rfl
  a46 w := by kernel_rfl
  z46 w := by kernel_rfl
  v46 w := by kernel_rfl
  t105 := by kernel_rfl
  a105 w := by kernel_rfl
  z105 w := by kernel_rfl
  v105 w := by kernel_rfl
  t116 := by kernel_rfl
  a116 w := by kernel_rfl
  z116 w := by kernel_rfl
  t117 := by kernel_rfl
  a117 w := by kernel_rfl
  z117 w := by kernel_rfl
  v117 w := by kernel_rfl
  t119 := by kernel_rfl
  a119 w := by kernel_rfl
  z119 w := by kernel_rfl
  t124 := by kernel_rfl
  a124 w := by kernel_rfl
  z124 w := by kernel_rfl
  v124 w := by kernel_rfl
  t138 := by kernel_rfl
  a138 w := by kernel_rfl
  z138 w := by kernel_rfl
  v138 w := by kernel_rfl
  t139 := by kernel_rfl
  a139 w := by kernel_rfl
  z139 w := by kernel_rfl
  v139 w := by kernel_rfl
  g3 := by kernel_rfl
  g4 := by kernel_rfl
theorem okstrings_Trim (n : Nat) : FnOk Tryd.prog 92 (Kstrings_Trim @strings_Trim n) := by
  have e : Kstrings_Trim @strings_Trim n = trimK := by kernel_rfl
  rw [e]
  exact trim_ok lays160 (by kernel_rfl) rfl (fn := Tryd.f92) (c := bodyOf Tryd.f92) (by kernel_rfl) (by kernel_rfl) (by kernel_rfl)

/-! ### loop.example/g00269/impl.goodName -/
theorem cimpl_goodName (n : Nat) : AllOk Tryd.prog [(92, Kstrings_Trim @strings_Trim n)] := ⟨okstrings_Trim n, trivial⟩
@[reducible] def Simpl_goodName : PkS := ⟨[.one (.str)], []⟩
@[reducible] def Timpl_goodName : PkS := ⟨[.one (.bool), .one (.dead)], []⟩
def Himpl_goodName : List Sh := [.one .any, .skip]
def Kimpl_goodName (g : ∀ {R : Type}, Nat → ByteArray → (Bool → Option R) → Option R) (n : Nat) : KPs := fun R p k => match (PkS.un Simpl_goodName p : Option (ByteArray × Unit)) with
  | some (x0, _) => g n x0 (fun r0 => k (PkS.pack Timpl_goodName (r0, ())))
  | none => none
theorem eimpl_goodName (strings_Trim : ∀ {R : Type}, Nat → ByteArray → ByteArray → (ByteArray → Option R) → Option R) {R : Type} (n : Nat) (x0 : ByteArray) (k : Pk → Option R) : evF tt sig (mkK [(92, Kstrings_Trim @strings_Trim n)] R) (mkL (mkK [(92, Kstrings_Trim @strings_Trim n)]) [] R) Tryd.f73 Himpl_goodName (PkS.pack Simpl_goodName (x0, ())) k = (fun (k : Bool → Option R) => (bif (decide ((x0.size : Int) ≤ 12)) then (strings_Trim n x0 (ByteArray.mk #[97, 98, 99, 100, 101, 102, 103, 104, 105, 106, 107, 108, 109, 110, 111, 112, 113, 114, 115, 116, 117, 118, 119, 120, 121, 122, 48, 49, 50, 51, 52, 53, 54, 55, 56, 57]) fun r1 => k ((ByteArray.toList r1) == (ByteArray.toList (ByteArray.mk #[])))) else k false)) (fun r0 => k (PkS.pack Timpl_goodName (r0, ()))) := by kernel_rfl
theorem okimpl_goodName (n : Nat) : FnOk Tryd.prog 73 (Kimpl_goodName @impl_goodName n) := by
  refine fn_ok (sig := sig) mixed ttok (mkK_nat (cimpl_goodName n)) (mkK_ok (cimpl_goodName n)) (mkL_nat (mkK_nat (cimpl_goodName n)) (l := []) trivial) (fn := Tryd.f73) (c := bodyOf Tryd.f73) (by kernel_rfl) (by kernel_rfl) (by kernel_rfl) (.eq (l := []) (by kernel_rfl) trivial) (shs := Himpl_goodName) (S := Simpl_goodName) (h1 := by kernel_rfl) fun R p k => ?_
  unfold Kimpl_goodName
  cases h : (PkS.un Simpl_goodName p) with
  | none => rfl
  | some d =>
    obtain ⟨x0, u⟩ := (d : ByteArray × Unit)
    have hp := PkS.un_pack h
    subst hp
    exact (eimpl_goodName @strings_Trim n x0 k).symm

/-! ### loop.example/g00269/impl.namesOk$1 -/
theorem cimpl_namesOk_c1 (n : Nat) : AllOk Tryd.prog [(73, Kimpl_goodName @impl_goodName n)] := ⟨okimpl_goodName n, trivial⟩
@[reducible] def Simpl_namesOk_c1 : PkS := ⟨[.one (.str)], []⟩
@[reducible] def Timpl_namesOk_c1 : PkS := ⟨[.one (.bool), .one (.dead)], []⟩
def Himpl_namesOk_c1 : List Sh := [.one .any, .skip]
def Kimpl_namesOk_c1 (g : ∀ {R : Type}, Nat → ByteArray → (Bool → Option R) → Option R) (n : Nat) : KPs := fun R p k => match (PkS.un Simpl_namesOk_c1 p : Option (ByteArray × Unit)) with
  | some (x0, _) => g n x0 (fun r0 => k (PkS.pack Timpl_namesOk_c1 (r0, ())))
  | none => none
theorem eimpl_namesOk_c1 (impl_goodName : ∀ {R : Type}, Nat → ByteArray → (Bool → Option R) → Option R) {R : Type} (n : Nat) (x0 : ByteArray) (k : Pk → Option R) : evF tt sig (mkK [(73, Kimpl_goodName @impl_goodName n)] R) (mkL (mkK [(73, Kimpl_goodName @impl_goodName n)]) [] R) Tryd.f86 Himpl_namesOk_c1 (PkS.pack Simpl_namesOk_c1 (x0, ())) k = (fun (k : Bool → Option R) => (impl_goodName n x0 fun r1 => k (!r1))) (fun r0 => k (PkS.pack Timpl_namesOk_c1 (r0, ()))) := by kernel_rfl
theorem okimpl_namesOk_c1 (n : Nat) : FnOk Tryd.prog 86 (Kimpl_namesOk_c1 @impl_namesOk_c1 n) := by
  refine fn_ok (sig := sig) mixed ttok (mkK_nat (cimpl_namesOk_c1 n)) (mkK_ok (cimpl_namesOk_c1 n)) (mkL_nat (mkK_nat (cimpl_namesOk_c1 n)) (l := []) trivial) (fn := Tryd.f86) (c := bodyOf Tryd.f86) (by kernel_rfl) (by kernel_rfl) (by kernel_rfl) (.eq (l := []) (by kernel_rfl) trivial) (shs := Himpl_namesOk_c1) (S := Simpl_namesOk_c1) (h1 := by kernel_rfl) fun R p k => ?_
  unfold Kimpl_namesOk_c1
  cases h : (PkS.un Simpl_namesOk_c1 p) with
  | none => rfl
  | some d =>
    obtain ⟨x0, u⟩ := (d : ByteArray × Unit)
    have hp := PkS.un_pack h
    subst hp
    exact (eimpl_namesOk_c1 @impl_goodName n x0 k).symm

/-! ### slices.IndexFunc[[]string,string] -/
theorem cslices_IndexFunc_string_impl_namesOk_c1 (n : Nat) : AllOk Tryd.prog [(86, Kimpl_namesOk_c1 @impl_namesOk_c1 n)] := ⟨okimpl_namesOk_c1 n, trivial⟩
@[reducible] def Sslices_IndexFunc_string_impl_namesOk_c1_l2 : PkS := ⟨[.one (.ro .str), .one (.fn 86 []), .one (.int .i64), .one (.int .i64), .one (.dead), .one (.fn 86 [])], []⟩
@[reducible] def Tslices_IndexFunc_string_impl_namesOk_c1_l2_0 : PkS := ⟨[.one (.int .i64), .one (.dead), .one (.fn 86 [])], []⟩
@[reducible] def Tslices_IndexFunc_string_impl_namesOk_c1_l2_1 : PkS := ⟨[.one (.dead), .one (.fn 86 [])], []⟩
def Dslices_IndexFunc_string_impl_namesOk_c1_l2 : LoopD := ⟨19, [0, 1, 7, 8], [.one (.ro .str), .fn 86 [], .one .any, .one .any, .skip, .fn 86 []], fun x => match x with
  | .ret => some ([4], [.one .any, .skip, .fn 86 []])
  | .exit 0 => some ([], [.skip, .fn 86 []])
  | _ => none⟩
def Pslices_IndexFunc_string_impl_namesOk_c1_l2 (g : ∀ {R : Type}, Nat → (List ByteArray) → Int → Int → (Int → Option R) → (Option R) → Option R) (n : Nat) : LPs := fun R q kk => match (PkS.un Sslices_IndexFunc_string_impl_namesOk_c1_l2 q : Option ((List ByteArray) × Int × Int × Unit)) with
  | some (y2_0, y2_1, y2_2, _) => g n y2_0 y2_1 y2_2 (fun r0 => kk .ret (PkS.pack Tslices_IndexFunc_string_impl_namesOk_c1_l2_0 (r0, ()))) (kk (.exit 0) (PkS.pack Tslices_IndexFunc_string_impl_namesOk_c1_l2_1 ()))
  | none => none
theorem eslices_IndexFunc_string_impl_namesOk_c1_l2 (impl_namesOk_c1 : ∀ {R : Type}, Nat → ByteArray → (Bool → Option R) → Option R) (slices_IndexFunc_string_impl_namesOk_c1_l2 : ∀ {R : Type}, Nat → (List ByteArray) → Int → Int → (Int → Option R) → (Option R) → Option R) {R : Type} (n : Nat) (y2_0 : List ByteArray) (y2_1 : Int) (y2_2 : Int) (kk : Ex → Pk → Option R) : Dslices_IndexFunc_string_impl_namesOk_c1_l2.step tt sig (mkK [(86, Kimpl_namesOk_c1 @impl_namesOk_c1 n)] R) (mkL (mkK [(86, Kimpl_namesOk_c1 @impl_namesOk_c1 n)]) [] R) (loopIn 2 (bodyOf Tryd.f97)) (fun q' => Pslices_IndexFunc_string_impl_namesOk_c1_l2 @slices_IndexFunc_string_impl_namesOk_c1_l2 n R q' kk) (PkS.pack Sslices_IndexFunc_string_impl_namesOk_c1_l2 (y2_0, y2_1, y2_2, ())) kk = (fun (kret : Int → Option R) (kexit0 : Option R) => (bif (decide (y2_2 < y2_1)) then (bif decide (0 ≤ y2_2) then (bif decide (y2_2 < (y2_0.length : Int)) then (impl_namesOk_c1 n (y2_0.getD (Int.toNat y2_2) ByteArray.empty) fun r1 => (bif r1 then kret y2_2 else slices_IndexFunc_string_impl_namesOk_c1_l2 n y2_0 y2_1 (IntKind.wrap .i64 (y2_2 + 1)) kret kexit0)) else none) else none) else kexit0)) (fun r0 => kk .ret (PkS.pack Tslices_IndexFunc_string_impl_namesOk_c1_l2_0 (r0, ()))) (kk (.exit 0) (PkS.pack Tslices_IndexFunc_string_impl_namesOk_c1_l2_1 ())) := by kernel_rfl
theorem leslices_IndexFunc_string_impl_namesOk_c1_l2 : LoopEq tt sig (fun n => mkK [(86, Kimpl_namesOk_c1 @impl_namesOk_c1 n)]) (fun n => mkL (mkK [(86, Kimpl_namesOk_c1 @impl_namesOk_c1 n)]) []) Dslices_IndexFunc_string_impl_namesOk_c1_l2 Sslices_IndexFunc_string_impl_namesOk_c1_l2 (loopIn 2 (bodyOf Tryd.f97)) (Pslices_IndexFunc_string_impl_namesOk_c1_l2 @slices_IndexFunc_string_impl_namesOk_c1_l2) where
  zero R q kk := by unfold Pslices_IndexFunc_string_impl_namesOk_c1_l2; cases (PkS.un Sslices_IndexFunc_string_impl_namesOk_c1_l2 q) <;> rfl
  succ n R q kk := by
    unfold Pslices_IndexFunc_string_impl_namesOk_c1_l2
    cases h : (PkS.un Sslices_IndexFunc_string_impl_namesOk_c1_l2 q) with
    | none => rfl
    | some d =>
      obtain ⟨y2_0, y2_1, y2_2, u⟩ := (d : (List ByteArray) × Int × Int × Unit)
      have hp := PkS.un_pack h
      subst hp
      exact (eslices_IndexFunc_string_impl_namesOk_c1_l2 @impl_namesOk_c1 @slices_IndexFunc_string_impl_namesOk_c1_l2 n y2_0 y2_1 y2_2 kk).symm
theorem nlslices_IndexFunc_string_impl_namesOk_c1_l2 : ∀ n, NatLP (Pslices_IndexFunc_string_impl_namesOk_c1_l2 @slices_IndexFunc_string_impl_namesOk_c1_l2 n) := leslices_IndexFunc_string_impl_namesOk_c1_l2.nat (fun n => mkK_nat (cslices_IndexFunc_string_impl_namesOk_c1 n)) fun n => mkL_nat (mkK_nat (cslices_IndexFunc_string_impl_namesOk_c1 n)) (l := []) trivial
theorem inslices_IndexFunc_string_impl_namesOk_c1_l2 (n : Nat) (R : Type) : LoopsOk Tryd.prog (mkL (mkK [(86, Kimpl_namesOk_c1 @impl_namesOk_c1 n)]) [] R) (loopIn 2 (bodyOf Tryd.f97)) := .eq (l := []) (by kernel_rfl) trivial
theorem lkslices_IndexFunc_string_impl_namesOk_c1_l2 (n : Nat) (R : Type) (L0 : LK R) (h0 : ∀ id, firstRegion (loopIn 2 (bodyOf Tryd.f97)) = some id → L0 id = Dslices_IndexFunc_string_impl_namesOk_c1_l2.oracle (mkK [(86, Kimpl_namesOk_c1 @impl_namesOk_c1 n)] R) (Pslices_IndexFunc_string_impl_namesOk_c1_l2 @slices_IndexFunc_string_impl_namesOk_c1_l2 n R)) : LoopOk Tryd.prog L0 (loopIn 2 (bodyOf Tryd.f97)) :=
  leslices_IndexFunc_string_impl_namesOk_c1_l2.ok mixed ttok (fun n => mkK_nat (cslices_IndexFunc_string_impl_namesOk_c1 n)) (fun n => mkK_ok (cslices_IndexFunc_string_impl_namesOk_c1 n)) (fun n => inslices_IndexFunc_string_impl_namesOk_c1_l2 n R) (mkK_nat (cslices_IndexFunc_string_impl_namesOk_c1 n)) h0
@[reducible] def Sslices_IndexFunc_string_impl_namesOk_c1 : PkS := ⟨[.one (.ro .str), .one (.fn 86 [])], []⟩
@[reducible] def Tslices_IndexFunc_string_impl_namesOk_c1 : PkS := ⟨[.one (.int .i64), .one (.dead), .one (.fn 86 [])], []⟩
def Hslices_IndexFunc_string_impl_namesOk_c1 : List Sh := [.one .any, .skip, .fn 86 []]
def Kslices_IndexFunc_string_impl_namesOk_c1 (g : ∀ {R : Type}, Nat → (List ByteArray) → (Int → Option R) → Option R) (n : Nat) : KPs := fun R p k => match (PkS.un Sslices_IndexFunc_string_impl_namesOk_c1 p : Option ((List ByteArray) × Unit)) with
  | some (x0, _) => g n x0 (fun r0 => k (PkS.pack Tslices_IndexFunc_string_impl_namesOk_c1 (r0, ())))
  | none => none
theorem eslices_IndexFunc_string_impl_namesOk_c1 (impl_namesOk_c1 : ∀ {R : Type}, Nat → ByteArray → (Bool → Option R) → Option R) (slices_IndexFunc_string_impl_namesOk_c1_l2 : ∀ {R : Type}, Nat → (List ByteArray) → Int → Int → (Int → Option R) → (Option R) → Option R) {R : Type} (n : Nat) (x0 : List ByteArray) (k : Pk → Option R) : evF tt sig (mkK [(86, Kimpl_namesOk_c1 @impl_namesOk_c1 n)] R) (mkL (mkK [(86, Kimpl_namesOk_c1 @impl_namesOk_c1 n)]) [(2, Dslices_IndexFunc_string_impl_namesOk_c1_l2, Pslices_IndexFunc_string_impl_namesOk_c1_l2 @slices_IndexFunc_string_impl_namesOk_c1_l2 n)] R) Tryd.f97 Hslices_IndexFunc_string_impl_namesOk_c1 (PkS.pack Sslices_IndexFunc_string_impl_namesOk_c1 (x0, ())) k = (fun (k : Int → Option R) => (slices_IndexFunc_string_impl_namesOk_c1_l2 n x0 (x0.length : Int) 0 (fun r2 => k r2) (k (-1)))) (fun r0 => k (PkS.pack Tslices_IndexFunc_string_impl_namesOk_c1 (r0, ()))) := by kernel_rfl
theorem okslices_IndexFunc_string_impl_namesOk_c1 (n : Nat) : FnOk Tryd.prog 97 (Kslices_IndexFunc_string_impl_namesOk_c1 @slices_IndexFunc_string_impl_namesOk_c1 n) := by
  refine fn_ok (sig := sig) mixed ttok (mkK_nat (cslices_IndexFunc_string_impl_namesOk_c1 n)) (mkK_ok (cslices_IndexFunc_string_impl_namesOk_c1 n)) (mkL_nat (mkK_nat (cslices_IndexFunc_string_impl_namesOk_c1 n)) (l := [(2, Dslices_IndexFunc_string_impl_namesOk_c1_l2, Pslices_IndexFunc_string_impl_namesOk_c1_l2 @slices_IndexFunc_string_impl_namesOk_c1_l2 n)]) ⟨nlslices_IndexFunc_string_impl_namesOk_c1_l2 n, trivial⟩) (fn := Tryd.f97) (c := bodyOf Tryd.f97) (by kernel_rfl) (by kernel_rfl) (by kernel_rfl) (.eq (l := [.lo (loopIn 2 (bodyOf Tryd.f97))]) (by kernel_rfl) ⟨(lkslices_IndexFunc_string_impl_namesOk_c1_l2 n _ _ (at_id (i := 2) (by kernel_rfl) rfl)), trivial⟩) (shs := Hslices_IndexFunc_string_impl_namesOk_c1) (S := Sslices_IndexFunc_string_impl_namesOk_c1) (h1 := by kernel_rfl) fun R p k => ?_
  unfold Kslices_IndexFunc_string_impl_namesOk_c1
  cases h : (PkS.un Sslices_IndexFunc_string_impl_namesOk_c1 p) with
  | none => rfl
  | some d =>
    obtain ⟨x0, u⟩ := (d : (List ByteArray) × Unit)
    have hp := PkS.un_pack h
    subst hp
    exact (eslices_IndexFunc_string_impl_namesOk_c1 @impl_namesOk_c1 @slices_IndexFunc_string_impl_namesOk_c1_l2 n x0 k).symm

/-! ### slices.ContainsFunc[[]string,string] -/
theorem cslices_ContainsFunc_string_impl_namesOk_c1 (n : Nat) : AllOk Tryd.prog [(97, Kslices_IndexFunc_string_impl_namesOk_c1 @slices_IndexFunc_string_impl_namesOk_c1 n)] := ⟨okslices_IndexFunc_string_impl_namesOk_c1 n, trivial⟩
@[reducible] def Sslices_ContainsFunc_string_impl_namesOk_c1 : PkS := ⟨[.one (.ro .str), .one (.fn 86 [])], []⟩
@[reducible] def Tslices_ContainsFunc_string_impl_namesOk_c1 : PkS := ⟨[.one (.bool), .one (.dead), .one (.fn 86 [])], []⟩
def Hslices_ContainsFunc_string_impl_namesOk_c1 : List Sh := [.one .any, .skip, .fn 86 []]
def Kslices_ContainsFunc_string_impl_namesOk_c1 (g : ∀ {R : Type}, Nat → (List ByteArray) → (Bool → Option R) → Option R) (n : Nat) : KPs := fun R p k => match (PkS.un Sslices_ContainsFunc_string_impl_namesOk_c1 p : Option ((List ByteArray) × Unit)) with
  | some (x0, _) => g n x0 (fun r0 => k (PkS.pack Tslices_ContainsFunc_string_impl_namesOk_c1 (r0, ())))
  | none => none
theorem eslices_ContainsFunc_string_impl_namesOk_c1 (slices_IndexFunc_string_impl_namesOk_c1 : ∀ {R : Type}, Nat → (List ByteArray) → (Int → Option R) → Option R) {R : Type} (n : Nat) (x0 : List ByteArray) (k : Pk → Option R) : evF tt sig (mkK [(97, Kslices_IndexFunc_string_impl_namesOk_c1 @slices_IndexFunc_string_impl_namesOk_c1 n)] R) (mkL (mkK [(97, Kslices_IndexFunc_string_impl_namesOk_c1 @slices_IndexFunc_string_impl_namesOk_c1 n)]) [] R) Tryd.f85 Hslices_ContainsFunc_string_impl_namesOk_c1 (PkS.pack Sslices_ContainsFunc_string_impl_namesOk_c1 (x0, ())) k = (fun (k : Bool → Option R) => (slices_IndexFunc_string_impl_namesOk_c1 n x0 fun r1 => k (decide (r1 ≥ 0)))) (fun r0 => k (PkS.pack Tslices_ContainsFunc_string_impl_namesOk_c1 (r0, ()))) := by kernel_rfl
theorem okslices_ContainsFunc_string_impl_namesOk_c1 (n : Nat) : FnOk Tryd.prog 85 (Kslices_ContainsFunc_string_impl_namesOk_c1 @slices_ContainsFunc_string_impl_namesOk_c1 n) := by
  refine fn_ok (sig := sig) mixed ttok (mkK_nat (cslices_ContainsFunc_string_impl_namesOk_c1 n)) (mkK_ok (cslices_ContainsFunc_string_impl_namesOk_c1 n)) (mkL_nat (mkK_nat (cslices_ContainsFunc_string_impl_namesOk_c1 n)) (l := []) trivial) (fn := Tryd.f85) (c := bodyOf Tryd.f85) (by kernel_rfl) (by kernel_rfl) (by kernel_rfl) (.eq (l := []) (by kernel_rfl) trivial) (shs := Hslices_ContainsFunc_string_impl_namesOk_c1) (S := Sslices_ContainsFunc_string_impl_namesOk_c1) (h1 := by kernel_rfl) fun R p k => ?_
  unfold Kslices_ContainsFunc_string_impl_namesOk_c1
  cases h : (PkS.un Sslices_ContainsFunc_string_impl_namesOk_c1 p) with
  | none => rfl
  | some d =>
    obtain ⟨x0, u⟩ := (d : (List ByteArray) × Unit)
    have hp := PkS.un_pack h
    subst hp
    exact (eslices_ContainsFunc_string_impl_namesOk_c1 @slices_IndexFunc_string_impl_namesOk_c1 n x0 k).symm

/-! ### loop.example/g00269/impl.namesOk -/
theorem cimpl_namesOk (n : Nat) : AllOk Tryd.prog [(85, Kslices_ContainsFunc_string_impl_namesOk_c1 @slices_ContainsFunc_string_impl_namesOk_c1 n)] := ⟨okslices_ContainsFunc_string_impl_namesOk_c1 n, trivial⟩
@[reducible] def Simpl_namesOk : PkS := ⟨[.one (.ro .str), .one (.int .i64)], []⟩
@[reducible] def Timpl_namesOk : PkS := ⟨[.one (.bool), .one (.dead), .one (.dead)], []⟩
def Himpl_namesOk : List Sh := [.one .any, .skip, .skip]
def Kimpl_namesOk (g : ∀ {R : Type}, Nat → (List ByteArray) → Int → (Bool → Option R) → Option R) (n : Nat) : KPs := fun R p k => match (PkS.un Simpl_namesOk p : Option ((List ByteArray) × Int × Unit)) with
  | some (x0, x1, _) => g n x0 x1 (fun r0 => k (PkS.pack Timpl_namesOk (r0, ())))
  | none => none
theorem eimpl_namesOk (slices_ContainsFunc_string_impl_namesOk_c1 : ∀ {R : Type}, Nat → (List ByteArray) → (Bool → Option R) → Option R) {R : Type} (n : Nat) (x0 : List ByteArray) (x1 : Int) (k : Pk → Option R) : evF tt sig (mkK [(85, Kslices_ContainsFunc_string_impl_namesOk_c1 @slices_ContainsFunc_string_impl_namesOk_c1 n)] R) (mkL (mkK [(85, Kslices_ContainsFunc_string_impl_namesOk_c1 @slices_ContainsFunc_string_impl_namesOk_c1 n)]) [] R) Tryd.f66 Himpl_namesOk (PkS.pack Simpl_namesOk (x0, x1, ())) k = (fun (k : Bool → Option R) => (bif (decide ((x0.length : Int) ≤ x1)) then (slices_ContainsFunc_string_impl_namesOk_c1 n x0 fun r1 => k (!r1)) else k false)) (fun r0 => k (PkS.pack Timpl_namesOk (r0, ()))) := by kernel_rfl
theorem okimpl_namesOk (n : Nat) : FnOk Tryd.prog 66 (Kimpl_namesOk @impl_namesOk n) := by
  refine fn_ok (sig := sig) mixed ttok (mkK_nat (cimpl_namesOk n)) (mkK_ok (cimpl_namesOk n)) (mkL_nat (mkK_nat (cimpl_namesOk n)) (l := []) trivial) (fn := Tryd.f66) (c := bodyOf Tryd.f66) (by kernel_rfl) (by kernel_rfl) (by kernel_rfl) (.eq (l := []) (by kernel_rfl) trivial) (shs := Himpl_namesOk) (S := Simpl_namesOk) (h1 := by kernel_rfl) fun R p k => ?_
  unfold Kimpl_namesOk
  cases h : (PkS.un Simpl_namesOk p) with
  | none => rfl
  | some d =>
    obtain ⟨x0, x1, u⟩ := (d : (List ByteArray) × Int × Unit)
    have hp := PkS.un_pack h
    subst hp
    exact (eimpl_namesOk @slices_ContainsFunc_string_impl_namesOk_c1 n x0 x1 k).symm

/-! ### slices.Index[[]string,string] -/
theorem cslices_Index_string (n : Nat) : AllOk Tryd.prog [] := trivial
@[reducible] def Sslices_Index_string_l2 : PkS := ⟨[.one (.ro .str), .one (.str), .one (.int .i64), .one (.int .i64), .one (.dead), .one (.dead)], []⟩
@[reducible] def Tslices_Index_string_l2_0 : PkS := ⟨[.one (.int .i64), .one (.dead), .one (.dead)], []⟩
@[reducible] def Tslices_Index_string_l2_1 : PkS := ⟨[.one (.dead), .one (.dead)], []⟩
def Dslices_Index_string_l2 : LoopD := ⟨19, [0, 1, 7, 8], [.one (.ro .str), .one .any, .one .any, .one .any, .skip, .skip], fun x => match x with
  | .ret => some ([4], [.one .any, .skip, .skip])
  | .exit 0 => some ([], [.skip, .skip])
  | _ => none⟩
def Pslices_Index_string_l2 (g : ∀ {R : Type}, Nat → (List ByteArray) → ByteArray → Int → Int → (Int → Option R) → (Option R) → Option R) (n : Nat) : LPs := fun R q kk => match (PkS.un Sslices_Index_string_l2 q : Option ((List ByteArray) × ByteArray × Int × Int × Unit)) with
  | some (y2_0, y2_1, y2_2, y2_3, _) => g n y2_0 y2_1 y2_2 y2_3 (fun r0 => kk .ret (PkS.pack Tslices_Index_string_l2_0 (r0, ()))) (kk (.exit 0) (PkS.pack Tslices_Index_string_l2_1 ()))
  | none => none
theorem eslices_Index_string_l2 (slices_Index_string_l2 : ∀ {R : Type}, Nat → (List ByteArray) → ByteArray → Int → Int → (Int → Option R) → (Option R) → Option R) {R : Type} (n : Nat) (y2_0 : List ByteArray) (y2_1 : ByteArray) (y2_2 : Int) (y2_3 : Int) (kk : Ex → Pk → Option R) : Dslices_Index_string_l2.step tt sig (mkK [] R) (mkL (mkK []) [] R) (loopIn 2 (bodyOf Tryd.f98)) (fun q' => Pslices_Index_string_l2 @slices_Index_string_l2 n R q' kk) (PkS.pack Sslices_Index_string_l2 (y2_0, y2_1, y2_2, y2_3, ())) kk = (fun (kret : Int → Option R) (kexit0 : Option R) => (bif (decide (y2_3 < y2_2)) then (bif decide (0 ≤ y2_3) then (bif decide (y2_3 < (y2_0.length : Int)) then (bif ((ByteArray.toList y2_1) == (ByteArray.toList (y2_0.getD (Int.toNat y2_3) ByteArray.empty))) then kret y2_3 else slices_Index_string_l2 n y2_0 y2_1 y2_2 (IntKind.wrap .i64 (y2_3 + 1)) kret kexit0) else none) else none) else kexit0)) (fun r0 => kk .ret (PkS.pack Tslices_Index_string_l2_0 (r0, ()))) (kk (.exit 0) (PkS.pack Tslices_Index_string_l2_1 ())) := by kernel_rfl
theorem leslices_Index_string_l2 : LoopEq tt sig (fun n => mkK []) (fun n => mkL (mkK []) []) Dslices_Index_string_l2 Sslices_Index_string_l2 (loopIn 2 (bodyOf Tryd.f98)) (Pslices_Index_string_l2 @slices_Index_string_l2) where
  zero R q kk := by unfold Pslices_Index_string_l2; cases (PkS.un Sslices_Index_string_l2 q) <;> rfl
  succ n R q kk := by
    unfold Pslices_Index_string_l2
    cases h : (PkS.un Sslices_Index_string_l2 q) with
    | none => rfl
    | some d =>
      obtain ⟨y2_0, y2_1, y2_2, y2_3, u⟩ := (d : (List ByteArray) × ByteArray × Int × Int × Unit)
      have hp := PkS.un_pack h
      subst hp
      exact (eslices_Index_string_l2 @slices_Index_string_l2 n y2_0 y2_1 y2_2 y2_3 kk).symm
theorem nlslices_Index_string_l2 : ∀ n, NatLP (Pslices_Index_string_l2 @slices_Index_string_l2 n) := leslices_Index_string_l2.nat (fun n => mkK_nat (cslices_Index_string n)) fun n => mkL_nat (mkK_nat (cslices_Index_string n)) (l := []) trivial
theorem inslices_Index_string_l2 (n : Nat) (R : Type) : LoopsOk Tryd.prog (mkL (mkK []) [] R) (loopIn 2 (bodyOf Tryd.f98)) := .eq (l := []) (by kernel_rfl) trivial
theorem lkslices_Index_string_l2 (n : Nat) (R : Type) (L0 : LK R) (h0 : ∀ id, firstRegion (loopIn 2 (bodyOf Tryd.f98)) = some id → L0 id = Dslices_Index_string_l2.oracle (mkK [] R) (Pslices_Index_string_l2 @slices_Index_string_l2 n R)) : LoopOk Tryd.prog L0 (loopIn 2 (bodyOf Tryd.f98)) :=
  leslices_Index_string_l2.ok mixed ttok (fun n => mkK_nat (cslices_Index_string n)) (fun n => mkK_ok (cslices_Index_string n)) (fun n => inslices_Index_string_l2 n R) (mkK_nat (cslices_Index_string n)) h0
@[reducible] def Sslices_Index_string : PkS := ⟨[.one (.ro .str), .one (.str)], []⟩
@[reducible] def Tslices_Index_string : PkS := ⟨[.one (.int .i64), .one (.dead), .one (.dead)], []⟩
def Hslices_Index_string : List Sh := [.one .any, .skip, .skip]
def Kslices_Index_string (g : ∀ {R : Type}, Nat → (List ByteArray) → ByteArray → (Int → Option R) → Option R) (n : Nat) : KPs := fun R p k => match (PkS.un Sslices_Index_string p : Option ((List ByteArray) × ByteArray × Unit)) with
  | some (x0, x1, _) => g n x0 x1 (fun r0 => k (PkS.pack Tslices_Index_string (r0, ())))
  | none => none
theorem eslices_Index_string (slices_Index_string_l2 : ∀ {R : Type}, Nat → (List ByteArray) → ByteArray → Int → Int → (Int → Option R) → (Option R) → Option R) {R : Type} (n : Nat) (x0 : List ByteArray) (x1 : ByteArray) (k : Pk → Option R) : evF tt sig (mkK [] R) (mkL (mkK []) [(2, Dslices_Index_string_l2, Pslices_Index_string_l2 @slices_Index_string_l2 n)] R) Tryd.f98 Hslices_Index_string (PkS.pack Sslices_Index_string (x0, x1, ())) k = (fun (k : Int → Option R) => (slices_Index_string_l2 n x0 x1 (x0.length : Int) 0 (fun r1 => k r1) (k (-1)))) (fun r0 => k (PkS.pack Tslices_Index_string (r0, ()))) := by kernel_rfl
theorem okslices_Index_string (n : Nat) : FnOk Tryd.prog 98 (Kslices_Index_string @slices_Index_string n) := by
  refine fn_ok (sig := sig) mixed ttok (mkK_nat (cslices_Index_string n)) (mkK_ok (cslices_Index_string n)) (mkL_nat (mkK_nat (cslices_Index_string n)) (l := [(2, Dslices_Index_string_l2, Pslices_Index_string_l2 @slices_Index_string_l2 n)]) ⟨nlslices_Index_string_l2 n, trivial⟩) (fn := Tryd.f98) (c := bodyOf Tryd.f98) (by kernel_rfl) (by kernel_rfl) (by kernel_rfl) (.eq (l := [.lo (loopIn 2 (bodyOf Tryd.f98))]) (by kernel_rfl) ⟨(lkslices_Index_string_l2 n _ _ (at_id (i := 2) (by kernel_rfl) rfl)), trivial⟩) (shs := Hslices_Index_string) (S := Sslices_Index_string) (h1 := by kernel_rfl) fun R p k => ?_
  unfold Kslices_Index_string
  cases h : (PkS.un Sslices_Index_string p) with
  | none => rfl
  | some d =>
    obtain ⟨x0, x1, u⟩ := (d : (List ByteArray) × ByteArray × Unit)
    have hp := PkS.un_pack h
    subst hp
    exact (eslices_Index_string @slices_Index_string_l2 n x0 x1 k).symm

/-! ### slices.Contains[[]string,string] -/
theorem cslices_Contains_string (n : Nat) : AllOk Tryd.prog [(98, Kslices_Index_string @slices_Index_string n)] := ⟨okslices_Index_string n, trivial⟩
@[reducible] def Sslices_Contains_string : PkS := ⟨[.one (.ro .str), .one (.str)], []⟩
@[reducible] def Tslices_Contains_string : PkS := ⟨[.one (.bool), .one (.dead), .one (.dead)], []⟩
def Hslices_Contains_string : List Sh := [.one .any, .skip, .skip]
def Kslices_Contains_string (g : ∀ {R : Type}, Nat → (List ByteArray) → ByteArray → (Bool → Option R) → Option R) (n : Nat) : KPs := fun R p k => match (PkS.un Sslices_Contains_string p : Option ((List ByteArray) × ByteArray × Unit)) with
  | some (x0, x1, _) => g n x0 x1 (fun r0 => k (PkS.pack Tslices_Contains_string (r0, ())))
  | none => none
theorem eslices_Contains_string (slices_Index_string : ∀ {R : Type}, Nat → (List ByteArray) → ByteArray → (Int → Option R) → Option R) {R : Type} (n : Nat) (x0 : List ByteArray) (x1 : ByteArray) (k : Pk → Option R) : evF tt sig (mkK [(98, Kslices_Index_string @slices_Index_string n)] R) (mkL (mkK [(98, Kslices_Index_string @slices_Index_string n)]) [] R) Tryd.f87 Hslices_Contains_string (PkS.pack Sslices_Contains_string (x0, x1, ())) k = (fun (k : Bool → Option R) => (slices_Index_string n x0 x1 fun r1 => k (decide (r1 ≥ 0)))) (fun r0 => k (PkS.pack Tslices_Contains_string (r0, ()))) := by kernel_rfl
theorem okslices_Contains_string (n : Nat) : FnOk Tryd.prog 87 (Kslices_Contains_string @slices_Contains_string n) := by
  refine fn_ok (sig := sig) mixed ttok (mkK_nat (cslices_Contains_string n)) (mkK_ok (cslices_Contains_string n)) (mkL_nat (mkK_nat (cslices_Contains_string n)) (l := []) trivial) (fn := Tryd.f87) (c := bodyOf Tryd.f87) (by kernel_rfl) (by kernel_rfl) (by kernel_rfl) (.eq (l := []) (by kernel_rfl) trivial) (shs := Hslices_Contains_string) (S := Sslices_Contains_string) (h1 := by kernel_rfl) fun R p k => ?_
  unfold Kslices_Contains_string
  cases h : (PkS.un Sslices_Contains_string p) with
  | none => rfl
  | some d =>
    obtain ⟨x0, x1, u⟩ := (d : (List ByteArray) × ByteArray × Unit)
    have hp := PkS.un_pack h
    subst hp
    exact (eslices_Contains_string @slices_Index_string n x0 x1 k).symm

/-! ### loop.example/g00269/impl.distinct -/
theorem cimpl_distinct (n : Nat) : AllOk Tryd.prog [(87, Kslices_Contains_string @slices_Contains_string n)] := ⟨okslices_Contains_string n, trivial⟩
@[reducible] def Simpl_distinct_l2 : PkS := ⟨[.one (.ro .str), .one (.ro .str), .one (.int .i64), .one (.int .i64), .one (.dead)], []⟩
@[reducible] def Timpl_distinct_l2_0 : PkS := ⟨[.one (.bool), .one (.dead)], []⟩
@[reducible] def Timpl_distinct_l2_1 : PkS := ⟨[.one (.dead)], []⟩
def Dimpl_distinct_l2 : LoopD := ⟨18, [0, 5, 6, 7], [.one (.ro .str), .one (.ro .str), .one .any, .one .any, .skip], fun x => match x with
  | .ret => some ([2], [.one .any, .skip])
  | .exit 0 => some ([], [.skip])
  | _ => none⟩
def Pimpl_distinct_l2 (g : ∀ {R : Type}, Nat → (List ByteArray) → (List ByteArray) → Int → Int → (Bool → Option R) → (Option R) → Option R) (n : Nat) : LPs := fun R q kk => match (PkS.un Simpl_distinct_l2 q : Option ((List ByteArray) × (List ByteArray) × Int × Int × Unit)) with
  | some (y2_0, y2_1, y2_2, y2_3, _) => g n y2_0 y2_1 y2_2 y2_3 (fun r0 => kk .ret (PkS.pack Timpl_distinct_l2_0 (r0, ()))) (kk (.exit 0) (PkS.pack Timpl_distinct_l2_1 ()))
  | none => none
theorem eimpl_distinct_l2 (slices_Contains_string : ∀ {R : Type}, Nat → (List ByteArray) → ByteArray → (Bool → Option R) → Option R) (impl_distinct_l2 : ∀ {R : Type}, Nat → (List ByteArray) → (List ByteArray) → Int → Int → (Bool → Option R) → (Option R) → Option R) {R : Type} (n : Nat) (y2_0 : List ByteArray) (y2_1 : List ByteArray) (y2_2 : Int) (y2_3 : Int) (kk : Ex → Pk → Option R) : Dimpl_distinct_l2.step tt sig (mkK [(87, Kslices_Contains_string @slices_Contains_string n)] R) (mkL (mkK [(87, Kslices_Contains_string @slices_Contains_string n)]) [] R) (loopIn 2 (bodyOf Tryd.f67)) (fun q' => Pimpl_distinct_l2 @impl_distinct_l2 n R q' kk) (PkS.pack Simpl_distinct_l2 (y2_0, y2_1, y2_2, y2_3, ())) kk = (fun (kret : Bool → Option R) (kexit0 : Option R) => (bif (decide (y2_3 < y2_2)) then (bif decide (0 ≤ y2_3) then (bif decide (y2_3 < (y2_1.length : Int)) then (bif decide (0 ≤ y2_3) then (bif decide (y2_3 ≤ (y2_0.length : Int)) then (slices_Contains_string n ((y2_0.drop 0).take ((Int.toNat y2_3) - 0)) (y2_1.getD (Int.toNat y2_3) ByteArray.empty) fun r1 => (bif r1 then kret false else impl_distinct_l2 n y2_0 y2_1 y2_2 (IntKind.wrap .i64 (y2_3 + 1)) kret kexit0)) else none) else none) else none) else none) else kexit0)) (fun r0 => kk .ret (PkS.pack Timpl_distinct_l2_0 (r0, ()))) (kk (.exit 0) (PkS.pack Timpl_distinct_l2_1 ())) := by kernel_rfl
theorem leimpl_distinct_l2 : LoopEq tt sig (fun n => mkK [(87, Kslices_Contains_string @slices_Contains_string n)]) (fun n => mkL (mkK [(87, Kslices_Contains_string @slices_Contains_string n)]) []) Dimpl_distinct_l2 Simpl_distinct_l2 (loopIn 2 (bodyOf Tryd.f67)) (Pimpl_distinct_l2 @impl_distinct_l2) where
  zero R q kk := by unfold Pimpl_distinct_l2; cases (PkS.un Simpl_distinct_l2 q) <;> rfl
  succ n R q kk := by
    unfold Pimpl_distinct_l2
    cases h : (PkS.un Simpl_distinct_l2 q) with
    | none => rfl
    | some d =>
      obtain ⟨y2_0, y2_1, y2_2, y2_3, u⟩ := (d : (List ByteArray) × (List ByteArray) × Int × Int × Unit)
      have hp := PkS.un_pack h
      subst hp
      exact (eimpl_distinct_l2 @slices_Contains_string @impl_distinct_l2 n y2_0 y2_1 y2_2 y2_3 kk).symm
theorem nlimpl_distinct_l2 : ∀ n, NatLP (Pimpl_distinct_l2 @impl_distinct_l2 n) := leimpl_distinct_l2.nat (fun n => mkK_nat (cimpl_distinct n)) fun n => mkL_nat (mkK_nat (cimpl_distinct n)) (l := []) trivial
theorem inimpl_distinct_l2 (n : Nat) (R : Type) : LoopsOk Tryd.prog (mkL (mkK [(87, Kslices_Contains_string @slices_Contains_string n)]) [] R) (loopIn 2 (bodyOf Tryd.f67)) := .eq (l := []) (by kernel_rfl) trivial
theorem lkimpl_distinct_l2 (n : Nat) (R : Type) (L0 : LK R) (h0 : ∀ id, firstRegion (loopIn 2 (bodyOf Tryd.f67)) = some id → L0 id = Dimpl_distinct_l2.oracle (mkK [(87, Kslices_Contains_string @slices_Contains_string n)] R) (Pimpl_distinct_l2 @impl_distinct_l2 n R)) : LoopOk Tryd.prog L0 (loopIn 2 (bodyOf Tryd.f67)) :=
  leimpl_distinct_l2.ok mixed ttok (fun n => mkK_nat (cimpl_distinct n)) (fun n => mkK_ok (cimpl_distinct n)) (fun n => inimpl_distinct_l2 n R) (mkK_nat (cimpl_distinct n)) h0
@[reducible] def Simpl_distinct : PkS := ⟨[.one (.ro .str)], []⟩
@[reducible] def Timpl_distinct : PkS := ⟨[.one (.bool), .one (.dead)], []⟩
def Himpl_distinct : List Sh := [.one .any, .skip]
def Kimpl_distinct (g : ∀ {R : Type}, Nat → (List ByteArray) → (Bool → Option R) → Option R) (n : Nat) : KPs := fun R p k => match (PkS.un Simpl_distinct p : Option ((List ByteArray) × Unit)) with
  | some (x0, _) => g n x0 (fun r0 => k (PkS.pack Timpl_distinct (r0, ())))
  | none => none
theorem eimpl_distinct (slices_Contains_string : ∀ {R : Type}, Nat → (List ByteArray) → ByteArray → (Bool → Option R) → Option R) (impl_distinct_l2 : ∀ {R : Type}, Nat → (List ByteArray) → (List ByteArray) → Int → Int → (Bool → Option R) → (Option R) → Option R) {R : Type} (n : Nat) (x0 : List ByteArray) (k : Pk → Option R) : evF tt sig (mkK [(87, Kslices_Contains_string @slices_Contains_string n)] R) (mkL (mkK [(87, Kslices_Contains_string @slices_Contains_string n)]) [(2, Dimpl_distinct_l2, Pimpl_distinct_l2 @impl_distinct_l2 n)] R) Tryd.f67 Himpl_distinct (PkS.pack Simpl_distinct (x0, ())) k = (fun (k : Bool → Option R) => (impl_distinct_l2 n x0 x0 (x0.length : Int) 0 (fun r2 => k r2) (k true))) (fun r0 => k (PkS.pack Timpl_distinct (r0, ()))) := by kernel_rfl
theorem okimpl_distinct (n : Nat) : FnOk Tryd.prog 67 (Kimpl_distinct @impl_distinct n) := by
  refine fn_ok (sig := sig) mixed ttok (mkK_nat (cimpl_distinct n)) (mkK_ok (cimpl_distinct n)) (mkL_nat (mkK_nat (cimpl_distinct n)) (l := [(2, Dimpl_distinct_l2, Pimpl_distinct_l2 @impl_distinct_l2 n)]) ⟨nlimpl_distinct_l2 n, trivial⟩) (fn := Tryd.f67) (c := bodyOf Tryd.f67) (by kernel_rfl) (by kernel_rfl) (by kernel_rfl) (.eq (l := [.lo (loopIn 2 (bodyOf Tryd.f67))]) (by kernel_rfl) ⟨(lkimpl_distinct_l2 n _ _ (at_id (i := 2) (by kernel_rfl) rfl)), trivial⟩) (shs := Himpl_distinct) (S := Simpl_distinct) (h1 := by kernel_rfl) fun R p k => ?_
  unfold Kimpl_distinct
  cases h : (PkS.un Simpl_distinct p) with
  | none => rfl
  | some d =>
    obtain ⟨x0, u⟩ := (d : (List ByteArray) × Unit)
    have hp := PkS.un_pack h
    subst hp
    exact (eimpl_distinct @slices_Contains_string @impl_distinct_l2 n x0 k).symm

/-! ### cmp.isNaN[string] -/
theorem ccmp_isNaN_string (n : Nat) : AllOk Tryd.prog [] := trivial
@[reducible] def Scmp_isNaN_string : PkS := ⟨[.one (.str)], []⟩
@[reducible] def Tcmp_isNaN_string : PkS := ⟨[.one (.bool), .one (.dead)], []⟩
def Hcmp_isNaN_string : List Sh := [.one .any, .skip]
def Kcmp_isNaN_string (g : ∀ {R : Type}, Nat → ByteArray → (Bool → Option R) → Option R) (n : Nat) : KPs := fun R p k => match (PkS.un Scmp_isNaN_string p : Option (ByteArray × Unit)) with
  | some (x0, _) => g n x0 (fun r0 => k (PkS.pack Tcmp_isNaN_string (r0, ())))
  | none => none
theorem ecmp_isNaN_string  {R : Type} (n : Nat) (x0 : ByteArray) (k : Pk → Option R) : evF tt sig (mkK [] R) (mkL (mkK []) [] R) Tryd.f99 Hcmp_isNaN_string (PkS.pack Scmp_isNaN_string (x0, ())) k = (fun (k : Bool → Option R) => k (!((ByteArray.toList x0) == (ByteArray.toList x0)))) (fun r0 => k (PkS.pack Tcmp_isNaN_string (r0, ()))) := by kernel_rfl
theorem okcmp_isNaN_string (n : Nat) : FnOk Tryd.prog 99 (Kcmp_isNaN_string @cmp_isNaN_string n) := by
  refine fn_ok (sig := sig) mixed ttok (mkK_nat (ccmp_isNaN_string n)) (mkK_ok (ccmp_isNaN_string n)) (mkL_nat (mkK_nat (ccmp_isNaN_string n)) (l := []) trivial) (fn := Tryd.f99) (c := bodyOf Tryd.f99) (by kernel_rfl) (by kernel_rfl) (by kernel_rfl) (.eq (l := []) (by kernel_rfl) trivial) (shs := Hcmp_isNaN_string) (S := Scmp_isNaN_string) (h1 := by kernel_rfl) fun R p k => ?_
  unfold Kcmp_isNaN_string
  cases h : (PkS.un Scmp_isNaN_string p) with
  | none => rfl
  | some d =>
    obtain ⟨x0, u⟩ := (d : ByteArray × Unit)
    have hp := PkS.un_pack h
    subst hp
    exact (ecmp_isNaN_string  n x0 k).symm

/-! ### cmp.Less[string] -/
theorem ccmp_Less_string (n : Nat) : AllOk Tryd.prog [(99, Kcmp_isNaN_string @cmp_isNaN_string n)] := ⟨okcmp_isNaN_string n, trivial⟩
@[reducible] def Scmp_Less_string : PkS := ⟨[.one (.str), .one (.str)], []⟩
@[reducible] def Tcmp_Less_string : PkS := ⟨[.one (.bool), .one (.dead), .one (.dead)], []⟩
def Hcmp_Less_string : List Sh := [.one .any, .skip, .skip]
def Kcmp_Less_string (g : ∀ {R : Type}, Nat → ByteArray → ByteArray → (Bool → Option R) → Option R) (n : Nat) : KPs := fun R p k => match (PkS.un Scmp_Less_string p : Option (ByteArray × ByteArray × Unit)) with
  | some (x0, x1, _) => g n x0 x1 (fun r0 => k (PkS.pack Tcmp_Less_string (r0, ())))
  | none => none
theorem ecmp_Less_string (cmp_isNaN_string : ∀ {R : Type}, Nat → ByteArray → (Bool → Option R) → Option R) {R : Type} (n : Nat) (x0 : ByteArray) (x1 : ByteArray) (k : Pk → Option R) : evF tt sig (mkK [(99, Kcmp_isNaN_string @cmp_isNaN_string n)] R) (mkL (mkK [(99, Kcmp_isNaN_string @cmp_isNaN_string n)]) [] R) Tryd.f88 Hcmp_Less_string (PkS.pack Scmp_Less_string (x0, x1, ())) k = (fun (k : Bool → Option R) => (cmp_isNaN_string n x0 fun r1 => (bif r1 then (cmp_isNaN_string n x1 fun r2 => (bif (!r2) then k true else k (Op.bytesLess (ByteArray.toList x0) (ByteArray.toList x1)))) else k (Op.bytesLess (ByteArray.toList x0) (ByteArray.toList x1))))) (fun r0 => k (PkS.pack Tcmp_Less_string (r0, ()))) := by kernel_rfl
theorem okcmp_Less_string (n : Nat) : FnOk Tryd.prog 88 (Kcmp_Less_string @cmp_Less_string n) := by
  refine fn_ok (sig := sig) mixed ttok (mkK_nat (ccmp_Less_string n)) (mkK_ok (ccmp_Less_string n)) (mkL_nat (mkK_nat (ccmp_Less_string n)) (l := []) trivial) (fn := Tryd.f88) (c := bodyOf Tryd.f88) (by kernel_rfl) (by kernel_rfl) (by kernel_rfl) (.eq (l := []) (by kernel_rfl) trivial) (shs := Hcmp_Less_string) (S := Scmp_Less_string) (h1 := by kernel_rfl) fun R p k => ?_
  unfold Kcmp_Less_string
  cases h : (PkS.un Scmp_Less_string p) with
  | none => rfl
  | some d =>
    obtain ⟨x0, x1, u⟩ := (d : ByteArray × ByteArray × Unit)
    have hp := PkS.un_pack h
    subst hp
    exact (ecmp_Less_string @cmp_isNaN_string n x0 x1 k).symm

/-! ### slices.IsSorted[[]string,string] -/
theorem cslices_IsSorted_string (n : Nat) : AllOk Tryd.prog [(88, Kcmp_Less_string @cmp_Less_string n)] := ⟨okcmp_Less_string n, trivial⟩
@[reducible] def Sslices_IsSorted_string_l2 : PkS := ⟨[.one (.ro .str), .one (.int .i64), .one (.dead)], []⟩
@[reducible] def Tslices_IsSorted_string_l2_0 : PkS := ⟨[.one (.bool), .one (.dead)], []⟩
@[reducible] def Tslices_IsSorted_string_l2_1 : PkS := ⟨[.one (.dead)], []⟩
def Dslices_IsSorted_string_l2 : LoopD := ⟨21, [0, 3], [.one (.ro .str), .one .any, .skip], fun x => match x with
  | .ret => some ([2], [.one .any, .skip])
  | .exit 0 => some ([], [.skip])
  | _ => none⟩
def Pslices_IsSorted_string_l2 (g : ∀ {R : Type}, Nat → (List ByteArray) → Int → (Bool → Option R) → (Option R) → Option R) (n : Nat) : LPs := fun R q kk => match (PkS.un Sslices_IsSorted_string_l2 q : Option ((List ByteArray) × Int × Unit)) with
  | some (y2_0, y2_1, _) => g n y2_0 y2_1 (fun r0 => kk .ret (PkS.pack Tslices_IsSorted_string_l2_0 (r0, ()))) (kk (.exit 0) (PkS.pack Tslices_IsSorted_string_l2_1 ()))
  | none => none
theorem eslices_IsSorted_string_l2 (cmp_Less_string : ∀ {R : Type}, Nat → ByteArray → ByteArray → (Bool → Option R) → Option R) (slices_IsSorted_string_l2 : ∀ {R : Type}, Nat → (List ByteArray) → Int → (Bool → Option R) → (Option R) → Option R) {R : Type} (n : Nat) (y2_0 : List ByteArray) (y2_1 : Int) (kk : Ex → Pk → Option R) : Dslices_IsSorted_string_l2.step tt sig (mkK [(88, Kcmp_Less_string @cmp_Less_string n)] R) (mkL (mkK [(88, Kcmp_Less_string @cmp_Less_string n)]) [] R) (loopIn 2 (bodyOf Tryd.f68)) (fun q' => Pslices_IsSorted_string_l2 @slices_IsSorted_string_l2 n R q' kk) (PkS.pack Sslices_IsSorted_string_l2 (y2_0, y2_1, ())) kk = (fun (kret : Bool → Option R) (kexit0 : Option R) => (bif (decide (y2_1 > 0)) then (bif decide (0 ≤ y2_1) then (bif decide (y2_1 < (y2_0.length : Int)) then (bif decide (0 ≤ (IntKind.wrap .i64 (y2_1 - 1))) then (bif decide ((IntKind.wrap .i64 (y2_1 - 1)) < (y2_0.length : Int)) then (cmp_Less_string n (y2_0.getD (Int.toNat y2_1) ByteArray.empty) (y2_0.getD (Int.toNat (IntKind.wrap .i64 (y2_1 - 1))) ByteArray.empty) fun r1 => (bif r1 then kret false else slices_IsSorted_string_l2 n y2_0 (IntKind.wrap .i64 (y2_1 - 1)) kret kexit0)) else none) else none) else none) else none) else kexit0)) (fun r0 => kk .ret (PkS.pack Tslices_IsSorted_string_l2_0 (r0, ()))) (kk (.exit 0) (PkS.pack Tslices_IsSorted_string_l2_1 ())) := by kernel_rfl
theorem leslices_IsSorted_string_l2 : LoopEq tt sig (fun n => mkK [(88, Kcmp_Less_string @cmp_Less_string n)]) (fun n => mkL (mkK [(88, Kcmp_Less_string @cmp_Less_string n)]) []) Dslices_IsSorted_string_l2 Sslices_IsSorted_string_l2 (loopIn 2 (bodyOf Tryd.f68)) (Pslices_IsSorted_string_l2 @slices_IsSorted_string_l2) where
  zero R q kk := by unfold Pslices_IsSorted_string_l2; cases (PkS.un Sslices_IsSorted_string_l2 q) <;> rfl
  succ n R q kk := by
    unfold Pslices_IsSorted_string_l2
    cases h : (PkS.un Sslices_IsSorted_string_l2 q) with
    | none => rfl
    | some d =>
      obtain ⟨y2_0, y2_1, u⟩ := (d : (List ByteArray) × Int × Unit)
      have hp := PkS.un_pack h
      subst hp
      exact (eslices_IsSorted_string_l2 @cmp_Less_string @slices_IsSorted_string_l2 n y2_0 y2_1 kk).symm
theorem nlslices_IsSorted_string_l2 : ∀ n, NatLP (Pslices_IsSorted_string_l2 @slices_IsSorted_string_l2 n) := leslices_IsSorted_string_l2.nat (fun n => mkK_nat (cslices_IsSorted_string n)) fun n => mkL_nat (mkK_nat (cslices_IsSorted_string n)) (l := []) trivial
theorem inslices_IsSorted_string_l2 (n : Nat) (R : Type) : LoopsOk Tryd.prog (mkL (mkK [(88, Kcmp_Less_string @cmp_Less_string n)]) [] R) (loopIn 2 (bodyOf Tryd.f68)) := .eq (l := []) (by kernel_rfl) trivial
theorem lkslices_IsSorted_string_l2 (n : Nat) (R : Type) (L0 : LK R) (h0 : ∀ id, firstRegion (loopIn 2 (bodyOf Tryd.f68)) = some id → L0 id = Dslices_IsSorted_string_l2.oracle (mkK [(88, Kcmp_Less_string @cmp_Less_string n)] R) (Pslices_IsSorted_string_l2 @slices_IsSorted_string_l2 n R)) : LoopOk Tryd.prog L0 (loopIn 2 (bodyOf Tryd.f68)) :=
  leslices_IsSorted_string_l2.ok mixed ttok (fun n => mkK_nat (cslices_IsSorted_string n)) (fun n => mkK_ok (cslices_IsSorted_string n)) (fun n => inslices_IsSorted_string_l2 n R) (mkK_nat (cslices_IsSorted_string n)) h0
@[reducible] def Sslices_IsSorted_string : PkS := ⟨[.one (.ro .str)], []⟩
@[reducible] def Tslices_IsSorted_string : PkS := ⟨[.one (.bool), .one (.dead)], []⟩
def Hslices_IsSorted_string : List Sh := [.one .any, .skip]
def Kslices_IsSorted_string (g : ∀ {R : Type}, Nat → (List ByteArray) → (Bool → Option R) → Option R) (n : Nat) : KPs := fun R p k => match (PkS.un Sslices_IsSorted_string p : Option ((List ByteArray) × Unit)) with
  | some (x0, _) => g n x0 (fun r0 => k (PkS.pack Tslices_IsSorted_string (r0, ())))
  | none => none
theorem eslices_IsSorted_string (cmp_Less_string : ∀ {R : Type}, Nat → ByteArray → ByteArray → (Bool → Option R) → Option R) (slices_IsSorted_string_l2 : ∀ {R : Type}, Nat → (List ByteArray) → Int → (Bool → Option R) → (Option R) → Option R) {R : Type} (n : Nat) (x0 : List ByteArray) (k : Pk → Option R) : evF tt sig (mkK [(88, Kcmp_Less_string @cmp_Less_string n)] R) (mkL (mkK [(88, Kcmp_Less_string @cmp_Less_string n)]) [(2, Dslices_IsSorted_string_l2, Pslices_IsSorted_string_l2 @slices_IsSorted_string_l2 n)] R) Tryd.f68 Hslices_IsSorted_string (PkS.pack Sslices_IsSorted_string (x0, ())) k = (fun (k : Bool → Option R) => (slices_IsSorted_string_l2 n x0 (IntKind.wrap .i64 ((x0.length : Int) - 1)) (fun r2 => k r2) (k true))) (fun r0 => k (PkS.pack Tslices_IsSorted_string (r0, ()))) := by kernel_rfl
theorem okslices_IsSorted_string (n : Nat) : FnOk Tryd.prog 68 (Kslices_IsSorted_string @slices_IsSorted_string n) := by
  refine fn_ok (sig := sig) mixed ttok (mkK_nat (cslices_IsSorted_string n)) (mkK_ok (cslices_IsSorted_string n)) (mkL_nat (mkK_nat (cslices_IsSorted_string n)) (l := [(2, Dslices_IsSorted_string_l2, Pslices_IsSorted_string_l2 @slices_IsSorted_string_l2 n)]) ⟨nlslices_IsSorted_string_l2 n, trivial⟩) (fn := Tryd.f68) (c := bodyOf Tryd.f68) (by kernel_rfl) (by kernel_rfl) (by kernel_rfl) (.eq (l := [.lo (loopIn 2 (bodyOf Tryd.f68))]) (by kernel_rfl) ⟨(lkslices_IsSorted_string_l2 n _ _ (at_id (i := 2) (by kernel_rfl) rfl)), trivial⟩) (shs := Hslices_IsSorted_string) (S := Sslices_IsSorted_string) (h1 := by kernel_rfl) fun R p k => ?_
  unfold Kslices_IsSorted_string
  cases h : (PkS.un Sslices_IsSorted_string p) with
  | none => rfl
  | some d =>
    obtain ⟨x0, u⟩ := (d : (List ByteArray) × Unit)
    have hp := PkS.un_pack h
    subst hp
    exact (eslices_IsSorted_string @cmp_Less_string @slices_IsSorted_string_l2 n x0 k).symm

/-! ### loop.example/g00269/impl.GoodState -/
theorem cimpl_GoodState (n : Nat) : AllOk Tryd.prog [(53, Kimpl_in @impl_in n), (66, Kimpl_namesOk @impl_namesOk n), (67, Kimpl_distinct @impl_distinct n), (68, Kslices_IsSorted_string @slices_IsSorted_string n)] := ⟨okimpl_in n, ⟨okimpl_namesOk n, ⟨okimpl_distinct n, ⟨okslices_IsSorted_string n, trivial⟩⟩⟩⟩
@[reducible] def Simpl_GoodState : PkS := ⟨[.agg [.int .i64, .int .i64, .bool, .int .i64, .ro .str, .ro .str]], []⟩
@[reducible] def Timpl_GoodState : PkS := ⟨[.one (.bool), .one (.dead)], []⟩
def Himpl_GoodState : List Sh := [.one .any, .skip]
def Kimpl_GoodState (g : ∀ {R : Type}, Nat → Int → Int → Bool → Int → (List ByteArray) → (List ByteArray) → (Bool → Option R) → Option R) (n : Nat) : KPs := fun R p k => match (PkS.un Simpl_GoodState p : Option (Int × Int × Bool × Int × (List ByteArray) × (List ByteArray) × Unit)) with
  | some (x0, x1, x2, x3, x4, x5, _) => g n x0 x1 x2 x3 x4 x5 (fun r0 => k (PkS.pack Timpl_GoodState (r0, ())))
  | none => none
theorem eimpl_GoodState (impl_in : ∀ {R : Type}, Nat → Int → Int → Int → (Bool → Option R) → Option R) (impl_namesOk : ∀ {R : Type}, Nat → (List ByteArray) → Int → (Bool → Option R) → Option R) (impl_distinct : ∀ {R : Type}, Nat → (List ByteArray) → (Bool → Option R) → Option R) (slices_IsSorted_string : ∀ {R : Type}, Nat → (List ByteArray) → (Bool → Option R) → Option R) {R : Type} (n : Nat) (x0 : Int) (x1 : Int) (x2 : Bool) (x3 : Int) (x4 : List ByteArray) (x5 : List ByteArray) (k : Pk → Option R) : evF tt sig (mkK [(53, Kimpl_in @impl_in n), (66, Kimpl_namesOk @impl_namesOk n), (67, Kimpl_distinct @impl_distinct n), (68, Kslices_IsSorted_string @slices_IsSorted_string n)] R) (mkL (mkK [(53, Kimpl_in @impl_in n), (66, Kimpl_namesOk @impl_namesOk n), (67, Kimpl_distinct @impl_distinct n), (68, Kslices_IsSorted_string @slices_IsSorted_string n)]) [] R) Tryd.f31 Himpl_GoodState (PkS.pack Simpl_GoodState (x0, x1, x2, x3, x4, x5, ())) k = (fun (k : Bool → Option R) => (impl_in n x1 1 1001 fun r1 => (bif (!r1) then k false else (impl_in n x3 0 1000 fun r2 => (bif (!r2) then k false else (impl_in n x0 0 2 fun r3 => (bif (!r3) then k false else (impl_namesOk n x4 30 fun r4 => (bif (!r4) then k false else (impl_distinct n x4 fun r5 => (bif (!r5) then k false else (impl_namesOk n x5 30 fun r6 => (bif (!r6) then k false else (slices_IsSorted_string n x5 fun r7 => (bif (!r7) then k false else (impl_distinct n x5 fun r8 => (bif (!r8) then k false else (bif (x0 != 0) then k (decide (x1 > 1)) else (bif (x1 == 1) then (bif (!x2) then (bif (x3 == 0) then (bif ((x4.length : Int) == 0) then k ((x5.length : Int) == 0) else k false) else k false) else k false) else k false))))))))))))))))))) (fun r0 => k (PkS.pack Timpl_GoodState (r0, ()))) := by kernel_rfl
theorem okimpl_GoodState (n : Nat) : FnOk Tryd.prog 31 (Kimpl_GoodState @impl_GoodState n) := by
  refine fn_ok (sig := sig) mixed ttok (mkK_nat (cimpl_GoodState n)) (mkK_ok (cimpl_GoodState n)) (mkL_nat (mkK_nat (cimpl_GoodState n)) (l := []) trivial) (fn := Tryd.f31) (c := bodyOf Tryd.f31) (by kernel_rfl) (by kernel_rfl) (by kernel_rfl) (.eq (l := []) (by kernel_rfl) trivial) (shs := Himpl_GoodState) (S := Simpl_GoodState) (h1 := by kernel_rfl) fun R p k => ?_
  unfold Kimpl_GoodState
  cases h : (PkS.un Simpl_GoodState p) with
  | none => rfl
  | some d =>
    obtain ⟨x0, x1, x2, x3, x4, x5, u⟩ := (d : Int × Int × Bool × Int × (List ByteArray) × (List ByteArray) × Unit)
    have hp := PkS.un_pack h
    subst hp
    exact (eimpl_GoodState @impl_in @impl_namesOk @impl_distinct @slices_IsSorted_string n x0 x1 x2 x3 x4 x5 k).symm

/-! ### loop.example/g00269/laws.eqStringS -/
theorem claws_eqStringS (n : Nat) : AllOk Tryd.prog [] := trivial
@[reducible] def Slaws_eqStringS_l4 : PkS := ⟨[.one (.ro .str), .one (.ro .str), .one (.int .i64), .one (.dead), .one (.dead)], []⟩
@[reducible] def Tlaws_eqStringS_l4_0 : PkS := ⟨[.one (.bool), .one (.dead), .one (.dead)], []⟩
@[reducible] def Tlaws_eqStringS_l4_1 : PkS := ⟨[.one (.dead), .one (.dead)], []⟩
def Dlaws_eqStringS_l4 : LoopD := ⟨26, [0, 1, 5], [.one (.ro .str), .one (.ro .str), .one .any, .skip, .skip], fun x => match x with
  | .ret => some ([4], [.one .any, .skip, .skip])
  | .exit 0 => some ([], [.skip, .skip])
  | _ => none⟩
def Plaws_eqStringS_l4 (g : ∀ {R : Type}, Nat → (List ByteArray) → (List ByteArray) → Int → (Bool → Option R) → (Option R) → Option R) (n : Nat) : LPs := fun R q kk => match (PkS.un Slaws_eqStringS_l4 q : Option ((List ByteArray) × (List ByteArray) × Int × Unit)) with
  | some (y4_0, y4_1, y4_2, _) => g n y4_0 y4_1 y4_2 (fun r0 => kk .ret (PkS.pack Tlaws_eqStringS_l4_0 (r0, ()))) (kk (.exit 0) (PkS.pack Tlaws_eqStringS_l4_1 ()))
  | none => none
theorem elaws_eqStringS_l4 (laws_eqStringS_l4 : ∀ {R : Type}, Nat → (List ByteArray) → (List ByteArray) → Int → (Bool → Option R) → (Option R) → Option R) {R : Type} (n : Nat) (y4_0 : List ByteArray) (y4_1 : List ByteArray) (y4_2 : Int) (kk : Ex → Pk → Option R) : Dlaws_eqStringS_l4.step tt sig (mkK [] R) (mkL (mkK []) [] R) (loopIn 4 (bodyOf Tryd.f69)) (fun q' => Plaws_eqStringS_l4 @laws_eqStringS_l4 n R q' kk) (PkS.pack Slaws_eqStringS_l4 (y4_0, y4_1, y4_2, ())) kk = (fun (kret : Bool → Option R) (kexit0 : Option R) => (bif (decide (y4_2 < (y4_0.length : Int))) then (bif decide (0 ≤ y4_2) then (bif decide (y4_2 < (y4_0.length : Int)) then (bif decide (0 ≤ y4_2) then (bif decide (y4_2 < (y4_1.length : Int)) then (bif (!((ByteArray.toList (y4_0.getD (Int.toNat y4_2) ByteArray.empty)) == (ByteArray.toList (y4_1.getD (Int.toNat y4_2) ByteArray.empty)))) then kret false else laws_eqStringS_l4 n y4_0 y4_1 (IntKind.wrap .i64 (y4_2 + 1)) kret kexit0) else none) else none) else none) else none) else kexit0)) (fun r0 => kk .ret (PkS.pack Tlaws_eqStringS_l4_0 (r0, ()))) (kk (.exit 0) (PkS.pack Tlaws_eqStringS_l4_1 ())) := by kernel_rfl
theorem lelaws_eqStringS_l4 : LoopEq tt sig (fun n => mkK []) (fun n => mkL (mkK []) []) Dlaws_eqStringS_l4 Slaws_eqStringS_l4 (loopIn 4 (bodyOf Tryd.f69)) (Plaws_eqStringS_l4 @laws_eqStringS_l4) where
  zero R q kk := by unfold Plaws_eqStringS_l4; cases (PkS.un Slaws_eqStringS_l4 q) <;> rfl
  succ n R q kk := by
    unfold Plaws_eqStringS_l4
    cases h : (PkS.un Slaws_eqStringS_l4 q) with
    | none => rfl
    | some d =>
      obtain ⟨y4_0, y4_1, y4_2, u⟩ := (d : (List ByteArray) × (List ByteArray) × Int × Unit)
      have hp := PkS.un_pack h
      subst hp
      exact (elaws_eqStringS_l4 @laws_eqStringS_l4 n y4_0 y4_1 y4_2 kk).symm
theorem nllaws_eqStringS_l4 : ∀ n, NatLP (Plaws_eqStringS_l4 @laws_eqStringS_l4 n) := lelaws_eqStringS_l4.nat (fun n => mkK_nat (claws_eqStringS n)) fun n => mkL_nat (mkK_nat (claws_eqStringS n)) (l := []) trivial
theorem inlaws_eqStringS_l4 (n : Nat) (R : Type) : LoopsOk Tryd.prog (mkL (mkK []) [] R) (loopIn 4 (bodyOf Tryd.f69)) := .eq (l := []) (by kernel_rfl) trivial
theorem lklaws_eqStringS_l4 (n : Nat) (R : Type) (L0 : LK R) (h0 : ∀ id, firstRegion (loopIn 4 (bodyOf Tryd.f69)) = some id → L0 id = Dlaws_eqStringS_l4.oracle (mkK [] R) (Plaws_eqStringS_l4 @laws_eqStringS_l4 n R)) : LoopOk Tryd.prog L0 (loopIn 4 (bodyOf Tryd.f69)) :=
  lelaws_eqStringS_l4.ok mixed ttok (fun n => mkK_nat (claws_eqStringS n)) (fun n => mkK_ok (claws_eqStringS n)) (fun n => inlaws_eqStringS_l4 n R) (mkK_nat (claws_eqStringS n)) h0
@[reducible] def Slaws_eqStringS : PkS := ⟨[.one (.ro .str), .one (.ro .str)], []⟩
@[reducible] def Tlaws_eqStringS : PkS := ⟨[.one (.bool), .one (.dead), .one (.dead)], []⟩
def Hlaws_eqStringS : List Sh := [.one .any, .skip, .skip]
def Klaws_eqStringS (g : ∀ {R : Type}, Nat → (List ByteArray) → (List ByteArray) → (Bool → Option R) → Option R) (n : Nat) : KPs := fun R p k => match (PkS.un Slaws_eqStringS p : Option ((List ByteArray) × (List ByteArray) × Unit)) with
  | some (x0, x1, _) => g n x0 x1 (fun r0 => k (PkS.pack Tlaws_eqStringS (r0, ())))
  | none => none
theorem elaws_eqStringS (laws_eqStringS_l4 : ∀ {R : Type}, Nat → (List ByteArray) → (List ByteArray) → Int → (Bool → Option R) → (Option R) → Option R) {R : Type} (n : Nat) (x0 : List ByteArray) (x1 : List ByteArray) (k : Pk → Option R) : evF tt sig (mkK [] R) (mkL (mkK []) [(4, Dlaws_eqStringS_l4, Plaws_eqStringS_l4 @laws_eqStringS_l4 n)] R) Tryd.f69 Hlaws_eqStringS (PkS.pack Slaws_eqStringS (x0, x1, ())) k = (fun (k : Bool → Option R) => (bif ((x0.length : Int) != (x1.length : Int)) then k false else (laws_eqStringS_l4 n x0 x1 0 (fun r1 => k r1) (k true)))) (fun r0 => k (PkS.pack Tlaws_eqStringS (r0, ()))) := by kernel_rfl
theorem oklaws_eqStringS (n : Nat) : FnOk Tryd.prog 69 (Klaws_eqStringS @laws_eqStringS n) := by
  refine fn_ok (sig := sig) mixed ttok (mkK_nat (claws_eqStringS n)) (mkK_ok (claws_eqStringS n)) (mkL_nat (mkK_nat (claws_eqStringS n)) (l := [(4, Dlaws_eqStringS_l4, Plaws_eqStringS_l4 @laws_eqStringS_l4 n)]) ⟨nllaws_eqStringS_l4 n, trivial⟩) (fn := Tryd.f69) (c := bodyOf Tryd.f69) (by kernel_rfl) (by kernel_rfl) (by kernel_rfl) (.eq (l := [.lo (loopIn 4 (bodyOf Tryd.f69))]) (by kernel_rfl) ⟨(lklaws_eqStringS_l4 n _ _ (at_id (i := 4) (by kernel_rfl) rfl)), trivial⟩) (shs := Hlaws_eqStringS) (S := Slaws_eqStringS) (h1 := by kernel_rfl) fun R p k => ?_
  unfold Klaws_eqStringS
  cases h : (PkS.un Slaws_eqStringS p) with
  | none => rfl
  | some d =>
    obtain ⟨x0, x1, u⟩ := (d : (List ByteArray) × (List ByteArray) × Unit)
    have hp := PkS.un_pack h
    subst hp
    exact (elaws_eqStringS @laws_eqStringS_l4 n x0 x1 k).symm

/-! ### loop.example/g00269/laws.eqState -/
theorem claws_eqState (n : Nat) : AllOk Tryd.prog [(69, Klaws_eqStringS @laws_eqStringS n)] := ⟨oklaws_eqStringS n, trivial⟩
@[reducible] def Slaws_eqState : PkS := ⟨[.agg [.int .i64, .int .i64, .bool, .int .i64, .ro .str, .ro .str], .agg [.int .i64, .int .i64, .bool, .int .i64, .ro .str, .ro .str]], []⟩
@[reducible] def Tlaws_eqState : PkS := ⟨[.one (.bool), .one (.dead), .one (.dead)], []⟩
def Hlaws_eqState : List Sh := [.one .any, .skip, .skip]
def Klaws_eqState (g : ∀ {R : Type}, Nat → Int → Int → Bool → Int → (List ByteArray) → (List ByteArray) → Int → Int → Bool → Int → (List ByteArray) → (List ByteArray) → (Bool → Option R) → Option R) (n : Nat) : KPs := fun R p k => match (PkS.un Slaws_eqState p : Option (Int × Int × Bool × Int × (List ByteArray) × (List ByteArray) × Int × Int × Bool × Int × (List ByteArray) × (List ByteArray) × Unit)) with
  | some (x0, x1, x2, x3, x4, x5, x6, x7, x8, x9, x10, x11, _) => g n x0 x1 x2 x3 x4 x5 x6 x7 x8 x9 x10 x11 (fun r0 => k (PkS.pack Tlaws_eqState (r0, ())))
  | none => none
theorem elaws_eqState (laws_eqStringS : ∀ {R : Type}, Nat → (List ByteArray) → (List ByteArray) → (Bool → Option R) → Option R) {R : Type} (n : Nat) (x0 : Int) (x1 : Int) (x2 : Bool) (x3 : Int) (x4 : List ByteArray) (x5 : List ByteArray) (x6 : Int) (x7 : Int) (x8 : Bool) (x9 : Int) (x10 : List ByteArray) (x11 : List ByteArray) (k : Pk → Option R) : evF tt sig (mkK [(69, Klaws_eqStringS @laws_eqStringS n)] R) (mkL (mkK [(69, Klaws_eqStringS @laws_eqStringS n)]) [] R) Tryd.f32 Hlaws_eqState (PkS.pack Slaws_eqState (x0, x1, x2, x3, x4, x5, x6, x7, x8, x9, x10, x11, ())) k = (fun (k : Bool → Option R) => (bif (x0 != x6) then k false else (bif (x1 != x7) then k false else (bif (!(x2 == x8)) then k false else (bif (x3 != x9) then k false else (laws_eqStringS n x4 x10 fun r1 => (bif (!r1) then k false else (laws_eqStringS n x5 x11 fun r2 => (bif (!r2) then k false else k true))))))))) (fun r0 => k (PkS.pack Tlaws_eqState (r0, ()))) := by kernel_rfl
theorem oklaws_eqState (n : Nat) : FnOk Tryd.prog 32 (Klaws_eqState @laws_eqState n) := by
  refine fn_ok (sig := sig) mixed ttok (mkK_nat (claws_eqState n)) (mkK_ok (claws_eqState n)) (mkL_nat (mkK_nat (claws_eqState n)) (l := []) trivial) (fn := Tryd.f32) (c := bodyOf Tryd.f32) (by kernel_rfl) (by kernel_rfl) (by kernel_rfl) (.eq (l := []) (by kernel_rfl) trivial) (shs := Hlaws_eqState) (S := Slaws_eqState) (h1 := by kernel_rfl) fun R p k => ?_
  unfold Klaws_eqState
  cases h : (PkS.un Slaws_eqState p) with
  | none => rfl
  | some d =>
    obtain ⟨x0, x1, x2, x3, x4, x5, x6, x7, x8, x9, x10, x11, u⟩ := (d : Int × Int × Bool × Int × (List ByteArray) × (List ByteArray) × Int × Int × Bool × Int × (List ByteArray) × (List ByteArray) × Unit)
    have hp := PkS.un_pack h
    subst hp
    exact (elaws_eqState @laws_eqStringS n x0 x1 x2 x3 x4 x5 x6 x7 x8 x9 x10 x11 k).symm

/-! ### loop.example/g00269/laws.FnExactGoodState -/
theorem claws_FnExactGoodState (n : Nat) : AllOk Tryd.prog [(28, Klaws_szState @laws_szState n), (30, Klaws_toState @laws_toState n), (29, Kspec_GoodState @spec_GoodState n), (31, Kimpl_GoodState @impl_GoodState n), (32, Klaws_eqState @laws_eqState n)] := ⟨oklaws_szState n, ⟨oklaws_toState n, ⟨okspec_GoodState n, ⟨okimpl_GoodState n, ⟨oklaws_eqState n, trivial⟩⟩⟩⟩⟩
@[reducible] def Slaws_FnExactGoodState : PkS := ⟨[.agg [.int .i64, .int .i64, .bool, .int .i64, .ro .str, .ro .str]], []⟩
@[reducible] def Tlaws_FnExactGoodState : PkS := ⟨[.one (.bool), .one (.dead)], []⟩
def Hlaws_FnExactGoodState : List Sh := [.one .any, .skip]
def Klaws_FnExactGoodState (g : ∀ {R : Type}, Nat → Int → Int → Bool → Int → (List ByteArray) → (List ByteArray) → (Bool → Option R) → Option R) (n : Nat) : KPs := fun R p k => match (PkS.un Slaws_FnExactGoodState p : Option (Int × Int × Bool × Int × (List ByteArray) × (List ByteArray) × Unit)) with
  | some (x0, x1, x2, x3, x4, x5, _) => g n x0 x1 x2 x3 x4 x5 (fun r0 => k (PkS.pack Tlaws_FnExactGoodState (r0, ())))
  | none => none
theorem elaws_FnExactGoodState (laws_szState : ∀ {R : Type}, Nat → Int → Int → Bool → Int → (List ByteArray) → (List ByteArray) → Int → (Int → Option R) → Option R) (laws_toState : ∀ {R : Type}, Nat → Int → Int → Bool → Int → (List ByteArray) → (List ByteArray) → (Int → Int → Bool → Int → (List ByteArray) → (List ByteArray) → Option R) → Option R) (spec_GoodState : ∀ {R : Type}, Nat → Int → Int → Bool → Int → (List ByteArray) → (List ByteArray) → (Bool → Option R) → Option R) (impl_GoodState : ∀ {R : Type}, Nat → Int → Int → Bool → Int → (List ByteArray) → (List ByteArray) → (Bool → Option R) → Option R) (laws_eqState : ∀ {R : Type}, Nat → Int → Int → Bool → Int → (List ByteArray) → (List ByteArray) → Int → Int → Bool → Int → (List ByteArray) → (List ByteArray) → (Bool → Option R) → Option R) {R : Type} (n : Nat) (x0 : Int) (x1 : Int) (x2 : Bool) (x3 : Int) (x4 : List ByteArray) (x5 : List ByteArray) (k : Pk → Option R) : evF tt sig (mkK [(28, Klaws_szState @laws_szState n), (30, Klaws_toState @laws_toState n), (29, Kspec_GoodState @spec_GoodState n), (31, Kimpl_GoodState @impl_GoodState n), (32, Klaws_eqState @laws_eqState n)] R) (mkL (mkK [(28, Klaws_szState @laws_szState n), (30, Klaws_toState @laws_toState n), (29, Kspec_GoodState @spec_GoodState n), (31, Kimpl_GoodState @impl_GoodState n), (32, Klaws_eqState @laws_eqState n)]) [] R) Tryd.f5 Hlaws_FnExactGoodState (PkS.pack Slaws_FnExactGoodState (x0, x1, x2, x3, x4, x5, ())) k = (fun (k : Bool → Option R) => (laws_szState n x0 x1 x2 x3 x4 x5 1048576 fun r1 => (bif (decide (r1 < 0)) then k true else (laws_toState n x0 x1 x2 x3 x4 x5 fun r2 r3 r4 r5 r6 r7 => (spec_GoodState n r2 r3 r4 r5 r6 r7 fun r8 => (laws_toState n x0 x1 x2 x3 x4 x5 fun r9 r10 r11 r12 r13 r14 => (impl_GoodState n r9 r10 r11 r12 r13 r14 fun r15 => (bif (!(r15 == r8)) then k false else (laws_toState n x0 x1 x2 x3 x4 x5 fun r16 r17 r18 r19 r20 r21 => (laws_eqState n r9 r10 r11 r12 r13 r14 r16 r17 r18 r19 r20 r21 fun r22 => (bif (!r22) then k false else k true))))))))))) (fun r0 => k (PkS.pack Tlaws_FnExactGoodState (r0, ()))) := by kernel_rfl
theorem oklaws_FnExactGoodState (n : Nat) : FnOk Tryd.prog 5 (Klaws_FnExactGoodState @laws_FnExactGoodState n) := by
  refine fn_ok (sig := sig) mixed ttok (mkK_nat (claws_FnExactGoodState n)) (mkK_ok (claws_FnExactGoodState n)) (mkL_nat (mkK_nat (claws_FnExactGoodState n)) (l := []) trivial) (fn := Tryd.f5) (c := bodyOf Tryd.f5) (by kernel_rfl) (by kernel_rfl) (by kernel_rfl) (.eq (l := []) (by kernel_rfl) trivial) (shs := Hlaws_FnExactGoodState) (S := Slaws_FnExactGoodState) (h1 := by kernel_rfl) fun R p k => ?_
  unfold Klaws_FnExactGoodState
  cases h : (PkS.un Slaws_FnExactGoodState p) with
  | none => rfl
  | some d =>
    obtain ⟨x0, x1, x2, x3, x4, x5, u⟩ := (d : Int × Int × Bool × Int × (List ByteArray) × (List ByteArray) × Unit)
    have hp := PkS.un_pack h
    subst hp
    exact (elaws_FnExactGoodState @laws_szState @laws_toState @spec_GoodState @impl_GoodState @laws_eqState n x0 x1 x2 x3 x4 x5 k).symm
end Go.Am.G
