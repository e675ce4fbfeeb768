/- The code of the functions that the law reaches does what the plain functions say. -/
import Derived.Test.YtkbaenelfhakbaaDoorF8
import Derived.Test.YtkbaenelfhakbaaDoorAmE
import Derived.KernelRfl
import Derived.Test.YtkbaenelfhakbaaDoorProg
set_option linter.unusedVariables false
set_option maxRecDepth 100000
namespace Go.Am.G
open Go Go.Am
open Go.Proofs
def tt : TT := [(3, ⟨1, false, (.int .i64), 0, [], [.int .i64 0], 8, true, false, [], none⟩), (4, ⟨1, false, .bool, 0, [], [.bool false], 1, true, false, [], none⟩), (5, ⟨1, false, (.int .u8), 0, [], [.int .u8 0], 1, true, false, [], none⟩), (9, ⟨1, false, .str, 0, [], [.str ByteArray.empty], 16, true, false, [], none⟩), (34, ⟨1, false, (.sl (.int .u8)), 5, [], [.nil], 24, true, true, [], none⟩), (37, ⟨4, true, (.pr (.int .i64) (.pr (.int .i64) (.pr (.int .i64) .str))), 0, [(0, 1, false), (1, 1, false), (2, 1, false), (3, 1, false)], [.int .i64 0, .int .i64 0, .int .i64 0, .str ByteArray.empty], 40, true, false, [(.int .i64), (.int .i64), (.int .i64), .str], none⟩), (50, ⟨1, false, (.sl .str), 9, [], [.nil], 24, true, true, [], none⟩), (52, ⟨6, true, (.pr (.int .i64) (.pr (.int .i64) (.pr .bool (.pr (.int .i64) (.pr (.sl .str) (.sl .str)))))), 0, [(0, 1, false), (1, 1, false), (2, 1, false), (3, 1, false), (4, 1, false), (5, 1, false)], [.int .i64 0, .int .i64 0, .bool false, .int .i64 0, .nil, .nil], 80, true, false, [], none⟩), (55, ⟨6, true, (.pr (.int .i64) (.pr (.int .i64) (.pr .bool (.pr (.int .i64) (.pr (.sl .str) (.sl .str)))))), 0, [(0, 1, false), (1, 1, false), (2, 1, false), (3, 1, false), (4, 1, false), (5, 1, false)], [.int .i64 0, .int .i64 0, .bool false, .int .i64 0, .nil, .nil], 80, true, false, [], none⟩), (62, ⟨4, true, (.pr (.int .i64) (.pr (.int .i64) (.pr (.int .i64) .str))), 0, [(0, 1, false), (1, 1, false), (2, 1, false), (3, 1, false)], [.int .i64 0, .int .i64 0, .int .i64 0, .str ByteArray.empty], 40, true, false, [(.int .i64), (.int .i64), (.int .i64), .str], none⟩), (112, ⟨1, false, (.int .u64), 0, [], [.int .u64 0], 8, true, false, [], none⟩)]
def sig : Sig := sigOf [(8, [.agg [.any, .any, .any, .any, (.ro .str), (.ro .str)], .agg [.any, .any, .any, .any]]), (28, [.agg [.any, .any, .any, .any, (.ro .str), (.ro .str)], .one .any]), (29, [.agg [.any, .any, .any, .any, (.ro .str), (.ro .str)]]), (30, [.agg [.any, .any, .any, .any, (.ro .str), (.ro .str)]]), (31, [.agg [.any, .any, .any, .any, (.ro .str), (.ro .str)]]), (32, [.agg [.any, .any, .any, .any, (.ro .str), (.ro .str)], .agg [.any, .any, .any, .any, (.ro .str), (.ro .str)]]), (37, [.agg [.any, .any, .any, .any], .one .any]), (38, [.agg [.any, .any, .any, .any, (.ro .str), (.ro .str)], .agg [.any, .any, .any, .any]]), (39, [.agg [.any, .any, .any, .any]]), (40, [.agg [.any, .any, .any, .any, (.ro .str), (.ro .str)], .agg [.any, .any, .any, .any]]), (41, [.agg [.any, .any, .any, .any, (.own .str), (.own .str)], .one .any]), (42, [.agg [.any, .any, .any, .any, (.ro .str), (.ro .str)], .one .any]), (43, [.agg [.any, .any, .any, .any]]), (47, [.agg [.any, .any, .any, .any]]), (50, [.one .any]), (53, [.one .any, .one .any, .one .any]), (56, [.one .any]), (59, [.one .any, .one .any, .one .any]), (63, [.one (.ro .str), .one .any]), (64, [.one (.ro .str), .one .any]), (65, [.one (.ro .str)]), (66, [.one (.ro .str), .one .any]), (67, [.one (.ro .str)]), (68, [.one (.ro .str)]), (69, [.one (.ro .str), .one (.ro .str)]), (70, [.one .any]), (71, [.agg [.any, .any, .any, .any, (.ro .str), (.ro .str)], .agg [.any, .any, .any, .any]]), (72, [.one .any]), (73, [.one .any]), (74, [.agg [.any, .any, .any, .any, (.ro .str), (.ro .str)]]), (75, [.box [.any, .any, .any, .any, (.own .str), (.own .str)], .one .any, .one .any]), (78, [.one (.own .str), .one .any]), (79, [.one (.ro .str), .one .any]), (85, [.one (.ro .str), .fn 86 []]), (86, [.one .any]), (87, [.one (.ro .str), .one .any]), (88, [.one .any, .one .any]), (89, [.agg [.any, .any, .any, .any, (.ro .str), (.ro .str)]]), (90, [.one (.ro .str), .one .any]), (91, [.one (.ro .str), .one .any]), (92, [.one .any, .one .any]), (93, [.one (.ro .str)]), (94, [.box [.any, .any, .any, .any, (.own .str), (.own .str)], .one .any]), (97, [.one (.ro .str), .fn 86 []]), (98, [.one (.ro .str), .one .any]), (99, [.one .any]), (107, [.one (.ro .str), .one .any]), (108, [.one (.own .str), .one .any, .one .any]), (109, [.one (.own .str), .one .any, .one (.own .str)]), (114, [.one .any])]
theorem ttok : TTok Tryd.prog tt := .of_chk (by kernel_rfl)
theorem mixed : Tryd.prog.follows .mixedOrders = true := by kernel_rfl

/-! ### loop.example/g00269/laws.szStringS -/
theorem claws_szStringS (n : Nat) : AllOk Tryd.prog [] := trivial
@[reducible] def Slaws_szStringS_l5 : PkS := ⟨[.one (.ro .str), .one (.int .i64), .one (.int .i64), .one (.dead), .one (.dead)], []⟩
@[reducible] def Tlaws_szStringS_l5_0 : PkS := ⟨[.one (.int .i64), .one (.dead), .one (.dead)], []⟩
@[reducible] def Tlaws_szStringS_l5_1 : PkS := ⟨[.one (.int .i64), .one (.dead), .one (.dead)], []⟩
def Dlaws_szStringS_l5 : LoopD := ⟨28, [0, 1, 5], [.one (.ro .str), .one .any, .one .any, .skip, .skip], fun x => match x with
  | .ret => some ([4], [.one .any, .skip, .skip])
  | .exit 0 => some ([1], [.one .any, .skip, .skip])
  | _ => none⟩
def Plaws_szStringS_l5 (g : ∀ {R : Type}, Nat → (List ByteArray) → Int → Int → (Int → Option R) → (Int → Option R) → Option R) (n : Nat) : LPs := fun R q kk => match (PkS.un Slaws_szStringS_l5 q : Option ((List ByteArray) × Int × Int × Unit)) with
  | some (y5_0, y5_1, y5_2, _) => g n y5_0 y5_1 y5_2 (fun r0 => kk .ret (PkS.pack Tlaws_szStringS_l5_0 (r0, ()))) (fun r0 => kk (.exit 0) (PkS.pack Tlaws_szStringS_l5_1 (r0, ())))
  | none => none
theorem elaws_szStringS_l5 (laws_szStringS_l5 : ∀ {R : Type}, Nat → (List ByteArray) → Int → Int → (Int → Option R) → (Int → Option R) → Option R) {R : Type} (n : Nat) (y5_0 : List ByteArray) (y5_1 : Int) (y5_2 : Int) (kk : Ex → Pk → Option R) : Dlaws_szStringS_l5.step tt sig (mkK [] R) (mkL (mkK []) [] R) (loopIn 5 (bodyOf Tryd.f63)) (fun q' => Plaws_szStringS_l5 @laws_szStringS_l5 n R q' kk) (PkS.pack Slaws_szStringS_l5 (y5_0, y5_1, y5_2, ())) kk = (fun (kret : Int → Option R) (kexit0 : Int → Option R) => (bif (decide (y5_2 < (y5_0.length : Int))) then (bif decide (0 ≤ y5_2) then (bif decide (y5_2 < (y5_0.length : Int)) then (bif (decide ((IntKind.wrap .i64 (y5_1 - ((y5_0.getD (Int.toNat y5_2) ByteArray.empty).size : Int))) < 0)) then kret (-1) else laws_szStringS_l5 n y5_0 (IntKind.wrap .i64 (y5_1 - ((y5_0.getD (Int.toNat y5_2) ByteArray.empty).size : Int))) (IntKind.wrap .i64 (y5_2 + 1)) kret kexit0) else none) else none) else kexit0 y5_1)) (fun r0 => kk .ret (PkS.pack Tlaws_szStringS_l5_0 (r0, ()))) (fun r0 => kk (.exit 0) (PkS.pack Tlaws_szStringS_l5_1 (r0, ()))) := by kernel_rfl
theorem lelaws_szStringS_l5 : LoopEq tt sig (fun n => mkK []) (fun n => mkL (mkK []) []) Dlaws_szStringS_l5 Slaws_szStringS_l5 (loopIn 5 (bodyOf Tryd.f63)) (Plaws_szStringS_l5 @laws_szStringS_l5) where
  zero R q kk := by unfold Plaws_szStringS_l5; cases (PkS.un Slaws_szStringS_l5 q) <;> rfl
  succ n R q kk := by
    unfold Plaws_szStringS_l5
    cases h : (PkS.un Slaws_szStringS_l5 q) with
    | none => rfl
    | some d =>
      obtain ⟨y5_0, y5_1, y5_2, u⟩ := (d : (List ByteArray) × Int × Int × Unit)
      have hp := PkS.un_pack h
      subst hp
      exact (elaws_szStringS_l5 @laws_szStringS_l5 n y5_0 y5_1 y5_2 kk).symm
theorem nllaws_szStringS_l5 : ∀ n, NatLP (Plaws_szStringS_l5 @laws_szStringS_l5 n) := lelaws_szStringS_l5.nat (fun n => mkK_nat (claws_szStringS n)) fun n => mkL_nat (mkK_nat (claws_szStringS n)) (l := []) trivial
theorem inlaws_szStringS_l5 (n : Nat) (R : Type) : LoopsOk Tryd.prog (mkL (mkK []) [] R) (loopIn 5 (bodyOf Tryd.f63)) := .eq (l := []) (by kernel_rfl) trivial
theorem lklaws_szStringS_l5 (n : Nat) (R : Type) (L0 : LK R) (h0 : ∀ id, firstRegion (loopIn 5 (bodyOf Tryd.f63)) = some id → L0 id = Dlaws_szStringS_l5.oracle (mkK [] R) (Plaws_szStringS_l5 @laws_szStringS_l5 n R)) : LoopOk Tryd.prog L0 (loopIn 5 (bodyOf Tryd.f63)) :=
  lelaws_szStringS_l5.ok mixed ttok (fun n => mkK_nat (claws_szStringS n)) (fun n => mkK_ok (claws_szStringS n)) (fun n => inlaws_szStringS_l5 n R) (mkK_nat (claws_szStringS n)) h0
@[reducible] def Slaws_szStringS : PkS := ⟨[.one (.ro .str), .one (.int .i64)], []⟩
@[reducible] def Tlaws_szStringS : PkS := ⟨[.one (.int .i64), .one (.dead), .one (.dead)], []⟩
def Hlaws_szStringS : List Sh := [.one .any, .skip, .skip]
def Klaws_szStringS (g : ∀ {R : Type}, Nat → (List ByteArray) → Int → (Int → Option R) → Option R) (n : Nat) : KPs := fun R p k => match (PkS.un Slaws_szStringS p : Option ((List ByteArray) × Int × Unit)) with
  | some (x0, x1, _) => g n x0 x1 (fun r0 => k (PkS.pack Tlaws_szStringS (r0, ())))
  | none => none
theorem elaws_szStringS (laws_szStringS_l5 : ∀ {R : Type}, Nat → (List ByteArray) → Int → Int → (Int → Option R) → (Int → Option R) → Option R) {R : Type} (n : Nat) (x0 : List ByteArray) (x1 : Int) (k : Pk → Option R) : evF tt sig (mkK [] R) (mkL (mkK []) [(5, Dlaws_szStringS_l5, Plaws_szStringS_l5 @laws_szStringS_l5 n)] R) Tryd.f63 Hlaws_szStringS (PkS.pack Slaws_szStringS (x0, x1, ())) k = (fun (k : Int → Option R) => (bif (decide ((IntKind.wrap .i64 (x1 - (x0.length : Int))) < 0)) then k (-1) else (laws_szStringS_l5 n x0 (IntKind.wrap .i64 (x1 - (x0.length : Int))) 0 (fun r1 => k r1) (fun r2 => k r2)))) (fun r0 => k (PkS.pack Tlaws_szStringS (r0, ()))) := by kernel_rfl
theorem oklaws_szStringS (n : Nat) : FnOk Tryd.prog 63 (Klaws_szStringS @laws_szStringS n) := by
  refine fn_ok (sig := sig) mixed ttok (mkK_nat (claws_szStringS n)) (mkK_ok (claws_szStringS n)) (mkL_nat (mkK_nat (claws_szStringS n)) (l := [(5, Dlaws_szStringS_l5, Plaws_szStringS_l5 @laws_szStringS_l5 n)]) ⟨nllaws_szStringS_l5 n, trivial⟩) (fn := Tryd.f63) (c := bodyOf Tryd.f63) (by kernel_rfl) (by kernel_rfl) (by kernel_rfl) (.eq (l := [.lo (loopIn 5 (bodyOf Tryd.f63))]) (by kernel_rfl) ⟨(lklaws_szStringS_l5 n _ _ (at_id (i := 5) (by kernel_rfl) rfl)), trivial⟩) (shs := Hlaws_szStringS) (S := Slaws_szStringS) (h1 := by kernel_rfl) fun R p k => ?_
  unfold Klaws_szStringS
  cases h : (PkS.un Slaws_szStringS p) with
  | none => rfl
  | some d =>
    obtain ⟨x0, x1, u⟩ := (d : (List ByteArray) × Int × Unit)
    have hp := PkS.un_pack h
    subst hp
    exact (elaws_szStringS @laws_szStringS_l5 n x0 x1 k).symm

/-! ### loop.example/g00269/laws.szState -/
theorem claws_szState (n : Nat) : AllOk Tryd.prog [(63, Klaws_szStringS @laws_szStringS n)] := ⟨oklaws_szStringS n, trivial⟩
@[reducible] def Slaws_szState : PkS := ⟨[.agg [.int .i64, .int .i64, .bool, .int .i64, .ro .str, .ro .str], .one (.int .i64)], []⟩
@[reducible] def Tlaws_szState : PkS := ⟨[.one (.int .i64), .one (.dead), .one (.dead)], []⟩
def Hlaws_szState : List Sh := [.one .any, .skip, .skip]
def Klaws_szState (g : ∀ {R : Type}, Nat → Int → Int → Bool → Int → (List ByteArray) → (List ByteArray) → Int → (Int → Option R) → Option R) (n : Nat) : KPs := fun R p k => match (PkS.un Slaws_szState p : Option (Int × Int × Bool × Int × (List ByteArray) × (List ByteArray) × Int × Unit)) with
  | some (x0, x1, x2, x3, x4, x5, x6, _) => g n x0 x1 x2 x3 x4 x5 x6 (fun r0 => k (PkS.pack Tlaws_szState (r0, ())))
  | none => none
theorem elaws_szState (laws_szStringS : ∀ {R : Type}, Nat → (List ByteArray) → Int → (Int → Option R) → Option R) {R : Type} (n : Nat) (x0 : Int) (x1 : Int) (x2 : Bool) (x3 : Int) (x4 : List ByteArray) (x5 : List ByteArray) (x6 : Int) (k : Pk → Option R) : evF tt sig (mkK [(63, Klaws_szStringS @laws_szStringS n)] R) (mkL (mkK [(63, Klaws_szStringS @laws_szStringS n)]) [] R) Tryd.f28 Hlaws_szState (PkS.pack Slaws_szState (x0, x1, x2, x3, x4, x5, x6, ())) k = (fun (k : Int → Option R) => (laws_szStringS n x4 x6 fun r1 => (bif (decide (r1 < 0)) then k (-1) else (laws_szStringS n x5 r1 fun r2 => (bif (decide (r2 < 0)) then k (-1) else k r2))))) (fun r0 => k (PkS.pack Tlaws_szState (r0, ()))) := by kernel_rfl
theorem oklaws_szState (n : Nat) : FnOk Tryd.prog 28 (Klaws_szState @laws_szState n) := by
  refine fn_ok (sig := sig) mixed ttok (mkK_nat (claws_szState n)) (mkK_ok (claws_szState n)) (mkL_nat (mkK_nat (claws_szState n)) (l := []) trivial) (fn := Tryd.f28) (c := bodyOf Tryd.f28) (by kernel_rfl) (by kernel_rfl) (by kernel_rfl) (.eq (l := []) (by kernel_rfl) trivial) (shs := Hlaws_szState) (S := Slaws_szState) (h1 := by kernel_rfl) fun R p k => ?_
  unfold Klaws_szState
  cases h : (PkS.un Slaws_szState p) with
  | none => rfl
  | some d =>
    obtain ⟨x0, x1, x2, x3, x4, x5, x6, u⟩ := (d : Int × Int × Bool × Int × (List ByteArray) × (List ByteArray) × Int × Unit)
    have hp := PkS.un_pack h
    subst hp
    exact (elaws_szState @laws_szStringS n x0 x1 x2 x3 x4 x5 x6 k).symm

/-! ### loop.example/g00269/laws.szEvent -/
theorem claws_szEvent (n : Nat) : AllOk Tryd.prog [] := trivial
@[reducible] def Slaws_szEvent : PkS := ⟨[.agg [.int .i64, .int .i64, .int .i64, .str], .one (.int .i64)], []⟩
@[reducible] def Tlaws_szEvent : PkS := ⟨[.one (.int .i64), .one (.dead), .one (.dead)], []⟩
def Hlaws_szEvent : List Sh := [.one .any, .skip, .skip]
def Klaws_szEvent (g : ∀ {R : Type}, Nat → Int → Int → Int → ByteArray → Int → (Int → Option R) → Option R) (n : Nat) : KPs := fun R p k => match (PkS.un Slaws_szEvent p : Option (Int × Int × Int × ByteArray × Int × Unit)) with
  | some (x0, x1, x2, x3, x4, _) => g n x0 x1 x2 x3 x4 (fun r0 => k (PkS.pack Tlaws_szEvent (r0, ())))
  | none => none
theorem elaws_szEvent  {R : Type} (n : Nat) (x0 : Int) (x1 : Int) (x2 : Int) (x3 : ByteArray) (x4 : Int) (k : Pk → Option R) : evF tt sig (mkK [] R) (mkL (mkK []) [] R) Tryd.f37 Hlaws_szEvent (PkS.pack Slaws_szEvent (x0, x1, x2, x3, x4, ())) k = (fun (k : Int → Option R) => (bif (decide ((IntKind.wrap .i64 (x4 - (x3.size : Int))) < 0)) then k (-1) else k (IntKind.wrap .i64 (x4 - (x3.size : Int))))) (fun r0 => k (PkS.pack Tlaws_szEvent (r0, ()))) := by kernel_rfl
theorem oklaws_szEvent (n : Nat) : FnOk Tryd.prog 37 (Klaws_szEvent @laws_szEvent n) := by
  refine fn_ok (sig := sig) mixed ttok (mkK_nat (claws_szEvent n)) (mkK_ok (claws_szEvent n)) (mkL_nat (mkK_nat (claws_szEvent n)) (l := []) trivial) (fn := Tryd.f37) (c := bodyOf Tryd.f37) (by kernel_rfl) (by kernel_rfl) (by kernel_rfl) (.eq (l := []) (by kernel_rfl) trivial) (shs := Hlaws_szEvent) (S := Slaws_szEvent) (h1 := by kernel_rfl) fun R p k => ?_
  unfold Klaws_szEvent
  cases h : (PkS.un Slaws_szEvent p) with
  | none => rfl
  | some d =>
    obtain ⟨x0, x1, x2, x3, x4, u⟩ := (d : Int × Int × Int × ByteArray × Int × Unit)
    have hp := PkS.un_pack h
    subst hp
    exact (elaws_szEvent  n x0 x1 x2 x3 x4 k).symm

/-! ### loop.example/g00269/laws.toStringS -/
theorem claws_toStringS (n : Nat) : AllOk Tryd.prog [] := trivial
@[reducible] def Slaws_toStringS_l3 : PkS := ⟨[.one (.ro .str), .one (.whole (100000, 0)), .one (.int .i64), .one (.dead)], [((100000, 0), .arr .str)]⟩
@[reducible] def Tlaws_toStringS_l3_0 : PkS := ⟨[.one (.whole (100000, 0)), .one (.dead)], [((100000, 0), .arr .str)]⟩
def Dlaws_toStringS_l3 : LoopD := ⟨22, [0, 3, 4], [.one (.ro .str), .one (.own .str), .one .any, .skip], fun x => match x with
  | .exit 0 => some ([3], [.one (.own .str), .skip])
  | _ => none⟩
def Plaws_toStringS_l3 (g : ∀ {R : Type}, Nat → (List ByteArray) → Int → (List ByteArray) → ((List ByteArray) → Option R) → Option R) (n : Nat) : LPs := fun R q kk => match (PkS.un Slaws_toStringS_l3 q : Option ((List ByteArray) × Int × (List ByteArray) × Unit)) with
  | some (y3_0, y3_1, y3_2, _) => g n y3_0 y3_1 y3_2 (fun r0 => kk (.exit 0) (PkS.pack Tlaws_toStringS_l3_0 (r0, ())))
  | none => none
theorem elaws_toStringS_l3 (laws_toStringS_l3 : ∀ {R : Type}, Nat → (List ByteArray) → Int → (List ByteArray) → ((List ByteArray) → Option R) → Option R) {R : Type} (n : Nat) (y3_0 : List ByteArray) (y3_1 : Int) (y3_2 : List ByteArray) (kk : Ex → Pk → Option R) : Dlaws_toStringS_l3.step tt sig (mkK [] R) (mkL (mkK []) [] R) (loopIn 3 (bodyOf Tryd.f65)) (fun q' => Plaws_toStringS_l3 @laws_toStringS_l3 n R q' kk) (PkS.pack Slaws_toStringS_l3 (y3_0, y3_1, y3_2, ())) kk = (fun (kexit0 : (List ByteArray) → Option R) => (bif (decide (y3_1 < (y3_0.length : Int))) then (bif decide (0 ≤ y3_1) then (bif decide (y3_1 < (y3_0.length : Int)) then (bif decide (0 ≤ y3_1) then (bif decide (y3_1 < (y3_2.length : Int)) then laws_toStringS_l3 n y3_0 (IntKind.wrap .i64 (y3_1 + 1)) (y3_2.set (Int.toNat y3_1) (y3_0.getD (Int.toNat y3_1) ByteArray.empty)) kexit0 else none) else none) else none) else none) else kexit0 y3_2)) (fun r0 => kk (.exit 0) (PkS.pack Tlaws_toStringS_l3_0 (r0, ()))) := by kernel_rfl
theorem lelaws_toStringS_l3 : LoopEq tt sig (fun n => mkK []) (fun n => mkL (mkK []) []) Dlaws_toStringS_l3 Slaws_toStringS_l3 (loopIn 3 (bodyOf Tryd.f65)) (Plaws_toStringS_l3 @laws_toStringS_l3) where
  zero R q kk := by unfold Plaws_toStringS_l3; cases (PkS.un Slaws_toStringS_l3 q) <;> rfl
  succ n R q kk := by
    unfold Plaws_toStringS_l3
    cases h : (PkS.un Slaws_toStringS_l3 q) with
    | none => rfl
    | some d =>
      obtain ⟨y3_0, y3_1, y3_2, u⟩ := (d : (List ByteArray) × Int × (List ByteArray) × Unit)
      have hp := PkS.un_pack h
      subst hp
      exact (elaws_toStringS_l3 @laws_toStringS_l3 n y3_0 y3_1 y3_2 kk).symm
theorem nllaws_toStringS_l3 : ∀ n, NatLP (Plaws_toStringS_l3 @laws_toStringS_l3 n) := lelaws_toStringS_l3.nat (fun n => mkK_nat (claws_toStringS n)) fun n => mkL_nat (mkK_nat (claws_toStringS n)) (l := []) trivial
theorem inlaws_toStringS_l3 (n : Nat) (R : Type) : LoopsOk Tryd.prog (mkL (mkK []) [] R) (loopIn 3 (bodyOf Tryd.f65)) := .eq (l := []) (by kernel_rfl) trivial
theorem lklaws_toStringS_l3 (n : Nat) (R : Type) (L0 : LK R) (h0 : ∀ id, firstRegion (loopIn 3 (bodyOf Tryd.f65)) = some id → L0 id = Dlaws_toStringS_l3.oracle (mkK [] R) (Plaws_toStringS_l3 @laws_toStringS_l3 n R)) : LoopOk Tryd.prog L0 (loopIn 3 (bodyOf Tryd.f65)) :=
  lelaws_toStringS_l3.ok mixed ttok (fun n => mkK_nat (claws_toStringS n)) (fun n => mkK_ok (claws_toStringS n)) (fun n => inlaws_toStringS_l3 n R) (mkK_nat (claws_toStringS n)) h0
@[reducible] def Slaws_toStringS : PkS := ⟨[.one (.ro .str)], []⟩
@[reducible] def Tlaws_toStringS : PkS := ⟨[.one (.whole (300000, 0)), .one (.dead)], [((300000, 0), .arr .str)]⟩
def Hlaws_toStringS : List Sh := [.one (.own .str), .skip]
def Klaws_toStringS (g : ∀ {R : Type}, Nat → (List ByteArray) → ((List ByteArray) → Option R) → Option R) (n : Nat) : KPs := fun R p k => match (PkS.un Slaws_toStringS p : Option ((List ByteArray) × Unit)) with
  | some (x0, _) => g n x0 (fun r0 => k (PkS.pack Tlaws_toStringS (r0, ())))
  | none => none
theorem elaws_toStringS (laws_toStringS_l3 : ∀ {R : Type}, Nat → (List ByteArray) → Int → (List ByteArray) → ((List ByteArray) → Option R) → Option R) {R : Type} (n : Nat) (x0 : List ByteArray) (k : Pk → Option R) : evF tt sig (mkK [] R) (mkL (mkK []) [(3, Dlaws_toStringS_l3, Plaws_toStringS_l3 @laws_toStringS_l3 n)] R) Tryd.f65 Hlaws_toStringS (PkS.pack Slaws_toStringS (x0, ())) k = (fun (k : (List ByteArray) → Option R) => (bif decide (0 ≤ (x0.length : Int)) then (bif decide ((x0.length : Int) ≤ (x0.length : Int)) then (bif decide ((x0.length : Int) ≤ 1099511627776) then (laws_toStringS_l3 n x0 0 (List.replicate (Int.toNat (x0.length : Int)) ByteArray.empty) (fun r1 => k r1)) else none) else none) else none)) (fun r0 => k (PkS.pack Tlaws_toStringS (r0, ()))) := by kernel_rfl
theorem oklaws_toStringS (n : Nat) : FnOk Tryd.prog 65 (Klaws_toStringS @laws_toStringS n) := by
  refine fn_ok (sig := sig) mixed ttok (mkK_nat (claws_toStringS n)) (mkK_ok (claws_toStringS n)) (mkL_nat (mkK_nat (claws_toStringS n)) (l := [(3, Dlaws_toStringS_l3, Plaws_toStringS_l3 @laws_toStringS_l3 n)]) ⟨nllaws_toStringS_l3 n, trivial⟩) (fn := Tryd.f65) (c := bodyOf Tryd.f65) (by kernel_rfl) (by kernel_rfl) (by kernel_rfl) (.eq (l := [.lo (loopIn 3 (bodyOf Tryd.f65))]) (by kernel_rfl) ⟨(lklaws_toStringS_l3 n _ _ (at_id (i := 3) (by kernel_rfl) rfl)), trivial⟩) (shs := Hlaws_toStringS) (S := Slaws_toStringS) (h1 := by kernel_rfl) fun R p k => ?_
  unfold Klaws_toStringS
  cases h : (PkS.un Slaws_toStringS p) with
  | none => rfl
  | some d =>
    obtain ⟨x0, u⟩ := (d : (List ByteArray) × Unit)
    have hp := PkS.un_pack h
    subst hp
    exact (elaws_toStringS @laws_toStringS_l3 n x0 k).symm

/-! ### loop.example/g00269/laws.toState -/
theorem claws_toState (n : Nat) : AllOk Tryd.prog [(65, Klaws_toStringS @laws_toStringS n)] := ⟨oklaws_toStringS n, trivial⟩
@[reducible] def Slaws_toState : PkS := ⟨[.agg [.int .i64, .int .i64, .bool, .int .i64, .ro .str, .ro .str]], []⟩
@[reducible] def Tlaws_toState : PkS := ⟨[.agg [.int .i64, .int .i64, .bool, .int .i64, .whole (300000, 0), .whole (300000, 1)], .one (.dead)], [((300000, 0), .arr .str), ((300000, 1), .arr .str)]⟩
def Hlaws_toState : List Sh := [.agg [.any, .any, .any, .any, (.own .str), (.own .str)], .skip]
def Klaws_toState (g : ∀ {R : Type}, Nat → Int → Int → Bool → Int → (List ByteArray) → (List ByteArray) → (Int → Int → Bool → Int → (List ByteArray) → (List ByteArray) → Option R) → Option R) (n : Nat) : KPs := fun R p k => match (PkS.un Slaws_toState p : Option (Int × Int × Bool × Int × (List ByteArray) × (List ByteArray) × Unit)) with
  | some (x0, x1, x2, x3, x4, x5, _) => g n x0 x1 x2 x3 x4 x5 (fun r0 r1 r2 r3 r4 r5 => k (PkS.pack Tlaws_toState (r0, r1, r2, r3, r4, r5, ())))
  | none => none
theorem elaws_toState (laws_toStringS : ∀ {R : Type}, Nat → (List ByteArray) → ((List ByteArray) → Option R) → Option R) {R : Type} (n : Nat) (x0 : Int) (x1 : Int) (x2 : Bool) (x3 : Int) (x4 : List ByteArray) (x5 : List ByteArray) (k : Pk → Option R) : evF tt sig (mkK [(65, Klaws_toStringS @laws_toStringS n)] R) (mkL (mkK [(65, Klaws_toStringS @laws_toStringS n)]) [] R) Tryd.f30 Hlaws_toState (PkS.pack Slaws_toState (x0, x1, x2, x3, x4, x5, ())) k = (fun (k : Int → Int → Bool → Int → (List ByteArray) → (List ByteArray) → Option R) => (laws_toStringS n x4 fun r1 => (laws_toStringS n x5 fun r2 => k x0 x1 x2 x3 r1 r2))) (fun r0 r1 r2 r3 r4 r5 => k (PkS.pack Tlaws_toState (r0, r1, r2, r3, r4, r5, ()))) := by kernel_rfl
theorem oklaws_toState (n : Nat) : FnOk Tryd.prog 30 (Klaws_toState @laws_toState n) := by
  refine fn_ok (sig := sig) mixed ttok (mkK_nat (claws_toState n)) (mkK_ok (claws_toState n)) (mkL_nat (mkK_nat (claws_toState n)) (l := []) trivial) (fn := Tryd.f30) (c := bodyOf Tryd.f30) (by kernel_rfl) (by kernel_rfl) (by kernel_rfl) (.eq (l := []) (by kernel_rfl) trivial) (shs := Hlaws_toState) (S := Slaws_toState) (h1 := by kernel_rfl) fun R p k => ?_
  unfold Klaws_toState
  cases h : (PkS.un Slaws_toState p) with
  | none => rfl
  | some d =>
    obtain ⟨x0, x1, x2, x3, x4, x5, u⟩ := (d : Int × Int × Bool × Int × (List ByteArray) × (List ByteArray) × Unit)
    have hp := PkS.un_pack h
    subst hp
    exact (elaws_toState @laws_toStringS n x0 x1 x2 x3 x4 x5 k).symm

/-! ### loop.example/g00269/laws.toEvent -/
theorem claws_toEvent (n : Nat) : AllOk Tryd.prog [] := trivial
@[reducible] def Slaws_toEvent : PkS := ⟨[.agg [.int .i64, .int .i64, .int .i64, .str]], []⟩
@[reducible] def Tlaws_toEvent : PkS := ⟨[.agg [.int .i64, .int .i64, .int .i64, .str], .one (.dead)], []⟩
def Hlaws_toEvent : List Sh := [.agg [.any, .any, .any, .any], .skip]
def Klaws_toEvent (g : ∀ {R : Type}, Nat → Int → Int → Int → ByteArray → (Int → Int → Int → ByteArray → Option R) → Option R) (n : Nat) : KPs := fun R p k => match (PkS.un Slaws_toEvent p : Option (Int × Int × Int × ByteArray × Unit)) with
  | some (x0, x1, x2, x3, _) => g n x0 x1 x2 x3 (fun r0 r1 r2 r3 => k (PkS.pack Tlaws_toEvent (r0, r1, r2, r3, ())))
  | none => none
theorem elaws_toEvent  {R : Type} (n : Nat) (x0 : Int) (x1 : Int) (x2 : Int) (x3 : ByteArray) (k : Pk → Option R) : evF tt sig (mkK [] R) (mkL (mkK []) [] R) Tryd.f39 Hlaws_toEvent (PkS.pack Slaws_toEvent (x0, x1, x2, x3, ())) k = (fun (k : Int → Int → Int → ByteArray → Option R) => k x0 x1 x2 x3) (fun r0 r1 r2 r3 => k (PkS.pack Tlaws_toEvent (r0, r1, r2, r3, ()))) := by kernel_rfl
theorem oklaws_toEvent (n : Nat) : FnOk Tryd.prog 39 (Klaws_toEvent @laws_toEvent n) := by
  refine fn_ok (sig := sig) mixed ttok (mkK_nat (claws_toEvent n)) (mkK_ok (claws_toEvent n)) (mkL_nat (mkK_nat (claws_toEvent n)) (l := []) trivial) (fn := Tryd.f39) (c := bodyOf Tryd.f39) (by kernel_rfl) (by kernel_rfl) (by kernel_rfl) (.eq (l := []) (by kernel_rfl) trivial) (shs := Hlaws_toEvent) (S := Slaws_toEvent) (h1 := by kernel_rfl) fun R p k => ?_
  unfold Klaws_toEvent
  cases h : (PkS.un Slaws_toEvent p) with
  | none => rfl
  | some d =>
    obtain ⟨x0, x1, x2, x3, u⟩ := (d : Int × Int × Int × ByteArray × Unit)
    have hp := PkS.un_pack h
    subst hp
    exact (elaws_toEvent  n x0 x1 x2 x3 k).symm

/-! ### loop.example/g00269/spec.l1In -/
theorem cspec_l1In (n : Nat) : AllOk Tryd.prog [] := trivial
@[reducible] def Sspec_l1In : PkS := ⟨[.one (.int .i64), .one (.int .i64), .one (.int .i64)], []⟩
@[reducible] def Tspec_l1In : PkS := ⟨[.one (.bool), .one (.dead), .one (.dead), .one (.dead)], []⟩
def Hspec_l1In : List Sh := [.one .any, .skip, .skip, .skip]
def Kspec_l1In (g : ∀ {R : Type}, Nat → Int → Int → Int → (Bool → Option R) → Option R) (n : Nat) : KPs := fun R p k => match (PkS.un Sspec_l1In p : Option (Int × Int × Int × Unit)) with
  | some (x0, x1, x2, _) => g n x0 x1 x2 (fun r0 => k (PkS.pack Tspec_l1In (r0, ())))
  | none => none
theorem espec_l1In  {R : Type} (n : Nat) (x0 : Int) (x1 : Int) (x2 : Int) (k : Pk → Option R) : evF tt sig (mkK [] R) (mkL (mkK []) [] R) Tryd.f59 Hspec_l1In (PkS.pack Sspec_l1In (x0, x1, x2, ())) k = (fun (k : Bool → Option R) => (bif (decide (x0 ≥ x1)) then k (decide (x0 ≤ x2)) else k false)) (fun r0 => k (PkS.pack Tspec_l1In (r0, ()))) := by kernel_rfl
theorem okspec_l1In (n : Nat) : FnOk Tryd.prog 59 (Kspec_l1In @spec_l1In n) := by
  refine fn_ok (sig := sig) mixed ttok (mkK_nat (cspec_l1In n)) (mkK_ok (cspec_l1In n)) (mkL_nat (mkK_nat (cspec_l1In n)) (l := []) trivial) (fn := Tryd.f59) (c := bodyOf Tryd.f59) (by kernel_rfl) (by kernel_rfl) (by kernel_rfl) (.eq (l := []) (by kernel_rfl) trivial) (shs := Hspec_l1In) (S := Sspec_l1In) (h1 := by kernel_rfl) fun R p k => ?_
  unfold Kspec_l1In
  cases h : (PkS.un Sspec_l1In p) with
  | none => rfl
  | some d =>
    obtain ⟨x0, x1, x2, u⟩ := (d : Int × Int × Int × Unit)
    have hp := PkS.un_pack h
    subst hp
    exact (espec_l1In  n x0 x1 x2 k).symm

/-! ### loop.example/g00269/spec.l1Name -/
theorem cspec_l1Name (n : Nat) : AllOk Tryd.prog [] := trivial
@[reducible] def Sspec_l1Name_l2 : PkS := ⟨[.one (.str), .one (.int .i64), .one (.dead)], []⟩
@[reducible] def Tspec_l1Name_l2_0 : PkS := ⟨[.one (.bool), .one (.dead)], []⟩
@[reducible] def Tspec_l1Name_l2_1 : PkS := ⟨[.one (.str), .one (.dead)], []⟩
def Dspec_l1Name_l2 : LoopD := ⟨36, [0, 3], [.one .any, .one .any, .skip], fun x => match x with
  | .ret => some ([2], [.one .any, .skip])
  | .exit 0 => some ([0], [.one .any, .skip])
  | _ => none⟩
def Pspec_l1Name_l2 (g : ∀ {R : Type}, Nat → ByteArray → Int → (Bool → Option R) → (ByteArray → Option R) → Option R) (n : Nat) : LPs := fun R q kk => match (PkS.un Sspec_l1Name_l2 q : Option (ByteArray × Int × Unit)) with
  | some (y2_0, y2_1, _) => g n y2_0 y2_1 (fun r0 => kk .ret (PkS.pack Tspec_l1Name_l2_0 (r0, ()))) (fun r0 => kk (.exit 0) (PkS.pack Tspec_l1Name_l2_1 (r0, ())))
  | none => none
theorem espec_l1Name_l2 (spec_l1Name_l2 : ∀ {R : Type}, Nat → ByteArray → Int → (Bool → Option R) → (ByteArray → Option R) → Option R) {R : Type} (n : Nat) (y2_0 : ByteArray) (y2_1 : Int) (kk : Ex → Pk → Option R) : Dspec_l1Name_l2.step tt sig (mkK [] R) (mkL (mkK []) [] R) (loopIn 2 (bodyOf Tryd.f70)) (fun q' => Pspec_l1Name_l2 @spec_l1Name_l2 n R q' kk) (PkS.pack Sspec_l1Name_l2 (y2_0, y2_1, ())) kk = (fun (kret : Bool → Option R) (kexit0 : ByteArray → Option R) => (bif (decide (y2_1 < (y2_0.size : Int))) then (bif decide (0 ≤ y2_1) then (bif decide (y2_1 < (y2_0.size : Int)) then (bif (decide (((y2_0.data.getD (Int.toNat y2_1) 0).toNat : Int) ≥ 97)) then (bif decide (0 ≤ y2_1) then (bif decide (y2_1 < (y2_0.size : Int)) then (bif (decide (((y2_0.data.getD (Int.toNat y2_1) 0).toNat : Int) ≤ 122)) then spec_l1Name_l2 n y2_0 (IntKind.wrap .i64 (y2_1 + 1)) kret kexit0 else (bif decide (0 ≤ y2_1) then (bif decide (y2_1 < (y2_0.size : Int)) then (bif (decide (((y2_0.data.getD (Int.toNat y2_1) 0).toNat : Int) ≥ 48)) then (bif decide (0 ≤ y2_1) then (bif decide (y2_1 < (y2_0.size : Int)) then (bif (!(decide (((y2_0.data.getD (Int.toNat y2_1) 0).toNat : Int) ≤ 57))) then kret false else spec_l1Name_l2 n y2_0 (IntKind.wrap .i64 (y2_1 + 1)) kret kexit0) else none) else none) else kret false) else none) else none)) else none) else none) else (bif decide (0 ≤ y2_1) then (bif decide (y2_1 < (y2_0.size : Int)) then (bif (decide (((y2_0.data.getD (Int.toNat y2_1) 0).toNat : Int) ≥ 48)) then (bif decide (0 ≤ y2_1) then (bif decide (y2_1 < (y2_0.size : Int)) then (bif (!(decide (((y2_0.data.getD (Int.toNat y2_1) 0).toNat : Int) ≤ 57))) then kret false else spec_l1Name_l2 n y2_0 (IntKind.wrap .i64 (y2_1 + 1)) kret kexit0) else none) else none) else kret false) else none) else none)) else none) else none) else kexit0 y2_0)) (fun r0 => kk .ret (PkS.pack Tspec_l1Name_l2_0 (r0, ()))) (fun r0 => kk (.exit 0) (PkS.pack Tspec_l1Name_l2_1 (r0, ()))) := by kernel_rfl
theorem lespec_l1Name_l2 : LoopEq tt sig (fun n => mkK []) (fun n => mkL (mkK []) []) Dspec_l1Name_l2 Sspec_l1Name_l2 (loopIn 2 (bodyOf Tryd.f70)) (Pspec_l1Name_l2 @spec_l1Name_l2) where
  zero R q kk := by unfold Pspec_l1Name_l2; cases (PkS.un Sspec_l1Name_l2 q) <;> rfl
  succ n R q kk := by
    unfold Pspec_l1Name_l2
    cases h : (PkS.un Sspec_l1Name_l2 q) with
    | none => rfl
    | some d =>
      obtain ⟨y2_0, y2_1, u⟩ := (d : ByteArray × Int × Unit)
      have hp := PkS.un_pack h
      subst hp
      exact (espec_l1Name_l2 @spec_l1Name_l2 n y2_0 y2_1 kk).symm
theorem nlspec_l1Name_l2 : ∀ n, NatLP (Pspec_l1Name_l2 @spec_l1Name_l2 n) := lespec_l1Name_l2.nat (fun n => mkK_nat (cspec_l1Name n)) fun n => mkL_nat (mkK_nat (cspec_l1Name n)) (l := []) trivial
theorem inspec_l1Name_l2 (n : Nat) (R : Type) : LoopsOk Tryd.prog (mkL (mkK []) [] R) (loopIn 2 (bodyOf Tryd.f70)) := .eq (l := []) (by kernel_rfl) trivial
theorem lkspec_l1Name_l2 (n : Nat) (R : Type) (L0 : LK R) (h0 : ∀ id, firstRegion (loopIn 2 (bodyOf Tryd.f70)) = some id → L0 id = Dspec_l1Name_l2.oracle (mkK [] R) (Pspec_l1Name_l2 @spec_l1Name_l2 n R)) : LoopOk Tryd.prog L0 (loopIn 2 (bodyOf Tryd.f70)) :=
  lespec_l1Name_l2.ok mixed ttok (fun n => mkK_nat (cspec_l1Name n)) (fun n => mkK_ok (cspec_l1Name n)) (fun n => inspec_l1Name_l2 n R) (mkK_nat (cspec_l1Name n)) h0
@[reducible] def Sspec_l1Name : PkS := ⟨[.one (.str)], []⟩
@[reducible] def Tspec_l1Name : PkS := ⟨[.one (.bool), .one (.dead)], []⟩
def Hspec_l1Name : List Sh := [.one .any, .skip]
def Kspec_l1Name (g : ∀ {R : Type}, Nat → ByteArray → (Bool → Option R) → Option R) (n : Nat) : KPs := fun R p k => match (PkS.un Sspec_l1Name p : Option (ByteArray × Unit)) with
  | some (x0, _) => g n x0 (fun r0 => k (PkS.pack Tspec_l1Name (r0, ())))
  | none => none
theorem espec_l1Name (spec_l1Name_l2 : ∀ {R : Type}, Nat → ByteArray → Int → (Bool → Option R) → (ByteArray → Option R) → Option R) {R : Type} (n : Nat) (x0 : ByteArray) (k : Pk → Option R) : evF tt sig (mkK [] R) (mkL (mkK []) [(2, Dspec_l1Name_l2, Pspec_l1Name_l2 @spec_l1Name_l2 n)] R) Tryd.f70 Hspec_l1Name (PkS.pack Sspec_l1Name (x0, ())) k = (fun (k : Bool → Option R) => (spec_l1Name_l2 n x0 0 (fun r1 => k r1) (fun r2 => k (decide ((r2.size : Int) ≤ 12))))) (fun r0 => k (PkS.pack Tspec_l1Name (r0, ()))) := by kernel_rfl
theorem okspec_l1Name (n : Nat) : FnOk Tryd.prog 70 (Kspec_l1Name @spec_l1Name n) := by
  refine fn_ok (sig := sig) mixed ttok (mkK_nat (cspec_l1Name n)) (mkK_ok (cspec_l1Name n)) (mkL_nat (mkK_nat (cspec_l1Name n)) (l := [(2, Dspec_l1Name_l2, Pspec_l1Name_l2 @spec_l1Name_l2 n)]) ⟨nlspec_l1Name_l2 n, trivial⟩) (fn := Tryd.f70) (c := bodyOf Tryd.f70) (by kernel_rfl) (by kernel_rfl) (by kernel_rfl) (.eq (l := [.lo (loopIn 2 (bodyOf Tryd.f70))]) (by kernel_rfl) ⟨(lkspec_l1Name_l2 n _ _ (at_id (i := 2) (by kernel_rfl) rfl)), trivial⟩) (shs := Hspec_l1Name) (S := Sspec_l1Name) (h1 := by kernel_rfl) fun R p k => ?_
  unfold Kspec_l1Name
  cases h : (PkS.un Sspec_l1Name p) with
  | none => rfl
  | some d =>
    obtain ⟨x0, u⟩ := (d : ByteArray × Unit)
    have hp := PkS.un_pack h
    subst hp
    exact (espec_l1Name @spec_l1Name_l2 n x0 k).symm

/-! ### loop.example/g00269/spec.l12Names -/
theorem cspec_l12Names (n : Nat) : AllOk Tryd.prog [(70, Kspec_l1Name @spec_l1Name n)] := ⟨okspec_l1Name n, trivial⟩
@[reducible] def Sspec_l12Names_l7 : PkS := ⟨[.one (.ro .str), .one (.bool), .one (.int .i64), .one (.str), .one (.ro .str), .one (.int .i64), .one (.int .i64), .one (.ro .str), .one (.int .i64), .one (.int .i64), .one (.dead), .one (.dead)], []⟩
@[reducible] def Tspec_l12Names_l7_0 : PkS := ⟨[.one (.bool), .one (.dead), .one (.dead)], []⟩
@[reducible] def Tspec_l12Names_l7_1 : PkS := ⟨[.one (.ro .str), .one (.bool), .one (.ro .str), .one (.int .i64), .one (.int .i64), .one (.dead), .one (.dead)], []⟩
def Dspec_l12Names_l7 : LoopD := ⟨50, [0, 1, 5, 6, 9, 10, 11, 21, 22, 23], [.one (.ro .str), .one .any, .one .any, .one .any, .one (.ro .str), .one .any, .one .any, .one (.ro .str), .one .any, .one .any, .skip, .skip], fun x => match x with
  | .ret => some ([4], [.one .any, .skip, .skip])
  | .exit 2 => some ([0, 1, 9, 10, 11], [.one (.ro .str), .one .any, .one (.ro .str), .one .any, .one .any, .skip, .skip])
  | _ => none⟩
def Pspec_l12Names_l7 (g : ∀ {R : Type}, Nat → (List ByteArray) → Bool → Int → ByteArray → (List ByteArray) → Int → Int → (List ByteArray) → Int → Int → (Bool → Option R) → ((List ByteArray) → Bool → (List ByteArray) → Int → Int → Option R) → Option R) (n : Nat) : LPs := fun R q kk => match (PkS.un Sspec_l12Names_l7 q : Option ((List ByteArray) × Bool × Int × ByteArray × (List ByteArray) × Int × Int × (List ByteArray) × Int × Int × Unit)) with
  | some (y7_0, y7_1, y7_2, y7_3, y7_4, y7_5, y7_6, y7_7, y7_8, y7_9, _) => g n y7_0 y7_1 y7_2 y7_3 y7_4 y7_5 y7_6 y7_7 y7_8 y7_9 (fun r0 => kk .ret (PkS.pack Tspec_l12Names_l7_0 (r0, ()))) (fun r0 r1 r2 r3 r4 => kk (.exit 2) (PkS.pack Tspec_l12Names_l7_1 (r0, r1, r2, r3, r4, ())))
  | none => none
theorem espec_l12Names_l7 (spec_l1Name : ∀ {R : Type}, Nat → ByteArray → (Bool → Option R) → Option R) (spec_l12Names_l7 : ∀ {R : Type}, Nat → (List ByteArray) → Bool → Int → ByteArray → (List ByteArray) → Int → Int → (List ByteArray) → Int → Int → (Bool → Option R) → ((List ByteArray) → Bool → (List ByteArray) → Int → Int → Option R) → Option R) {R : Type} (n : Nat) (y7_0 : List ByteArray) (y7_1 : Bool) (y7_2 : Int) (y7_3 : ByteArray) (y7_4 : List ByteArray) (y7_5 : Int) (y7_6 : Int) (y7_7 : List ByteArray) (y7_8 : Int) (y7_9 : Int) (kk : Ex → Pk → Option R) : Dspec_l12Names_l7.step tt sig (mkK [(70, Kspec_l1Name @spec_l1Name n)] R) (mkL (mkK [(70, Kspec_l1Name @spec_l1Name n)]) [] R) (loopIn 7 (bodyOf Tryd.f64)) (fun q' => Pspec_l12Names_l7 @spec_l12Names_l7 n R q' kk) (PkS.pack Sspec_l12Names_l7 (y7_0, y7_1, y7_2, y7_3, y7_4, y7_5, y7_6, y7_7, y7_8, y7_9, ())) kk = (fun (kret : Bool → Option R) (kexit2 : (List ByteArray) → Bool → (List ByteArray) → Int → Int → Option R) => (bif (decide (y7_9 < y7_8)) then (bif decide (0 ≤ y7_9) then (bif decide (y7_9 < (y7_7.length : Int)) then (bif ((ByteArray.toList (y7_7.getD (Int.toNat y7_9) ByteArray.empty)) == (ByteArray.toList y7_3)) then kret false else (bif y7_1 then (bif (y7_9 == (IntKind.wrap .i64 (y7_2 - 1))) then (bif (!((Op.bytesLess (ByteArray.toList (y7_7.getD (Int.toNat y7_9) ByteArray.empty)) (ByteArray.toList y7_3)) || ((ByteArray.toList (y7_7.getD (Int.toNat y7_9) ByteArray.empty)) == (ByteArray.toList y7_3)))) then kret false else spec_l12Names_l7 n y7_0 y7_1 y7_2 y7_3 y7_4 y7_5 y7_6 y7_7 y7_8 (IntKind.wrap .i64 (y7_9 + 1)) kret kexit2) else spec_l12Names_l7 n y7_0 y7_1 y7_2 y7_3 y7_4 y7_5 y7_6 y7_7 y7_8 (IntKind.wrap .i64 (y7_9 + 1)) kret kexit2) else spec_l12Names_l7 n y7_0 y7_1 y7_2 y7_3 y7_4 y7_5 y7_6 y7_7 y7_8 (IntKind.wrap .i64 (y7_9 + 1)) kret kexit2)) else none) else none) else kexit2 y7_0 y7_1 y7_4 y7_5 y7_6)) (fun r0 => kk .ret (PkS.pack Tspec_l12Names_l7_0 (r0, ()))) (fun r0 r1 r2 r3 r4 => kk (.exit 2) (PkS.pack Tspec_l12Names_l7_1 (r0, r1, r2, r3, r4, ()))) := by kernel_rfl
theorem lespec_l12Names_l7 : LoopEq tt sig (fun n => mkK [(70, Kspec_l1Name @spec_l1Name n)]) (fun n => mkL (mkK [(70, Kspec_l1Name @spec_l1Name n)]) []) Dspec_l12Names_l7 Sspec_l12Names_l7 (loopIn 7 (bodyOf Tryd.f64)) (Pspec_l12Names_l7 @spec_l12Names_l7) where
  zero R q kk := by unfold Pspec_l12Names_l7; cases (PkS.un Sspec_l12Names_l7 q) <;> rfl
  succ n R q kk := by
    unfold Pspec_l12Names_l7
    cases h : (PkS.un Sspec_l12Names_l7 q) with
    | none => rfl
    | some d =>
      obtain ⟨y7_0, y7_1, y7_2, y7_3, y7_4, y7_5, y7_6, y7_7, y7_8, y7_9, u⟩ := (d : (List ByteArray) × Bool × Int × ByteArray × (List ByteArray) × Int × Int × (List ByteArray) × Int × Int × Unit)
      have hp := PkS.un_pack h
      subst hp
      exact (espec_l12Names_l7 @spec_l1Name @spec_l12Names_l7 n y7_0 y7_1 y7_2 y7_3 y7_4 y7_5 y7_6 y7_7 y7_8 y7_9 kk).symm
theorem nlspec_l12Names_l7 : ∀ n, NatLP (Pspec_l12Names_l7 @spec_l12Names_l7 n) := lespec_l12Names_l7.nat (fun n => mkK_nat (cspec_l12Names n)) fun n => mkL_nat (mkK_nat (cspec_l12Names n)) (l := []) trivial
theorem inspec_l12Names_l7 (n : Nat) (R : Type) : LoopsOk Tryd.prog (mkL (mkK [(70, Kspec_l1Name @spec_l1Name n)]) [] R) (loopIn 7 (bodyOf Tryd.f64)) := .eq (l := []) (by kernel_rfl) trivial
theorem lkspec_l12Names_l7 (n : Nat) (R : Type) (L0 : LK R) (h0 : ∀ id, firstRegion (loopIn 7 (bodyOf Tryd.f64)) = some id → L0 id = Dspec_l12Names_l7.oracle (mkK [(70, Kspec_l1Name @spec_l1Name n)] R) (Pspec_l12Names_l7 @spec_l12Names_l7 n R)) : LoopOk Tryd.prog L0 (loopIn 7 (bodyOf Tryd.f64)) :=
  lespec_l12Names_l7.ok mixed ttok (fun n => mkK_nat (cspec_l12Names n)) (fun n => mkK_ok (cspec_l12Names n)) (fun n => inspec_l12Names_l7 n R) (mkK_nat (cspec_l12Names n)) h0
@[reducible] def Sspec_l12Names_l2 : PkS := ⟨[.one (.ro .str), .one (.bool), .one (.ro .str), .one (.int .i64), .one (.int .i64), .one (.dead), .one (.dead)], []⟩
@[reducible] def Tspec_l12Names_l2_0 : PkS := ⟨[.one (.bool), .one (.dead), .one (.dead)], []⟩
@[reducible] def Tspec_l12Names_l2_1 : PkS := ⟨[.one (.ro .str), .one (.dead), .one (.dead)], []⟩
def Dspec_l12Names_l2 : LoopD := ⟨50, [0, 1, 9, 10, 11], [.one (.ro .str), .one .any, .one (.ro .str), .one .any, .one .any, .skip, .skip], fun x => match x with
  | .ret => some ([4], [.one .any, .skip, .skip])
  | .exit 0 => some ([0], [.one (.ro .str), .skip, .skip])
  | _ => none⟩
def Pspec_l12Names_l2 (g : ∀ {R : Type}, Nat → (List ByteArray) → Bool → (List ByteArray) → Int → Int → (Bool → Option R) → ((List ByteArray) → Option R) → Option R) (n : Nat) : LPs := fun R q kk => match (PkS.un Sspec_l12Names_l2 q : Option ((List ByteArray) × Bool × (List ByteArray) × Int × Int × Unit)) with
  | some (y2_0, y2_1, y2_2, y2_3, y2_4, _) => g n y2_0 y2_1 y2_2 y2_3 y2_4 (fun r0 => kk .ret (PkS.pack Tspec_l12Names_l2_0 (r0, ()))) (fun r0 => kk (.exit 0) (PkS.pack Tspec_l12Names_l2_1 (r0, ())))
  | none => none
theorem espec_l12Names_l2 (spec_l1Name : ∀ {R : Type}, Nat → ByteArray → (Bool → Option R) → Option R) (spec_l12Names_l7 : ∀ {R : Type}, Nat → (List ByteArray) → Bool → Int → ByteArray → (List ByteArray) → Int → Int → (List ByteArray) → Int → Int → (Bool → Option R) → ((List ByteArray) → Bool → (List ByteArray) → Int → Int → Option R) → Option R) (spec_l12Names_l2 : ∀ {R : Type}, Nat → (List ByteArray) → Bool → (List ByteArray) → Int → Int → (Bool → Option R) → ((List ByteArray) → Option R) → Option R) {R : Type} (n : Nat) (y2_0 : List ByteArray) (y2_1 : Bool) (y2_2 : List ByteArray) (y2_3 : Int) (y2_4 : Int) (kk : Ex → Pk → Option R) : Dspec_l12Names_l2.step tt sig (mkK [(70, Kspec_l1Name @spec_l1Name n)] R) (mkL (mkK [(70, Kspec_l1Name @spec_l1Name n)]) [(7, Dspec_l12Names_l7, Pspec_l12Names_l7 @spec_l12Names_l7 n)] R) (loopIn 2 (bodyOf Tryd.f64)) (fun q' => Pspec_l12Names_l2 @spec_l12Names_l2 n R q' kk) (PkS.pack Sspec_l12Names_l2 (y2_0, y2_1, y2_2, y2_3, y2_4, ())) kk = (fun (kret : Bool → Option R) (kexit0 : (List ByteArray) → Option R) => (bif (decide (y2_4 < y2_3)) then (bif decide (0 ≤ y2_4) then (bif decide (y2_4 < (y2_2.length : Int)) then (spec_l1Name n (y2_2.getD (Int.toNat y2_4) ByteArray.empty) fun r1 => (bif (!r1) then kret false else (bif decide (0 ≤ y2_4) then (bif decide (y2_4 ≤ (y2_0.length : Int)) then (spec_l12Names_l7 n y2_0 y2_1 y2_4 (y2_2.getD (Int.toNat y2_4) ByteArray.empty) y2_2 y2_3 y2_4 ((y2_0.drop 0).take ((Int.toNat y2_4) - 0)) (((y2_0.drop 0).take ((Int.toNat y2_4) - 0)).length : Int) 0 (fun r2 => kret r2) (fun r3 r4 r5 r6 r7 => spec_l12Names_l2 n r3 r4 r5 r6 (IntKind.wrap .i64 (r7 + 1)) kret kexit0)) else none) else none))) else none) else none) else kexit0 y2_0)) (fun r0 => kk .ret (PkS.pack Tspec_l12Names_l2_0 (r0, ()))) (fun r0 => kk (.exit 0) (PkS.pack Tspec_l12Names_l2_1 (r0, ()))) := by kernel_rfl
theorem lespec_l12Names_l2 : LoopEq tt sig (fun n => mkK [(70, Kspec_l1Name @spec_l1Name n)]) (fun n => mkL (mkK [(70, Kspec_l1Name @spec_l1Name n)]) [(7, Dspec_l12Names_l7, Pspec_l12Names_l7 @spec_l12Names_l7 n)]) Dspec_l12Names_l2 Sspec_l12Names_l2 (loopIn 2 (bodyOf Tryd.f64)) (Pspec_l12Names_l2 @spec_l12Names_l2) where
  zero R q kk := by unfold Pspec_l12Names_l2; cases (PkS.un Sspec_l12Names_l2 q) <;> rfl
  succ n R q kk := by
    unfold Pspec_l12Names_l2
    cases h : (PkS.un Sspec_l12Names_l2 q) with
    | none => rfl
    | some d =>
      obtain ⟨y2_0, y2_1, y2_2, y2_3, y2_4, u⟩ := (d : (List ByteArray) × Bool × (List ByteArray) × Int × Int × Unit)
      have hp := PkS.un_pack h
      subst hp
      exact (espec_l12Names_l2 @spec_l1Name @spec_l12Names_l7 @spec_l12Names_l2 n y2_0 y2_1 y2_2 y2_3 y2_4 kk).symm
theorem nlspec_l12Names_l2 : ∀ n, NatLP (Pspec_l12Names_l2 @spec_l12Names_l2 n) := lespec_l12Names_l2.nat (fun n => mkK_nat (cspec_l12Names n)) fun n => mkL_nat (mkK_nat (cspec_l12Names n)) (l := [(7, Dspec_l12Names_l7, Pspec_l12Names_l7 @spec_l12Names_l7 n)]) ⟨nlspec_l12Names_l7 n, trivial⟩
theorem inspec_l12Names_l2 (n : Nat) (R : Type) : LoopsOk Tryd.prog (mkL (mkK [(70, Kspec_l1Name @spec_l1Name n)]) [(7, Dspec_l12Names_l7, Pspec_l12Names_l7 @spec_l12Names_l7 n)] R) (loopIn 2 (bodyOf Tryd.f64)) := .eq (l := [.lo (loopIn 7 (bodyOf Tryd.f64))]) (by kernel_rfl) ⟨(lkspec_l12Names_l7 n R _ (at_id (i := 7) (by kernel_rfl) rfl)), trivial⟩
theorem lkspec_l12Names_l2 (n : Nat) (R : Type) (L0 : LK R) (h0 : ∀ id, firstRegion (loopIn 2 (bodyOf Tryd.f64)) = some id → L0 id = Dspec_l12Names_l2.oracle (mkK [(70, Kspec_l1Name @spec_l1Name n)] R) (Pspec_l12Names_l2 @spec_l12Names_l2 n R)) : LoopOk Tryd.prog L0 (loopIn 2 (bodyOf Tryd.f64)) :=
  lespec_l12Names_l2.ok mixed ttok (fun n => mkK_nat (cspec_l12Names n)) (fun n => mkK_ok (cspec_l12Names n)) (fun n => inspec_l12Names_l2 n R) (mkK_nat (cspec_l12Names n)) h0
@[reducible] def Sspec_l12Names : PkS := ⟨[.one (.ro .str), .one (.bool)], []⟩
@[reducible] def Tspec_l12Names : PkS := ⟨[.one (.bool), .one (.dead), .one (.dead)], []⟩
def Hspec_l12Names : List Sh := [.one .any, .skip, .skip]
def Kspec_l12Names (g : ∀ {R : Type}, Nat → (List ByteArray) → Bool → (Bool → Option R) → Option R) (n : Nat) : KPs := fun R p k => match (PkS.un Sspec_l12Names p : Option ((List ByteArray) × Bool × Unit)) with
  | some (x0, x1, _) => g n x0 x1 (fun r0 => k (PkS.pack Tspec_l12Names (r0, ())))
  | none => none
theorem espec_l12Names (spec_l1Name : ∀ {R : Type}, Nat → ByteArray → (Bool → Option R) → Option R) (spec_l12Names_l7 : ∀ {R : Type}, Nat → (List ByteArray) → Bool → Int → ByteArray → (List ByteArray) → Int → Int → (List ByteArray) → Int → Int → (Bool → Option R) → ((List ByteArray) → Bool → (List ByteArray) → Int → Int → Option R) → Option R) (spec_l12Names_l2 : ∀ {R : Type}, Nat → (List ByteArray) → Bool → (List ByteArray) → Int → Int → (Bool → Option R) → ((List ByteArray) → Option R) → Option R) {R : Type} (n : Nat) (x0 : List ByteArray) (x1 : Bool) (k : Pk → Option R) : evF tt sig (mkK [(70, Kspec_l1Name @spec_l1Name n)] R) (mkL (mkK [(70, Kspec_l1Name @spec_l1Name n)]) [(7, Dspec_l12Names_l7, Pspec_l12Names_l7 @spec_l12Names_l7 n), (2, Dspec_l12Names_l2, Pspec_l12Names_l2 @spec_l12Names_l2 n)] R) Tryd.f64 Hspec_l12Names (PkS.pack Sspec_l12Names (x0, x1, ())) k = (fun (k : Bool → Option R) => (spec_l12Names_l2 n x0 x1 x0 (x0.length : Int) 0 (fun r8 => k r8) (fun r9 => k (decide ((r9.length : Int) ≤ 30))))) (fun r0 => k (PkS.pack Tspec_l12Names (r0, ()))) := by kernel_rfl
theorem okspec_l12Names (n : Nat) : FnOk Tryd.prog 64 (Kspec_l12Names @spec_l12Names n) := by
  refine fn_ok (sig := sig) mixed ttok (mkK_nat (cspec_l12Names n)) (mkK_ok (cspec_l12Names n)) (mkL_nat (mkK_nat (cspec_l12Names n)) (l := [(7, Dspec_l12Names_l7, Pspec_l12Names_l7 @spec_l12Names_l7 n), (2, Dspec_l12Names_l2, Pspec_l12Names_l2 @spec_l12Names_l2 n)]) ⟨nlspec_l12Names_l7 n, ⟨nlspec_l12Names_l2 n, trivial⟩⟩) (fn := Tryd.f64) (c := bodyOf Tryd.f64) (by kernel_rfl) (by kernel_rfl) (by kernel_rfl) (.eq (l := [.lo (loopIn 2 (bodyOf Tryd.f64))]) (by kernel_rfl) ⟨(lkspec_l12Names_l2 n _ _ (at_id (i := 2) (by kernel_rfl) rfl)), trivial⟩) (shs := Hspec_l12Names) (S := Sspec_l12Names) (h1 := by kernel_rfl) fun R p k => ?_
  unfold Kspec_l12Names
  cases h : (PkS.un Sspec_l12Names p) with
  | none => rfl
  | some d =>
    obtain ⟨x0, x1, u⟩ := (d : (List ByteArray) × Bool × Unit)
    have hp := PkS.un_pack h
    subst hp
    exact (espec_l12Names @spec_l1Name @spec_l12Names_l7 @spec_l12Names_l2 n x0 x1 k).symm

/-! ### loop.example/g00269/spec.GoodState -/
theorem cspec_GoodState (n : Nat) : AllOk Tryd.prog [(59, Kspec_l1In @spec_l1In n), (64, Kspec_l12Names @spec_l12Names n)] := ⟨okspec_l1In n, ⟨okspec_l12Names n, trivial⟩⟩
@[reducible] def Sspec_GoodState : PkS := ⟨[.agg [.int .i64, .int .i64, .bool, .int .i64, .ro .str, .ro .str]], []⟩
@[reducible] def Tspec_GoodState : PkS := ⟨[.one (.bool), .one (.dead)], []⟩
def Hspec_GoodState : List Sh := [.one .any, .skip]
def Kspec_GoodState (g : ∀ {R : Type}, Nat → Int → Int → Bool → Int → (List ByteArray) → (List ByteArray) → (Bool → Option R) → Option R) (n : Nat) : KPs := fun R p k => match (PkS.un Sspec_GoodState p : Option (Int × Int × Bool × Int × (List ByteArray) × (List ByteArray) × Unit)) with
  | some (x0, x1, x2, x3, x4, x5, _) => g n x0 x1 x2 x3 x4 x5 (fun r0 => k (PkS.pack Tspec_GoodState (r0, ())))
  | none => none
theorem espec_GoodState (spec_l1In : ∀ {R : Type}, Nat → Int → Int → Int → (Bool → Option R) → Option R) (spec_l12Names : ∀ {R : Type}, Nat → (List ByteArray) → Bool → (Bool → Option R) → Option R) {R : Type} (n : Nat) (x0 : Int) (x1 : Int) (x2 : Bool) (x3 : Int) (x4 : List ByteArray) (x5 : List ByteArray) (k : Pk → Option R) : evF tt sig (mkK [(59, Kspec_l1In @spec_l1In n), (64, Kspec_l12Names @spec_l12Names n)] R) (mkL (mkK [(59, Kspec_l1In @spec_l1In n), (64, Kspec_l12Names @spec_l12Names n)]) [] R) Tryd.f29 Hspec_GoodState (PkS.pack Sspec_GoodState (x0, x1, x2, x3, x4, x5, ())) k = (fun (k : Bool → Option R) => (spec_l1In n x1 1 1001 fun r1 => (bif (!r1) then k false else (spec_l1In n x3 0 1000 fun r2 => (bif (!r2) then k false else (spec_l12Names n x4 false fun r3 => (bif (!r3) then k false else (spec_l12Names n x5 true fun r4 => (bif (!r4) then k false else (spec_l1In n x0 0 2 fun r5 => (bif (!r5) then k false else (bif (x0 == 0) then (bif (x1 == 1) then (bif (!x2) then (bif (x3 == 0) then (bif ((x4.length : Int) == 0) then k ((x5.length : Int) == 0) else k false) else k false) else k false) else k false) else k (decide (x1 > 1)))))))))))))) (fun r0 => k (PkS.pack Tspec_GoodState (r0, ()))) := by kernel_rfl
theorem okspec_GoodState (n : Nat) : FnOk Tryd.prog 29 (Kspec_GoodState @spec_GoodState n) := by
  refine fn_ok (sig := sig) mixed ttok (mkK_nat (cspec_GoodState n)) (mkK_ok (cspec_GoodState n)) (mkL_nat (mkK_nat (cspec_GoodState n)) (l := []) trivial) (fn := Tryd.f29) (c := bodyOf Tryd.f29) (by kernel_rfl) (by kernel_rfl) (by kernel_rfl) (.eq (l := []) (by kernel_rfl) trivial) (shs := Hspec_GoodState) (S := Sspec_GoodState) (h1 := by kernel_rfl) fun R p k => ?_
  unfold Kspec_GoodState
  cases h : (PkS.un Sspec_GoodState p) with
  | none => rfl
  | some d =>
    obtain ⟨x0, x1, x2, x3, x4, x5, u⟩ := (d : Int × Int × Bool × Int × (List ByteArray) × (List ByteArray) × Unit)
    have hp := PkS.un_pack h
    subst hp
    exact (espec_GoodState @spec_l1In @spec_l12Names n x0 x1 x2 x3 x4 x5 k).symm

/-! ### loop.example/g00269/spec.GoodEvent -/
theorem cspec_GoodEvent (n : Nat) : AllOk Tryd.prog [(59, Kspec_l1In @spec_l1In n), (70, Kspec_l1Name @spec_l1Name n)] := ⟨okspec_l1In n, ⟨okspec_l1Name n, trivial⟩⟩
@[reducible] def Sspec_GoodEvent : PkS := ⟨[.agg [.int .i64, .int .i64, .int .i64, .str]], []⟩
@[reducible] def Tspec_GoodEvent : PkS := ⟨[.one (.bool), .one (.dead)], []⟩
def Hspec_GoodEvent : List Sh := [.one .any, .skip]
def Kspec_GoodEvent (g : ∀ {R : Type}, Nat → Int → Int → Int → ByteArray → (Bool → Option R) → Option R) (n : Nat) : KPs := fun R p k => match (PkS.un Sspec_GoodEvent p : Option (Int × Int × Int × ByteArray × Unit)) with
  | some (x0, x1, x2, x3, _) => g n x0 x1 x2 x3 (fun r0 => k (PkS.pack Tspec_GoodEvent (r0, ())))
  | none => none
theorem espec_GoodEvent (spec_l1In : ∀ {R : Type}, Nat → Int → Int → Int → (Bool → Option R) → Option R) (spec_l1Name : ∀ {R : Type}, Nat → ByteArray → (Bool → Option R) → Option R) {R : Type} (n : Nat) (x0 : Int) (x1 : Int) (x2 : Int) (x3 : ByteArray) (k : Pk → Option R) : evF tt sig (mkK [(59, Kspec_l1In @spec_l1In n), (70, Kspec_l1Name @spec_l1Name n)] R) (mkL (mkK [(59, Kspec_l1In @spec_l1In n), (70, Kspec_l1Name @spec_l1Name n)]) [] R) Tryd.f43 Hspec_GoodEvent (PkS.pack Sspec_GoodEvent (x0, x1, x2, x3, ())) k = (fun (k : Bool → Option R) => (spec_l1In n x0 1 1000 fun r1 => (bif r1 then (spec_l1In n x1 0 1000000 fun r2 => (bif r2 then (spec_l1In n x2 1 6 fun r3 => (bif r3 then (spec_l1Name n x3 fun r4 => k r4) else k false)) else k false)) else k false))) (fun r0 => k (PkS.pack Tspec_GoodEvent (r0, ()))) := by kernel_rfl
theorem okspec_GoodEvent (n : Nat) : FnOk Tryd.prog 43 (Kspec_GoodEvent @spec_GoodEvent n) := by
  refine fn_ok (sig := sig) mixed ttok (mkK_nat (cspec_GoodEvent n)) (mkK_ok (cspec_GoodEvent n)) (mkL_nat (mkK_nat (cspec_GoodEvent n)) (l := []) trivial) (fn := Tryd.f43) (c := bodyOf Tryd.f43) (by kernel_rfl) (by kernel_rfl) (by kernel_rfl) (.eq (l := []) (by kernel_rfl) trivial) (shs := Hspec_GoodEvent) (S := Sspec_GoodEvent) (h1 := by kernel_rfl) fun R p k => ?_
  unfold Kspec_GoodEvent
  cases h : (PkS.un Sspec_GoodEvent p) with
  | none => rfl
  | some d =>
    obtain ⟨x0, x1, x2, x3, u⟩ := (d : Int × Int × Int × ByteArray × Unit)
    have hp := PkS.un_pack h
    subst hp
    exact (espec_GoodEvent @spec_l1In @spec_l1Name n x0 x1 x2 x3 k).symm

/-! ### loop.example/g00269/spec.l12Own -/
theorem cspec_l12Own (n : Nat) : AllOk Tryd.prog [] := trivial
@[reducible] def Sspec_l12Own : PkS := ⟨[.agg [.int .i64, .int .i64, .bool, .int .i64, .ro .str, .ro .str]], []⟩
@[reducible] def Tspec_l12Own : PkS := ⟨[.agg [.int .i64, .int .i64, .bool, .int .i64, .whole (300000, 0), .whole (300000, 1)], .one (.dead)], [((300000, 0), .arr .str), ((300000, 1), .arr .str)]⟩
def Hspec_l12Own : List Sh := [.agg [.any, .any, .any, .any, (.own .str), (.own .str)], .skip]
def Kspec_l12Own (g : ∀ {R : Type}, Nat → Int → Int → Bool → Int → (List ByteArray) → (List ByteArray) → (Int → Int → Bool → Int → (List ByteArray) → (List ByteArray) → Option R) → Option R) (n : Nat) : KPs := fun R p k => match (PkS.un Sspec_l12Own p : Option (Int × Int × Bool × Int × (List ByteArray) × (List ByteArray) × Unit)) with
  | some (x0, x1, x2, x3, x4, x5, _) => g n x0 x1 x2 x3 x4 x5 (fun r0 r1 r2 r3 r4 r5 => k (PkS.pack Tspec_l12Own (r0, r1, r2, r3, r4, r5, ())))
  | none => none
theorem espec_l12Own  {R : Type} (n : Nat) (x0 : Int) (x1 : Int) (x2 : Bool) (x3 : Int) (x4 : List ByteArray) (x5 : List ByteArray) (k : Pk → Option R) : evF tt sig (mkK [] R) (mkL (mkK []) [] R) Tryd.f89 Hspec_l12Own (PkS.pack Sspec_l12Own (x0, x1, x2, x3, x4, x5, ())) k = (fun (k : Int → Int → Bool → Int → (List ByteArray) → (List ByteArray) → Option R) => (bif decide (([] : List ByteArray).length + x4.length ≤ LIM) then (bif decide (([] : List ByteArray).length + x5.length ≤ LIM) then k x0 x1 x2 x3 (([] : List ByteArray) ++ x4) (([] : List ByteArray) ++ x5) else none) else none)) (fun r0 r1 r2 r3 r4 r5 => k (PkS.pack Tspec_l12Own (r0, r1, r2, r3, r4, r5, ()))) := by kernel_rfl
theorem okspec_l12Own (n : Nat) : FnOk Tryd.prog 89 (Kspec_l12Own @spec_l12Own n) := by
  refine fn_ok (sig := sig) mixed ttok (mkK_nat (cspec_l12Own n)) (mkK_ok (cspec_l12Own n)) (mkL_nat (mkK_nat (cspec_l12Own n)) (l := []) trivial) (fn := Tryd.f89) (c := bodyOf Tryd.f89) (by kernel_rfl) (by kernel_rfl) (by kernel_rfl) (.eq (l := []) (by kernel_rfl) trivial) (shs := Hspec_l12Own) (S := Sspec_l12Own) (h1 := by kernel_rfl) fun R p k => ?_
  unfold Kspec_l12Own
  cases h : (PkS.un Sspec_l12Own p) with
  | none => rfl
  | some d =>
    obtain ⟨x0, x1, x2, x3, x4, x5, u⟩ := (d : Int × Int × Bool × Int × (List ByteArray) × (List ByteArray) × Unit)
    have hp := PkS.un_pack h
    subst hp
    exact (espec_l12Own  n x0 x1 x2 x3 x4 x5 k).symm

/-! ### loop.example/g00269/spec.l12At -/
theorem cspec_l12At (n : Nat) : AllOk Tryd.prog [] := trivial
@[reducible] def Sspec_l12At_l2 : PkS := ⟨[.one (.str), .one (.ro .str), .one (.int .i64), .one (.int .i64), .one (.dead), .one (.dead)], []⟩
@[reducible] def Tspec_l12At_l2_0 : PkS := ⟨[.one (.int .i64), .one (.dead), .one (.dead)], []⟩
@[reducible] def Tspec_l12At_l2_1 : PkS := ⟨[.one (.dead), .one (.dead)], []⟩
def Dspec_l12At_l2 : LoopD := ⟨19, [1, 7, 8, 9], [.one .any, .one (.ro .str), .one .any, .one .any, .skip, .skip], fun x => match x with
  | .ret => some ([4], [.one .any, .skip, .skip])
  | .exit 0 => some ([], [.skip, .skip])
  | _ => none⟩
def Pspec_l12At_l2 (g : ∀ {R : Type}, Nat → ByteArray → (List ByteArray) → Int → Int → (Int → Option R) → (Option R) → Option R) (n : Nat) : LPs := fun R q kk => match (PkS.un Sspec_l12At_l2 q : Option (ByteArray × (List ByteArray) × Int × Int × Unit)) with
  | some (y2_0, y2_1, y2_2, y2_3, _) => g n y2_0 y2_1 y2_2 y2_3 (fun r0 => kk .ret (PkS.pack Tspec_l12At_l2_0 (r0, ()))) (kk (.exit 0) (PkS.pack Tspec_l12At_l2_1 ()))
  | none => none
theorem espec_l12At_l2 (spec_l12At_l2 : ∀ {R : Type}, Nat → ByteArray → (List ByteArray) → Int → Int → (Int → Option R) → (Option R) → Option R) {R : Type} (n : Nat) (y2_0 : ByteArray) (y2_1 : List ByteArray) (y2_2 : Int) (y2_3 : Int) (kk : Ex → Pk → Option R) : Dspec_l12At_l2.step tt sig (mkK [] R) (mkL (mkK []) [] R) (loopIn 2 (bodyOf Tryd.f90)) (fun q' => Pspec_l12At_l2 @spec_l12At_l2 n R q' kk) (PkS.pack Sspec_l12At_l2 (y2_0, y2_1, y2_2, y2_3, ())) kk = (fun (kret : Int → Option R) (kexit0 : Option R) => (bif (decide (y2_3 < y2_2)) then (bif decide (0 ≤ y2_3) then (bif decide (y2_3 < (y2_1.length : Int)) then (bif ((ByteArray.toList (y2_1.getD (Int.toNat y2_3) ByteArray.empty)) == (ByteArray.toList y2_0)) then kret y2_3 else spec_l12At_l2 n y2_0 y2_1 y2_2 (IntKind.wrap .i64 (y2_3 + 1)) kret kexit0) else none) else none) else kexit0)) (fun r0 => kk .ret (PkS.pack Tspec_l12At_l2_0 (r0, ()))) (kk (.exit 0) (PkS.pack Tspec_l12At_l2_1 ())) := by kernel_rfl
theorem lespec_l12At_l2 : LoopEq tt sig (fun n => mkK []) (fun n => mkL (mkK []) []) Dspec_l12At_l2 Sspec_l12At_l2 (loopIn 2 (bodyOf Tryd.f90)) (Pspec_l12At_l2 @spec_l12At_l2) where
  zero R q kk := by unfold Pspec_l12At_l2; cases (PkS.un Sspec_l12At_l2 q) <;> rfl
  succ n R q kk := by
    unfold Pspec_l12At_l2
    cases h : (PkS.un Sspec_l12At_l2 q) with
    | none => rfl
    | some d =>
      obtain ⟨y2_0, y2_1, y2_2, y2_3, u⟩ := (d : ByteArray × (List ByteArray) × Int × Int × Unit)
      have hp := PkS.un_pack h
      subst hp
      exact (espec_l12At_l2 @spec_l12At_l2 n y2_0 y2_1 y2_2 y2_3 kk).symm
theorem nlspec_l12At_l2 : ∀ n, NatLP (Pspec_l12At_l2 @spec_l12At_l2 n) := lespec_l12At_l2.nat (fun n => mkK_nat (cspec_l12At n)) fun n => mkL_nat (mkK_nat (cspec_l12At n)) (l := []) trivial
theorem inspec_l12At_l2 (n : Nat) (R : Type) : LoopsOk Tryd.prog (mkL (mkK []) [] R) (loopIn 2 (bodyOf Tryd.f90)) := .eq (l := []) (by kernel_rfl) trivial
theorem lkspec_l12At_l2 (n : Nat) (R : Type) (L0 : LK R) (h0 : ∀ id, firstRegion (loopIn 2 (bodyOf Tryd.f90)) = some id → L0 id = Dspec_l12At_l2.oracle (mkK [] R) (Pspec_l12At_l2 @spec_l12At_l2 n R)) : LoopOk Tryd.prog L0 (loopIn 2 (bodyOf Tryd.f90)) :=
  lespec_l12At_l2.ok mixed ttok (fun n => mkK_nat (cspec_l12At n)) (fun n => mkK_ok (cspec_l12At n)) (fun n => inspec_l12At_l2 n R) (mkK_nat (cspec_l12At n)) h0
@[reducible] def Sspec_l12At : PkS := ⟨[.one (.ro .str), .one (.str)], []⟩
@[reducible] def Tspec_l12At : PkS := ⟨[.one (.int .i64), .one (.dead), .one (.dead)], []⟩
def Hspec_l12At : List Sh := [.one .any, .skip, .skip]
def Kspec_l12At (g : ∀ {R : Type}, Nat → (List ByteArray) → ByteArray → (Int → Option R) → Option R) (n : Nat) : KPs := fun R p k => match (PkS.un Sspec_l12At p : Option ((List ByteArray) × ByteArray × Unit)) with
  | some (x0, x1, _) => g n x0 x1 (fun r0 => k (PkS.pack Tspec_l12At (r0, ())))
  | none => none
theorem espec_l12At (spec_l12At_l2 : ∀ {R : Type}, Nat → ByteArray → (List ByteArray) → Int → Int → (Int → Option R) → (Option R) → Option R) {R : Type} (n : Nat) (x0 : List ByteArray) (x1 : ByteArray) (k : Pk → Option R) : evF tt sig (mkK [] R) (mkL (mkK []) [(2, Dspec_l12At_l2, Pspec_l12At_l2 @spec_l12At_l2 n)] R) Tryd.f90 Hspec_l12At (PkS.pack Sspec_l12At (x0, x1, ())) k = (fun (k : Int → Option R) => (spec_l12At_l2 n x1 x0 (x0.length : Int) 0 (fun r1 => k r1) (k (-1)))) (fun r0 => k (PkS.pack Tspec_l12At (r0, ()))) := by kernel_rfl
theorem okspec_l12At (n : Nat) : FnOk Tryd.prog 90 (Kspec_l12At @spec_l12At n) := by
  refine fn_ok (sig := sig) mixed ttok (mkK_nat (cspec_l12At n)) (mkK_ok (cspec_l12At n)) (mkL_nat (mkK_nat (cspec_l12At n)) (l := [(2, Dspec_l12At_l2, Pspec_l12At_l2 @spec_l12At_l2 n)]) ⟨nlspec_l12At_l2 n, trivial⟩) (fn := Tryd.f90) (c := bodyOf Tryd.f90) (by kernel_rfl) (by kernel_rfl) (by kernel_rfl) (.eq (l := [.lo (loopIn 2 (bodyOf Tryd.f90))]) (by kernel_rfl) ⟨(lkspec_l12At_l2 n _ _ (at_id (i := 2) (by kernel_rfl) rfl)), trivial⟩) (shs := Hspec_l12At) (S := Sspec_l12At) (h1 := by kernel_rfl) fun R p k => ?_
  unfold Kspec_l12At
  cases h : (PkS.un Sspec_l12At p) with
  | none => rfl
  | some d =>
    obtain ⟨x0, x1, u⟩ := (d : (List ByteArray) × ByteArray × Unit)
    have hp := PkS.un_pack h
    subst hp
    exact (espec_l12At @spec_l12At_l2 n x0 x1 k).symm

/-! ### loop.example/g00269/spec.l12Timer -/
theorem cspec_l12Timer (n : Nat) : AllOk Tryd.prog [(90, Kspec_l12At @spec_l12At n)] := ⟨okspec_l12At n, trivial⟩
@[reducible] def Sspec_l12Timer_l4 : PkS := ⟨[.one (.str), .one (.whole (100000, 0)), .one (.bool), .one (.ro .str), .one (.int .i64), .one (.int .i64), .one (.dead), .one (.dead)], [((100000, 0), .arr .str)]⟩
@[reducible] def Tspec_l12Timer_l4_0 : PkS := ⟨[.one (.str), .one (.whole (100000, 0)), .one (.bool), .one (.dead), .one (.dead)], [((100000, 0), .arr .str)]⟩
def Dspec_l12Timer_l4 : LoopD := ⟨45, [1, 5, 6, 13, 14, 15], [.one .any, .one (.own .str), .one .any, .one (.ro .str), .one .any, .one .any, .skip, .skip], fun x => match x with
  | .exit 0 => some ([1, 5, 6], [.one .any, .one (.own .str), .one .any, .skip, .skip])
  | _ => none⟩
def Pspec_l12Timer_l4 (g : ∀ {R : Type}, Nat → ByteArray → Bool → (List ByteArray) → Int → Int → (List ByteArray) → (ByteArray → Bool → (List ByteArray) → Option R) → Option R) (n : Nat) : LPs := fun R q kk => match (PkS.un Sspec_l12Timer_l4 q : Option (ByteArray × Bool × (List ByteArray) × Int × Int × (List ByteArray) × Unit)) with
  | some (y4_0, y4_1, y4_2, y4_3, y4_4, y4_5, _) => g n y4_0 y4_1 y4_2 y4_3 y4_4 y4_5 (fun r0 r1 r2 => kk (.exit 0) (PkS.pack Tspec_l12Timer_l4_0 (r0, r1, r2, ())))
  | none => none
theorem espec_l12Timer_l4 (spec_l12At : ∀ {R : Type}, Nat → (List ByteArray) → ByteArray → (Int → Option R) → Option R) (spec_l12Timer_l4 : ∀ {R : Type}, Nat → ByteArray → Bool → (List ByteArray) → Int → Int → (List ByteArray) → (ByteArray → Bool → (List ByteArray) → Option R) → Option R) {R : Type} (n : Nat) (y4_0 : ByteArray) (y4_1 : Bool) (y4_2 : List ByteArray) (y4_3 : Int) (y4_4 : Int) (y4_5 : List ByteArray) (kk : Ex → Pk → Option R) : Dspec_l12Timer_l4.step tt sig (mkK [(90, Kspec_l12At @spec_l12At n)] R) (mkL (mkK [(90, Kspec_l12At @spec_l12At n)]) [] R) (loopIn 4 (bodyOf Tryd.f91)) (fun q' => Pspec_l12Timer_l4 @spec_l12Timer_l4 n R q' kk) (PkS.pack Sspec_l12Timer_l4 (y4_0, y4_1, y4_2, y4_3, y4_4, y4_5, ())) kk = (fun (kexit0 : ByteArray → Bool → (List ByteArray) → Option R) => (bif (decide (y4_4 < y4_3)) then (bif decide (0 ≤ y4_4) then (bif decide (y4_4 < (y4_2.length : Int)) then (bif ((ByteArray.toList (y4_2.getD (Int.toNat y4_4) ByteArray.empty)) == (ByteArray.toList y4_0)) then spec_l12Timer_l4 n y4_0 y4_1 y4_2 y4_3 (IntKind.wrap .i64 (y4_4 + 1)) y4_5 kexit0 else (bif (!y4_1) then (bif (!((Op.bytesLess (ByteArray.toList (y4_2.getD (Int.toNat y4_4) ByteArray.empty)) (ByteArray.toList y4_0)) || ((ByteArray.toList (y4_2.getD (Int.toNat y4_4) ByteArray.empty)) == (ByteArray.toList y4_0)))) then (bif decide (y4_5.length + [y4_0].length ≤ LIM) then (bif decide ((y4_5 ++ [y4_0]).length + ([(y4_2.getD (Int.toNat y4_4) ByteArray.empty)]).length ≤ LIM) then spec_l12Timer_l4 n y4_0 true y4_2 y4_3 (IntKind.wrap .i64 (y4_4 + 1)) ((y4_5 ++ [y4_0]) ++ [(y4_2.getD (Int.toNat y4_4) ByteArray.empty)]) kexit0 else none) else none) else (bif decide (y4_5.length + ([(y4_2.getD (Int.toNat y4_4) ByteArray.empty)]).length ≤ LIM) then spec_l12Timer_l4 n y4_0 y4_1 y4_2 y4_3 (IntKind.wrap .i64 (y4_4 + 1)) (y4_5 ++ [(y4_2.getD (Int.toNat y4_4) ByteArray.empty)]) kexit0 else none)) else (bif decide (y4_5.length + ([(y4_2.getD (Int.toNat y4_4) ByteArray.empty)]).length ≤ LIM) then spec_l12Timer_l4 n y4_0 y4_1 y4_2 y4_3 (IntKind.wrap .i64 (y4_4 + 1)) (y4_5 ++ [(y4_2.getD (Int.toNat y4_4) ByteArray.empty)]) kexit0 else none))) else none) else none) else kexit0 y4_0 y4_1 y4_5)) (fun r0 r1 r2 => kk (.exit 0) (PkS.pack Tspec_l12Timer_l4_0 (r0, r1, r2, ()))) := by kernel_rfl
theorem lespec_l12Timer_l4 : LoopEq tt sig (fun n => mkK [(90, Kspec_l12At @spec_l12At n)]) (fun n => mkL (mkK [(90, Kspec_l12At @spec_l12At n)]) []) Dspec_l12Timer_l4 Sspec_l12Timer_l4 (loopIn 4 (bodyOf Tryd.f91)) (Pspec_l12Timer_l4 @spec_l12Timer_l4) where
  zero R q kk := by unfold Pspec_l12Timer_l4; cases (PkS.un Sspec_l12Timer_l4 q) <;> rfl
  succ n R q kk := by
    unfold Pspec_l12Timer_l4
    cases h : (PkS.un Sspec_l12Timer_l4 q) with
    | none => rfl
    | some d =>
      obtain ⟨y4_0, y4_1, y4_2, y4_3, y4_4, y4_5, u⟩ := (d : ByteArray × Bool × (List ByteArray) × Int × Int × (List ByteArray) × Unit)
      have hp := PkS.un_pack h
      subst hp
      exact (espec_l12Timer_l4 @spec_l12At @spec_l12Timer_l4 n y4_0 y4_1 y4_2 y4_3 y4_4 y4_5 kk).symm
theorem nlspec_l12Timer_l4 : ∀ n, NatLP (Pspec_l12Timer_l4 @spec_l12Timer_l4 n) := lespec_l12Timer_l4.nat (fun n => mkK_nat (cspec_l12Timer n)) fun n => mkL_nat (mkK_nat (cspec_l12Timer n)) (l := []) trivial
theorem inspec_l12Timer_l4 (n : Nat) (R : Type) : LoopsOk Tryd.prog (mkL (mkK [(90, Kspec_l12At @spec_l12At n)]) [] R) (loopIn 4 (bodyOf Tryd.f91)) := .eq (l := []) (by kernel_rfl) trivial
theorem lkspec_l12Timer_l4 (n : Nat) (R : Type) (L0 : LK R) (h0 : ∀ id, firstRegion (loopIn 4 (bodyOf Tryd.f91)) = some id → L0 id = Dspec_l12Timer_l4.oracle (mkK [(90, Kspec_l12At @spec_l12At n)] R) (Pspec_l12Timer_l4 @spec_l12Timer_l4 n R)) : LoopOk Tryd.prog L0 (loopIn 4 (bodyOf Tryd.f91)) :=
  lespec_l12Timer_l4.ok mixed ttok (fun n => mkK_nat (cspec_l12Timer n)) (fun n => mkK_ok (cspec_l12Timer n)) (fun n => inspec_l12Timer_l4 n R) (mkK_nat (cspec_l12Timer n)) h0
@[reducible] def Sspec_l12Timer : PkS := ⟨[.one (.ro .str), .one (.str)], []⟩
@[reducible] def Tspec_l12Timer : PkS := ⟨[.one (.whole (300000, 0)), .one (.dead), .one (.dead)], [((300000, 0), .arr .str)]⟩
def Hspec_l12Timer : List Sh := [.one (.own .str), .skip, .skip]
def Kspec_l12Timer (g : ∀ {R : Type}, Nat → (List ByteArray) → ByteArray → ((List ByteArray) → Option R) → Option R) (n : Nat) : KPs := fun R p k => match (PkS.un Sspec_l12Timer p : Option ((List ByteArray) × ByteArray × Unit)) with
  | some (x0, x1, _) => g n x0 x1 (fun r0 => k (PkS.pack Tspec_l12Timer (r0, ())))
  | none => none
theorem espec_l12Timer (spec_l12At : ∀ {R : Type}, Nat → (List ByteArray) → ByteArray → (Int → Option R) → Option R) (spec_l12Timer_l4 : ∀ {R : Type}, Nat → ByteArray → Bool → (List ByteArray) → Int → Int → (List ByteArray) → (ByteArray → Bool → (List ByteArray) → Option R) → Option R) {R : Type} (n : Nat) (x0 : List ByteArray) (x1 : ByteArray) (k : Pk → Option R) : evF tt sig (mkK [(90, Kspec_l12At @spec_l12At n)] R) (mkL (mkK [(90, Kspec_l12At @spec_l12At n)]) [(4, Dspec_l12Timer_l4, Pspec_l12Timer_l4 @spec_l12Timer_l4 n)] R) Tryd.f91 Hspec_l12Timer (PkS.pack Sspec_l12Timer (x0, x1, ())) k = (fun (k : (List ByteArray) → Option R) => (spec_l12At n x0 x1 fun r1 => (spec_l12Timer_l4 n x1 (decide (r1 ≥ 0)) x0 (x0.length : Int) 0 ([] : List ByteArray) (fun r2 r3 r4 => (bif (!r3) then (bif decide (r4.length + [r2].length ≤ LIM) then k (r4 ++ [r2]) else none) else k r4))))) (fun r0 => k (PkS.pack Tspec_l12Timer (r0, ()))) := by kernel_rfl
theorem okspec_l12Timer (n : Nat) : FnOk Tryd.prog 91 (Kspec_l12Timer @spec_l12Timer n) := by
  refine fn_ok (sig := sig) mixed ttok (mkK_nat (cspec_l12Timer n)) (mkK_ok (cspec_l12Timer n)) (mkL_nat (mkK_nat (cspec_l12Timer n)) (l := [(4, Dspec_l12Timer_l4, Pspec_l12Timer_l4 @spec_l12Timer_l4 n)]) ⟨nlspec_l12Timer_l4 n, trivial⟩) (fn := Tryd.f91) (c := bodyOf Tryd.f91) (by kernel_rfl) (by kernel_rfl) (by kernel_rfl) (.eq (l := [.lo (loopIn 4 (bodyOf Tryd.f91))]) (by kernel_rfl) ⟨(lkspec_l12Timer_l4 n _ _ (at_id (i := 4) (by kernel_rfl) rfl)), trivial⟩) (shs := Hspec_l12Timer) (S := Sspec_l12Timer) (h1 := by kernel_rfl) fun R p k => ?_
  unfold Kspec_l12Timer
  cases h : (PkS.un Sspec_l12Timer p) with
  | none => rfl
  | some d =>
    obtain ⟨x0, x1, u⟩ := (d : (List ByteArray) × ByteArray × Unit)
    have hp := PkS.un_pack h
    subst hp
    exact (espec_l12Timer @spec_l12At @spec_l12Timer_l4 n x0 x1 k).symm

/-! ### loop.example/g00269/spec.l12Apply -/
theorem cspec_l12Apply (n : Nat) : AllOk Tryd.prog [(43, Kspec_GoodEvent @spec_GoodEvent n), (89, Kspec_l12Own @spec_l12Own n), (29, Kspec_GoodState @spec_GoodState n), (90, Kspec_l12At @spec_l12At n), (91, Kspec_l12Timer @spec_l12Timer n)] := ⟨okspec_GoodEvent n, ⟨okspec_l12Own n, ⟨okspec_GoodState n, ⟨okspec_l12At n, ⟨okspec_l12Timer n, trivial⟩⟩⟩⟩⟩
@[reducible] def Sspec_l12Apply : PkS := ⟨[.agg [.int .i64, .int .i64, .bool, .int .i64, .ro .str, .ro .str], .agg [.int .i64, .int .i64, .int .i64, .str]], []⟩
@[reducible] def Tspec_l12Apply : PkS := ⟨[.tup [(true, [.int .i64, .int .i64, .bool, .int .i64, .ro .str, .ro .str]), (false, [.bool])], .one (.dead), .one (.dead)], []⟩
def Hspec_l12Apply : List Sh := [.tup [(true, [.any, .any, .any, .any, (.ro .str), (.ro .str)]), (false, [.any])], .skip, .skip]
def Kspec_l12Apply (g : ∀ {R : Type}, Nat → Int → Int → Bool → Int → (List ByteArray) → (List ByteArray) → Int → Int → Int → ByteArray → (Int → Int → Bool → Int → (List ByteArray) → (List ByteArray) → Bool → Option R) → Option R) (n : Nat) : KPs := fun R p k => match (PkS.un Sspec_l12Apply p : Option (Int × Int × Bool × Int × (List ByteArray) × (List ByteArray) × Int × Int × Int × ByteArray × Unit)) with
  | some (x0, x1, x2, x3, x4, x5, x6, x7, x8, x9, _) => g n x0 x1 x2 x3 x4 x5 x6 x7 x8 x9 (fun r0 r1 r2 r3 r4 r5 r6 => k (PkS.pack Tspec_l12Apply (r0, r1, r2, r3, r4, r5, r6, ())))
  | none => none
theorem espec_l12Apply (spec_GoodEvent : ∀ {R : Type}, Nat → Int → Int → Int → ByteArray → (Bool → Option R) → Option R) (spec_l12Own : ∀ {R : Type}, Nat → Int → Int → Bool → Int → (List ByteArray) → (List ByteArray) → (Int → Int → Bool → Int → (List ByteArray) → (List ByteArray) → Option R) → Option R) (spec_GoodState : ∀ {R : Type}, Nat → Int → Int → Bool → Int → (List ByteArray) → (List ByteArray) → (Bool → Option R) → Option R) (spec_l12At : ∀ {R : Type}, Nat → (List ByteArray) → ByteArray → (Int → Option R) → Option R) (spec_l12Timer : ∀ {R : Type}, Nat → (List ByteArray) → ByteArray → ((List ByteArray) → Option R) → Option R) {R : Type} (n : Nat) (x0 : Int) (x1 : Int) (x2 : Bool) (x3 : Int) (x4 : List ByteArray) (x5 : List ByteArray) (x6 : Int) (x7 : Int) (x8 : Int) (x9 : ByteArray) (k : Pk → Option R) : evF tt sig (mkK [(43, Kspec_GoodEvent @spec_GoodEvent n), (89, Kspec_l12Own @spec_l12Own n), (29, Kspec_GoodState @spec_GoodState n), (90, Kspec_l12At @spec_l12At n), (91, Kspec_l12Timer @spec_l12Timer n)] R) (mkL (mkK [(43, Kspec_GoodEvent @spec_GoodEvent n), (89, Kspec_l12Own @spec_l12Own n), (29, Kspec_GoodState @spec_GoodState n), (90, Kspec_l12At @spec_l12At n), (91, Kspec_l12Timer @spec_l12Timer n)]) [] R) Tryd.f71 Hspec_l12Apply (PkS.pack Sspec_l12Apply (x0, x1, x2, x3, x4, x5, x6, x7, x8, x9, ())) k = (fun (k : Int → Int → Bool → Int → (List ByteArray) → (List ByteArray) → Bool → Option R) => (spec_GoodEvent n x6 x7 x8 x9 fun r1 => (bif (!r1) then k x0 x1 x2 x3 x4 x5 false else (bif (x6 != x1) then k x0 x1 x2 x3 x4 x5 false else (bif (!((x8 == 1) == (x0 == 0))) then k x0 x1 x2 x3 x4 x5 false else (bif (x0 == 2) then k x0 x1 x2 x3 x4 x5 false else (spec_l12Own n x0 x1 x2 x3 x4 x5 fun r2 r3 r4 r5 r6 r7 => (bif (x8 == 1) then (spec_GoodState n 1 (IntKind.wrap .i64 (r3 + 1)) r4 r5 r6 r7 fun r8 => k 1 (IntKind.wrap .i64 (r3 + 1)) r4 r5 r6 r7 r8) else (bif (x8 == 2) then (spec_l12At n r6 x9 fun r9 => (bif (decide (r9 ≥ 0)) then k r2 r3 r4 r5 r6 r7 false else (bif ((r6.length : Int) == 30) then k r2 r3 r4 r5 r6 r7 false else (bif decide (r6.length + [x9].length ≤ LIM) then (spec_GoodState n r2 (IntKind.wrap .i64 (r3 + 1)) r4 r5 (r6 ++ [x9]) r7 fun r10 => k r2 (IntKind.wrap .i64 (r3 + 1)) r4 r5 (r6 ++ [x9]) r7 r10) else none)))) else (bif (x8 == 3) then (spec_GoodState n r2 (IntKind.wrap .i64 (r3 + 1)) r4 (IntKind.wrap .i64 (r5 + 1)) r6 r7 fun r11 => k r2 (IntKind.wrap .i64 (r3 + 1)) r4 (IntKind.wrap .i64 (r5 + 1)) r6 r7 r11) else (bif (x8 == 4) then (spec_l12Timer n r7 x9 fun r12 => (spec_GoodState n r2 (IntKind.wrap .i64 (r3 + 1)) r4 r5 r6 r12 fun r13 => k r2 (IntKind.wrap .i64 (r3 + 1)) r4 r5 r6 r12 r13)) else (bif (x8 == 5) then (bif r4 then k r2 r3 r4 r5 r6 r7 false else (spec_GoodState n r2 (IntKind.wrap .i64 (r3 + 1)) true r5 r6 r7 fun r14 => k r2 (IntKind.wrap .i64 (r3 + 1)) true r5 r6 r7 r14)) else (spec_GoodState n 2 (IntKind.wrap .i64 (r3 + 1)) r4 r5 r6 ([] : List ByteArray) fun r15 => k 2 (IntKind.wrap .i64 (r3 + 1)) r4 r5 r6 ([] : List ByteArray) r15))))))))))))) (fun r0 r1 r2 r3 r4 r5 r6 => k (PkS.pack Tspec_l12Apply (r0, r1, r2, r3, r4, r5, r6, ()))) := by kernel_rfl
theorem okspec_l12Apply (n : Nat) : FnOk Tryd.prog 71 (Kspec_l12Apply @spec_l12Apply n) := by
  refine fn_ok (sig := sig) mixed ttok (mkK_nat (cspec_l12Apply n)) (mkK_ok (cspec_l12Apply n)) (mkL_nat (mkK_nat (cspec_l12Apply n)) (l := []) trivial) (fn := Tryd.f71) (c := bodyOf Tryd.f71) (by kernel_rfl) (by kernel_rfl) (by kernel_rfl) (.eq (l := []) (by kernel_rfl) trivial) (shs := Hspec_l12Apply) (S := Sspec_l12Apply) (h1 := by kernel_rfl) fun R p k => ?_
  unfold Kspec_l12Apply
  cases h : (PkS.un Sspec_l12Apply p) with
  | none => rfl
  | some d =>
    obtain ⟨x0, x1, x2, x3, x4, x5, x6, x7, x8, x9, u⟩ := (d : Int × Int × Bool × Int × (List ByteArray) × (List ByteArray) × Int × Int × Int × ByteArray × Unit)
    have hp := PkS.un_pack h
    subst hp
    exact (espec_l12Apply @spec_GoodEvent @spec_l12Own @spec_GoodState @spec_l12At @spec_l12Timer n x0 x1 x2 x3 x4 x5 x6 x7 x8 x9 k).symm

/-! ### loop.example/g00269/spec.ApplyEvent -/
theorem cspec_ApplyEvent (n : Nat) : AllOk Tryd.prog [(29, Kspec_GoodState @spec_GoodState n), (71, Kspec_l12Apply @spec_l12Apply n)] := ⟨okspec_GoodState n, ⟨okspec_l12Apply n, trivial⟩⟩
@[reducible] def Sspec_ApplyEvent : PkS := ⟨[.agg [.int .i64, .int .i64, .bool, .int .i64, .ro .str, .ro .str], .agg [.int .i64, .int .i64, .int .i64, .str]], []⟩
@[reducible] def Tspec_ApplyEvent : PkS := ⟨[.tup [(true, [.int .i64, .int .i64, .bool, .int .i64, .ro .str, .ro .str]), (false, [.bool])], .one (.dead), .one (.dead)], []⟩
def Hspec_ApplyEvent : List Sh := [.tup [(true, [.any, .any, .any, .any, (.ro .str), (.ro .str)]), (false, [.any])], .skip, .skip]
def Kspec_ApplyEvent (g : ∀ {R : Type}, Nat → Int → Int → Bool → Int → (List ByteArray) → (List ByteArray) → Int → Int → Int → ByteArray → (Int → Int → Bool → Int → (List ByteArray) → (List ByteArray) → Bool → Option R) → Option R) (n : Nat) : KPs := fun R p k => match (PkS.un Sspec_ApplyEvent p : Option (Int × Int × Bool × Int × (List ByteArray) × (List ByteArray) × Int × Int × Int × ByteArray × Unit)) with
  | some (x0, x1, x2, x3, x4, x5, x6, x7, x8, x9, _) => g n x0 x1 x2 x3 x4 x5 x6 x7 x8 x9 (fun r0 r1 r2 r3 r4 r5 r6 => k (PkS.pack Tspec_ApplyEvent (r0, r1, r2, r3, r4, r5, r6, ())))
  | none => none
theorem espec_ApplyEvent (spec_GoodState : ∀ {R : Type}, Nat → Int → Int → Bool → Int → (List ByteArray) → (List ByteArray) → (Bool → Option R) → Option R) (spec_l12Apply : ∀ {R : Type}, Nat → Int → Int → Bool → Int → (List ByteArray) → (List ByteArray) → Int → Int → Int → ByteArray → (Int → Int → Bool → Int → (List ByteArray) → (List ByteArray) → Bool → Option R) → Option R) {R : Type} (n : Nat) (x0 : Int) (x1 : Int) (x2 : Bool) (x3 : Int) (x4 : List ByteArray) (x5 : List ByteArray) (x6 : Int) (x7 : Int) (x8 : Int) (x9 : ByteArray) (k : Pk → Option R) : evF tt sig (mkK [(29, Kspec_GoodState @spec_GoodState n), (71, Kspec_l12Apply @spec_l12Apply n)] R) (mkL (mkK [(29, Kspec_GoodState @spec_GoodState n), (71, Kspec_l12Apply @spec_l12Apply n)]) [] R) Tryd.f38 Hspec_ApplyEvent (PkS.pack Sspec_ApplyEvent (x0, x1, x2, x3, x4, x5, x6, x7, x8, x9, ())) k = (fun (k : Int → Int → Bool → Int → (List ByteArray) → (List ByteArray) → Bool → Option R) => (spec_GoodState n x0 x1 x2 x3 x4 x5 fun r1 => (bif (!r1) then k 0 0 false 0 ([] : List ByteArray) ([] : List ByteArray) false else (spec_l12Apply n x0 x1 x2 x3 x4 x5 x6 x7 x8 x9 fun r2 r3 r4 r5 r6 r7 r8 => (bif (!r8) then k 0 0 false 0 ([] : List ByteArray) ([] : List ByteArray) false else k r2 r3 r4 r5 r6 r7 true))))) (fun r0 r1 r2 r3 r4 r5 r6 => k (PkS.pack Tspec_ApplyEvent (r0, r1, r2, r3, r4, r5, r6, ()))) := by kernel_rfl
theorem okspec_ApplyEvent (n : Nat) : FnOk Tryd.prog 38 (Kspec_ApplyEvent @spec_ApplyEvent n) := by
  refine fn_ok (sig := sig) mixed ttok (mkK_nat (cspec_ApplyEvent n)) (mkK_ok (cspec_ApplyEvent n)) (mkL_nat (mkK_nat (cspec_ApplyEvent n)) (l := []) trivial) (fn := Tryd.f38) (c := bodyOf Tryd.f38) (by kernel_rfl) (by kernel_rfl) (by kernel_rfl) (.eq (l := []) (by kernel_rfl) trivial) (shs := Hspec_ApplyEvent) (S := Sspec_ApplyEvent) (h1 := by kernel_rfl) fun R p k => ?_
  unfold Kspec_ApplyEvent
  cases h : (PkS.un Sspec_ApplyEvent p) with
  | none => rfl
  | some d =>
    obtain ⟨x0, x1, x2, x3, x4, x5, x6, x7, x8, x9, u⟩ := (d : Int × Int × Bool × Int × (List ByteArray) × (List ByteArray) × Int × Int × Int × ByteArray × Unit)
    have hp := PkS.un_pack h
    subst hp
    exact (espec_ApplyEvent @spec_GoodState @spec_l12Apply n x0 x1 x2 x3 x4 x5 x6 x7 x8 x9 k).symm

/-! ### loop.example/g00269/impl.in -/
theorem cimpl_in (n : Nat) : AllOk Tryd.prog [] := trivial
@[reducible] def Simpl_in : PkS := ⟨[.one (.int .i64), .one (.int .i64), .one (.int .i64)], []⟩
@[reducible] def Timpl_in : PkS := ⟨[.one (.bool), .one (.dead), .one (.dead), .one (.dead)], []⟩
def Himpl_in : List Sh := [.one .any, .skip, .skip, .skip]
def Kimpl_in (g : ∀ {R : Type}, Nat → Int → Int → Int → (Bool → Option R) → Option R) (n : Nat) : KPs := fun R p k => match (PkS.un Simpl_in p : Option (Int × Int × Int × Unit)) with
  | some (x0, x1, x2, _) => g n x0 x1 x2 (fun r0 => k (PkS.pack Timpl_in (r0, ())))
  | none => none
theorem eimpl_in  {R : Type} (n : Nat) (x0 : Int) (x1 : Int) (x2 : Int) (k : Pk → Option R) : evF tt sig (mkK [] R) (mkL (mkK []) [] R) Tryd.f53 Himpl_in (PkS.pack Simpl_in (x0, x1, x2, ())) k = (fun (k : Bool → Option R) => (bif (decide (x0 ≥ x1)) then k (decide (x0 ≤ x2)) else k false)) (fun r0 => k (PkS.pack Timpl_in (r0, ()))) := by kernel_rfl
theorem okimpl_in (n : Nat) : FnOk Tryd.prog 53 (Kimpl_in @impl_in n) := by
  refine fn_ok (sig := sig) mixed ttok (mkK_nat (cimpl_in n)) (mkK_ok (cimpl_in n)) (mkL_nat (mkK_nat (cimpl_in n)) (l := []) trivial) (fn := Tryd.f53) (c := bodyOf Tryd.f53) (by kernel_rfl) (by kernel_rfl) (by kernel_rfl) (.eq (l := []) (by kernel_rfl) trivial) (shs := Himpl_in) (S := Simpl_in) (h1 := by kernel_rfl) fun R p k => ?_
  unfold Kimpl_in
  cases h : (PkS.un Simpl_in p) with
  | none => rfl
  | some d =>
    obtain ⟨x0, x1, x2, u⟩ := (d : Int × Int × Int × Unit)
    have hp := PkS.un_pack h
    subst hp
    exact (eimpl_in  n x0 x1 x2 k).symm

/-! ### strings.Trim -/
theorem cstrings_Trim (n : Nat) : AllOk Tryd.prog [] := trivial
@[reducible] def Sstrings_Trim : PkS := ⟨[.one (.str), .one (.str)], []⟩
@[reducible] def Tstrings_Trim : PkS := ⟨[.one (.str), .one (.dead), .one (.dead)], []⟩
def Kstrings_Trim (g : ∀ {R : Type}, Nat → ByteArray → ByteArray → (ByteArray → Option R) → Option R) (n : Nat) : KPs := fun R p k => match (PkS.un Sstrings_Trim p : Option (ByteArray × ByteArray × Unit)) with
  | some (x0, x1, _) => g n x0 x1 (fun r0 => k (PkS.pack Tstrings_Trim (r0, ())))
  | none => none
def ren160 : Go.Shelf.Ren := ⟨fun n => match n with
  | 160 => 92
  | 232 => 101
  | 231 => 100
  | 227 => 102
  | 234 => 104
  | 233 => 103
  | 236 => 106
  | 235 => 105
  | 228 => 110
  | 271 => 113
  | 151 => 112
  | 197 => 111
  | 120 => 119
  | 152 => 118
  | 260 => 117
  | 137 => 121
  | 119 => 122
  | 224 => 123
  | 225 => 124
  | 217 => 126
  | 266 => 127
  | _ => 0, fun n => match n with
  | 0 => 0
  | 3 => 3
  | 4 => 4
  | 5 => 5
  | 9 => 9
  | 21 => 21
  | 46 => 112
  | 105 => 125
  | 116 => 116
  | 117 => 117
  | 119 => 130
  | 124 => 120
  | 138 => 132
  | 139 => 133
  | _ => 0, fun n => match n with
  | 3 => 0
  | 4 => 1
  | _ => 0⟩
theorem lays160 : Go.Proofs.Lays.n160 Tryd.prog ren160 where
  mixed := by kernel_rfl
  f119 := by kernel_rfl
  f120 := by kernel_rfl
  f137 := by kernel_rfl
  f151 := by kernel_rfl
  f152 := by kernel_rfl
  f160 := by kernel_rfl
  f197 := by kernel_rfl
  f217 := by kernel_rfl
  f224 := by kernel_rfl
  f225 := by kernel_rfl
  f227 := by kernel_rfl
  f228 := by kernel_rfl
  f231 := by kernel_rfl
  f232 := by kernel_rfl
  f233 := by kernel_rfl
  f234 := by kernel_rfl
  f235 := by kernel_rfl
  f236 := by kernel_rfl
  f260 := by kernel_rfl
  f266 := by kernel_rfl
  f271 := by kernel_rfl
  t0 := by kernel_rfl
  a0 w := by kernel_rfl
  z0 w := by kernel_rfl
  v0 w := by kernel_rfl
  t3 := by kernel_rfl
  a3 w := by kernel_rfl
  z3 w := by kernel_rfl
  v3 w := by kernel_rfl
  t4 := by kernel_rfl
  a4 w := by kernel_rfl
  z4 w := by kernel_rfl
  v4 w := by kernel_rfl
  t5 := by kernel_rfl
  a5 w := by kernel_rfl
  z5 w := by kernel_rfl
  v5 w := by kernel_rfl
  t9 := by kernel_rfl
  a9 w := by kernel_rfl
  z9 w := by kernel_rfl
  v9 w := by kernel_rfl
  t21 := by kernel_rfl
  a21 w := by kernel_rfl
  z21 w := by kernel_rfl
  v21 w := by kernel_rfl
  t46 := by kernel_rfl
  a46 w := by kernel_rfl
  z46 w := by kernel_rfl
  v46 w := by kernel_rfl
  t105 := by kernel_rfl
  a105 w := by kernel_rfl
  z105 w := by kernel_rfl
  v105 w := by kernel_rfl
  t116 := by kernel_rfl
  a116 w := by kernel_rfl
  z116 w := by kernel_rfl
  t117 := by kernel_rfl
  a117 w := by kernel_rfl
  z117 w := by kernel_rfl
  v117 w := by kernel_rfl
  t119 := by kernel_rfl
  a119 w := by kernel_rfl
  z119 w := by kernel_rfl
  t124 := by kernel_rfl
  a124 w := by kernel_rfl
  z124 w := by kernel_rfl
  v124 w := by kernel_rfl
  t138 := by kernel_rfl
  a138 w := by kernel_rfl
  z138 w := by kernel_rfl
  v138 w := by kernel_rfl
  t139 := by kernel_rfl
  a139 w := by kernel_rfl
  z139 w := by kernel_rfl
  v139 w := by kernel_rfl
  g3 := by kernel_rfl
  g4 := by kernel_rfl
theorem okstrings_Trim (n : Nat) : FnOk Tryd.prog 92 (Kstrings_Trim @strings_Trim n) := by
  have e : Kstrings_Trim @strings_Trim n = trimK := by kernel_rfl
  rw [e]
  exact trim_ok lays160 (by kernel_rfl) rfl (fn := Tryd.f92) (c := bodyOf Tryd.f92) (by kernel_rfl) (by kernel_rfl) (by kernel_rfl)

/-! ### loop.example/g00269/impl.goodName -/
theorem cimpl_goodName (n : Nat) : AllOk Tryd.prog [(92, Kstrings_Trim @strings_Trim n)] := ⟨okstrings_Trim n, trivial⟩
@[reducible] def Simpl_goodName : PkS := ⟨[.one (.str)], []⟩
@[reducible] def Timpl_goodName : PkS := ⟨[.one (.bool), .one (.dead)], []⟩
def Himpl_goodName : List Sh := [.one .any, .skip]
def Kimpl_goodName (g : ∀ {R : Type}, Nat → ByteArray → (Bool → Option R) → Option R) (n : Nat) : KPs := fun R p k => match (PkS.un Simpl_goodName p : Option (ByteArray × Unit)) with
  | some (x0, _) => g n x0 (fun r0 => k (PkS.pack Timpl_goodName (r0, ())))
  | none => none
theorem eimpl_goodName (strings_Trim : ∀ {R : Type}, Nat → ByteArray → ByteArray → (ByteArray → Option R) → Option R) {R : Type} (n : Nat) (x0 : ByteArray) (k : Pk → Option R) : evF tt sig (mkK [(92, Kstrings_Trim @strings_Trim n)] R) (mkL (mkK [(92, Kstrings_Trim @strings_Trim n)]) [] R) Tryd.f73 Himpl_goodName (PkS.pack Simpl_goodName (x0, ())) k = (fun (k : Bool → Option R) => (bif (decide ((x0.size : Int) ≤ 12)) then (strings_Trim n x0 (ByteArray.mk #[97, 98, 99, 100, 101, 102, 103, 104, 105, 106, 107, 108, 109, 110, 111, 112, 113, 114, 115, 116, 117, 118, 119, 120, 121, 122, 48, 49, 50, 51, 52, 53, 54, 55, 56, 57]) fun r1 => k ((ByteArray.toList r1) == (ByteArray.toList (ByteArray.mk #[])))) else k false)) (fun r0 => k (PkS.pack Timpl_goodName (r0, ()))) := by kernel_rfl
theorem okimpl_goodName (n : Nat) : FnOk Tryd.prog 73 (Kimpl_goodName @impl_goodName n) := by
  refine fn_ok (sig := sig) mixed ttok (mkK_nat (cimpl_goodName n)) (mkK_ok (cimpl_goodName n)) (mkL_nat (mkK_nat (cimpl_goodName n)) (l := []) trivial) (fn := Tryd.f73) (c := bodyOf Tryd.f73) (by kernel_rfl) (by kernel_rfl) (by kernel_rfl) (.eq (l := []) (by kernel_rfl) trivial) (shs := Himpl_goodName) (S := Simpl_goodName) (h1 := by kernel_rfl) fun R p k => ?_
  unfold Kimpl_goodName
  cases h : (PkS.un Simpl_goodName p) with
  | none => rfl
  | some d =>
    obtain ⟨x0, u⟩ := (d : ByteArray × Unit)
    have hp := PkS.un_pack h
    subst hp
    exact (eimpl_goodName @strings_Trim n x0 k).symm

/-! ### loop.example/g00269/impl.namesOk$1 -/
theorem cimpl_namesOk_c1 (n : Nat) : AllOk Tryd.prog [(73, Kimpl_goodName @impl_goodName n)] := ⟨okimpl_goodName n, trivial⟩
@[reducible] def Simpl_namesOk_c1 : PkS := ⟨[.one (.str)], []⟩
@[reducible] def Timpl_namesOk_c1 : PkS := ⟨[.one (.bool), .one (.dead)], []⟩
def Himpl_namesOk_c1 : List Sh := [.one .any, .skip]
def Kimpl_namesOk_c1 (g : ∀ {R : Type}, Nat → ByteArray → (Bool → Option R) → Option R) (n : Nat) : KPs := fun R p k => match (PkS.un Simpl_namesOk_c1 p : Option (ByteArray × Unit)) with
  | some (x0, _) => g n x0 (fun r0 => k (PkS.pack Timpl_namesOk_c1 (r0, ())))
  | none => none
theorem eimpl_namesOk_c1 (impl_goodName : ∀ {R : Type}, Nat → ByteArray → (Bool → Option R) → Option R) {R : Type} (n : Nat) (x0 : ByteArray) (k : Pk → Option R) : evF tt sig (mkK [(73, Kimpl_goodName @impl_goodName n)] R) (mkL (mkK [(73, Kimpl_goodName @impl_goodName n)]) [] R) Tryd.f86 Himpl_namesOk_c1 (PkS.pack Simpl_namesOk_c1 (x0, ())) k = (fun (k : Bool → Option R) => (impl_goodName n x0 fun r1 => k (!r1))) (fun r0 => k (PkS.pack Timpl_namesOk_c1 (r0, ()))) := by kernel_rfl
theorem okimpl_namesOk_c1 (n : Nat) : FnOk Tryd.prog 86 (Kimpl_namesOk_c1 @impl_namesOk_c1 n) := by
  refine fn_ok (sig := sig) mixed ttok (mkK_nat (cimpl_namesOk_c1 n)) (mkK_ok (cimpl_namesOk_c1 n)) (mkL_nat (mkK_nat (cimpl_namesOk_c1 n)) (l := []) trivial) (fn := Tryd.f86) (c := bodyOf Tryd.f86) (by kernel_rfl) (by kernel_rfl) (by kernel_rfl) (.eq (l := []) (by kernel_rfl) trivial) (shs := Himpl_namesOk_c1) (S := Simpl_namesOk_c1) (h1 := by kernel_rfl) fun R p k => ?_
  unfold Kimpl_namesOk_c1
  cases h : (PkS.un Simpl_namesOk_c1 p) with
  | none => rfl
  | some d =>
    obtain ⟨x0, u⟩ := (d : ByteArray × Unit)
    have hp := PkS.un_pack h
    subst hp
    exact (eimpl_namesOk_c1 @impl_goodName n x0 k).symm

/-! ### slices.IndexFunc[[]string,string] -/
theorem cslices_IndexFunc_string_impl_namesOk_c1 (n : Nat) : AllOk Tryd.prog [(86, Kimpl_namesOk_c1 @impl_namesOk_c1 n)] := ⟨okimpl_namesOk_c1 n, trivial⟩
@[reducible] def Sslices_IndexFunc_string_impl_namesOk_c1_l2 : PkS := ⟨[.one (.ro .str), .one (.fn 86 []), .one (.int .i64), .one (.int .i64), .one (.dead), .one (.fn 86 [])], []⟩
@[reducible] def Tslices_IndexFunc_string_impl_namesOk_c1_l2_0 : PkS := ⟨[.one (.int .i64), .one (.dead), .one (.fn 86 [])], []⟩
@[reducible] def Tslices_IndexFunc_string_impl_namesOk_c1_l2_1 : PkS := ⟨[.one (.dead), .one (.fn 86 [])], []⟩
def Dslices_IndexFunc_string_impl_namesOk_c1_l2 : LoopD := ⟨19, [0, 1, 7, 8], [.one (.ro .str), .fn 86 [], .one .any, .one .any, .skip, .fn 86 []], fun x => match x with
  | .ret => some ([4], [.one .any, .skip, .fn 86 []])
  | .exit 0 => some ([], [.skip, .fn 86 []])
  | _ => none⟩
def Pslices_IndexFunc_string_impl_namesOk_c1_l2 (g : ∀ {R : Type}, Nat → (List ByteArray) → Int → Int → (Int → Option R) → (Option R) → Option R) (n : Nat) : LPs := fun R q kk => match (PkS.un Sslices_IndexFunc_string_impl_namesOk_c1_l2 q : Option ((List ByteArray) × Int × Int × Unit)) with
  | some (y2_0, y2_1, y2_2, _) => g n y2_0 y2_1 y2_2 (fun r0 => kk .ret (PkS.pack Tslices_IndexFunc_string_impl_namesOk_c1_l2_0 (r0, ()))) (kk (.exit 0) (PkS.pack Tslices_IndexFunc_string_impl_namesOk_c1_l2_1 ()))
  | none => none
theorem eslices_IndexFunc_string_impl_namesOk_c1_l2 (impl_namesOk_c1 : ∀ {R : Type}, Nat → ByteArray → (Bool → Option R) → Option R) (slices_IndexFunc_string_impl_namesOk_c1_l2 : ∀ {R : Type}, Nat → (List ByteArray) → Int → Int → (Int → Option R) → (Option R) → Option R) {R : Type} (n : Nat) (y2_0 : List ByteArray) (y2_1 : Int) (y2_2 : Int) (kk : Ex → Pk → Option R) : Dslices_IndexFunc_string_impl_namesOk_c1_l2.step tt sig (mkK [(86, Kimpl_namesOk_c1 @impl_namesOk_c1 n)] R) (mkL (mkK [(86, Kimpl_namesOk_c1 @impl_namesOk_c1 n)]) [] R) (loopIn 2 (bodyOf Tryd.f97)) (fun q' => Pslices_IndexFunc_string_impl_namesOk_c1_l2 @slices_IndexFunc_string_impl_namesOk_c1_l2 n R q' kk) (PkS.pack Sslices_IndexFunc_string_impl_namesOk_c1_l2 (y2_0, y2_1, y2_2, ())) kk = (fun (kret : Int → Option R) (kexit0 : Option R) => (bif (decide (y2_2 < y2_1)) then (bif decide (0 ≤ y2_2) then (bif decide (y2_2 < (y2_0.length : Int)) then (impl_namesOk_c1 n (y2_0.getD (Int.toNat y2_2) ByteArray.empty) fun r1 => (bif r1 then kret y2_2 else slices_IndexFunc_string_impl_namesOk_c1_l2 n y2_0 y2_1 (IntKind.wrap .i64 (y2_2 + 1)) kret kexit0)) else none) else none) else kexit0)) (fun r0 => kk .ret (PkS.pack Tslices_IndexFunc_string_impl_namesOk_c1_l2_0 (r0, ()))) (kk (.exit 0) (PkS.pack Tslices_IndexFunc_string_impl_namesOk_c1_l2_1 ())) := by kernel_rfl
theorem leslices_IndexFunc_string_impl_namesOk_c1_l2 : LoopEq tt sig (fun n => mkK [(86, Kimpl_namesOk_c1 @impl_namesOk_c1 n)]) (fun n => mkL (mkK [(86, Kimpl_namesOk_c1 @impl_namesOk_c1 n)]) []) Dslices_IndexFunc_string_impl_namesOk_c1_l2 Sslices_IndexFunc_string_impl_namesOk_c1_l2 (loopIn 2 (bodyOf Tryd.f97)) (Pslices_IndexFunc_string_impl_namesOk_c1_l2 @slices_IndexFunc_string_impl_namesOk_c1_l2) where
  zero R q kk := by unfold Pslices_IndexFunc_string_impl_namesOk_c1_l2; cases (PkS.un Sslices_IndexFunc_string_impl_namesOk_c1_l2 q) <;> rfl
  succ n R q kk := by
    unfold Pslices_IndexFunc_string_impl_namesOk_c1_l2
    cases h : (PkS.un Sslices_IndexFunc_string_impl_namesOk_c1_l2 q) with
    | none => rfl
    | some d =>
      obtain ⟨y2_0, y2_1, y2_2, u⟩ := (d : (List ByteArray) × Int × Int × Unit)
      have hp := PkS.un_pack h
      subst hp
      exact (eslices_IndexFunc_string_impl_namesOk_c1_l2 @impl_namesOk_c1 @slices_IndexFunc_string_impl_namesOk_c1_l2 n y2_0 y2_1 y2_2 kk).symm
theorem nlslices_IndexFunc_string_impl_namesOk_c1_l2 : ∀ n, NatLP (Pslices_IndexFunc_string_impl_namesOk_c1_l2 @slices_IndexFunc_string_impl_namesOk_c1_l2 n) := leslices_IndexFunc_string_impl_namesOk_c1_l2.nat (fun n => mkK_nat (cslices_IndexFunc_string_impl_namesOk_c1 n)) fun n => mkL_nat (mkK_nat (cslices_IndexFunc_string_impl_namesOk_c1 n)) (l := []) trivial
theorem inslices_IndexFunc_string_impl_namesOk_c1_l2 (n : Nat) (R : Type) : LoopsOk Tryd.prog (mkL (mkK [(86, Kimpl_namesOk_c1 @impl_namesOk_c1 n)]) [] R) (loopIn 2 (bodyOf Tryd.f97)) := .eq (l := []) (by kernel_rfl) trivial
theorem lkslices_IndexFunc_string_impl_namesOk_c1_l2 (n : Nat) (R : Type) (L0 : LK R) (h0 : ∀ id, firstRegion (loopIn 2 (bodyOf Tryd.f97)) = some id → L0 id = Dslices_IndexFunc_string_impl_namesOk_c1_l2.oracle (mkK [(86, Kimpl_namesOk_c1 @impl_namesOk_c1 n)] R) (Pslices_IndexFunc_string_impl_namesOk_c1_l2 @slices_IndexFunc_string_impl_namesOk_c1_l2 n R)) : LoopOk Tryd.prog L0 (loopIn 2 (bodyOf Tryd.f97)) :=
  leslices_IndexFunc_string_impl_namesOk_c1_l2.ok mixed ttok (fun n => mkK_nat (cslices_IndexFunc_string_impl_namesOk_c1 n)) (fun n => mkK_ok (cslices_IndexFunc_string_impl_namesOk_c1 n)) (fun n => inslices_IndexFunc_string_impl_namesOk_c1_l2 n R) (mkK_nat (cslices_IndexFunc_string_impl_namesOk_c1 n)) h0
@[reducible] def Sslices_IndexFunc_string_impl_namesOk_c1 : PkS := ⟨[.one (.ro .str), .one (.fn 86 [])], []⟩
@[reducible] def Tslices_IndexFunc_string_impl_namesOk_c1 : PkS := ⟨[.one (.int .i64), .one (.dead), .one (.fn 86 [])], []⟩
def Hslices_IndexFunc_string_impl_namesOk_c1 : List Sh := [.one .any, .skip, .fn 86 []]
def Kslices_IndexFunc_string_impl_namesOk_c1 (g : ∀ {R : Type}, Nat → (List ByteArray) → (Int → Option R) → Option R) (n : Nat) : KPs := fun R p k => match (PkS.un Sslices_IndexFunc_string_impl_namesOk_c1 p : Option ((List ByteArray) × Unit)) with
  | some (x0, _) => g n x0 (fun r0 => k (PkS.pack Tslices_IndexFunc_string_impl_namesOk_c1 (r0, ())))
  | none => none
theorem eslices_IndexFunc_string_impl_namesOk_c1 (impl_namesOk_c1 : ∀ {R : Type}, Nat → ByteArray → (Bool → Option R) → Option R) (slices_IndexFunc_string_impl_namesOk_c1_l2 : ∀ {R : Type}, Nat → (List ByteArray) → Int → Int → (Int → Option R) → (Option R) → Option R) {R : Type} (n : Nat) (x0 : List ByteArray) (k : Pk → Option R) : evF tt sig (mkK [(86, Kimpl_namesOk_c1 @impl_namesOk_c1 n)] R) (mkL (mkK [(86, Kimpl_namesOk_c1 @impl_namesOk_c1 n)]) [(2, Dslices_IndexFunc_string_impl_namesOk_c1_l2, Pslices_IndexFunc_string_impl_namesOk_c1_l2 @slices_IndexFunc_string_impl_namesOk_c1_l2 n)] R) Tryd.f97 Hslices_IndexFunc_string_impl_namesOk_c1 (PkS.pack Sslices_IndexFunc_string_impl_namesOk_c1 (x0, ())) k = (fun (k : Int → Option R) => (slices_IndexFunc_string_impl_namesOk_c1_l2 n x0 (x0.length : Int) 0 (fun r2 => k r2) (k (-1)))) (fun r0 => k (PkS.pack Tslices_IndexFunc_string_impl_namesOk_c1 (r0, ()))) := by kernel_rfl
theorem okslices_IndexFunc_string_impl_namesOk_c1 (n : Nat) : FnOk Tryd.prog 97 (Kslices_IndexFunc_string_impl_namesOk_c1 @slices_IndexFunc_string_impl_namesOk_c1 n) := by
  refine fn_ok (sig := sig) mixed ttok (mkK_nat (cslices_IndexFunc_string_impl_namesOk_c1 n)) (mkK_ok (cslices_IndexFunc_string_impl_namesOk_c1 n)) (mkL_nat (mkK_nat (cslices_IndexFunc_string_impl_namesOk_c1 n)) (l := [(2, Dslices_IndexFunc_string_impl_namesOk_c1_l2, Pslices_IndexFunc_string_impl_namesOk_c1_l2 @slices_IndexFunc_string_impl_namesOk_c1_l2 n)]) ⟨nlslices_IndexFunc_string_impl_namesOk_c1_l2 n, trivial⟩) (fn := Tryd.f97) (c := bodyOf Tryd.f97) (by kernel_rfl) (by kernel_rfl) (by kernel_rfl) (.eq (l := [.lo (loopIn 2 (bodyOf Tryd.f97))]) (by kernel_rfl) ⟨(lkslices_IndexFunc_string_impl_namesOk_c1_l2 n _ _ (at_id (i := 2) (by kernel_rfl) rfl)), trivial⟩) (shs := Hslices_IndexFunc_string_impl_namesOk_c1) (S := Sslices_IndexFunc_string_impl_namesOk_c1) (h1 := by kernel_rfl) fun R p k => ?_
  unfold Kslices_IndexFunc_string_impl_namesOk_c1
  cases h : (PkS.un Sslices_IndexFunc_string_impl_namesOk_c1 p) with
  | none => rfl
  | some d =>
    obtain ⟨x0, u⟩ := (d : (List ByteArray) × Unit)
    have hp := PkS.un_pack h
    subst hp
    exact (eslices_IndexFunc_string_impl_namesOk_c1 @impl_namesOk_c1 @slices_IndexFunc_string_impl_namesOk_c1_l2 n x0 k).symm

/-! ### slices.ContainsFunc[[]string,string] -/
theorem cslices_ContainsFunc_string_impl_namesOk_c1 (n : Nat) : AllOk Tryd.prog [(97, Kslices_IndexFunc_string_impl_namesOk_c1 @slices_IndexFunc_string_impl_namesOk_c1 n)] := ⟨okslices_IndexFunc_string_impl_namesOk_c1 n, trivial⟩
@[reducible] def Sslices_ContainsFunc_string_impl_namesOk_c1 : PkS := ⟨[.one (.ro .str), .one (.fn 86 [])], []⟩
@[reducible] def Tslices_ContainsFunc_string_impl_namesOk_c1 : PkS := ⟨[.one (.bool), .one (.dead), .one (.fn 86 [])], []⟩
def Hslices_ContainsFunc_string_impl_namesOk_c1 : List Sh := [.one .any, .skip, .fn 86 []]
def Kslices_ContainsFunc_string_impl_namesOk_c1 (g : ∀ {R : Type}, Nat → (List ByteArray) → (Bool → Option R) → Option R) (n : Nat) : KPs := fun R p k => match (PkS.un Sslices_ContainsFunc_string_impl_namesOk_c1 p : Option ((List ByteArray) × Unit)) with
  | some (x0, _) => g n x0 (fun r0 => k (PkS.pack Tslices_ContainsFunc_string_impl_namesOk_c1 (r0, ())))
  | none => none
theorem eslices_ContainsFunc_string_impl_namesOk_c1 (slices_IndexFunc_string_impl_namesOk_c1 : ∀ {R : Type}, Nat → (List ByteArray) → (Int → Option R) → Option R) {R : Type} (n : Nat) (x0 : List ByteArray) (k : Pk → Option R) : evF tt sig (mkK [(97, Kslices_IndexFunc_string_impl_namesOk_c1 @slices_IndexFunc_string_impl_namesOk_c1 n)] R) (mkL (mkK [(97, Kslices_IndexFunc_string_impl_namesOk_c1 @slices_IndexFunc_string_impl_namesOk_c1 n)]) [] R) Tryd.f85 Hslices_ContainsFunc_string_impl_namesOk_c1 (PkS.pack Sslices_ContainsFunc_string_impl_namesOk_c1 (x0, ())) k = (fun (k : Bool → Option R) => (slices_IndexFunc_string_impl_namesOk_c1 n x0 fun r1 => k (decide (r1 ≥ 0)))) (fun r0 => k (PkS.pack Tslices_ContainsFunc_string_impl_namesOk_c1 (r0, ()))) := by kernel_rfl
theorem okslices_ContainsFunc_string_impl_namesOk_c1 (n : Nat) : FnOk Tryd.prog 85 (Kslices_ContainsFunc_string_impl_namesOk_c1 @slices_ContainsFunc_string_impl_namesOk_c1 n) := by
  refine fn_ok (sig := sig) mixed ttok (mkK_nat (cslices_ContainsFunc_string_impl_namesOk_c1 n)) (mkK_ok (cslices_ContainsFunc_string_impl_namesOk_c1 n)) (mkL_nat (mkK_nat (cslices_ContainsFunc_string_impl_namesOk_c1 n)) (l := []) trivial) (fn := Tryd.f85) (c := bodyOf Tryd.f85) (by kernel_rfl) (by kernel_rfl) (by kernel_rfl) (.eq (l := []) (by kernel_rfl) trivial) (shs := Hslices_ContainsFunc_string_impl_namesOk_c1) (S := Sslices_ContainsFunc_string_impl_namesOk_c1) (h1 := by kernel_rfl) fun R p k => ?_
  unfold Kslices_ContainsFunc_string_impl_namesOk_c1
  cases h : (PkS.un Sslices_ContainsFunc_string_impl_namesOk_c1 p) with
  | none => rfl
  | some d =>
    obtain ⟨x0, u⟩ := (d : (List ByteArray) × Unit)
    have hp := PkS.un_pack h
    subst hp
    exact (eslices_ContainsFunc_string_impl_namesOk_c1 @slices_IndexFunc_string_impl_namesOk_c1 n x0 k).symm

/-! ### loop.example/g00269/impl.namesOk -/
theorem cimpl_namesOk (n : Nat) : AllOk Tryd.prog [(85, Kslices_ContainsFunc_string_impl_namesOk_c1 @slices_ContainsFunc_string_impl_namesOk_c1 n)] := ⟨okslices_ContainsFunc_string_impl_namesOk_c1 n, trivial⟩
@[reducible] def Simpl_namesOk : PkS := ⟨[.one (.ro .str), .one (.int .i64)], []⟩
@[reducible] def Timpl_namesOk : PkS := ⟨[.one (.bool), .one (.dead), .one (.dead)], []⟩
def Himpl_namesOk : List Sh := [.one .any, .skip, .skip]
def Kimpl_namesOk (g : ∀ {R : Type}, Nat → (List ByteArray) → Int → (Bool → Option R) → Option R) (n : Nat) : KPs := fun R p k => match (PkS.un Simpl_namesOk p : Option ((List ByteArray) × Int × Unit)) with
  | some (x0, x1, _) => g n x0 x1 (fun r0 => k (PkS.pack Timpl_namesOk (r0, ())))
  | none => none
theorem eimpl_namesOk (slices_ContainsFunc_string_impl_namesOk_c1 : ∀ {R : Type}, Nat → (List ByteArray) → (Bool → Option R) → Option R) {R : Type} (n : Nat) (x0 : List ByteArray) (x1 : Int) (k : Pk → Option R) : evF tt sig (mkK [(85, Kslices_ContainsFunc_string_impl_namesOk_c1 @slices_ContainsFunc_string_impl_namesOk_c1 n)] R) (mkL (mkK [(85, Kslices_ContainsFunc_string_impl_namesOk_c1 @slices_ContainsFunc_string_impl_namesOk_c1 n)]) [] R) Tryd.f66 Himpl_namesOk (PkS.pack Simpl_namesOk (x0, x1, ())) k = (fun (k : Bool → Option R) => (bif (decide ((x0.length : Int) ≤ x1)) then (slices_ContainsFunc_string_impl_namesOk_c1 n x0 fun r1 => k (!r1)) else k false)) (fun r0 => k (PkS.pack Timpl_namesOk (r0, ()))) := by kernel_rfl
theorem okimpl_namesOk (n : Nat) : FnOk Tryd.prog 66 (Kimpl_namesOk @impl_namesOk n) := by
  refine fn_ok (sig := sig) mixed ttok (mkK_nat (cimpl_namesOk n)) (mkK_ok (cimpl_namesOk n)) (mkL_nat (mkK_nat (cimpl_namesOk n)) (l := []) trivial) (fn := Tryd.f66) (c := bodyOf Tryd.f66) (by kernel_rfl) (by kernel_rfl) (by kernel_rfl) (.eq (l := []) (by kernel_rfl) trivial) (shs := Himpl_namesOk) (S := Simpl_namesOk) (h1 := by kernel_rfl) fun R p k => ?_
  unfold Kimpl_namesOk
  cases h : (PkS.un Simpl_namesOk p) with
  | none => rfl
  | some d =>
    obtain ⟨x0, x1, u⟩ := (d : (List ByteArray) × Int × Unit)
    have hp := PkS.un_pack h
    subst hp
    exact (eimpl_namesOk @slices_ContainsFunc_string_impl_namesOk_c1 n x0 x1 k).symm

/-! ### slices.Index[[]string,string] -/
theorem cslices_Index_string (n : Nat) : AllOk Tryd.prog [] := trivial
@[reducible] def Sslices_Index_string_l2 : PkS := ⟨[.one (.ro .str), .one (.str), .one (.int .i64), .one (.int .i64), .one (.dead), .one (.dead)], []⟩
@[reducible] def Tslices_Index_string_l2_0 : PkS := ⟨[.one (.int .i64), .one (.dead), .one (.dead)], []⟩
@[reducible] def Tslices_Index_string_l2_1 : PkS := ⟨[.one (.dead), .one (.dead)], []⟩
def Dslices_Index_string_l2 : LoopD := ⟨19, [0, 1, 7, 8], [.one (.ro .str), .one .any, .one .any, .one .any, .skip, .skip], fun x => match x with
  | .ret => some ([4], [.one .any, .skip, .skip])
  | .exit 0 => some ([], [.skip, .skip])
  | _ => none⟩
def Pslices_Index_string_l2 (g : ∀ {R : Type}, Nat → (List ByteArray) → ByteArray → Int → Int → (Int → Option R) → (Option R) → Option R) (n : Nat) : LPs := fun R q kk => match (PkS.un Sslices_Index_string_l2 q : Option ((List ByteArray) × ByteArray × Int × Int × Unit)) with
  | some (y2_0, y2_1, y2_2, y2_3, _) => g n y2_0 y2_1 y2_2 y2_3 (fun r0 => kk .ret (PkS.pack Tslices_Index_string_l2_0 (r0, ()))) (kk (.exit 0) (PkS.pack Tslices_Index_string_l2_1 ()))
  | none => none
theorem eslices_Index_string_l2 (slices_Index_string_l2 : ∀ {R : Type}, Nat → (List ByteArray) → ByteArray → Int → Int → (Int → Option R) → (Option R) → Option R) {R : Type} (n : Nat) (y2_0 : List ByteArray) (y2_1 : ByteArray) (y2_2 : Int) (y2_3 : Int) (kk : Ex → Pk → Option R) : Dslices_Index_string_l2.step tt sig (mkK [] R) (mkL (mkK []) [] R) (loopIn 2 (bodyOf Tryd.f98)) (fun q' => Pslices_Index_string_l2 @slices_Index_string_l2 n R q' kk) (PkS.pack Sslices_Index_string_l2 (y2_0, y2_1, y2_2, y2_3, ())) kk = (fun (kret : Int → Option R) (kexit0 : Option R) => (bif (decide (y2_3 < y2_2)) then (bif decide (0 ≤ y2_3) then (bif decide (y2_3 < (y2_0.length : Int)) then (bif ((ByteArray.toList y2_1) == (ByteArray.toList (y2_0.getD (Int.toNat y2_3) ByteArray.empty))) then kret y2_3 else slices_Index_string_l2 n y2_0 y2_1 y2_2 (IntKind.wrap .i64 (y2_3 + 1)) kret kexit0) else none) else none) else kexit0)) (fun r0 => kk .ret (PkS.pack Tslices_Index_string_l2_0 (r0, ()))) (kk (.exit 0) (PkS.pack Tslices_Index_string_l2_1 ())) := by kernel_rfl
theorem leslices_Index_string_l2 : LoopEq tt sig (fun n => mkK []) (fun n => mkL (mkK []) []) Dslices_Index_string_l2 Sslices_Index_string_l2 (loopIn 2 (bodyOf Tryd.f98)) (Pslices_Index_string_l2 @slices_Index_string_l2) where
  zero R q kk := by unfold Pslices_Index_string_l2; cases (PkS.un Sslices_Index_string_l2 q) <;> rfl
  succ n R q kk := by
    unfold Pslices_Index_string_l2
    cases h : (PkS.un Sslices_Index_string_l2 q) with
    | none => rfl
    | some d =>
      obtain ⟨y2_0, y2_1, y2_2, y2_3, u⟩ := (d : (List ByteArray) × ByteArray × Int × Int × Unit)
      have hp := PkS.un_pack h
      subst hp
      exact (eslices_Index_string_l2 @slices_Index_string_l2 n y2_0 y2_1 y2_2 y2_3 kk).symm
theorem nlslices_Index_string_l2 : ∀ n, NatLP (Pslices_Index_string_l2 @slices_Index_string_l2 n) := leslices_Index_string_l2.nat (fun n => mkK_nat (cslices_Index_string n)) fun n => mkL_nat (mkK_nat (cslices_Index_string n)) (l := []) trivial
theorem inslices_Index_string_l2 (n : Nat) (R : Type) : LoopsOk Tryd.prog (mkL (mkK []) [] R) (loopIn 2 (bodyOf Tryd.f98)) := .eq (l := []) (by kernel_rfl) trivial
theorem lkslices_Index_string_l2 (n : Nat) (R : Type) (L0 : LK R) (h0 : ∀ id, firstRegion (loopIn 2 (bodyOf Tryd.f98)) = some id → L0 id = Dslices_Index_string_l2.oracle (mkK [] R) (Pslices_Index_string_l2 @slices_Index_string_l2 n R)) : LoopOk Tryd.prog L0 (loopIn 2 (bodyOf Tryd.f98)) :=
  leslices_Index_string_l2.ok mixed ttok (fun n => mkK_nat (cslices_Index_string n)) (fun n => mkK_ok (cslices_Index_string n)) (fun n => inslices_Index_string_l2 n R) (mkK_nat (cslices_Index_string n)) h0
@[reducible] def Sslices_Index_string : PkS := ⟨[.one (.ro .str), .one (.str)], []⟩
@[reducible] def Tslices_Index_string : PkS := ⟨[.one (.int .i64), .one (.dead), .one (.dead)], []⟩
def Hslices_Index_string : List Sh := [.one .any, .skip, .skip]
def Kslices_Index_string (g : ∀ {R : Type}, Nat → (List ByteArray) → ByteArray → (Int → Option R) → Option R) (n : Nat) : KPs := fun R p k => match (PkS.un Sslices_Index_string p : Option ((List ByteArray) × ByteArray × Unit)) with
  | some (x0, x1, _) => g n x0 x1 (fun r0 => k (PkS.pack Tslices_Index_string (r0, ())))
  | none => none
theorem eslices_Index_string (slices_Index_string_l2 : ∀ {R : Type}, Nat → (List ByteArray) → ByteArray → Int → Int → (Int → Option R) → (Option R) → Option R) {R : Type} (n : Nat) (x0 : List ByteArray) (x1 : ByteArray) (k : Pk → Option R) : evF tt sig (mkK [] R) (mkL (mkK []) [(2, Dslices_Index_string_l2, Pslices_Index_string_l2 @slices_Index_string_l2 n)] R) Tryd.f98 Hslices_Index_string (PkS.pack Sslices_Index_string (x0, x1, ())) k = (fun (k : Int → Option R) => (slices_Index_string_l2 n x0 x1 (x0.length : Int) 0 (fun r1 => k r1) (k (-1)))) (fun r0 => k (PkS.pack Tslices_Index_string (r0, ()))) := by kernel_rfl
theorem okslices_Index_string (n : Nat) : FnOk Tryd.prog 98 (Kslices_Index_string @slices_Index_string n) := by
  refine fn_ok (sig := sig) mixed ttok (mkK_nat (cslices_Index_string n)) (mkK_ok (cslices_Index_string n)) (mkL_nat (mkK_nat (cslices_Index_string n)) (l := [(2, Dslices_Index_string_l2, Pslices_Index_string_l2 @slices_Index_string_l2 n)]) ⟨nlslices_Index_string_l2 n, trivial⟩) (fn := Tryd.f98) (c := bodyOf Tryd.f98) (by kernel_rfl) (by kernel_rfl) (by kernel_rfl) (.eq (l := [.lo (loopIn 2 (bodyOf Tryd.f98))]) (by kernel_rfl) ⟨(lkslices_Index_string_l2 n _ _ (at_id (i := 2) (by kernel_rfl) rfl)), trivial⟩) (shs := Hslices_Index_string) (S := Sslices_Index_string) (h1 := by kernel_rfl) fun R p k => ?_
  unfold Kslices_Index_string
  cases h : (PkS.un Sslices_Index_string p) with
  | none => rfl
  | some d =>
    obtain ⟨x0, x1, u⟩ := (d : (List ByteArray) × ByteArray × Unit)
    have hp := PkS.un_pack h
    subst hp
    exact (eslices_Index_string @slices_Index_string_l2 n x0 x1 k).symm

/-! ### slices.Contains[[]string,string] -/
theorem cslices_Contains_string (n : Nat) : AllOk Tryd.prog [(98, Kslices_Index_string @slices_Index_string n)] := ⟨okslices_Index_string n, trivial⟩
@[reducible] def Sslices_Contains_string : PkS := ⟨[.one (.ro .str), .one (.str)], []⟩
@[reducible] def Tslices_Contains_string : PkS := ⟨[.one (.bool), .one (.dead), .one (.dead)], []⟩
def Hslices_Contains_string : List Sh := [.one .any, .skip, .skip]
def Kslices_Contains_string (g : ∀ {R : Type}, Nat → (List ByteArray) → ByteArray → (Bool → Option R) → Option R) (n : Nat) : KPs := fun R p k => match (PkS.un Sslices_Contains_string p : Option ((List ByteArray) × ByteArray × Unit)) with
  | some (x0, x1, _) => g n x0 x1 (fun r0 => k (PkS.pack Tslices_Contains_string (r0, ())))
  | none => none
theorem eslices_Contains_string (slices_Index_string : ∀ {R : Type}, Nat → (List ByteArray) → ByteArray → (Int → Option R) → Option R) {R : Type} (n : Nat) (x0 : List ByteArray) (x1 : ByteArray) (k : Pk → Option R) : evF tt sig (mkK [(98, Kslices_Index_string @slices_Index_string n)] R) (mkL (mkK [(98, Kslices_Index_string @slices_Index_string n)]) [] R) Tryd.f87 Hslices_Contains_string (PkS.pack Sslices_Contains_string (x0, x1, ())) k = (fun (k : Bool → Option R) => (slices_Index_string n x0 x1 fun r1 => k (decide (r1 ≥ 0)))) (fun r0 => k (PkS.pack Tslices_Contains_string (r0, ()))) := by kernel_rfl
theorem okslices_Contains_string (n : Nat) : FnOk Tryd.prog 87 (Kslices_Contains_string @slices_Contains_string n) := by
  refine fn_ok (sig := sig) mixed ttok (mkK_nat (cslices_Contains_string n)) (mkK_ok (cslices_Contains_string n)) (mkL_nat (mkK_nat (cslices_Contains_string n)) (l := []) trivial) (fn := Tryd.f87) (c := bodyOf Tryd.f87) (by kernel_rfl) (by kernel_rfl) (by kernel_rfl) (.eq (l := []) (by kernel_rfl) trivial) (shs := Hslices_Contains_string) (S := Sslices_Contains_string) (h1 := by kernel_rfl) fun R p k => ?_
  unfold Kslices_Contains_string
  cases h : (PkS.un Sslices_Contains_string p) with
  | none => rfl
  | some d =>
    obtain ⟨x0, x1, u⟩ := (d : (List ByteArray) × ByteArray × Unit)
    have hp := PkS.un_pack h
    subst hp
    exact (eslices_Contains_string @slices_Index_string n x0 x1 k).symm

/-! ### loop.example/g00269/impl.distinct -/
theorem cimpl_distinct (n : Nat) : AllOk Tryd.prog [(87, Kslices_Contains_string @slices_Contains_string n)] := ⟨okslices_Contains_string n, trivial⟩
@[reducible] def Simpl_distinct_l2 : PkS := ⟨[.one (.ro .str), .one (.ro .str), .one (.int .i64), .one (.int .i64), .one (.dead)], []⟩
@[reducible] def Timpl_distinct_l2_0 : PkS := ⟨[.one (.bool), .one (.dead)], []⟩
@[reducible] def Timpl_distinct_l2_1 : PkS := ⟨[.one (.dead)], []⟩
def Dimpl_distinct_l2 : LoopD := ⟨18, [0, 5, 6, 7], [.one (.ro .str), .one (.ro .str), .one .any, .one .any, .skip], fun x => match x with
  | .ret => some ([2], [.one .any, .skip])
  | .exit 0 => some ([], [.skip])
  | _ => none⟩
def Pimpl_distinct_l2 (g : ∀ {R : Type}, Nat → (List ByteArray) → (List ByteArray) → Int → Int → (Bool → Option R) → (Option R) → Option R) (n : Nat) : LPs := fun R q kk => match (PkS.un Simpl_distinct_l2 q : Option ((List ByteArray) × (List ByteArray) × Int × Int × Unit)) with
  | some (y2_0, y2_1, y2_2, y2_3, _) => g n y2_0 y2_1 y2_2 y2_3 (fun r0 => kk .ret (PkS.pack Timpl_distinct_l2_0 (r0, ()))) (kk (.exit 0) (PkS.pack Timpl_distinct_l2_1 ()))
  | none => none
theorem eimpl_distinct_l2 (slices_Contains_string : ∀ {R : Type}, Nat → (List ByteArray) → ByteArray → (Bool → Option R) → Option R) (impl_distinct_l2 : ∀ {R : Type}, Nat → (List ByteArray) → (List ByteArray) → Int → Int → (Bool → Option R) → (Option R) → Option R) {R : Type} (n : Nat) (y2_0 : List ByteArray) (y2_1 : List ByteArray) (y2_2 : Int) (y2_3 : Int) (kk : Ex → Pk → Option R) : Dimpl_distinct_l2.step tt sig (mkK [(87, Kslices_Contains_string @slices_Contains_string n)] R) (mkL (mkK [(87, Kslices_Contains_string @slices_Contains_string n)]) [] R) (loopIn 2 (bodyOf Tryd.f67)) (fun q' => Pimpl_distinct_l2 @impl_distinct_l2 n R q' kk) (PkS.pack Simpl_distinct_l2 (y2_0, y2_1, y2_2, y2_3, ())) kk = (fun (kret : Bool → Option R) (kexit0 : Option R) => (bif (decide (y2_3 < y2_2)) then (bif decide (0 ≤ y2_3) then (bif decide (y2_3 < (y2_1.length : Int)) then (bif decide (0 ≤ y2_3) then (bif decide (y2_3 ≤ (y2_0.length : Int)) then (slices_Contains_string n ((y2_0.drop 0).take ((Int.toNat y2_3) - 0)) (y2_1.getD (Int.toNat y2_3) ByteArray.empty) fun r1 => (bif r1 then kret false else impl_distinct_l2 n y2_0 y2_1 y2_2 (IntKind.wrap .i64 (y2_3 + 1)) kret kexit0)) else none) else none) else none) else none) else kexit0)) (fun r0 => kk .ret (PkS.pack Timpl_distinct_l2_0 (r0, ()))) (kk (.exit 0) (PkS.pack Timpl_distinct_l2_1 ())) := by kernel_rfl
theorem leimpl_distinct_l2 : LoopEq tt sig (fun n => mkK [(87, Kslices_Contains_string @slices_Contains_string n)]) (fun n => mkL (mkK [(87, Kslices_Contains_string @slices_Contains_string n)]) []) Dimpl_distinct_l2 Simpl_distinct_l2 (loopIn 2 (bodyOf Tryd.f67)) (Pimpl_distinct_l2 @impl_distinct_l2) where
  zero R q kk := by unfold Pimpl_distinct_l2; cases (PkS.un Simpl_distinct_l2 q) <;> rfl
  succ n R q kk := by
    unfold Pimpl_distinct_l2
    cases h : (PkS.un Simpl_distinct_l2 q) with
    | none => rfl
    | some d =>
      obtain ⟨y2_0, y2_1, y2_2, y2_3, u⟩ := (d : (List ByteArray) × (List ByteArray) × Int × Int × Unit)
      have hp := PkS.un_pack h
      subst hp
      exact (eimpl_distinct_l2 @slices_Contains_string @impl_distinct_l2 n y2_0 y2_1 y2_2 y2_3 kk).symm
theorem nlimpl_distinct_l2 : ∀ n, NatLP (Pimpl_distinct_l2 @impl_distinct_l2 n) := leimpl_distinct_l2.nat (fun n => mkK_nat (cimpl_distinct n)) fun n => mkL_nat (mkK_nat (cimpl_distinct n)) (l := []) trivial
theorem inimpl_distinct_l2 (n : Nat) (R : Type) : LoopsOk Tryd.prog (mkL (mkK [(87, Kslices_Contains_string @slices_Contains_string n)]) [] R) (loopIn 2 (bodyOf Tryd.f67)) := .eq (l := []) (by kernel_rfl) trivial
theorem lkimpl_distinct_l2 (n : Nat) (R : Type) (L0 : LK R) (h0 : ∀ id, firstRegion (loopIn 2 (bodyOf Tryd.f67)) = some id → L0 id = Dimpl_distinct_l2.oracle (mkK [(87, Kslices_Contains_string @slices_Contains_string n)] R) (Pimpl_distinct_l2 @impl_distinct_l2 n R)) : LoopOk Tryd.prog L0 (loopIn 2 (bodyOf Tryd.f67)) :=
  leimpl_distinct_l2.ok mixed ttok (fun n => mkK_nat (cimpl_distinct n)) (fun n => mkK_ok (cimpl_distinct n)) (fun n => inimpl_distinct_l2 n R) (mkK_nat (cimpl_distinct n)) h0
@[reducible] def Simpl_distinct : PkS := ⟨[.one (.ro .str)], []⟩
@[reducible] def Timpl_distinct : PkS := ⟨[.one (.bool), .one (.dead)], []⟩
def Himpl_distinct : List Sh := [.one .any, .skip]
def Kimpl_distinct (g : ∀ {R : Type}, Nat → (List ByteArray) → (Bool → Option R) → Option R) (n : Nat) : KPs := fun R p k => match (PkS.un Simpl_distinct p : Option ((List ByteArray) × Unit)) with
  | some (x0, _) => g n x0 (fun r0 => k (PkS.pack Timpl_distinct (r0, ())))
  | none => none
theorem eimpl_distinct (slices_Contains_string : ∀ {R : Type}, Nat → (List ByteArray) → ByteArray → (Bool → Option R) → Option R) (impl_distinct_l2 : ∀ {R : Type}, Nat → (List ByteArray) → (List ByteArray) → Int → Int → (Bool → Option R) → (Option R) → Option R) {R : Type} (n : Nat) (x0 : List ByteArray) (k : Pk → Option R) : evF tt sig (mkK [(87, Kslices_Contains_string @slices_Contains_string n)] R) (mkL (mkK [(87, Kslices_Contains_string @slices_Contains_string n)]) [(2, Dimpl_distinct_l2, Pimpl_distinct_l2 @impl_distinct_l2 n)] R) Tryd.f67 Himpl_distinct (PkS.pack Simpl_distinct (x0, ())) k = (fun (k : Bool → Option R) => (impl_distinct_l2 n x0 x0 (x0.length : Int) 0 (fun r2 => k r2) (k true))) (fun r0 => k (PkS.pack Timpl_distinct (r0, ()))) := by kernel_rfl
theorem okimpl_distinct (n : Nat) : FnOk Tryd.prog 67 (Kimpl_distinct @impl_distinct n) := by
  refine fn_ok (sig := sig) mixed ttok (mkK_nat (cimpl_distinct n)) (mkK_ok (cimpl_distinct n)) (mkL_nat (mkK_nat (cimpl_distinct n)) (l := [(2, Dimpl_distinct_l2, Pimpl_distinct_l2 @impl_distinct_l2 n)]) ⟨nlimpl_distinct_l2 n, trivial⟩) (fn := Tryd.f67) (c := bodyOf Tryd.f67) (by kernel_rfl) (by kernel_rfl) (by kernel_rfl) (.eq (l := [.lo (loopIn 2 (bodyOf Tryd.f67))]) (by kernel_rfl) ⟨(lkimpl_distinct_l2 n _ _ (at_id (i := 2) (by kernel_rfl) rfl)), trivial⟩) (shs := Himpl_distinct) (S := Simpl_distinct) (h1 := by kernel_rfl) fun R p k => ?_
  unfold Kimpl_distinct
  cases h : (PkS.un Simpl_distinct p) with
  | none => rfl
  | some d =>
    obtain ⟨x0, u⟩ := (d : (List ByteArray) × Unit)
    have hp := PkS.un_pack h
    subst hp
    exact (eimpl_distinct @slices_Contains_string @impl_distinct_l2 n x0 k).symm

/-! ### cmp.isNaN[string] -/
theorem ccmp_isNaN_string (n : Nat) : AllOk Tryd.prog [] := trivial
@[reducible] def Scmp_isNaN_string : PkS := ⟨[.one (.str)], []⟩
@[reducible] def Tcmp_isNaN_string : PkS := ⟨[.one (.bool), .one (.dead)], []⟩
def Hcmp_isNaN_string : List Sh := [.one .any, .skip]
def Kcmp_isNaN_string (g : ∀ {R : Type}, Nat → ByteArray → (Bool → Option R) → Option R) (n : Nat) : KPs := fun R p k => match (PkS.un Scmp_isNaN_string p : Option (ByteArray × Unit)) with
  | some (x0, _) => g n x0 (fun r0 => k (PkS.pack Tcmp_isNaN_string (r0, ())))
  | none => none
theorem ecmp_isNaN_string  {R : Type} (n : Nat) (x0 : ByteArray) (k : Pk → Option R) : evF tt sig (mkK [] R) (mkL (mkK []) [] R) Tryd.f99 Hcmp_isNaN_string (PkS.pack Scmp_isNaN_string (x0, ())) k = (fun (k : Bool → Option R) => k (!((ByteArray.toList x0) == (ByteArray.toList x0)))) (fun r0 => k (PkS.pack Tcmp_isNaN_string (r0, ()))) := by kernel_rfl
theorem okcmp_isNaN_string (n : Nat) : FnOk Tryd.prog 99 (Kcmp_isNaN_string @cmp_isNaN_string n) := by
  refine fn_ok (sig := sig) mixed ttok (mkK_nat (ccmp_isNaN_string n)) (mkK_ok (ccmp_isNaN_string n)) (mkL_nat (mkK_nat (ccmp_isNaN_string n)) (l := []) trivial) (fn := Tryd.f99) (c := bodyOf Tryd.f99) (by kernel_rfl) (by kernel_rfl) (by kernel_rfl) (.eq (l := []) (by kernel_rfl) trivial) (shs := Hcmp_isNaN_string) (S := Scmp_isNaN_string) (h1 := by kernel_rfl) fun R p k => ?_
  unfold Kcmp_isNaN_string
  cases h : (PkS.un Scmp_isNaN_string p) with
  | none => rfl
  | some d =>
    obtain ⟨x0, u⟩ := (d : ByteArray × Unit)
    have hp := PkS.un_pack h
    subst hp
    exact (ecmp_isNaN_string  n x0 k).symm

/-! ### cmp.Less[string] -/
theorem ccmp_Less_string (n : Nat) : AllOk Tryd.prog [(99, Kcmp_isNaN_string @cmp_isNaN_string n)] := ⟨okcmp_isNaN_string n, trivial⟩
@[reducible] def Scmp_Less_string : PkS := ⟨[.one (.str), .one (.str)], []⟩
@[reducible] def Tcmp_Less_string : PkS := ⟨[.one (.bool), .one (.dead), .one (.dead)], []⟩
def Hcmp_Less_string : List Sh := [.one .any, .skip, .skip]
def Kcmp_Less_string (g : ∀ {R : Type}, Nat → ByteArray → ByteArray → (Bool → Option R) → Option R) (n : Nat) : KPs := fun R p k => match (PkS.un Scmp_Less_string p : Option (ByteArray × ByteArray × Unit)) with
  | some (x0, x1, _) => g n x0 x1 (fun r0 => k (PkS.pack Tcmp_Less_string (r0, ())))
  | none => none
theorem ecmp_Less_string (cmp_isNaN_string : ∀ {R : Type}, Nat → ByteArray → (Bool → Option R) → Option R) {R : Type} (n : Nat) (x0 : ByteArray) (x1 : ByteArray) (k : Pk → Option R) : evF tt sig (mkK [(99, Kcmp_isNaN_string @cmp_isNaN_string n)] R) (mkL (mkK [(99, Kcmp_isNaN_string @cmp_isNaN_string n)]) [] R) Tryd.f88 Hcmp_Less_string (PkS.pack Scmp_Less_string (x0, x1, ())) k = (fun (k : Bool → Option R) => (cmp_isNaN_string n x0 fun r1 => (bif r1 then (cmp_isNaN_string n x1 fun r2 => (bif (!r2) then k true else k (Op.bytesLess (ByteArray.toList x0) (ByteArray.toList x1)))) else k (Op.bytesLess (ByteArray.toList x0) (ByteArray.toList x1))))) (fun r0 => k (PkS.pack Tcmp_Less_string (r0, ()))) := by kernel_rfl
theorem okcmp_Less_string (n : Nat) : FnOk Tryd.prog 88 (Kcmp_Less_string @cmp_Less_string n) := by
  refine fn_ok (sig := sig) mixed ttok (mkK_nat (ccmp_Less_string n)) (mkK_ok (ccmp_Less_string n)) (mkL_nat (mkK_nat (ccmp_Less_string n)) (l := []) trivial) (fn := Tryd.f88) (c := bodyOf Tryd.f88) (by kernel_rfl) (by kernel_rfl) (by kernel_rfl) (.eq (l := []) (by kernel_rfl) trivial) (shs := Hcmp_Less_string) (S := Scmp_Less_string) (h1 := by kernel_rfl) fun R p k => ?_
  unfold Kcmp_Less_string
  cases h : (PkS.un Scmp_Less_string p) with
  | none => rfl
  | some d =>
    obtain ⟨x0, x1, u⟩ := (d : ByteArray × ByteArray × Unit)
    have hp := PkS.un_pack h
    subst hp
    exact (ecmp_Less_string @cmp_isNaN_string n x0 x1 k).symm

/-! ### slices.IsSorted[[]string,string] -/
theorem cslices_IsSorted_string (n : Nat) : AllOk Tryd.prog [(88, Kcmp_Less_string @cmp_Less_string n)] := ⟨okcmp_Less_string n, trivial⟩
@[reducible] def Sslices_IsSorted_string_l2 : PkS := ⟨[.one (.ro .str), .one (.int .i64), .one (.dead)], []⟩
@[reducible] def Tslices_IsSorted_string_l2_0 : PkS := ⟨[.one (.bool), .one (.dead)], []⟩
@[reducible] def Tslices_IsSorted_string_l2_1 : PkS := ⟨[.one (.dead)], []⟩
def Dslices_IsSorted_string_l2 : LoopD := ⟨21, [0, 3], [.one (.ro .str), .one .any, .skip], fun x => match x with
  | .ret => some ([2], [.one .any, .skip])
  | .exit 0 => some ([], [.skip])
  | _ => none⟩
def Pslices_IsSorted_string_l2 (g : ∀ {R : Type}, Nat → (List ByteArray) → Int → (Bool → Option R) → (Option R) → Option R) (n : Nat) : LPs := fun R q kk => match (PkS.un Sslices_IsSorted_string_l2 q : Option ((List ByteArray) × Int × Unit)) with
  | some (y2_0, y2_1, _) => g n y2_0 y2_1 (fun r0 => kk .ret (PkS.pack Tslices_IsSorted_string_l2_0 (r0, ()))) (kk (.exit 0) (PkS.pack Tslices_IsSorted_string_l2_1 ()))
  | none => none
theorem eslices_IsSorted_string_l2 (cmp_Less_string : ∀ {R : Type}, Nat → ByteArray → ByteArray → (Bool → Option R) → Option R) (slices_IsSorted_string_l2 : ∀ {R : Type}, Nat → (List ByteArray) → Int → (Bool → Option R) → (Option R) → Option R) {R : Type} (n : Nat) (y2_0 : List ByteArray) (y2_1 : Int) (kk : Ex → Pk → Option R) : Dslices_IsSorted_string_l2.step tt sig (mkK [(88, Kcmp_Less_string @cmp_Less_string n)] R) (mkL (mkK [(88, Kcmp_Less_string @cmp_Less_string n)]) [] R) (loopIn 2 (bodyOf Tryd.f68)) (fun q' => Pslices_IsSorted_string_l2 @slices_IsSorted_string_l2 n R q' kk) (PkS.pack Sslices_IsSorted_string_l2 (y2_0, y2_1, ())) kk = (fun (kret : Bool → Option R) (kexit0 : Option R) => (bif (decide (y2_1 > 0)) then (bif decide (0 ≤ y2_1) then (bif decide (y2_1 < (y2_0.length : Int)) then (bif decide (0 ≤ (IntKind.wrap .i64 (y2_1 - 1))) then (bif decide ((IntKind.wrap .i64 (y2_1 - 1)) < (y2_0.length : Int)) then (cmp_Less_string n (y2_0.getD (Int.toNat y2_1) ByteArray.empty) (y2_0.getD (Int.toNat (IntKind.wrap .i64 (y2_1 - 1))) ByteArray.empty) fun r1 => (bif r1 then kret false else slices_IsSorted_string_l2 n y2_0 (IntKind.wrap .i64 (y2_1 - 1)) kret kexit0)) else none) else none) else none) else none) else kexit0)) (fun r0 => kk .ret (PkS.pack Tslices_IsSorted_string_l2_0 (r0, ()))) (kk (.exit 0) (PkS.pack Tslices_IsSorted_string_l2_1 ())) := by kernel_rfl
theorem leslices_IsSorted_string_l2 : LoopEq tt sig (fun n => mkK [(88, Kcmp_Less_string @cmp_Less_string n)]) (fun n => mkL (mkK [(88, Kcmp_Less_string @cmp_Less_string n)]) []) Dslices_IsSorted_string_l2 Sslices_IsSorted_string_l2 (loopIn 2 (bodyOf Tryd.f68)) (Pslices_IsSorted_string_l2 @slices_IsSorted_string_l2) where
  zero R q kk := by unfold Pslices_IsSorted_string_l2; cases (PkS.un Sslices_IsSorted_string_l2 q) <;> rfl
  succ n R q kk := by
    unfold Pslices_IsSorted_string_l2
    cases h : (PkS.un Sslices_IsSorted_string_l2 q) with
    | none => rfl
    | some d =>
      obtain ⟨y2_0, y2_1, u⟩ := (d : (List ByteArray) × Int × Unit)
      have hp := PkS.un_pack h
      subst hp
      exact (eslices_IsSorted_string_l2 @cmp_Less_string @slices_IsSorted_string_l2 n y2_0 y2_1 kk).symm
theorem nlslices_IsSorted_string_l2 : ∀ n, NatLP (Pslices_IsSorted_string_l2 @slices_IsSorted_string_l2 n) := leslices_IsSorted_string_l2.nat (fun n => mkK_nat (cslices_IsSorted_string n)) fun n => mkL_nat (mkK_nat (cslices_IsSorted_string n)) (l := []) trivial
theorem inslices_IsSorted_string_l2 (n : Nat) (R : Type) : LoopsOk Tryd.prog (mkL (mkK [(88, Kcmp_Less_string @cmp_Less_string n)]) [] R) (loopIn 2 (bodyOf Tryd.f68)) := .eq (l := []) (by kernel_rfl) trivial
theorem lkslices_IsSorted_string_l2 (n : Nat) (R : Type) (L0 : LK R) (h0 : ∀ id, firstRegion (loopIn 2 (bodyOf Tryd.f68)) = some id → L0 id = Dslices_IsSorted_string_l2.oracle (mkK [(88, Kcmp_Less_string @cmp_Less_string n)] R) (Pslices_IsSorted_string_l2 @slices_IsSorted_string_l2 n R)) : LoopOk Tryd.prog L0 (loopIn 2 (bodyOf Tryd.f68)) :=
  leslices_IsSorted_string_l2.ok mixed ttok (fun n => mkK_nat (cslices_IsSorted_string n)) (fun n => mkK_ok (cslices_IsSorted_string n)) (fun n => inslices_IsSorted_string_l2 n R) (mkK_nat (cslices_IsSorted_string n)) h0
@[reducible] def Sslices_IsSorted_string : PkS := ⟨[.one (.ro .str)], []⟩
@[reducible] def Tslices_IsSorted_string : PkS := ⟨[.one (.bool), .one (.dead)], []⟩
def Hslices_IsSorted_string : List Sh := [.one .any, .skip]
def Kslices_IsSorted_string (g : ∀ {R : Type}, Nat → (List ByteArray) → (Bool → Option R) → Option R) (n : Nat) : KPs := fun R p k => match (PkS.un Sslices_IsSorted_string p : Option ((List ByteArray) × Unit)) with
  | some (x0, _) => g n x0 (fun r0 => k (PkS.pack Tslices_IsSorted_string (r0, ())))
  | none => none
theorem eslices_IsSorted_string (cmp_Less_string : ∀ {R : Type}, Nat → ByteArray → ByteArray → (Bool → Option R) → Option R) (slices_IsSorted_string_l2 : ∀ {R : Type}, Nat → (List ByteArray) → Int → (Bool → Option R) → (Option R) → Option R) {R : Type} (n : Nat) (x0 : List ByteArray) (k : Pk → Option R) : evF tt sig (mkK [(88, Kcmp_Less_string @cmp_Less_string n)] R) (mkL (mkK [(88, Kcmp_Less_string @cmp_Less_string n)]) [(2, Dslices_IsSorted_string_l2, Pslices_IsSorted_string_l2 @slices_IsSorted_string_l2 n)] R) Tryd.f68 Hslices_IsSorted_string (PkS.pack Sslices_IsSorted_string (x0, ())) k = (fun (k : Bool → Option R) => (slices_IsSorted_string_l2 n x0 (IntKind.wrap .i64 ((x0.length : Int) - 1)) (fun r2 => k r2) (k true))) (fun r0 => k (PkS.pack Tslices_IsSorted_string (r0, ()))) := by kernel_rfl
theorem okslices_IsSorted_string (n : Nat) : FnOk Tryd.prog 68 (Kslices_IsSorted_string @slices_IsSorted_string n) := by
  refine fn_ok (sig := sig) mixed ttok (mkK_nat (cslices_IsSorted_string n)) (mkK_ok (cslices_IsSorted_string n)) (mkL_nat (mkK_nat (cslices_IsSorted_string n)) (l := [(2, Dslices_IsSorted_string_l2, Pslices_IsSorted_string_l2 @slices_IsSorted_string_l2 n)]) ⟨nlslices_IsSorted_string_l2 n, trivial⟩) (fn := Tryd.f68) (c := bodyOf Tryd.f68) (by kernel_rfl) (by kernel_rfl) (by kernel_rfl) (.eq (l := [.lo (loopIn 2 (bodyOf Tryd.f68))]) (by kernel_rfl) ⟨(lkslices_IsSorted_string_l2 n _ _ (at_id (i := 2) (by kernel_rfl) rfl)), trivial⟩) (shs := Hslices_IsSorted_string) (S := Sslices_IsSorted_string) (h1 := by kernel_rfl) fun R p k => ?_
  unfold Kslices_IsSorted_string
  cases h : (PkS.un Sslices_IsSorted_string p) with
  | none => rfl
  | some d =>
    obtain ⟨x0, u⟩ := (d : (List ByteArray) × Unit)
    have hp := PkS.un_pack h
    subst hp
    exact (eslices_IsSorted_string @cmp_Less_string @slices_IsSorted_string_l2 n x0 k).symm

/-! ### loop.example/g00269/impl.GoodState -/
theorem cimpl_GoodState (n : Nat) : AllOk Tryd.prog [(53, Kimpl_in @impl_in n), (66, Kimpl_namesOk @impl_namesOk n), (67, Kimpl_distinct @impl_distinct n), (68, Kslices_IsSorted_string @slices_IsSorted_string n)] := ⟨okimpl_in n, ⟨okimpl_namesOk n, ⟨okimpl_distinct n, ⟨okslices_IsSorted_string n, trivial⟩⟩⟩⟩
@[reducible] def Simpl_GoodState : PkS := ⟨[.agg [.int .i64, .int .i64, .bool, .int .i64, .ro .str, .ro .str]], []⟩
@[reducible] def Timpl_GoodState : PkS := ⟨[.one (.bool), .one (.dead)], []⟩
def Himpl_GoodState : List Sh := [.one .any, .skip]
def Kimpl_GoodState (g : ∀ {R : Type}, Nat → Int → Int → Bool → Int → (List ByteArray) → (List ByteArray) → (Bool → Option R) → Option R) (n : Nat) : KPs := fun R p k => match (PkS.un Simpl_GoodState p : Option (Int × Int × Bool × Int × (List ByteArray) × (List ByteArray) × Unit)) with
  | some (x0, x1, x2, x3, x4, x5, _) => g n x0 x1 x2 x3 x4 x5 (fun r0 => k (PkS.pack Timpl_GoodState (r0, ())))
  | none => none
theorem eimpl_GoodState (impl_in : ∀ {R : Type}, Nat → Int → Int → Int → (Bool → Option R) → Option R) (impl_namesOk : ∀ {R : Type}, Nat → (List ByteArray) → Int → (Bool → Option R) → Option R) (impl_distinct : ∀ {R : Type}, Nat → (List ByteArray) → (Bool → Option R) → Option R) (slices_IsSorted_string : ∀ {R : Type}, Nat → (List ByteArray) → (Bool → Option R) → Option R) {R : Type} (n : Nat) (x0 : Int) (x1 : Int) (x2 : Bool) (x3 : Int) (x4 : List ByteArray) (x5 : List ByteArray) (k : Pk → Option R) : evF tt sig (mkK [(53, Kimpl_in @impl_in n), (66, Kimpl_namesOk @impl_namesOk n), (67, Kimpl_distinct @impl_distinct n), (68, Kslices_IsSorted_string @slices_IsSorted_string n)] R) (mkL (mkK [(53, Kimpl_in @impl_in n), (66, Kimpl_namesOk @impl_namesOk n), (67, Kimpl_distinct @impl_distinct n), (68, Kslices_IsSorted_string @slices_IsSorted_string n)]) [] R) Tryd.f31 Himpl_GoodState (PkS.pack Simpl_GoodState (x0, x1, x2, x3, x4, x5, ())) k = (fun (k : Bool → Option R) => (impl_in n x1 1 1001 fun r1 => (bif (!r1) then k false else (impl_in n x3 0 1000 fun r2 => (bif (!r2) then k false else (impl_in n x0 0 2 fun r3 => (bif (!r3) then k false else (impl_namesOk n x4 30 fun r4 => (bif (!r4) then k false else (impl_distinct n x4 fun r5 => (bif (!r5) then k false else (impl_namesOk n x5 30 fun r6 => (bif (!r6) then k false else (slices_IsSorted_string n x5 fun r7 => (bif (!r7) then k false else (impl_distinct n x5 fun r8 => (bif (!r8) then k false else (bif (x0 != 0) then k (decide (x1 > 1)) else (bif (x1 == 1) then (bif (!x2) then (bif (x3 == 0) then (bif ((x4.length : Int) == 0) then k ((x5.length : Int) == 0) else k false) else k false) else k false) else k false))))))))))))))))))) (fun r0 => k (PkS.pack Timpl_GoodState (r0, ()))) := by kernel_rfl
theorem okimpl_GoodState (n : Nat) : FnOk Tryd.prog 31 (Kimpl_GoodState @impl_GoodState n) := by
  refine fn_ok (sig := sig) mixed ttok (mkK_nat (cimpl_GoodState n)) (mkK_ok (cimpl_GoodState n)) (mkL_nat (mkK_nat (cimpl_GoodState n)) (l := []) trivial) (fn := Tryd.f31) (c := bodyOf Tryd.f31) (by kernel_rfl) (by kernel_rfl) (by kernel_rfl) (.eq (l := []) (by kernel_rfl) trivial) (shs := Himpl_GoodState) (S := Simpl_GoodState) (h1 := by kernel_rfl) fun R p k => ?_
  unfold Kimpl_GoodState
  cases h : (PkS.un Simpl_GoodState p) with
  | none => rfl
  | some d =>
    obtain ⟨x0, x1, x2, x3, x4, x5, u⟩ := (d : Int × Int × Bool × Int × (List ByteArray) × (List ByteArray) × Unit)
    have hp := PkS.un_pack h
    subst hp
    exact (eimpl_GoodState @impl_in @impl_namesOk @impl_distinct @slices_IsSorted_string n x0 x1 x2 x3 x4 x5 k).symm

/-! ### loop.example/g00269/impl.isVersion -/
theorem cimpl_isVersion (n : Nat) : AllOk Tryd.prog [(53, Kimpl_in @impl_in n)] := ⟨okimpl_in n, trivial⟩
@[reducible] def Simpl_isVersion : PkS := ⟨[.one (.int .i64)], []⟩
@[reducible] def Timpl_isVersion : PkS := ⟨[.one (.bool), .one (.dead)], []⟩
def Himpl_isVersion : List Sh := [.one .any, .skip]
def Kimpl_isVersion (g : ∀ {R : Type}, Nat → Int → (Bool → Option R) → Option R) (n : Nat) : KPs := fun R p k => match (PkS.un Simpl_isVersion p : Option (Int × Unit)) with
  | some (x0, _) => g n x0 (fun r0 => k (PkS.pack Timpl_isVersion (r0, ())))
  | none => none
theorem eimpl_isVersion (impl_in : ∀ {R : Type}, Nat → Int → Int → Int → (Bool → Option R) → Option R) {R : Type} (n : Nat) (x0 : Int) (k : Pk → Option R) : evF tt sig (mkK [(53, Kimpl_in @impl_in n)] R) (mkL (mkK [(53, Kimpl_in @impl_in n)]) [] R) Tryd.f56 Himpl_isVersion (PkS.pack Simpl_isVersion (x0, ())) k = (fun (k : Bool → Option R) => (impl_in n x0 0 1000000 fun r1 => k r1)) (fun r0 => k (PkS.pack Timpl_isVersion (r0, ()))) := by kernel_rfl
theorem okimpl_isVersion (n : Nat) : FnOk Tryd.prog 56 (Kimpl_isVersion @impl_isVersion n) := by
  refine fn_ok (sig := sig) mixed ttok (mkK_nat (cimpl_isVersion n)) (mkK_ok (cimpl_isVersion n)) (mkL_nat (mkK_nat (cimpl_isVersion n)) (l := []) trivial) (fn := Tryd.f56) (c := bodyOf Tryd.f56) (by kernel_rfl) (by kernel_rfl) (by kernel_rfl) (.eq (l := []) (by kernel_rfl) trivial) (shs := Himpl_isVersion) (S := Simpl_isVersion) (h1 := by kernel_rfl) fun R p k => ?_
  unfold Kimpl_isVersion
  cases h : (PkS.un Simpl_isVersion p) with
  | none => rfl
  | some d =>
    obtain ⟨x0, u⟩ := (d : Int × Unit)
    have hp := PkS.un_pack h
    subst hp
    exact (eimpl_isVersion @impl_in n x0 k).symm

/-! ### loop.example/g00269/impl.goodKind -/
theorem cimpl_goodKind (n : Nat) : AllOk Tryd.prog [(53, Kimpl_in @impl_in n)] := ⟨okimpl_in n, trivial⟩
@[reducible] def Simpl_goodKind : PkS := ⟨[.one (.int .i64)], []⟩
@[reducible] def Timpl_goodKind : PkS := ⟨[.one (.bool), .one (.dead)], []⟩
def Himpl_goodKind : List Sh := [.one .any, .skip]
def Kimpl_goodKind (g : ∀ {R : Type}, Nat → Int → (Bool → Option R) → Option R) (n : Nat) : KPs := fun R p k => match (PkS.un Simpl_goodKind p : Option (Int × Unit)) with
  | some (x0, _) => g n x0 (fun r0 => k (PkS.pack Timpl_goodKind (r0, ())))
  | none => none
theorem eimpl_goodKind (impl_in : ∀ {R : Type}, Nat → Int → Int → Int → (Bool → Option R) → Option R) {R : Type} (n : Nat) (x0 : Int) (k : Pk → Option R) : evF tt sig (mkK [(53, Kimpl_in @impl_in n)] R) (mkL (mkK [(53, Kimpl_in @impl_in n)]) [] R) Tryd.f72 Himpl_goodKind (PkS.pack Simpl_goodKind (x0, ())) k = (fun (k : Bool → Option R) => (impl_in n x0 1 6 fun r1 => k r1)) (fun r0 => k (PkS.pack Timpl_goodKind (r0, ()))) := by kernel_rfl
theorem okimpl_goodKind (n : Nat) : FnOk Tryd.prog 72 (Kimpl_goodKind @impl_goodKind n) := by
  refine fn_ok (sig := sig) mixed ttok (mkK_nat (cimpl_goodKind n)) (mkK_ok (cimpl_goodKind n)) (mkL_nat (mkK_nat (cimpl_goodKind n)) (l := []) trivial) (fn := Tryd.f72) (c := bodyOf Tryd.f72) (by kernel_rfl) (by kernel_rfl) (by kernel_rfl) (.eq (l := []) (by kernel_rfl) trivial) (shs := Himpl_goodKind) (S := Simpl_goodKind) (h1 := by kernel_rfl) fun R p k => ?_
  unfold Kimpl_goodKind
  cases h : (PkS.un Simpl_goodKind p) with
  | none => rfl
  | some d =>
    obtain ⟨x0, u⟩ := (d : Int × Unit)
    have hp := PkS.un_pack h
    subst hp
    exact (eimpl_goodKind @impl_in n x0 k).symm

/-! ### loop.example/g00269/impl.GoodEvent -/
theorem cimpl_GoodEvent (n : Nat) : AllOk Tryd.prog [(53, Kimpl_in @impl_in n), (56, Kimpl_isVersion @impl_isVersion n), (72, Kimpl_goodKind @impl_goodKind n), (73, Kimpl_goodName @impl_goodName n)] := ⟨okimpl_in n, ⟨okimpl_isVersion n, ⟨okimpl_goodKind n, ⟨okimpl_goodName n, trivial⟩⟩⟩⟩
@[reducible] def Simpl_GoodEvent : PkS := ⟨[.agg [.int .i64, .int .i64, .int .i64, .str]], []⟩
@[reducible] def Timpl_GoodEvent : PkS := ⟨[.one (.bool), .one (.dead)], []⟩
def Himpl_GoodEvent : List Sh := [.one .any, .skip]
def Kimpl_GoodEvent (g : ∀ {R : Type}, Nat → Int → Int → Int → ByteArray → (Bool → Option R) → Option R) (n : Nat) : KPs := fun R p k => match (PkS.un Simpl_GoodEvent p : Option (Int × Int × Int × ByteArray × Unit)) with
  | some (x0, x1, x2, x3, _) => g n x0 x1 x2 x3 (fun r0 => k (PkS.pack Timpl_GoodEvent (r0, ())))
  | none => none
theorem eimpl_GoodEvent (impl_in : ∀ {R : Type}, Nat → Int → Int → Int → (Bool → Option R) → Option R) (impl_isVersion : ∀ {R : Type}, Nat → Int → (Bool → Option R) → Option R) (impl_goodKind : ∀ {R : Type}, Nat → Int → (Bool → Option R) → Option R) (impl_goodName : ∀ {R : Type}, Nat → ByteArray → (Bool → Option R) → Option R) {R : Type} (n : Nat) (x0 : Int) (x1 : Int) (x2 : Int) (x3 : ByteArray) (k : Pk → Option R) : evF tt sig (mkK [(53, Kimpl_in @impl_in n), (56, Kimpl_isVersion @impl_isVersion n), (72, Kimpl_goodKind @impl_goodKind n), (73, Kimpl_goodName @impl_goodName n)] R) (mkL (mkK [(53, Kimpl_in @impl_in n), (56, Kimpl_isVersion @impl_isVersion n), (72, Kimpl_goodKind @impl_goodKind n), (73, Kimpl_goodName @impl_goodName n)]) [] R) Tryd.f47 Himpl_GoodEvent (PkS.pack Simpl_GoodEvent (x0, x1, x2, x3, ())) k = (fun (k : Bool → Option R) => (impl_in n x0 1 1000 fun r1 => (bif r1 then (impl_isVersion n x1 fun r2 => (bif r2 then (impl_goodKind n x2 fun r3 => (bif r3 then (impl_goodName n x3 fun r4 => k r4) else k false)) else k false)) else k false))) (fun r0 => k (PkS.pack Timpl_GoodEvent (r0, ()))) := by kernel_rfl
theorem okimpl_GoodEvent (n : Nat) : FnOk Tryd.prog 47 (Kimpl_GoodEvent @impl_GoodEvent n) := by
  refine fn_ok (sig := sig) mixed ttok (mkK_nat (cimpl_GoodEvent n)) (mkK_ok (cimpl_GoodEvent n)) (mkL_nat (mkK_nat (cimpl_GoodEvent n)) (l := []) trivial) (fn := Tryd.f47) (c := bodyOf Tryd.f47) (by kernel_rfl) (by kernel_rfl) (by kernel_rfl) (.eq (l := []) (by kernel_rfl) trivial) (shs := Himpl_GoodEvent) (S := Simpl_GoodEvent) (h1 := by kernel_rfl) fun R p k => ?_
  unfold Kimpl_GoodEvent
  cases h : (PkS.un Simpl_GoodEvent p) with
  | none => rfl
  | some d =>
    obtain ⟨x0, x1, x2, x3, u⟩ := (d : Int × Int × Int × ByteArray × Unit)
    have hp := PkS.un_pack h
    subst hp
    exact (eimpl_GoodEvent @impl_in @impl_isVersion @impl_goodKind @impl_goodName n x0 x1 x2 x3 k).symm

/-! ### slices.Clone[[]string,string] -/
theorem cslices_Clone_string (n : Nat) : AllOk Tryd.prog [] := trivial
@[reducible] def Sslices_Clone_string : PkS := ⟨[.one (.ro .str)], []⟩
@[reducible] def Tslices_Clone_string : PkS := ⟨[.one (.whole (300000, 0)), .one (.dead)], [((300000, 0), .arr .str)]⟩
def Kslices_Clone_string (g : ∀ {R : Type}, Nat → (List ByteArray) → ((List ByteArray) → Option R) → Option R) (n : Nat) : KPs := fun R p k => match (PkS.un Sslices_Clone_string p : Option ((List ByteArray) × Unit)) with
  | some (x0, _) => g n x0 (fun r0 => k (PkS.pack Tslices_Clone_string (r0, ())))
  | none => none
theorem okslices_Clone_string (n : Nat) : FnOk Tryd.prog 93 (Kslices_Clone_string @slices_Clone_string n) := by
  have e : Kslices_Clone_string @slices_Clone_string n = cloneK .str := by kernel_rfl
  rw [e]
  exact clone_ok (sig := sig) mixed ttok (fn := Tryd.f93) (c := bodyOf Tryd.f93) (by kernel_rfl) (by kernel_rfl) (by kernel_rfl) .str [.one (.own .str), .skip] (.eq (l := []) (by kernel_rfl) trivial) (fun xs => by kernel_rfl) (by kernel_rfl) (by kernel_rfl)

/-! ### loop.example/g00269/impl.cloneState -/
theorem cimpl_cloneState (n : Nat) : AllOk Tryd.prog [(93, Kslices_Clone_string @slices_Clone_string n)] := ⟨okslices_Clone_string n, trivial⟩
@[reducible] def Simpl_cloneState : PkS := ⟨[.agg [.int .i64, .int .i64, .bool, .int .i64, .ro .str, .ro .str]], []⟩
@[reducible] def Timpl_cloneState : PkS := ⟨[.agg [.int .i64, .int .i64, .bool, .int .i64, .whole (300000, 0), .whole (300000, 1)], .one (.dead)], [((300000, 0), .arr .str), ((300000, 1), .arr .str)]⟩
def Himpl_cloneState : List Sh := [.agg [.any, .any, .any, .any, (.own .str), (.own .str)], .skip]
def Kimpl_cloneState (g : ∀ {R : Type}, Nat → Int → Int → Bool → Int → (List ByteArray) → (List ByteArray) → (Int → Int → Bool → Int → (List ByteArray) → (List ByteArray) → Option R) → Option R) (n : Nat) : KPs := fun R p k => match (PkS.un Simpl_cloneState p : Option (Int × Int × Bool × Int × (List ByteArray) × (List ByteArray) × Unit)) with
  | some (x0, x1, x2, x3, x4, x5, _) => g n x0 x1 x2 x3 x4 x5 (fun r0 r1 r2 r3 r4 r5 => k (PkS.pack Timpl_cloneState (r0, r1, r2, r3, r4, r5, ())))
  | none => none
theorem eimpl_cloneState (slices_Clone_string : ∀ {R : Type}, Nat → (List ByteArray) → ((List ByteArray) → Option R) → Option R) {R : Type} (n : Nat) (x0 : Int) (x1 : Int) (x2 : Bool) (x3 : Int) (x4 : List ByteArray) (x5 : List ByteArray) (k : Pk → Option R) : evF tt sig (mkK [(93, Kslices_Clone_string @slices_Clone_string n)] R) (mkL (mkK [(93, Kslices_Clone_string @slices_Clone_string n)]) [] R) Tryd.f74 Himpl_cloneState (PkS.pack Simpl_cloneState (x0, x1, x2, x3, x4, x5, ())) k = (fun (k : Int → Int → Bool → Int → (List ByteArray) → (List ByteArray) → Option R) => (slices_Clone_string n x4 fun r1 => (slices_Clone_string n x5 fun r2 => k x0 x1 x2 x3 r1 r2))) (fun r0 r1 r2 r3 r4 r5 => k (PkS.pack Timpl_cloneState (r0, r1, r2, r3, r4, r5, ()))) := by kernel_rfl
theorem okimpl_cloneState (n : Nat) : FnOk Tryd.prog 74 (Kimpl_cloneState @impl_cloneState n) := by
  refine fn_ok (sig := sig) mixed ttok (mkK_nat (cimpl_cloneState n)) (mkK_ok (cimpl_cloneState n)) (mkL_nat (mkK_nat (cimpl_cloneState n)) (l := []) trivial) (fn := Tryd.f74) (c := bodyOf Tryd.f74) (by kernel_rfl) (by kernel_rfl) (by kernel_rfl) (.eq (l := []) (by kernel_rfl) trivial) (shs := Himpl_cloneState) (S := Simpl_cloneState) (h1 := by kernel_rfl) fun R p k => ?_
  unfold Kimpl_cloneState
  cases h : (PkS.un Simpl_cloneState p) with
  | none => rfl
  | some d =>
    obtain ⟨x0, x1, x2, x3, x4, x5, u⟩ := (d : Int × Int × Bool × Int × (List ByteArray) × (List ByteArray) × Unit)
    have hp := PkS.un_pack h
    subst hp
    exact (eimpl_cloneState @slices_Clone_string n x0 x1 x2 x3 x4 x5 k).symm

/-! ### slices.isNaN[string] -/
theorem cslices_isNaN_string (n : Nat) : AllOk Tryd.prog [] := trivial
@[reducible] def Sslices_isNaN_string : PkS := ⟨[.one (.str)], []⟩
@[reducible] def Tslices_isNaN_string : PkS := ⟨[.one (.bool), .one (.dead)], []⟩
def Hslices_isNaN_string : List Sh := [.one .any, .skip]
def Kslices_isNaN_string (g : ∀ {R : Type}, Nat → ByteArray → (Bool → Option R) → Option R) (n : Nat) : KPs := fun R p k => match (PkS.un Sslices_isNaN_string p : Option (ByteArray × Unit)) with
  | some (x0, _) => g n x0 (fun r0 => k (PkS.pack Tslices_isNaN_string (r0, ())))
  | none => none
theorem eslices_isNaN_string  {R : Type} (n : Nat) (x0 : ByteArray) (k : Pk → Option R) : evF tt sig (mkK [] R) (mkL (mkK []) [] R) Tryd.f114 Hslices_isNaN_string (PkS.pack Sslices_isNaN_string (x0, ())) k = (fun (k : Bool → Option R) => k (!((ByteArray.toList x0) == (ByteArray.toList x0)))) (fun r0 => k (PkS.pack Tslices_isNaN_string (r0, ()))) := by kernel_rfl
theorem okslices_isNaN_string (n : Nat) : FnOk Tryd.prog 114 (Kslices_isNaN_string @slices_isNaN_string n) := by
  refine fn_ok (sig := sig) mixed ttok (mkK_nat (cslices_isNaN_string n)) (mkK_ok (cslices_isNaN_string n)) (mkL_nat (mkK_nat (cslices_isNaN_string n)) (l := []) trivial) (fn := Tryd.f114) (c := bodyOf Tryd.f114) (by kernel_rfl) (by kernel_rfl) (by kernel_rfl) (.eq (l := []) (by kernel_rfl) trivial) (shs := Hslices_isNaN_string) (S := Sslices_isNaN_string) (h1 := by kernel_rfl) fun R p k => ?_
  unfold Kslices_isNaN_string
  cases h : (PkS.un Sslices_isNaN_string p) with
  | none => rfl
  | some d =>
    obtain ⟨x0, u⟩ := (d : ByteArray × Unit)
    have hp := PkS.un_pack h
    subst hp
    exact (eslices_isNaN_string  n x0 k).symm

/-! ### slices.BinarySearch[[]string,string] -/
theorem cslices_BinarySearch_string (n : Nat) : AllOk Tryd.prog [(88, Kcmp_Less_string @cmp_Less_string n), (114, Kslices_isNaN_string @slices_isNaN_string n)] := ⟨okcmp_Less_string n, ⟨okslices_isNaN_string n, trivial⟩⟩
@[reducible] def Sslices_BinarySearch_string_l3 : PkS := ⟨[.one (.ro .str), .one (.str), .one (.int .i64), .one (.int .i64), .one (.int .i64), .one (.dead), .one (.dead)], []⟩
@[reducible] def Tslices_BinarySearch_string_l3_0 : PkS := ⟨[.one (.ro .str), .one (.str), .one (.int .i64), .one (.int .i64), .one (.dead), .one (.dead)], []⟩
def Dslices_BinarySearch_string_l3 : LoopD := ⟨54, [0, 1, 6, 7, 8], [.one (.ro .str), .one .any, .one .any, .one .any, .one .any, .skip, .skip], fun x => match x with
  | .exit 0 => some ([0, 1, 6, 7], [.one (.ro .str), .one .any, .one .any, .one .any, .skip, .skip])
  | _ => none⟩
def Pslices_BinarySearch_string_l3 (g : ∀ {R : Type}, Nat → (List ByteArray) → ByteArray → Int → Int → Int → ((List ByteArray) → ByteArray → Int → Int → Option R) → Option R) (n : Nat) : LPs := fun R q kk => match (PkS.un Sslices_BinarySearch_string_l3 q : Option ((List ByteArray) × ByteArray × Int × Int × Int × Unit)) with
  | some (y3_0, y3_1, y3_2, y3_3, y3_4, _) => g n y3_0 y3_1 y3_2 y3_3 y3_4 (fun r0 r1 r2 r3 => kk (.exit 0) (PkS.pack Tslices_BinarySearch_string_l3_0 (r0, r1, r2, r3, ())))
  | none => none
theorem eslices_BinarySearch_string_l3 (cmp_Less_string : ∀ {R : Type}, Nat → ByteArray → ByteArray → (Bool → Option R) → Option R) (slices_isNaN_string : ∀ {R : Type}, Nat → ByteArray → (Bool → Option R) → Option R) (slices_BinarySearch_string_l3 : ∀ {R : Type}, Nat → (List ByteArray) → ByteArray → Int → Int → Int → ((List ByteArray) → ByteArray → Int → Int → Option R) → Option R) {R : Type} (n : Nat) (y3_0 : List ByteArray) (y3_1 : ByteArray) (y3_2 : Int) (y3_3 : Int) (y3_4 : Int) (kk : Ex → Pk → Option R) : Dslices_BinarySearch_string_l3.step tt sig (mkK [(88, Kcmp_Less_string @cmp_Less_string n), (114, Kslices_isNaN_string @slices_isNaN_string n)] R) (mkL (mkK [(88, Kcmp_Less_string @cmp_Less_string n), (114, Kslices_isNaN_string @slices_isNaN_string n)]) [] R) (loopIn 3 (bodyOf Tryd.f107)) (fun q' => Pslices_BinarySearch_string_l3 @slices_BinarySearch_string_l3 n R q' kk) (PkS.pack Sslices_BinarySearch_string_l3 (y3_0, y3_1, y3_2, y3_3, y3_4, ())) kk = (fun (kexit0 : (List ByteArray) → ByteArray → Int → Int → Option R) => (bif (decide (y3_3 < y3_4)) then (bif decide (0 ≤ (IntKind.wrap .i64 ((Int.fdiv (IntKind.wrap .u64 ((IntKind.wrap .i64 (y3_3 + y3_4)))) (2 ^ (min (Int.toNat 1) (IntKind.bits .u64))))))) then (bif decide ((IntKind.wrap .i64 ((Int.fdiv (IntKind.wrap .u64 ((IntKind.wrap .i64 (y3_3 + y3_4)))) (2 ^ (min (Int.toNat 1) (IntKind.bits .u64)))))) < (y3_0.length : Int)) then (cmp_Less_string n (y3_0.getD (Int.toNat (IntKind.wrap .i64 ((Int.fdiv (IntKind.wrap .u64 ((IntKind.wrap .i64 (y3_3 + y3_4)))) (2 ^ (min (Int.toNat 1) (IntKind.bits .u64))))))) ByteArray.empty) y3_1 fun r1 => (bif r1 then slices_BinarySearch_string_l3 n y3_0 y3_1 y3_2 (IntKind.wrap .i64 ((IntKind.wrap .i64 ((Int.fdiv (IntKind.wrap .u64 ((IntKind.wrap .i64 (y3_3 + y3_4)))) (2 ^ (min (Int.toNat 1) (IntKind.bits .u64)))))) + 1)) y3_4 kexit0 else slices_BinarySearch_string_l3 n y3_0 y3_1 y3_2 y3_3 (IntKind.wrap .i64 ((Int.fdiv (IntKind.wrap .u64 ((IntKind.wrap .i64 (y3_3 + y3_4)))) (2 ^ (min (Int.toNat 1) (IntKind.bits .u64)))))) kexit0)) else none) else none) else kexit0 y3_0 y3_1 y3_2 y3_3)) (fun r0 r1 r2 r3 => kk (.exit 0) (PkS.pack Tslices_BinarySearch_string_l3_0 (r0, r1, r2, r3, ()))) := by kernel_rfl
theorem leslices_BinarySearch_string_l3 : LoopEq tt sig (fun n => mkK [(88, Kcmp_Less_string @cmp_Less_string n), (114, Kslices_isNaN_string @slices_isNaN_string n)]) (fun n => mkL (mkK [(88, Kcmp_Less_string @cmp_Less_string n), (114, Kslices_isNaN_string @slices_isNaN_string n)]) []) Dslices_BinarySearch_string_l3 Sslices_BinarySearch_string_l3 (loopIn 3 (bodyOf Tryd.f107)) (Pslices_BinarySearch_string_l3 @slices_BinarySearch_string_l3) where
  zero R q kk := by unfold Pslices_BinarySearch_string_l3; cases (PkS.un Sslices_BinarySearch_string_l3 q) <;> rfl
  succ n R q kk := by
    unfold Pslices_BinarySearch_string_l3
    cases h : (PkS.un Sslices_BinarySearch_string_l3 q) with
    | none => rfl
    | some d =>
      obtain ⟨y3_0, y3_1, y3_2, y3_3, y3_4, u⟩ := (d : (List ByteArray) × ByteArray × Int × Int × Int × Unit)
      have hp := PkS.un_pack h
      subst hp
      exact (eslices_BinarySearch_string_l3 @cmp_Less_string @slices_isNaN_string @slices_BinarySearch_string_l3 n y3_0 y3_1 y3_2 y3_3 y3_4 kk).symm
theorem nlslices_BinarySearch_string_l3 : ∀ n, NatLP (Pslices_BinarySearch_string_l3 @slices_BinarySearch_string_l3 n) := leslices_BinarySearch_string_l3.nat (fun n => mkK_nat (cslices_BinarySearch_string n)) fun n => mkL_nat (mkK_nat (cslices_BinarySearch_string n)) (l := []) trivial
theorem inslices_BinarySearch_string_l3 (n : Nat) (R : Type) : LoopsOk Tryd.prog (mkL (mkK [(88, Kcmp_Less_string @cmp_Less_string n), (114, Kslices_isNaN_string @slices_isNaN_string n)]) [] R) (loopIn 3 (bodyOf Tryd.f107)) := .eq (l := []) (by kernel_rfl) trivial
theorem lkslices_BinarySearch_string_l3 (n : Nat) (R : Type) (L0 : LK R) (h0 : ∀ id, firstRegion (loopIn 3 (bodyOf Tryd.f107)) = some id → L0 id = Dslices_BinarySearch_string_l3.oracle (mkK [(88, Kcmp_Less_string @cmp_Less_string n), (114, Kslices_isNaN_string @slices_isNaN_string n)] R) (Pslices_BinarySearch_string_l3 @slices_BinarySearch_string_l3 n R)) : LoopOk Tryd.prog L0 (loopIn 3 (bodyOf Tryd.f107)) :=
  leslices_BinarySearch_string_l3.ok mixed ttok (fun n => mkK_nat (cslices_BinarySearch_string n)) (fun n => mkK_ok (cslices_BinarySearch_string n)) (fun n => inslices_BinarySearch_string_l3 n R) (mkK_nat (cslices_BinarySearch_string n)) h0
@[reducible] def Sslices_BinarySearch_string : PkS := ⟨[.one (.ro .str), .one (.str)], []⟩
@[reducible] def Tslices_BinarySearch_string : PkS := ⟨[.tup [(false, [.int .i64]), (false, [.bool])], .one (.dead), .one (.dead)], []⟩
def Hslices_BinarySearch_string : List Sh := [.tup [(false, [.any]), (false, [.any])], .skip, .skip]
def Kslices_BinarySearch_string (g : ∀ {R : Type}, Nat → (List ByteArray) → ByteArray → (Int → Bool → Option R) → Option R) (n : Nat) : KPs := fun R p k => match (PkS.un Sslices_BinarySearch_string p : Option ((List ByteArray) × ByteArray × Unit)) with
  | some (x0, x1, _) => g n x0 x1 (fun r0 r1 => k (PkS.pack Tslices_BinarySearch_string (r0, r1, ())))
  | none => none
theorem eslices_BinarySearch_string (cmp_Less_string : ∀ {R : Type}, Nat → ByteArray → ByteArray → (Bool → Option R) → Option R) (slices_isNaN_string : ∀ {R : Type}, Nat → ByteArray → (Bool → Option R) → Option R) (slices_BinarySearch_string_l3 : ∀ {R : Type}, Nat → (List ByteArray) → ByteArray → Int → Int → Int → ((List ByteArray) → ByteArray → Int → Int → Option R) → Option R) {R : Type} (n : Nat) (x0 : List ByteArray) (x1 : ByteArray) (k : Pk → Option R) : evF tt sig (mkK [(88, Kcmp_Less_string @cmp_Less_string n), (114, Kslices_isNaN_string @slices_isNaN_string n)] R) (mkL (mkK [(88, Kcmp_Less_string @cmp_Less_string n), (114, Kslices_isNaN_string @slices_isNaN_string n)]) [(3, Dslices_BinarySearch_string_l3, Pslices_BinarySearch_string_l3 @slices_BinarySearch_string_l3 n)] R) Tryd.f107 Hslices_BinarySearch_string (PkS.pack Sslices_BinarySearch_string (x0, x1, ())) k = (fun (k : Int → Bool → Option R) => (slices_BinarySearch_string_l3 n x0 x1 (x0.length : Int) 0 (x0.length : Int) (fun r2 r3 r4 r5 => (bif (decide (r5 < r4)) then (bif decide (0 ≤ r5) then (bif decide (r5 < (r2.length : Int)) then (bif ((ByteArray.toList (r2.getD (Int.toNat r5) ByteArray.empty)) == (ByteArray.toList r3)) then k r5 true else (bif decide (0 ≤ r5) then (bif decide (r5 < (r2.length : Int)) then (slices_isNaN_string n (r2.getD (Int.toNat r5) ByteArray.empty) fun r6 => (bif r6 then (slices_isNaN_string n r3 fun r7 => k r5 r7) else k r5 false)) else none) else none)) else none) else none) else k r5 false)))) (fun r0 r1 => k (PkS.pack Tslices_BinarySearch_string (r0, r1, ()))) := by kernel_rfl
theorem okslices_BinarySearch_string (n : Nat) : FnOk Tryd.prog 107 (Kslices_BinarySearch_string @slices_BinarySearch_string n) := by
  refine fn_ok (sig := sig) mixed ttok (mkK_nat (cslices_BinarySearch_string n)) (mkK_ok (cslices_BinarySearch_string n)) (mkL_nat (mkK_nat (cslices_BinarySearch_string n)) (l := [(3, Dslices_BinarySearch_string_l3, Pslices_BinarySearch_string_l3 @slices_BinarySearch_string_l3 n)]) ⟨nlslices_BinarySearch_string_l3 n, trivial⟩) (fn := Tryd.f107) (c := bodyOf Tryd.f107) (by kernel_rfl) (by kernel_rfl) (by kernel_rfl) (.eq (l := [.lo (loopIn 3 (bodyOf Tryd.f107))]) (by kernel_rfl) ⟨(lkslices_BinarySearch_string_l3 n _ _ (at_id (i := 3) (by kernel_rfl) rfl)), trivial⟩) (shs := Hslices_BinarySearch_string) (S := Sslices_BinarySearch_string) (h1 := by kernel_rfl) fun R p k => ?_
  unfold Kslices_BinarySearch_string
  cases h : (PkS.un Sslices_BinarySearch_string p) with
  | none => rfl
  | some d =>
    obtain ⟨x0, x1, u⟩ := (d : (List ByteArray) × ByteArray × Unit)
    have hp := PkS.un_pack h
    subst hp
    exact (eslices_BinarySearch_string @cmp_Less_string @slices_isNaN_string @slices_BinarySearch_string_l3 n x0 x1 k).symm

/-! ### slices.Delete[[]string,string] -/
theorem cslices_Delete_string (n : Nat) : AllOk Tryd.prog [] := trivial
@[reducible] def Sslices_Delete_string : PkS := ⟨[.one (.whole (200000, 0)), .one (.int .i64), .one (.int .i64)], [((200000, 0), .arr .str)]⟩
@[reducible] def Tslices_Delete_string : PkS := ⟨[.one (.whole (300000, 0)), .one (.dead), .one (.dead), .one (.dead)], [((300000, 0), .arr .str)]⟩
def Kslices_Delete_string (g : ∀ {R : Type}, Nat → Int → Int → (List ByteArray) → ((List ByteArray) → Option R) → Option R) (n : Nat) : KPs := fun R p k => match (PkS.un Sslices_Delete_string p : Option (Int × Int × (List ByteArray) × Unit)) with
  | some (x0, x1, x2, _) => g n x0 x1 x2 (fun r0 => k (PkS.pack Tslices_Delete_string (r0, ())))
  | none => none
def ren24 : Go.Shelf.Ren := ⟨fun n => match n with
  | 24 => 108
  | _ => 0, fun n => match n with
  | 0 => 0
  | 3 => 3
  | 4 => 4
  | 9 => 9
  | 24 => 50
  | _ => 0, fun x => x⟩
theorem lays24 : Go.Proofs.Lays2.n24 Tryd.prog ren24 where
  mixed := by kernel_rfl
  f24 := by kernel_rfl
  t0 := by kernel_rfl
  a0 w := by kernel_rfl
  z0 w := by kernel_rfl
  v0 w := by kernel_rfl
  t3 := by kernel_rfl
  a3 w := by kernel_rfl
  z3 w := by kernel_rfl
  v3 w := by kernel_rfl
  t4 := by kernel_rfl
  a4 w := by kernel_rfl
  z4 w := by kernel_rfl
  v4 w := by kernel_rfl
  t9 := by kernel_rfl
  a9 w := by kernel_rfl
  z9 w := by kernel_rfl
  v9 w := by kernel_rfl
  t24 := by kernel_rfl
  a24 w := by kernel_rfl
  z24 w := by kernel_rfl
  v24 w := by kernel_rfl
  i9 := by kernel_rfl
theorem okslices_Delete_string (n : Nat) : FnOk Tryd.prog 108 (Kslices_Delete_string @slices_Delete_string n) := by
  have e : Kslices_Delete_string @slices_Delete_string n = delZK := by kernel_rfl
  rw [e]
  exact deleteZ_ok lays24 rfl (fn := Tryd.f108) (c := bodyOf Tryd.f108) (by kernel_rfl) (by kernel_rfl) (by kernel_rfl)

/-! ### slices.Insert[[]string,string] -/
theorem cslices_Insert_string (n : Nat) : AllOk Tryd.prog [] := trivial
@[reducible] def Sslices_Insert_string : PkS := ⟨[.one (.whole (200000, 0)), .one (.int .i64), .one (.whole (200000, 1))], [((200000, 0), .arr .str), ((200000, 1), .arr .str)]⟩
@[reducible] def Tslices_Insert_string : PkS := ⟨[.one (.whole (300000, 0)), .one (.dead), .one (.dead), .one (.dead)], [((300000, 0), .arr .str)]⟩
def Kslices_Insert_string (g : ∀ {R : Type}, Nat → Int → (List ByteArray) → (List ByteArray) → ((List ByteArray) → Option R) → Option R) (n : Nat) : KPs := fun R p k => match (PkS.un Sslices_Insert_string p : Option (Int × (List ByteArray) × (List ByteArray) × Unit)) with
  | some (x0, x1, x2, _) => g n x0 x1 x2 (fun r0 => k (PkS.pack Tslices_Insert_string (r0, ())))
  | none => none
def ren22 : Go.Shelf.Ren := ⟨fun n => match n with
  | 22 => 109
  | 29 => 115
  | 30 => 116
  | 36 => 120
  | 17 => 125
  | _ => 0, fun n => match n with
  | 0 => 0
  | 3 => 3
  | 4 => 4
  | 9 => 9
  | 24 => 50
  | _ => 0, fun x => x⟩
theorem lays22 : Go.Proofs.Lays2.n22 Tryd.prog ren22 where
  mixed := by kernel_rfl
  f22 := by kernel_rfl
  f29 := by kernel_rfl
  f30 := by kernel_rfl
  f36 := by kernel_rfl
  f17 := by kernel_rfl
  t0 := by kernel_rfl
  a0 w := by kernel_rfl
  z0 w := by kernel_rfl
  v0 w := by kernel_rfl
  t3 := by kernel_rfl
  a3 w := by kernel_rfl
  z3 w := by kernel_rfl
  v3 w := by kernel_rfl
  t4 := by kernel_rfl
  a4 w := by kernel_rfl
  z4 w := by kernel_rfl
  v4 w := by kernel_rfl
  t9 := by kernel_rfl
  a9 w := by kernel_rfl
  z9 w := by kernel_rfl
  v9 w := by kernel_rfl
  t24 := by kernel_rfl
  a24 w := by kernel_rfl
  z24 w := by kernel_rfl
  v24 w := by kernel_rfl
  i9 := by kernel_rfl
theorem okslices_Insert_string (n : Nat) : FnOk Tryd.prog 109 (Kslices_Insert_string @slices_Insert_string n) := by
  have e : Kslices_Insert_string @slices_Insert_string n = insZK := by kernel_rfl
  rw [e]
  exact insertZ_ok lays22 rfl (fn := Tryd.f109) (c := bodyOf Tryd.f109) (by kernel_rfl) (by kernel_rfl) (by kernel_rfl)

/-! ### (*loop.example/g00269/impl.State).turnTimer -/
theorem cimpl_State_turnTimer (n : Nat) : AllOk Tryd.prog [(107, Kslices_BinarySearch_string @slices_BinarySearch_string n), (108, Kslices_Delete_string @slices_Delete_string n), (109, Kslices_Insert_string @slices_Insert_string n)] := ⟨okslices_BinarySearch_string n, ⟨okslices_Delete_string n, ⟨okslices_Insert_string n, trivial⟩⟩⟩
@[reducible] def Simpl_State_turnTimer : PkS := ⟨[.one (.box (200000, 2) 0), .one (.str)], [((200000, 0), .arr .str), ((200000, 1), .arr .str), ((200000, 2), .box [.int .i64, .int .i64, .bool, .int .i64, .whole (200000, 0), .whole (200000, 1)])]⟩
@[reducible] def Timpl_State_turnTimer : PkS := ⟨[.one (.bool), .one (.box (300000, 2) 0), .one (.dead)], [((300000, 0), .arr .str), ((300000, 1), .arr .str), ((300000, 2), .box [.int .i64, .int .i64, .bool, .int .i64, .whole (300000, 0), .whole (300000, 1)])]⟩
def Himpl_State_turnTimer : List Sh := [.one .any, .box [.any, .any, .any, .any, (.own .str), (.own .str)], .skip]
def Kimpl_State_turnTimer (g : ∀ {R : Type}, Nat → ByteArray → (List ByteArray) → (List ByteArray) → Int → Int → Bool → Int → (Bool → (List ByteArray) → (List ByteArray) → Int → Int → Bool → Int → Option R) → Option R) (n : Nat) : KPs := fun R p k => match (PkS.un Simpl_State_turnTimer p : Option (ByteArray × (List ByteArray) × (List ByteArray) × Int × Int × Bool × Int × Unit)) with
  | some (x0, x1, x2, x3, x4, x5, x6, _) => g n x0 x1 x2 x3 x4 x5 x6 (fun r0 r1 r2 r3 r4 r5 r6 => k (PkS.pack Timpl_State_turnTimer (r0, r1, r2, r3, r4, r5, r6, ())))
  | none => none
theorem eimpl_State_turnTimer (slices_BinarySearch_string : ∀ {R : Type}, Nat → (List ByteArray) → ByteArray → (Int → Bool → Option R) → Option R) (slices_Delete_string : ∀ {R : Type}, Nat → Int → Int → (List ByteArray) → ((List ByteArray) → Option R) → Option R) (slices_Insert_string : ∀ {R : Type}, Nat → Int → (List ByteArray) → (List ByteArray) → ((List ByteArray) → Option R) → Option R) {R : Type} (n : Nat) (x0 : ByteArray) (x1 : List ByteArray) (x2 : List ByteArray) (x3 : Int) (x4 : Int) (x5 : Bool) (x6 : Int) (k : Pk → Option R) : evF tt sig (mkK [(107, Kslices_BinarySearch_string @slices_BinarySearch_string n), (108, Kslices_Delete_string @slices_Delete_string n), (109, Kslices_Insert_string @slices_Insert_string n)] R) (mkL (mkK [(107, Kslices_BinarySearch_string @slices_BinarySearch_string n), (108, Kslices_Delete_string @slices_Delete_string n), (109, Kslices_Insert_string @slices_Insert_string n)]) [] R) Tryd.f94 Himpl_State_turnTimer (PkS.pack Simpl_State_turnTimer (x0, x1, x2, x3, x4, x5, x6, ())) k = (fun (k : Bool → (List ByteArray) → (List ByteArray) → Int → Int → Bool → Int → Option R) => (slices_BinarySearch_string n x2 x0 fun r1 r2 => (bif r2 then (slices_Delete_string n r1 (IntKind.wrap .i64 (r1 + 1)) x2 fun r3 => k true x1 r3 x3 x4 x5 x6) else (bif ((x2.length : Int) == 30) then k false x1 x2 x3 x4 x5 x6 else (slices_Insert_string n r1 x2 [x0] fun r4 => k true x1 r4 x3 x4 x5 x6))))) (fun r0 r1 r2 r3 r4 r5 r6 => k (PkS.pack Timpl_State_turnTimer (r0, r1, r2, r3, r4, r5, r6, ()))) := by kernel_rfl
theorem okimpl_State_turnTimer (n : Nat) : FnOk Tryd.prog 94 (Kimpl_State_turnTimer @impl_State_turnTimer n) := by
  refine fn_ok (sig := sig) mixed ttok (mkK_nat (cimpl_State_turnTimer n)) (mkK_ok (cimpl_State_turnTimer n)) (mkL_nat (mkK_nat (cimpl_State_turnTimer n)) (l := []) trivial) (fn := Tryd.f94) (c := bodyOf Tryd.f94) (by kernel_rfl) (by kernel_rfl) (by kernel_rfl) (.eq (l := []) (by kernel_rfl) trivial) (shs := Himpl_State_turnTimer) (S := Simpl_State_turnTimer) (h1 := by kernel_rfl) fun R p k => ?_
  unfold Kimpl_State_turnTimer
  cases h : (PkS.un Simpl_State_turnTimer p) with
  | none => rfl
  | some d =>
    obtain ⟨x0, x1, x2, x3, x4, x5, x6, u⟩ := (d : ByteArray × (List ByteArray) × (List ByteArray) × Int × Int × Bool × Int × Unit)
    have hp := PkS.un_pack h
    subst hp
    exact (eimpl_State_turnTimer @slices_BinarySearch_string @slices_Delete_string @slices_Insert_string n x0 x1 x2 x3 x4 x5 x6 k).symm

/-! ### (*loop.example/g00269/impl.State).apply -/
theorem cimpl_State_apply (n : Nat) : AllOk Tryd.prog [(87, Kslices_Contains_string @slices_Contains_string n), (94, Kimpl_State_turnTimer @impl_State_turnTimer n)] := ⟨okslices_Contains_string n, ⟨okimpl_State_turnTimer n, trivial⟩⟩
@[reducible] def Simpl_State_apply : PkS := ⟨[.one (.box (200000, 2) 0), .one (.int .i64), .one (.str)], [((200000, 0), .arr .str), ((200000, 1), .arr .str), ((200000, 2), .box [.int .i64, .int .i64, .bool, .int .i64, .whole (200000, 0), .whole (200000, 1)])]⟩
@[reducible] def Timpl_State_apply : PkS := ⟨[.one (.bool), .one (.box (300000, 2) 0), .one (.dead), .one (.dead)], [((300000, 0), .arr .str), ((300000, 1), .arr .str), ((300000, 2), .box [.int .i64, .int .i64, .bool, .int .i64, .whole (300000, 0), .whole (300000, 1)])]⟩
def Himpl_State_apply : List Sh := [.one .any, .box [.any, .any, .any, .any, (.own .str), (.own .str)], .skip, .skip]
def Kimpl_State_apply (g : ∀ {R : Type}, Nat → Int → ByteArray → (List ByteArray) → (List ByteArray) → Int → Int → Bool → Int → (Bool → (List ByteArray) → (List ByteArray) → Int → Int → Bool → Int → Option R) → Option R) (n : Nat) : KPs := fun R p k => match (PkS.un Simpl_State_apply p : Option (Int × ByteArray × (List ByteArray) × (List ByteArray) × Int × Int × Bool × Int × Unit)) with
  | some (x0, x1, x2, x3, x4, x5, x6, x7, _) => g n x0 x1 x2 x3 x4 x5 x6 x7 (fun r0 r1 r2 r3 r4 r5 r6 => k (PkS.pack Timpl_State_apply (r0, r1, r2, r3, r4, r5, r6, ())))
  | none => none
theorem eimpl_State_apply (slices_Contains_string : ∀ {R : Type}, Nat → (List ByteArray) → ByteArray → (Bool → Option R) → Option R) (impl_State_turnTimer : ∀ {R : Type}, Nat → ByteArray → (List ByteArray) → (List ByteArray) → Int → Int → Bool → Int → (Bool → (List ByteArray) → (List ByteArray) → Int → Int → Bool → Int → Option R) → Option R) {R : Type} (n : Nat) (x0 : Int) (x1 : ByteArray) (x2 : List ByteArray) (x3 : List ByteArray) (x4 : Int) (x5 : Int) (x6 : Bool) (x7 : Int) (k : Pk → Option R) : evF tt sig (mkK [(87, Kslices_Contains_string @slices_Contains_string n), (94, Kimpl_State_turnTimer @impl_State_turnTimer n)] R) (mkL (mkK [(87, Kslices_Contains_string @slices_Contains_string n), (94, Kimpl_State_turnTimer @impl_State_turnTimer n)]) [] R) Tryd.f75 Himpl_State_apply (PkS.pack Simpl_State_apply (x0, x1, x2, x3, x4, x5, x6, x7, ())) k = (fun (k : Bool → (List ByteArray) → (List ByteArray) → Int → Int → Bool → Int → Option R) => (bif (decide (x5 > 1000)) then k false x2 x3 x4 x5 x6 x7 else (bif (!((x0 == 1) == (x4 == 0))) then k false x2 x3 x4 x5 x6 x7 else (bif (x0 != 1) then (bif (x4 != 1) then k false x2 x3 x4 x5 x6 x7 else (bif (x0 == 1) then k true x2 x3 1 (IntKind.wrap .i64 (x5 + 1)) x6 x7 else (bif (x0 == 2) then (slices_Contains_string n x2 x1 fun r1 => (bif r1 then k false x2 x3 x4 x5 x6 x7 else (bif ((x2.length : Int) == 30) then k false x2 x3 x4 x5 x6 x7 else (bif decide (x2.length + [x1].length ≤ LIM) then k true (x2 ++ [x1]) x3 x4 (IntKind.wrap .i64 (x5 + 1)) x6 x7 else none)))) else (bif (x0 == 3) then k true x2 x3 x4 (IntKind.wrap .i64 (x5 + 1)) x6 (IntKind.wrap .i64 (x7 + 1)) else (bif (x0 == 4) then (impl_State_turnTimer n x1 x2 x3 x4 x5 x6 x7 fun r2 r3 r4 r5 r6 r7 r8 => (bif (!r2) then k false r3 r4 r5 r6 r7 r8 else k true r3 r4 r5 (IntKind.wrap .i64 (r6 + 1)) r7 r8)) else (bif (x0 == 5) then (bif x6 then k false x2 x3 x4 x5 x6 x7 else k true x2 x3 x4 (IntKind.wrap .i64 (x5 + 1)) true x7) else (bif (x0 == 6) then k true x2 ([] : List ByteArray) 2 (IntKind.wrap .i64 (x5 + 1)) x6 x7 else k true x2 x3 x4 (IntKind.wrap .i64 (x5 + 1)) x6 x7))))))) else (bif (x0 == 1) then k true x2 x3 1 (IntKind.wrap .i64 (x5 + 1)) x6 x7 else (bif (x0 == 2) then (slices_Contains_string n x2 x1 fun r9 => (bif r9 then k false x2 x3 x4 x5 x6 x7 else (bif ((x2.length : Int) == 30) then k false x2 x3 x4 x5 x6 x7 else (bif decide (x2.length + [x1].length ≤ LIM) then k true (x2 ++ [x1]) x3 x4 (IntKind.wrap .i64 (x5 + 1)) x6 x7 else none)))) else (bif (x0 == 3) then k true x2 x3 x4 (IntKind.wrap .i64 (x5 + 1)) x6 (IntKind.wrap .i64 (x7 + 1)) else (bif (x0 == 4) then (impl_State_turnTimer n x1 x2 x3 x4 x5 x6 x7 fun r10 r11 r12 r13 r14 r15 r16 => (bif (!r10) then k false r11 r12 r13 r14 r15 r16 else k true r11 r12 r13 (IntKind.wrap .i64 (r14 + 1)) r15 r16)) else (bif (x0 == 5) then (bif x6 then k false x2 x3 x4 x5 x6 x7 else k true x2 x3 x4 (IntKind.wrap .i64 (x5 + 1)) true x7) else (bif (x0 == 6) then k true x2 ([] : List ByteArray) 2 (IntKind.wrap .i64 (x5 + 1)) x6 x7 else k true x2 x3 x4 (IntKind.wrap .i64 (x5 + 1)) x6 x7)))))))))) (fun r0 r1 r2 r3 r4 r5 r6 => k (PkS.pack Timpl_State_apply (r0, r1, r2, r3, r4, r5, r6, ()))) := by kernel_rfl
theorem okimpl_State_apply (n : Nat) : FnOk Tryd.prog 75 (Kimpl_State_apply @impl_State_apply n) := by
  refine fn_ok (sig := sig) mixed ttok (mkK_nat (cimpl_State_apply n)) (mkK_ok (cimpl_State_apply n)) (mkL_nat (mkK_nat (cimpl_State_apply n)) (l := []) trivial) (fn := Tryd.f75) (c := bodyOf Tryd.f75) (by kernel_rfl) (by kernel_rfl) (by kernel_rfl) (.eq (l := []) (by kernel_rfl) trivial) (shs := Himpl_State_apply) (S := Simpl_State_apply) (h1 := by kernel_rfl) fun R p k => ?_
  unfold Kimpl_State_apply
  cases h : (PkS.un Simpl_State_apply p) with
  | none => rfl
  | some d =>
    obtain ⟨x0, x1, x2, x3, x4, x5, x6, x7, u⟩ := (d : Int × ByteArray × (List ByteArray) × (List ByteArray) × Int × Int × Bool × Int × Unit)
    have hp := PkS.un_pack h
    subst hp
    exact (eimpl_State_apply @slices_Contains_string @impl_State_turnTimer n x0 x1 x2 x3 x4 x5 x6 x7 k).symm

/-! ### loop.example/g00269/impl.ApplyEvent -/
theorem cimpl_ApplyEvent (n : Nat) : AllOk Tryd.prog [(31, Kimpl_GoodState @impl_GoodState n), (47, Kimpl_GoodEvent @impl_GoodEvent n), (74, Kimpl_cloneState @impl_cloneState n), (75, Kimpl_State_apply @impl_State_apply n)] := ⟨okimpl_GoodState n, ⟨okimpl_GoodEvent n, ⟨okimpl_cloneState n, ⟨okimpl_State_apply n, trivial⟩⟩⟩⟩
@[reducible] def Simpl_ApplyEvent : PkS := ⟨[.agg [.int .i64, .int .i64, .bool, .int .i64, .ro .str, .ro .str], .agg [.int .i64, .int .i64, .int .i64, .str]], []⟩
@[reducible] def Timpl_ApplyEvent : PkS := ⟨[.tup [(true, [.int .i64, .int .i64, .bool, .int .i64, .whole (300000, 0), .whole (300000, 1)]), (false, [.bool])], .one (.dead), .one (.dead)], [((300000, 0), .arr .str), ((300000, 1), .arr .str)]⟩
def Himpl_ApplyEvent : List Sh := [.tup [(true, [.any, .any, .any, .any, (.own .str), (.own .str)]), (false, [.any])], .skip, .skip]
def Kimpl_ApplyEvent (g : ∀ {R : Type}, Nat → Int → Int → Bool → Int → (List ByteArray) → (List ByteArray) → Int → Int → Int → ByteArray → (Int → Int → Bool → Int → Bool → (List ByteArray) → (List ByteArray) → Option R) → Option R) (n : Nat) : KPs := fun R p k => match (PkS.un Simpl_ApplyEvent p : Option (Int × Int × Bool × Int × (List ByteArray) × (List ByteArray) × Int × Int × Int × ByteArray × Unit)) with
  | some (x0, x1, x2, x3, x4, x5, x6, x7, x8, x9, _) => g n x0 x1 x2 x3 x4 x5 x6 x7 x8 x9 (fun r0 r1 r2 r3 r4 r5 r6 => k (PkS.pack Timpl_ApplyEvent (r0, r1, r2, r3, r4, r5, r6, ())))
  | none => none
theorem eimpl_ApplyEvent (impl_GoodState : ∀ {R : Type}, Nat → Int → Int → Bool → Int → (List ByteArray) → (List ByteArray) → (Bool → Option R) → Option R) (impl_GoodEvent : ∀ {R : Type}, Nat → Int → Int → Int → ByteArray → (Bool → Option R) → Option R) (impl_cloneState : ∀ {R : Type}, Nat → Int → Int → Bool → Int → (List ByteArray) → (List ByteArray) → (Int → Int → Bool → Int → (List ByteArray) → (List ByteArray) → Option R) → Option R) (impl_State_apply : ∀ {R : Type}, Nat → Int → ByteArray → (List ByteArray) → (List ByteArray) → Int → Int → Bool → Int → (Bool → (List ByteArray) → (List ByteArray) → Int → Int → Bool → Int → Option R) → Option R) {R : Type} (n : Nat) (x0 : Int) (x1 : Int) (x2 : Bool) (x3 : Int) (x4 : List ByteArray) (x5 : List ByteArray) (x6 : Int) (x7 : Int) (x8 : Int) (x9 : ByteArray) (k : Pk → Option R) : evF tt sig (mkK [(31, Kimpl_GoodState @impl_GoodState n), (47, Kimpl_GoodEvent @impl_GoodEvent n), (74, Kimpl_cloneState @impl_cloneState n), (75, Kimpl_State_apply @impl_State_apply n)] R) (mkL (mkK [(31, Kimpl_GoodState @impl_GoodState n), (47, Kimpl_GoodEvent @impl_GoodEvent n), (74, Kimpl_cloneState @impl_cloneState n), (75, Kimpl_State_apply @impl_State_apply n)]) [] R) Tryd.f40 Himpl_ApplyEvent (PkS.pack Simpl_ApplyEvent (x0, x1, x2, x3, x4, x5, x6, x7, x8, x9, ())) k = (fun (k : Int → Int → Bool → Int → Bool → (List ByteArray) → (List ByteArray) → Option R) => (impl_GoodState n x0 x1 x2 x3 x4 x5 fun r1 => (bif (!r1) then k 0 0 false 0 false ([] : List ByteArray) ([] : List ByteArray) else (impl_GoodEvent n x6 x7 x8 x9 fun r2 => (bif (!r2) then k 0 0 false 0 false ([] : List ByteArray) ([] : List ByteArray) else (bif (x6 != x1) then k 0 0 false 0 false ([] : List ByteArray) ([] : List ByteArray) else (impl_cloneState n x0 x1 x2 x3 x4 x5 fun r3 r4 r5 r6 r7 r8 => (impl_State_apply n x8 x9 r7 r8 r3 r4 r5 r6 fun r9 r10 r11 r12 r13 r14 r15 => (bif (!r9) then k 0 0 false 0 false ([] : List ByteArray) ([] : List ByteArray) else (impl_GoodState n r12 r13 r14 r15 r10 r11 fun r16 => (bif (!r16) then k 0 0 false 0 false ([] : List ByteArray) ([] : List ByteArray) else k r12 r13 r14 r15 true r10 r11))))))))))) (fun r0 r1 r2 r3 r4 r5 r6 => k (PkS.pack Timpl_ApplyEvent (r0, r1, r2, r3, r4, r5, r6, ()))) := by kernel_rfl
theorem okimpl_ApplyEvent (n : Nat) : FnOk Tryd.prog 40 (Kimpl_ApplyEvent @impl_ApplyEvent n) := by
  refine fn_ok (sig := sig) mixed ttok (mkK_nat (cimpl_ApplyEvent n)) (mkK_ok (cimpl_ApplyEvent n)) (mkL_nat (mkK_nat (cimpl_ApplyEvent n)) (l := []) trivial) (fn := Tryd.f40) (c := bodyOf Tryd.f40) (by kernel_rfl) (by kernel_rfl) (by kernel_rfl) (.eq (l := []) (by kernel_rfl) trivial) (shs := Himpl_ApplyEvent) (S := Simpl_ApplyEvent) (h1 := by kernel_rfl) fun R p k => ?_
  unfold Kimpl_ApplyEvent
  cases h : (PkS.un Simpl_ApplyEvent p) with
  | none => rfl
  | some d =>
    obtain ⟨x0, x1, x2, x3, x4, x5, x6, x7, x8, x9, u⟩ := (d : Int × Int × Bool × Int × (List ByteArray) × (List ByteArray) × Int × Int × Int × ByteArray × Unit)
    have hp := PkS.un_pack h
    subst hp
    exact (eimpl_ApplyEvent @impl_GoodState @impl_GoodEvent @impl_cloneState @impl_State_apply n x0 x1 x2 x3 x4 x5 x6 x7 x8 x9 k).symm

/-! ### loop.example/g00269/laws.eqStringS -/
theorem claws_eqStringS (n : Nat) : AllOk Tryd.prog [] := trivial
@[reducible] def Slaws_eqStringS_l4 : PkS := ⟨[.one (.ro .str), .one (.ro .str), .one (.int .i64), .one (.dead), .one (.dead)], []⟩
@[reducible] def Tlaws_eqStringS_l4_0 : PkS := ⟨[.one (.bool), .one (.dead), .one (.dead)], []⟩
@[reducible] def Tlaws_eqStringS_l4_1 : PkS := ⟨[.one (.dead), .one (.dead)], []⟩
def Dlaws_eqStringS_l4 : LoopD := ⟨26, [0, 1, 5], [.one (.ro .str), .one (.ro .str), .one .any, .skip, .skip], fun x => match x with
  | .ret => some ([4], [.one .any, .skip, .skip])
  | .exit 0 => some ([], [.skip, .skip])
  | _ => none⟩
def Plaws_eqStringS_l4 (g : ∀ {R : Type}, Nat → (List ByteArray) → (List ByteArray) → Int → (Bool → Option R) → (Option R) → Option R) (n : Nat) : LPs := fun R q kk => match (PkS.un Slaws_eqStringS_l4 q : Option ((List ByteArray) × (List ByteArray) × Int × Unit)) with
  | some (y4_0, y4_1, y4_2, _) => g n y4_0 y4_1 y4_2 (fun r0 => kk .ret (PkS.pack Tlaws_eqStringS_l4_0 (r0, ()))) (kk (.exit 0) (PkS.pack Tlaws_eqStringS_l4_1 ()))
  | none => none
theorem elaws_eqStringS_l4 (laws_eqStringS_l4 : ∀ {R : Type}, Nat → (List ByteArray) → (List ByteArray) → Int → (Bool → Option R) → (Option R) → Option R) {R : Type} (n : Nat) (y4_0 : List ByteArray) (y4_1 : List ByteArray) (y4_2 : Int) (kk : Ex → Pk → Option R) : Dlaws_eqStringS_l4.step tt sig (mkK [] R) (mkL (mkK []) [] R) (loopIn 4 (bodyOf Tryd.f69)) (fun q' => Plaws_eqStringS_l4 @laws_eqStringS_l4 n R q' kk) (PkS.pack Slaws_eqStringS_l4 (y4_0, y4_1, y4_2, ())) kk = (fun (kret : Bool → Option R) (kexit0 : Option R) => (bif (decide (y4_2 < (y4_0.length : Int))) then (bif decide (0 ≤ y4_2) then (bif decide (y4_2 < (y4_0.length : Int)) then (bif decide (0 ≤ y4_2) then (bif decide (y4_2 < (y4_1.length : Int)) then (bif (!((ByteArray.toList (y4_0.getD (Int.toNat y4_2) ByteArray.empty)) == (ByteArray.toList (y4_1.getD (Int.toNat y4_2) ByteArray.empty)))) then kret false else laws_eqStringS_l4 n y4_0 y4_1 (IntKind.wrap .i64 (y4_2 + 1)) kret kexit0) else none) else none) else none) else none) else kexit0)) (fun r0 => kk .ret (PkS.pack Tlaws_eqStringS_l4_0 (r0, ()))) (kk (.exit 0) (PkS.pack Tlaws_eqStringS_l4_1 ())) := by kernel_rfl
theorem lelaws_eqStringS_l4 : LoopEq tt sig (fun n => mkK []) (fun n => mkL (mkK []) []) Dlaws_eqStringS_l4 Slaws_eqStringS_l4 (loopIn 4 (bodyOf Tryd.f69)) (Plaws_eqStringS_l4 @laws_eqStringS_l4) where
  zero R q kk := by unfold Plaws_eqStringS_l4; cases (PkS.un Slaws_eqStringS_l4 q) <;> rfl
  succ n R q kk := by
    unfold Plaws_eqStringS_l4
    cases h : (PkS.un Slaws_eqStringS_l4 q) with
    | none => rfl
    | some d =>
      obtain ⟨y4_0, y4_1, y4_2, u⟩ := (d : (List ByteArray) × (List ByteArray) × Int × Unit)
      have hp := PkS.un_pack h
      subst hp
      exact (elaws_eqStringS_l4 @laws_eqStringS_l4 n y4_0 y4_1 y4_2 kk).symm
theorem nllaws_eqStringS_l4 : ∀ n, NatLP (Plaws_eqStringS_l4 @laws_eqStringS_l4 n) := lelaws_eqStringS_l4.nat (fun n => mkK_nat (claws_eqStringS n)) fun n => mkL_nat (mkK_nat (claws_eqStringS n)) (l := []) trivial
theorem inlaws_eqStringS_l4 (n : Nat) (R : Type) : LoopsOk Tryd.prog (mkL (mkK []) [] R) (loopIn 4 (bodyOf Tryd.f69)) := .eq (l := []) (by kernel_rfl) trivial
theorem lklaws_eqStringS_l4 (n : Nat) (R : Type) (L0 : LK R) (h0 : ∀ id, firstRegion (loopIn 4 (bodyOf Tryd.f69)) = some id → L0 id = Dlaws_eqStringS_l4.oracle (mkK [] R) (Plaws_eqStringS_l4 @laws_eqStringS_l4 n R)) : LoopOk Tryd.prog L0 (loopIn 4 (bodyOf Tryd.f69)) :=
  lelaws_eqStringS_l4.ok mixed ttok (fun n => mkK_nat (claws_eqStringS n)) (fun n => mkK_ok (claws_eqStringS n)) (fun n => inlaws_eqStringS_l4 n R) (mkK_nat (claws_eqStringS n)) h0
@[reducible] def Slaws_eqStringS : PkS := ⟨[.one (.ro .str), .one (.ro .str)], []⟩
@[reducible] def Tlaws_eqStringS : PkS := ⟨[.one (.bool), .one (.dead), .one (.dead)], []⟩
def Hlaws_eqStringS : List Sh := [.one .any, .skip, .skip]
def Klaws_eqStringS (g : ∀ {R : Type}, Nat → (List ByteArray) → (List ByteArray) → (Bool → Option R) → Option R) (n : Nat) : KPs := fun R p k => match (PkS.un Slaws_eqStringS p : Option ((List ByteArray) × (List ByteArray) × Unit)) with
  | some (x0, x1, _) => g n x0 x1 (fun r0 => k (PkS.pack Tlaws_eqStringS (r0, ())))
  | none => none
theorem elaws_eqStringS (laws_eqStringS_l4 : ∀ {R : Type}, Nat → (List ByteArray) → (List ByteArray) → Int → (Bool → Option R) → (Option R) → Option R) {R : Type} (n : Nat) (x0 : List ByteArray) (x1 : List ByteArray) (k : Pk → Option R) : evF tt sig (mkK [] R) (mkL (mkK []) [(4, Dlaws_eqStringS_l4, Plaws_eqStringS_l4 @laws_eqStringS_l4 n)] R) Tryd.f69 Hlaws_eqStringS (PkS.pack Slaws_eqStringS (x0, x1, ())) k = (fun (k : Bool → Option R) => (bif ((x0.length : Int) != (x1.length : Int)) then k false else (laws_eqStringS_l4 n x0 x1 0 (fun r1 => k r1) (k true)))) (fun r0 => k (PkS.pack Tlaws_eqStringS (r0, ()))) := by kernel_rfl
theorem oklaws_eqStringS (n : Nat) : FnOk Tryd.prog 69 (Klaws_eqStringS @laws_eqStringS n) := by
  refine fn_ok (sig := sig) mixed ttok (mkK_nat (claws_eqStringS n)) (mkK_ok (claws_eqStringS n)) (mkL_nat (mkK_nat (claws_eqStringS n)) (l := [(4, Dlaws_eqStringS_l4, Plaws_eqStringS_l4 @laws_eqStringS_l4 n)]) ⟨nllaws_eqStringS_l4 n, trivial⟩) (fn := Tryd.f69) (c := bodyOf Tryd.f69) (by kernel_rfl) (by kernel_rfl) (by kernel_rfl) (.eq (l := [.lo (loopIn 4 (bodyOf Tryd.f69))]) (by kernel_rfl) ⟨(lklaws_eqStringS_l4 n _ _ (at_id (i := 4) (by kernel_rfl) rfl)), trivial⟩) (shs := Hlaws_eqStringS) (S := Slaws_eqStringS) (h1 := by kernel_rfl) fun R p k => ?_
  unfold Klaws_eqStringS
  cases h : (PkS.un Slaws_eqStringS p) with
  | none => rfl
  | some d =>
    obtain ⟨x0, x1, u⟩ := (d : (List ByteArray) × (List ByteArray) × Unit)
    have hp := PkS.un_pack h
    subst hp
    exact (elaws_eqStringS @laws_eqStringS_l4 n x0 x1 k).symm

/-! ### loop.example/g00269/laws.eqState -/
theorem claws_eqState (n : Nat) : AllOk Tryd.prog [(69, Klaws_eqStringS @laws_eqStringS n)] := ⟨oklaws_eqStringS n, trivial⟩
@[reducible] def Slaws_eqState : PkS := ⟨[.agg [.int .i64, .int .i64, .bool, .int .i64, .ro .str, .ro .str], .agg [.int .i64, .int .i64, .bool, .int .i64, .ro .str, .ro .str]], []⟩
@[reducible] def Tlaws_eqState : PkS := ⟨[.one (.bool), .one (.dead), .one (.dead)], []⟩
def Hlaws_eqState : List Sh := [.one .any, .skip, .skip]
def Klaws_eqState (g : ∀ {R : Type}, Nat → Int → Int → Bool → Int → (List ByteArray) → (List ByteArray) → Int → Int → Bool → Int → (List ByteArray) → (List ByteArray) → (Bool → Option R) → Option R) (n : Nat) : KPs := fun R p k => match (PkS.un Slaws_eqState p : Option (Int × Int × Bool × Int × (List ByteArray) × (List ByteArray) × Int × Int × Bool × Int × (List ByteArray) × (List ByteArray) × Unit)) with
  | some (x0, x1, x2, x3, x4, x5, x6, x7, x8, x9, x10, x11, _) => g n x0 x1 x2 x3 x4 x5 x6 x7 x8 x9 x10 x11 (fun r0 => k (PkS.pack Tlaws_eqState (r0, ())))
  | none => none
theorem elaws_eqState (laws_eqStringS : ∀ {R : Type}, Nat → (List ByteArray) → (List ByteArray) → (Bool → Option R) → Option R) {R : Type} (n : Nat) (x0 : Int) (x1 : Int) (x2 : Bool) (x3 : Int) (x4 : List ByteArray) (x5 : List ByteArray) (x6 : Int) (x7 : Int) (x8 : Bool) (x9 : Int) (x10 : List ByteArray) (x11 : List ByteArray) (k : Pk → Option R) : evF tt sig (mkK [(69, Klaws_eqStringS @laws_eqStringS n)] R) (mkL (mkK [(69, Klaws_eqStringS @laws_eqStringS n)]) [] R) Tryd.f32 Hlaws_eqState (PkS.pack Slaws_eqState (x0, x1, x2, x3, x4, x5, x6, x7, x8, x9, x10, x11, ())) k = (fun (k : Bool → Option R) => (bif (x0 != x6) then k false else (bif (x1 != x7) then k false else (bif (!(x2 == x8)) then k false else (bif (x3 != x9) then k false else (laws_eqStringS n x4 x10 fun r1 => (bif (!r1) then k false else (laws_eqStringS n x5 x11 fun r2 => (bif (!r2) then k false else k true))))))))) (fun r0 => k (PkS.pack Tlaws_eqState (r0, ()))) := by kernel_rfl
theorem oklaws_eqState (n : Nat) : FnOk Tryd.prog 32 (Klaws_eqState @laws_eqState n) := by
  refine fn_ok (sig := sig) mixed ttok (mkK_nat (claws_eqState n)) (mkK_ok (claws_eqState n)) (mkL_nat (mkK_nat (claws_eqState n)) (l := []) trivial) (fn := Tryd.f32) (c := bodyOf Tryd.f32) (by kernel_rfl) (by kernel_rfl) (by kernel_rfl) (.eq (l := []) (by kernel_rfl) trivial) (shs := Hlaws_eqState) (S := Slaws_eqState) (h1 := by kernel_rfl) fun R p k => ?_
  unfold Klaws_eqState
  cases h : (PkS.un Slaws_eqState p) with
  | none => rfl
  | some d =>
    obtain ⟨x0, x1, x2, x3, x4, x5, x6, x7, x8, x9, x10, x11, u⟩ := (d : Int × Int × Bool × Int × (List ByteArray) × (List ByteArray) × Int × Int × Bool × Int × (List ByteArray) × (List ByteArray) × Unit)
    have hp := PkS.un_pack h
    subst hp
    exact (elaws_eqState @laws_eqStringS n x0 x1 x2 x3 x4 x5 x6 x7 x8 x9 x10 x11 k).symm

/-! ### loop.example/g00269/laws.markText -/
theorem claws_markText (n : Nat) : AllOk Tryd.prog [] := trivial
@[reducible] def Slaws_markText_l4 : PkS := ⟨[.one (.int .i64), .one (.str), .one (.dead)], []⟩
@[reducible] def Tlaws_markText_l4_0 : PkS := ⟨[.one (.str), .one (.dead)], []⟩
def Dlaws_markText_l4 : LoopD := ⟨20, [0, 3], [.one .any, .one .any, .skip], fun x => match x with
  | .exit 0 => some ([3], [.one .any, .skip])
  | _ => none⟩
def Plaws_markText_l4 (g : ∀ {R : Type}, Nat → Int → ByteArray → (ByteArray → Option R) → Option R) (n : Nat) : LPs := fun R q kk => match (PkS.un Slaws_markText_l4 q : Option (Int × ByteArray × Unit)) with
  | some (y4_0, y4_1, _) => g n y4_0 y4_1 (fun r0 => kk (.exit 0) (PkS.pack Tlaws_markText_l4_0 (r0, ())))
  | none => none
theorem elaws_markText_l4 (laws_markText_l4 : ∀ {R : Type}, Nat → Int → ByteArray → (ByteArray → Option R) → Option R) {R : Type} (n : Nat) (y4_0 : Int) (y4_1 : ByteArray) (kk : Ex → Pk → Option R) : Dlaws_markText_l4.step tt sig (mkK [] R) (mkL (mkK []) [] R) (loopIn 4 (bodyOf Tryd.f50)) (fun q' => Plaws_markText_l4 @laws_markText_l4 n R q' kk) (PkS.pack Slaws_markText_l4 (y4_0, y4_1, ())) kk = (fun (kexit0 : ByteArray → Option R) => (bif (decide (y4_0 > 0)) then (bif decide ((bytesOf ([(IntKind.wrap .u8 ((IntKind.wrap .i64 (48 + (Int.tmod y4_0 10)))))])).size + y4_1.size ≤ STR) then laws_markText_l4 n (IntKind.wrap .i64 (Int.tdiv y4_0 10)) ((bytesOf ([(IntKind.wrap .u8 ((IntKind.wrap .i64 (48 + (Int.tmod y4_0 10)))))])) ++ y4_1) kexit0 else none) else kexit0 y4_1)) (fun r0 => kk (.exit 0) (PkS.pack Tlaws_markText_l4_0 (r0, ()))) := by kernel_rfl
theorem lelaws_markText_l4 : LoopEq tt sig (fun n => mkK []) (fun n => mkL (mkK []) []) Dlaws_markText_l4 Slaws_markText_l4 (loopIn 4 (bodyOf Tryd.f50)) (Plaws_markText_l4 @laws_markText_l4) where
  zero R q kk := by unfold Plaws_markText_l4; cases (PkS.un Slaws_markText_l4 q) <;> rfl
  succ n R q kk := by
    unfold Plaws_markText_l4
    cases h : (PkS.un Slaws_markText_l4 q) with
    | none => rfl
    | some d =>
      obtain ⟨y4_0, y4_1, u⟩ := (d : Int × ByteArray × Unit)
      have hp := PkS.un_pack h
      subst hp
      exact (elaws_markText_l4 @laws_markText_l4 n y4_0 y4_1 kk).symm
theorem nllaws_markText_l4 : ∀ n, NatLP (Plaws_markText_l4 @laws_markText_l4 n) := lelaws_markText_l4.nat (fun n => mkK_nat (claws_markText n)) fun n => mkL_nat (mkK_nat (claws_markText n)) (l := []) trivial
theorem inlaws_markText_l4 (n : Nat) (R : Type) : LoopsOk Tryd.prog (mkL (mkK []) [] R) (loopIn 4 (bodyOf Tryd.f50)) := .eq (l := []) (by kernel_rfl) trivial
theorem lklaws_markText_l4 (n : Nat) (R : Type) (L0 : LK R) (h0 : ∀ id, firstRegion (loopIn 4 (bodyOf Tryd.f50)) = some id → L0 id = Dlaws_markText_l4.oracle (mkK [] R) (Plaws_markText_l4 @laws_markText_l4 n R)) : LoopOk Tryd.prog L0 (loopIn 4 (bodyOf Tryd.f50)) :=
  lelaws_markText_l4.ok mixed ttok (fun n => mkK_nat (claws_markText n)) (fun n => mkK_ok (claws_markText n)) (fun n => inlaws_markText_l4 n R) (mkK_nat (claws_markText n)) h0
@[reducible] def Slaws_markText : PkS := ⟨[.one (.int .i64)], []⟩
@[reducible] def Tlaws_markText : PkS := ⟨[.one (.str), .one (.dead)], []⟩
def Hlaws_markText : List Sh := [.one .any, .skip]
def Klaws_markText (g : ∀ {R : Type}, Nat → Int → (ByteArray → Option R) → Option R) (n : Nat) : KPs := fun R p k => match (PkS.un Slaws_markText p : Option (Int × Unit)) with
  | some (x0, _) => g n x0 (fun r0 => k (PkS.pack Tlaws_markText (r0, ())))
  | none => none
theorem elaws_markText (laws_markText_l4 : ∀ {R : Type}, Nat → Int → ByteArray → (ByteArray → Option R) → Option R) {R : Type} (n : Nat) (x0 : Int) (k : Pk → Option R) : evF tt sig (mkK [] R) (mkL (mkK []) [(4, Dlaws_markText_l4, Plaws_markText_l4 @laws_markText_l4 n)] R) Tryd.f50 Hlaws_markText (PkS.pack Slaws_markText (x0, ())) k = (fun (k : ByteArray → Option R) => (bif (decide (x0 ≤ 0)) then k (ByteArray.mk #[109, 48]) else (laws_markText_l4 n x0 (ByteArray.mk #[]) (fun r1 => (bif decide ((ByteArray.mk #[109]).size + r1.size ≤ STR) then k ((ByteArray.mk #[109]) ++ r1) else none))))) (fun r0 => k (PkS.pack Tlaws_markText (r0, ()))) := by kernel_rfl
theorem oklaws_markText (n : Nat) : FnOk Tryd.prog 50 (Klaws_markText @laws_markText n) := by
  refine fn_ok (sig := sig) mixed ttok (mkK_nat (claws_markText n)) (mkK_ok (claws_markText n)) (mkL_nat (mkK_nat (claws_markText n)) (l := [(4, Dlaws_markText_l4, Plaws_markText_l4 @laws_markText_l4 n)]) ⟨nllaws_markText_l4 n, trivial⟩) (fn := Tryd.f50) (c := bodyOf Tryd.f50) (by kernel_rfl) (by kernel_rfl) (by kernel_rfl) (.eq (l := [.lo (loopIn 4 (bodyOf Tryd.f50))]) (by kernel_rfl) ⟨(lklaws_markText_l4 n _ _ (at_id (i := 4) (by kernel_rfl) rfl)), trivial⟩) (shs := Hlaws_markText) (S := Slaws_markText) (h1 := by kernel_rfl) fun R p k => ?_
  unfold Klaws_markText
  cases h : (PkS.un Slaws_markText p) with
  | none => rfl
  | some d =>
    obtain ⟨x0, u⟩ := (d : Int × Unit)
    have hp := PkS.un_pack h
    subst hp
    exact (elaws_markText @laws_markText_l4 n x0 k).symm

/-! ### loop.example/g00269/laws.markStringS -/
theorem claws_markStringS (n : Nat) : AllOk Tryd.prog [(50, Klaws_markText @laws_markText n)] := ⟨oklaws_markText n, trivial⟩
@[reducible] def Slaws_markStringS_l2 : PkS := ⟨[.one (.whole (100000, 0)), .one (.int .i64), .one (.int .i64), .one (.whole (100000, 0)), .one (.dead)], [((100000, 0), .arr .str)]⟩
@[reducible] def Tlaws_markStringS_l2_0 : PkS := ⟨[.one (.int .i64), .one (.whole (100000, 0)), .one (.dead)], [((100000, 0), .arr .str)]⟩
def Dlaws_markStringS_l2 : LoopD := ⟨20, [0, 1, 5], [.one (.own .str), .one .any, .one .any, .one (.own .str), .skip], fun x => match x with
  | .exit 0 => some ([1], [.one .any, .one (.own .str), .skip])
  | _ => none⟩
def Plaws_markStringS_l2 (g : ∀ {R : Type}, Nat → Int → Int → (List ByteArray) → (Int → (List ByteArray) → Option R) → Option R) (n : Nat) : LPs := fun R q kk => match (PkS.un Slaws_markStringS_l2 q : Option (Int × Int × (List ByteArray) × Unit)) with
  | some (y2_0, y2_1, y2_2, _) => g n y2_0 y2_1 y2_2 (fun r0 r1 => kk (.exit 0) (PkS.pack Tlaws_markStringS_l2_0 (r0, r1, ())))
  | none => none
theorem elaws_markStringS_l2 (laws_markText : ∀ {R : Type}, Nat → Int → (ByteArray → Option R) → Option R) (laws_markStringS_l2 : ∀ {R : Type}, Nat → Int → Int → (List ByteArray) → (Int → (List ByteArray) → Option R) → Option R) {R : Type} (n : Nat) (y2_0 : Int) (y2_1 : Int) (y2_2 : List ByteArray) (kk : Ex → Pk → Option R) : Dlaws_markStringS_l2.step tt sig (mkK [(50, Klaws_markText @laws_markText n)] R) (mkL (mkK [(50, Klaws_markText @laws_markText n)]) [] R) (loopIn 2 (bodyOf Tryd.f78)) (fun q' => Plaws_markStringS_l2 @laws_markStringS_l2 n R q' kk) (PkS.pack Slaws_markStringS_l2 (y2_0, y2_1, y2_2, ())) kk = (fun (kexit0 : Int → (List ByteArray) → Option R) => (bif (decide (y2_1 < (y2_2.length : Int))) then (laws_markText n y2_0 fun r1 => (bif decide (0 ≤ y2_1) then (bif decide (y2_1 < (y2_2.length : Int)) then laws_markStringS_l2 n (IntKind.wrap .i64 (y2_0 + 1)) (IntKind.wrap .i64 (y2_1 + 1)) (y2_2.set (Int.toNat y2_1) r1) kexit0 else none) else none)) else kexit0 y2_0 y2_2)) (fun r0 r1 => kk (.exit 0) (PkS.pack Tlaws_markStringS_l2_0 (r0, r1, ()))) := by kernel_rfl
theorem lelaws_markStringS_l2 : LoopEq tt sig (fun n => mkK [(50, Klaws_markText @laws_markText n)]) (fun n => mkL (mkK [(50, Klaws_markText @laws_markText n)]) []) Dlaws_markStringS_l2 Slaws_markStringS_l2 (loopIn 2 (bodyOf Tryd.f78)) (Plaws_markStringS_l2 @laws_markStringS_l2) where
  zero R q kk := by unfold Plaws_markStringS_l2; cases (PkS.un Slaws_markStringS_l2 q) <;> rfl
  succ n R q kk := by
    unfold Plaws_markStringS_l2
    cases h : (PkS.un Slaws_markStringS_l2 q) with
    | none => rfl
    | some d =>
      obtain ⟨y2_0, y2_1, y2_2, u⟩ := (d : Int × Int × (List ByteArray) × Unit)
      have hp := PkS.un_pack h
      subst hp
      exact (elaws_markStringS_l2 @laws_markText @laws_markStringS_l2 n y2_0 y2_1 y2_2 kk).symm
theorem nllaws_markStringS_l2 : ∀ n, NatLP (Plaws_markStringS_l2 @laws_markStringS_l2 n) := lelaws_markStringS_l2.nat (fun n => mkK_nat (claws_markStringS n)) fun n => mkL_nat (mkK_nat (claws_markStringS n)) (l := []) trivial
theorem inlaws_markStringS_l2 (n : Nat) (R : Type) : LoopsOk Tryd.prog (mkL (mkK [(50, Klaws_markText @laws_markText n)]) [] R) (loopIn 2 (bodyOf Tryd.f78)) := .eq (l := []) (by kernel_rfl) trivial
theorem lklaws_markStringS_l2 (n : Nat) (R : Type) (L0 : LK R) (h0 : ∀ id, firstRegion (loopIn 2 (bodyOf Tryd.f78)) = some id → L0 id = Dlaws_markStringS_l2.oracle (mkK [(50, Klaws_markText @laws_markText n)] R) (Plaws_markStringS_l2 @laws_markStringS_l2 n R)) : LoopOk Tryd.prog L0 (loopIn 2 (bodyOf Tryd.f78)) :=
  lelaws_markStringS_l2.ok mixed ttok (fun n => mkK_nat (claws_markStringS n)) (fun n => mkK_ok (claws_markStringS n)) (fun n => inlaws_markStringS_l2 n R) (mkK_nat (claws_markStringS n)) h0
@[reducible] def Slaws_markStringS : PkS := ⟨[.one (.whole (200000, 0)), .one (.int .i64)], [((200000, 0), .arr .str)]⟩
@[reducible] def Tlaws_markStringS : PkS := ⟨[.one (.int .i64), .one (.whole (300000, 0)), .one (.dead)], [((300000, 0), .arr .str)]⟩
def Hlaws_markStringS : List Sh := [.one .any, .one (.own .str), .skip]
def Klaws_markStringS (g : ∀ {R : Type}, Nat → Int → (List ByteArray) → (Int → (List ByteArray) → Option R) → Option R) (n : Nat) : KPs := fun R p k => match (PkS.un Slaws_markStringS p : Option (Int × (List ByteArray) × Unit)) with
  | some (x0, x1, _) => g n x0 x1 (fun r0 r1 => k (PkS.pack Tlaws_markStringS (r0, r1, ())))
  | none => none
theorem elaws_markStringS (laws_markText : ∀ {R : Type}, Nat → Int → (ByteArray → Option R) → Option R) (laws_markStringS_l2 : ∀ {R : Type}, Nat → Int → Int → (List ByteArray) → (Int → (List ByteArray) → Option R) → Option R) {R : Type} (n : Nat) (x0 : Int) (x1 : List ByteArray) (k : Pk → Option R) : evF tt sig (mkK [(50, Klaws_markText @laws_markText n)] R) (mkL (mkK [(50, Klaws_markText @laws_markText n)]) [(2, Dlaws_markStringS_l2, Plaws_markStringS_l2 @laws_markStringS_l2 n)] R) Tryd.f78 Hlaws_markStringS (PkS.pack Slaws_markStringS (x0, x1, ())) k = (fun (k : Int → (List ByteArray) → Option R) => (laws_markStringS_l2 n x0 0 x1 (fun r2 r3 => k r2 r3))) (fun r0 r1 => k (PkS.pack Tlaws_markStringS (r0, r1, ()))) := by kernel_rfl
theorem oklaws_markStringS (n : Nat) : FnOk Tryd.prog 78 (Klaws_markStringS @laws_markStringS n) := by
  refine fn_ok (sig := sig) mixed ttok (mkK_nat (claws_markStringS n)) (mkK_ok (claws_markStringS n)) (mkL_nat (mkK_nat (claws_markStringS n)) (l := [(2, Dlaws_markStringS_l2, Plaws_markStringS_l2 @laws_markStringS_l2 n)]) ⟨nllaws_markStringS_l2 n, trivial⟩) (fn := Tryd.f78) (c := bodyOf Tryd.f78) (by kernel_rfl) (by kernel_rfl) (by kernel_rfl) (.eq (l := [.lo (loopIn 2 (bodyOf Tryd.f78))]) (by kernel_rfl) ⟨(lklaws_markStringS_l2 n _ _ (at_id (i := 2) (by kernel_rfl) rfl)), trivial⟩) (shs := Hlaws_markStringS) (S := Slaws_markStringS) (h1 := by kernel_rfl) fun R p k => ?_
  unfold Klaws_markStringS
  cases h : (PkS.un Slaws_markStringS p) with
  | none => rfl
  | some d =>
    obtain ⟨x0, x1, u⟩ := (d : Int × (List ByteArray) × Unit)
    have hp := PkS.un_pack h
    subst hp
    exact (elaws_markStringS @laws_markText @laws_markStringS_l2 n x0 x1 k).symm

/-! ### loop.example/g00269/laws.markState -/
theorem claws_markState (n : Nat) : AllOk Tryd.prog [(78, Klaws_markStringS @laws_markStringS n)] := ⟨oklaws_markStringS n, trivial⟩
@[reducible] def Slaws_markState : PkS := ⟨[.agg [.int .i64, .int .i64, .bool, .int .i64, .whole (200000, 0), .whole (200000, 1)], .one (.int .i64)], [((200000, 0), .arr .str), ((200000, 1), .arr .str)]⟩
@[reducible] def Tlaws_markState : PkS := ⟨[.one (.int .i64), .agg [.int .i64, .int .i64, .bool, .int .i64, .whole (300000, 0), .whole (300000, 1)], .one (.dead)], [((300000, 0), .arr .str), ((300000, 1), .arr .str)]⟩
def Hlaws_markState : List Sh := [.one .any, .agg [.any, .any, .any, .any, (.own .str), (.own .str)], .skip]
def Klaws_markState (g : ∀ {R : Type}, Nat → Int → Int → Bool → Int → Int → (List ByteArray) → (List ByteArray) → (Int → Int → Int → Bool → Int → (List ByteArray) → (List ByteArray) → Option R) → Option R) (n : Nat) : KPs := fun R p k => match (PkS.un Slaws_markState p : Option (Int × Int × Bool × Int × Int × (List ByteArray) × (List ByteArray) × Unit)) with
  | some (x0, x1, x2, x3, x4, x5, x6, _) => g n x0 x1 x2 x3 x4 x5 x6 (fun r0 r1 r2 r3 r4 r5 r6 => k (PkS.pack Tlaws_markState (r0, r1, r2, r3, r4, r5, r6, ())))
  | none => none
theorem elaws_markState (laws_markStringS : ∀ {R : Type}, Nat → Int → (List ByteArray) → (Int → (List ByteArray) → Option R) → Option R) {R : Type} (n : Nat) (x0 : Int) (x1 : Int) (x2 : Bool) (x3 : Int) (x4 : Int) (x5 : List ByteArray) (x6 : List ByteArray) (k : Pk → Option R) : evF tt sig (mkK [(78, Klaws_markStringS @laws_markStringS n)] R) (mkL (mkK [(78, Klaws_markStringS @laws_markStringS n)]) [] R) Tryd.f41 Hlaws_markState (PkS.pack Slaws_markState (x0, x1, x2, x3, x4, x5, x6, ())) k = (fun (k : Int → Int → Int → Bool → Int → (List ByteArray) → (List ByteArray) → Option R) => (laws_markStringS n x4 x5 fun r1 r2 => (laws_markStringS n r1 x6 fun r3 r4 => k r3 x0 x1 x2 x3 r2 r4))) (fun r0 r1 r2 r3 r4 r5 r6 => k (PkS.pack Tlaws_markState (r0, r1, r2, r3, r4, r5, r6, ()))) := by kernel_rfl
theorem oklaws_markState (n : Nat) : FnOk Tryd.prog 41 (Klaws_markState @laws_markState n) := by
  refine fn_ok (sig := sig) mixed ttok (mkK_nat (claws_markState n)) (mkK_ok (claws_markState n)) (mkL_nat (mkK_nat (claws_markState n)) (l := []) trivial) (fn := Tryd.f41) (c := bodyOf Tryd.f41) (by kernel_rfl) (by kernel_rfl) (by kernel_rfl) (.eq (l := []) (by kernel_rfl) trivial) (shs := Hlaws_markState) (S := Slaws_markState) (h1 := by kernel_rfl) fun R p k => ?_
  unfold Klaws_markState
  cases h : (PkS.un Slaws_markState p) with
  | none => rfl
  | some d =>
    obtain ⟨x0, x1, x2, x3, x4, x5, x6, u⟩ := (d : Int × Int × Bool × Int × Int × (List ByteArray) × (List ByteArray) × Unit)
    have hp := PkS.un_pack h
    subst hp
    exact (elaws_markState @laws_markStringS n x0 x1 x2 x3 x4 x5 x6 k).symm

/-! ### loop.example/g00269/laws.heldStringS -/
theorem claws_heldStringS (n : Nat) : AllOk Tryd.prog [(50, Klaws_markText @laws_markText n)] := ⟨oklaws_markText n, trivial⟩
@[reducible] def Slaws_heldStringS_l2 : PkS := ⟨[.one (.ro .str), .one (.int .i64), .one (.int .i64), .one (.dead), .one (.dead)], []⟩
@[reducible] def Tlaws_heldStringS_l2_0 : PkS := ⟨[.one (.int .i64), .one (.dead), .one (.dead)], []⟩
@[reducible] def Tlaws_heldStringS_l2_1 : PkS := ⟨[.one (.int .i64), .one (.dead), .one (.dead)], []⟩
def Dlaws_heldStringS_l2 : LoopD := ⟨22, [0, 1, 5], [.one (.ro .str), .one .any, .one .any, .skip, .skip], fun x => match x with
  | .ret => some ([4], [.one .any, .skip, .skip])
  | .exit 0 => some ([1], [.one .any, .skip, .skip])
  | _ => none⟩
def Plaws_heldStringS_l2 (g : ∀ {R : Type}, Nat → (List ByteArray) → Int → Int → (Int → Option R) → (Int → Option R) → Option R) (n : Nat) : LPs := fun R q kk => match (PkS.un Slaws_heldStringS_l2 q : Option ((List ByteArray) × Int × Int × Unit)) with
  | some (y2_0, y2_1, y2_2, _) => g n y2_0 y2_1 y2_2 (fun r0 => kk .ret (PkS.pack Tlaws_heldStringS_l2_0 (r0, ()))) (fun r0 => kk (.exit 0) (PkS.pack Tlaws_heldStringS_l2_1 (r0, ())))
  | none => none
theorem elaws_heldStringS_l2 (laws_markText : ∀ {R : Type}, Nat → Int → (ByteArray → Option R) → Option R) (laws_heldStringS_l2 : ∀ {R : Type}, Nat → (List ByteArray) → Int → Int → (Int → Option R) → (Int → Option R) → Option R) {R : Type} (n : Nat) (y2_0 : List ByteArray) (y2_1 : Int) (y2_2 : Int) (kk : Ex → Pk → Option R) : Dlaws_heldStringS_l2.step tt sig (mkK [(50, Klaws_markText @laws_markText n)] R) (mkL (mkK [(50, Klaws_markText @laws_markText n)]) [] R) (loopIn 2 (bodyOf Tryd.f79)) (fun q' => Plaws_heldStringS_l2 @laws_heldStringS_l2 n R q' kk) (PkS.pack Slaws_heldStringS_l2 (y2_0, y2_1, y2_2, ())) kk = (fun (kret : Int → Option R) (kexit0 : Int → Option R) => (bif (decide (y2_2 < (y2_0.length : Int))) then (bif decide (0 ≤ y2_2) then (bif decide (y2_2 < (y2_0.length : Int)) then (laws_markText n y2_1 fun r1 => (bif (!((ByteArray.toList (y2_0.getD (Int.toNat y2_2) ByteArray.empty)) == (ByteArray.toList r1))) then kret (-1) else laws_heldStringS_l2 n y2_0 (IntKind.wrap .i64 (y2_1 + 1)) (IntKind.wrap .i64 (y2_2 + 1)) kret kexit0)) else none) else none) else kexit0 y2_1)) (fun r0 => kk .ret (PkS.pack Tlaws_heldStringS_l2_0 (r0, ()))) (fun r0 => kk (.exit 0) (PkS.pack Tlaws_heldStringS_l2_1 (r0, ()))) := by kernel_rfl
theorem lelaws_heldStringS_l2 : LoopEq tt sig (fun n => mkK [(50, Klaws_markText @laws_markText n)]) (fun n => mkL (mkK [(50, Klaws_markText @laws_markText n)]) []) Dlaws_heldStringS_l2 Slaws_heldStringS_l2 (loopIn 2 (bodyOf Tryd.f79)) (Plaws_heldStringS_l2 @laws_heldStringS_l2) where
  zero R q kk := by unfold Plaws_heldStringS_l2; cases (PkS.un Slaws_heldStringS_l2 q) <;> rfl
  succ n R q kk := by
    unfold Plaws_heldStringS_l2
    cases h : (PkS.un Slaws_heldStringS_l2 q) with
    | none => rfl
    | some d =>
      obtain ⟨y2_0, y2_1, y2_2, u⟩ := (d : (List ByteArray) × Int × Int × Unit)
      have hp := PkS.un_pack h
      subst hp
      exact (elaws_heldStringS_l2 @laws_markText @laws_heldStringS_l2 n y2_0 y2_1 y2_2 kk).symm
theorem nllaws_heldStringS_l2 : ∀ n, NatLP (Plaws_heldStringS_l2 @laws_heldStringS_l2 n) := lelaws_heldStringS_l2.nat (fun n => mkK_nat (claws_heldStringS n)) fun n => mkL_nat (mkK_nat (claws_heldStringS n)) (l := []) trivial
theorem inlaws_heldStringS_l2 (n : Nat) (R : Type) : LoopsOk Tryd.prog (mkL (mkK [(50, Klaws_markText @laws_markText n)]) [] R) (loopIn 2 (bodyOf Tryd.f79)) := .eq (l := []) (by kernel_rfl) trivial
theorem lklaws_heldStringS_l2 (n : Nat) (R : Type) (L0 : LK R) (h0 : ∀ id, firstRegion (loopIn 2 (bodyOf Tryd.f79)) = some id → L0 id = Dlaws_heldStringS_l2.oracle (mkK [(50, Klaws_markText @laws_markText n)] R) (Plaws_heldStringS_l2 @laws_heldStringS_l2 n R)) : LoopOk Tryd.prog L0 (loopIn 2 (bodyOf Tryd.f79)) :=
  lelaws_heldStringS_l2.ok mixed ttok (fun n => mkK_nat (claws_heldStringS n)) (fun n => mkK_ok (claws_heldStringS n)) (fun n => inlaws_heldStringS_l2 n R) (mkK_nat (claws_heldStringS n)) h0
@[reducible] def Slaws_heldStringS : PkS := ⟨[.one (.ro .str), .one (.int .i64)], []⟩
@[reducible] def Tlaws_heldStringS : PkS := ⟨[.one (.int .i64), .one (.dead), .one (.dead)], []⟩
def Hlaws_heldStringS : List Sh := [.one .any, .skip, .skip]
def Klaws_heldStringS (g : ∀ {R : Type}, Nat → (List ByteArray) → Int → (Int → Option R) → Option R) (n : Nat) : KPs := fun R p k => match (PkS.un Slaws_heldStringS p : Option ((List ByteArray) × Int × Unit)) with
  | some (x0, x1, _) => g n x0 x1 (fun r0 => k (PkS.pack Tlaws_heldStringS (r0, ())))
  | none => none
theorem elaws_heldStringS (laws_markText : ∀ {R : Type}, Nat → Int → (ByteArray → Option R) → Option R) (laws_heldStringS_l2 : ∀ {R : Type}, Nat → (List ByteArray) → Int → Int → (Int → Option R) → (Int → Option R) → Option R) {R : Type} (n : Nat) (x0 : List ByteArray) (x1 : Int) (k : Pk → Option R) : evF tt sig (mkK [(50, Klaws_markText @laws_markText n)] R) (mkL (mkK [(50, Klaws_markText @laws_markText n)]) [(2, Dlaws_heldStringS_l2, Plaws_heldStringS_l2 @laws_heldStringS_l2 n)] R) Tryd.f79 Hlaws_heldStringS (PkS.pack Slaws_heldStringS (x0, x1, ())) k = (fun (k : Int → Option R) => (laws_heldStringS_l2 n x0 x1 0 (fun r2 => k r2) (fun r3 => k r3))) (fun r0 => k (PkS.pack Tlaws_heldStringS (r0, ()))) := by kernel_rfl
theorem oklaws_heldStringS (n : Nat) : FnOk Tryd.prog 79 (Klaws_heldStringS @laws_heldStringS n) := by
  refine fn_ok (sig := sig) mixed ttok (mkK_nat (claws_heldStringS n)) (mkK_ok (claws_heldStringS n)) (mkL_nat (mkK_nat (claws_heldStringS n)) (l := [(2, Dlaws_heldStringS_l2, Plaws_heldStringS_l2 @laws_heldStringS_l2 n)]) ⟨nllaws_heldStringS_l2 n, trivial⟩) (fn := Tryd.f79) (c := bodyOf Tryd.f79) (by kernel_rfl) (by kernel_rfl) (by kernel_rfl) (.eq (l := [.lo (loopIn 2 (bodyOf Tryd.f79))]) (by kernel_rfl) ⟨(lklaws_heldStringS_l2 n _ _ (at_id (i := 2) (by kernel_rfl) rfl)), trivial⟩) (shs := Hlaws_heldStringS) (S := Slaws_heldStringS) (h1 := by kernel_rfl) fun R p k => ?_
  unfold Klaws_heldStringS
  cases h : (PkS.un Slaws_heldStringS p) with
  | none => rfl
  | some d =>
    obtain ⟨x0, x1, u⟩ := (d : (List ByteArray) × Int × Unit)
    have hp := PkS.un_pack h
    subst hp
    exact (elaws_heldStringS @laws_markText @laws_heldStringS_l2 n x0 x1 k).symm

/-! ### loop.example/g00269/laws.heldState -/
theorem claws_heldState (n : Nat) : AllOk Tryd.prog [(79, Klaws_heldStringS @laws_heldStringS n)] := ⟨oklaws_heldStringS n, trivial⟩
@[reducible] def Slaws_heldState : PkS := ⟨[.agg [.int .i64, .int .i64, .bool, .int .i64, .ro .str, .ro .str], .one (.int .i64)], []⟩
@[reducible] def Tlaws_heldState : PkS := ⟨[.one (.int .i64), .one (.dead), .one (.dead)], []⟩
def Hlaws_heldState : List Sh := [.one .any, .skip, .skip]
def Klaws_heldState (g : ∀ {R : Type}, Nat → Int → Int → Bool → Int → (List ByteArray) → (List ByteArray) → Int → (Int → Option R) → Option R) (n : Nat) : KPs := fun R p k => match (PkS.un Slaws_heldState p : Option (Int × Int × Bool × Int × (List ByteArray) × (List ByteArray) × Int × Unit)) with
  | some (x0, x1, x2, x3, x4, x5, x6, _) => g n x0 x1 x2 x3 x4 x5 x6 (fun r0 => k (PkS.pack Tlaws_heldState (r0, ())))
  | none => none
theorem elaws_heldState (laws_heldStringS : ∀ {R : Type}, Nat → (List ByteArray) → Int → (Int → Option R) → Option R) {R : Type} (n : Nat) (x0 : Int) (x1 : Int) (x2 : Bool) (x3 : Int) (x4 : List ByteArray) (x5 : List ByteArray) (x6 : Int) (k : Pk → Option R) : evF tt sig (mkK [(79, Klaws_heldStringS @laws_heldStringS n)] R) (mkL (mkK [(79, Klaws_heldStringS @laws_heldStringS n)]) [] R) Tryd.f42 Hlaws_heldState (PkS.pack Slaws_heldState (x0, x1, x2, x3, x4, x5, x6, ())) k = (fun (k : Int → Option R) => (laws_heldStringS n x4 x6 fun r1 => (bif (decide (r1 < 0)) then k (-1) else (laws_heldStringS n x5 r1 fun r2 => (bif (decide (r2 < 0)) then k (-1) else k r2))))) (fun r0 => k (PkS.pack Tlaws_heldState (r0, ()))) := by kernel_rfl
theorem oklaws_heldState (n : Nat) : FnOk Tryd.prog 42 (Klaws_heldState @laws_heldState n) := by
  refine fn_ok (sig := sig) mixed ttok (mkK_nat (claws_heldState n)) (mkK_ok (claws_heldState n)) (mkL_nat (mkK_nat (claws_heldState n)) (l := []) trivial) (fn := Tryd.f42) (c := bodyOf Tryd.f42) (by kernel_rfl) (by kernel_rfl) (by kernel_rfl) (.eq (l := []) (by kernel_rfl) trivial) (shs := Hlaws_heldState) (S := Slaws_heldState) (h1 := by kernel_rfl) fun R p k => ?_
  unfold Klaws_heldState
  cases h : (PkS.un Slaws_heldState p) with
  | none => rfl
  | some d =>
    obtain ⟨x0, x1, x2, x3, x4, x5, x6, u⟩ := (d : Int × Int × Bool × Int × (List ByteArray) × (List ByteArray) × Int × Unit)
    have hp := PkS.un_pack h
    subst hp
    exact (elaws_heldState @laws_heldStringS n x0 x1 x2 x3 x4 x5 x6 k).symm

/-! ### loop.example/g00269/laws.FnExactApplyEvent -/
theorem claws_FnExactApplyEvent (n : Nat) : AllOk Tryd.prog [(28, Klaws_szState @laws_szState n), (37, Klaws_szEvent @laws_szEvent n), (30, Klaws_toState @laws_toState n), (39, Klaws_toEvent @laws_toEvent n), (38, Kspec_ApplyEvent @spec_ApplyEvent n), (40, Kimpl_ApplyEvent @impl_ApplyEvent n), (32, Klaws_eqState @laws_eqState n), (41, Klaws_markState @laws_markState n), (42, Klaws_heldState @laws_heldState n)] := ⟨oklaws_szState n, ⟨oklaws_szEvent n, ⟨oklaws_toState n, ⟨oklaws_toEvent n, ⟨okspec_ApplyEvent n, ⟨okimpl_ApplyEvent n, ⟨oklaws_eqState n, ⟨oklaws_markState n, ⟨oklaws_heldState n, trivial⟩⟩⟩⟩⟩⟩⟩⟩⟩
@[reducible] def Slaws_FnExactApplyEvent : PkS := ⟨[.agg [.int .i64, .int .i64, .bool, .int .i64, .ro .str, .ro .str], .agg [.int .i64, .int .i64, .int .i64, .str]], []⟩
@[reducible] def Tlaws_FnExactApplyEvent : PkS := ⟨[.one (.bool), .one (.dead), .one (.dead)], []⟩
def Hlaws_FnExactApplyEvent : List Sh := [.one .any, .skip, .skip]
def Klaws_FnExactApplyEvent (g : ∀ {R : Type}, Nat → Int → Int → Bool → Int → (List ByteArray) → (List ByteArray) → Int → Int → Int → ByteArray → (Bool → Option R) → Option R) (n : Nat) : KPs := fun R p k => match (PkS.un Slaws_FnExactApplyEvent p : Option (Int × Int × Bool × Int × (List ByteArray) × (List ByteArray) × Int × Int × Int × ByteArray × Unit)) with
  | some (x0, x1, x2, x3, x4, x5, x6, x7, x8, x9, _) => g n x0 x1 x2 x3 x4 x5 x6 x7 x8 x9 (fun r0 => k (PkS.pack Tlaws_FnExactApplyEvent (r0, ())))
  | none => none
theorem elaws_FnExactApplyEvent (laws_szState : ∀ {R : Type}, Nat → Int → Int → Bool → Int → (List ByteArray) → (List ByteArray) → Int → (Int → Option R) → Option R) (laws_szEvent : ∀ {R : Type}, Nat → Int → Int → Int → ByteArray → Int → (Int → Option R) → Option R) (laws_toState : ∀ {R : Type}, Nat → Int → Int → Bool → Int → (List ByteArray) → (List ByteArray) → (Int → Int → Bool → Int → (List ByteArray) → (List ByteArray) → Option R) → Option R) (laws_toEvent : ∀ {R : Type}, Nat → Int → Int → Int → ByteArray → (Int → Int → Int → ByteArray → Option R) → Option R) (spec_ApplyEvent : ∀ {R : Type}, Nat → Int → Int → Bool → Int → (List ByteArray) → (List ByteArray) → Int → Int → Int → ByteArray → (Int → Int → Bool → Int → (List ByteArray) → (List ByteArray) → Bool → Option R) → Option R) (impl_ApplyEvent : ∀ {R : Type}, Nat → Int → Int → Bool → Int → (List ByteArray) → (List ByteArray) → Int → Int → Int → ByteArray → (Int → Int → Bool → Int → Bool → (List ByteArray) → (List ByteArray) → Option R) → Option R) (laws_eqState : ∀ {R : Type}, Nat → Int → Int → Bool → Int → (List ByteArray) → (List ByteArray) → Int → Int → Bool → Int → (List ByteArray) → (List ByteArray) → (Bool → Option R) → Option R) (laws_markState : ∀ {R : Type}, Nat → Int → Int → Bool → Int → Int → (List ByteArray) → (List ByteArray) → (Int → Int → Int → Bool → Int → (List ByteArray) → (List ByteArray) → Option R) → Option R) (laws_heldState : ∀ {R : Type}, Nat → Int → Int → Bool → Int → (List ByteArray) → (List ByteArray) → Int → (Int → Option R) → Option R) {R : Type} (n : Nat) (x0 : Int) (x1 : Int) (x2 : Bool) (x3 : Int) (x4 : List ByteArray) (x5 : List ByteArray) (x6 : Int) (x7 : Int) (x8 : Int) (x9 : ByteArray) (k : Pk → Option R) : evF tt sig (mkK [(28, Klaws_szState @laws_szState n), (37, Klaws_szEvent @laws_szEvent n), (30, Klaws_toState @laws_toState n), (39, Klaws_toEvent @laws_toEvent n), (38, Kspec_ApplyEvent @spec_ApplyEvent n), (40, Kimpl_ApplyEvent @impl_ApplyEvent n), (32, Klaws_eqState @laws_eqState n), (41, Klaws_markState @laws_markState n), (42, Klaws_heldState @laws_heldState n)] R) (mkL (mkK [(28, Klaws_szState @laws_szState n), (37, Klaws_szEvent @laws_szEvent n), (30, Klaws_toState @laws_toState n), (39, Klaws_toEvent @laws_toEvent n), (38, Kspec_ApplyEvent @spec_ApplyEvent n), (40, Kimpl_ApplyEvent @impl_ApplyEvent n), (32, Klaws_eqState @laws_eqState n), (41, Klaws_markState @laws_markState n), (42, Klaws_heldState @laws_heldState n)]) [] R) Tryd.f8 Hlaws_FnExactApplyEvent (PkS.pack Slaws_FnExactApplyEvent (x0, x1, x2, x3, x4, x5, x6, x7, x8, x9, ())) k = (fun (k : Bool → Option R) => (laws_szState n x0 x1 x2 x3 x4 x5 1048576 fun r1 => (bif (decide (r1 < 0)) then k true else (laws_szEvent n x6 x7 x8 x9 r1 fun r2 => (bif (decide (r2 < 0)) then k true else (laws_toState n x0 x1 x2 x3 x4 x5 fun r3 r4 r5 r6 r7 r8 => (laws_toEvent n x6 x7 x8 x9 fun r9 r10 r11 r12 => (spec_ApplyEvent n r3 r4 r5 r6 r7 r8 r9 r10 r11 r12 fun r13 r14 r15 r16 r17 r18 r19 => (laws_toState n x0 x1 x2 x3 x4 x5 fun r20 r21 r22 r23 r24 r25 => (laws_toEvent n x6 x7 x8 x9 fun r26 r27 r28 r29 => (impl_ApplyEvent n r20 r21 r22 r23 r24 r25 r26 r27 r28 r29 fun r30 r31 r32 r33 r34 r35 r36 => (laws_eqState n r30 r31 r32 r33 r35 r36 r13 r14 r15 r16 r17 r18 fun r37 => (bif (!r37) then k false else (bif (!(r34 == r19)) then k false else (laws_toState n x0 x1 x2 x3 x4 x5 fun r38 r39 r40 r41 r42 r43 => (laws_eqState n r20 r21 r22 r23 r24 r25 r38 r39 r40 r41 r42 r43 fun r44 => (bif (!r44) then k false else (laws_markState n r20 r21 r22 r23 1 r24 r25 fun r45 r46 r47 r48 r49 r50 r51 => (bif (decide (r45 < 0)) then k false else (laws_eqState n r30 r31 r32 r33 r35 r36 r13 r14 r15 r16 r17 r18 fun r52 => (bif (!r52) then k false else (bif (!(r34 == r19)) then k false else (laws_markState n r30 r31 r32 r33 1 r35 r36 fun r53 r54 r55 r56 r57 r58 r59 => (laws_heldState n r30 r31 r32 r33 r58 r59 1 fun r60 => (bif (decide (r60 < 0)) then k false else (bif (r60 != r53) then k false else (laws_toState n x0 x1 x2 x3 x4 x5 fun r61 r62 r63 r64 r65 r66 => (laws_toEvent n x6 x7 x8 x9 fun r67 r68 r69 r70 => (impl_ApplyEvent n r61 r62 r63 r64 r65 r66 r67 r68 r69 r70 fun r71 r72 r73 r74 r75 r76 r77 => (laws_eqState n r71 r72 r73 r74 r76 r77 r13 r14 r15 r16 r17 r18 fun r78 => (bif (!r78) then k false else (bif (!(r75 == r19)) then k false else (laws_heldState n r30 r31 r32 r33 r58 r59 1 fun r79 => (bif (decide (r79 < 0)) then k false else (bif (r79 != r53) then k false else k true))))))))))))))))))))))))))))))))))) (fun r0 => k (PkS.pack Tlaws_FnExactApplyEvent (r0, ()))) := by kernel_rfl
theorem oklaws_FnExactApplyEvent (n : Nat) : FnOk Tryd.prog 8 (Klaws_FnExactApplyEvent @laws_FnExactApplyEvent n) := by
  refine fn_ok (sig := sig) mixed ttok (mkK_nat (claws_FnExactApplyEvent n)) (mkK_ok (claws_FnExactApplyEvent n)) (mkL_nat (mkK_nat (claws_FnExactApplyEvent n)) (l := []) trivial) (fn := Tryd.f8) (c := bodyOf Tryd.f8) (by kernel_rfl) (by kernel_rfl) (by kernel_rfl) (.eq (l := []) (by kernel_rfl) trivial) (shs := Hlaws_FnExactApplyEvent) (S := Slaws_FnExactApplyEvent) (h1 := by kernel_rfl) fun R p k => ?_
  unfold Klaws_FnExactApplyEvent
  cases h : (PkS.un Slaws_FnExactApplyEvent p) with
  | none => rfl
  | some d =>
    obtain ⟨x0, x1, x2, x3, x4, x5, x6, x7, x8, x9, u⟩ := (d : Int × Int × Bool × Int × (List ByteArray) × (List ByteArray) × Int × Int × Int × ByteArray × Unit)
    have hp := PkS.un_pack h
    subst hp
    exact (elaws_FnExactApplyEvent @laws_szState @laws_szEvent @laws_toState @laws_toEvent @spec_ApplyEvent @impl_ApplyEvent @laws_eqState @laws_markState @laws_heldState n x0 x1 x2 x3 x4 x5 x6 x7 x8 x9 k).symm
end Go.Am.G
