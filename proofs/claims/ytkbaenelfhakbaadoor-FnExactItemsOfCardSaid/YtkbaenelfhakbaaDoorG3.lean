/- The code of the functions that the law reaches does what the plain functions say. -/
import Derived.Test.YtkbaenelfhakbaaDoorF3
import Derived.Test.YtkbaenelfhakbaaDoorAmD
import Derived.KernelRfl
import Derived.Test.YtkbaenelfhakbaaDoorProg
set_option linter.unusedVariables false
set_option maxRecDepth 100000
namespace Go.Am.G
open Go Go.Am
open Go.Proofs
def tt : TT := [(3, ⟨1, false, (.int .i64), 0, [], [.int .i64 0], 8, true, false, [], none⟩), (4, ⟨1, false, .bool, 0, [], [.bool false], 1, true, false, [], none⟩), (5, ⟨1, false, (.int .u8), 0, [], [.int .u8 0], 1, true, false, [], none⟩), (9, ⟨1, false, .str, 0, [], [.str ByteArray.empty], 16, true, false, [], none⟩), (22, ⟨1, false, (.sl (.pr (.int .i64) (.pr (.int .i64) (.pr (.int .i64) .str)))), 62, [], [.nil], 24, true, true, [], none⟩), (24, ⟨1, false, (.sl (.pr (.int .i64) (.int .i64))), 73, [], [.nil], 24, true, true, [], none⟩), (27, ⟨1, false, (.sl (.pr (.int .i64) (.pr (.int .i64) (.pr (.int .i64) .str)))), 37, [], [.nil], 24, true, true, [], none⟩), (34, ⟨1, false, (.sl (.int .u8)), 5, [], [.nil], 24, true, true, [], none⟩), (37, ⟨4, true, (.pr (.int .i64) (.pr (.int .i64) (.pr (.int .i64) .str))), 0, [(0, 1, false), (1, 1, false), (2, 1, false), (3, 1, false)], [.int .i64 0, .int .i64 0, .int .i64 0, .str ByteArray.empty], 40, true, false, [(.int .i64), (.int .i64), (.int .i64), .str], none⟩), (62, ⟨4, true, (.pr (.int .i64) (.pr (.int .i64) (.pr (.int .i64) .str))), 0, [(0, 1, false), (1, 1, false), (2, 1, false), (3, 1, false)], [.int .i64 0, .int .i64 0, .int .i64 0, .str ByteArray.empty], 40, true, false, [(.int .i64), (.int .i64), (.int .i64), .str], none⟩), (73, ⟨2, true, (.pr (.int .i64) (.int .i64)), 0, [(0, 1, false), (1, 1, false)], [.int .i64 0, .int .i64 0], 16, true, false, [(.int .i64), (.int .i64)], none⟩)]
def sig : Sig := sigOf [(3, [.one (.ro (.pr (.int .i64) (.pr (.int .i64) (.pr (.int .i64) .str))))]), (9, [.one (.ro (.pr (.int .i64) (.pr (.int .i64) (.pr (.int .i64) .str)))), .one .any]), (10, [.one (.ro (.pr (.int .i64) (.pr (.int .i64) (.pr (.int .i64) .str))))]), (11, [.one (.ro (.pr (.int .i64) (.pr (.int .i64) (.pr (.int .i64) .str))))]), (12, [.one (.ro (.pr (.int .i64) (.pr (.int .i64) (.pr (.int .i64) .str))))]), (13, [.one (.ro (.pr (.int .i64) (.int .i64))), .one (.ro (.pr (.int .i64) (.int .i64)))]), (14, [.one (.ro (.pr (.int .i64) (.pr (.int .i64) (.pr (.int .i64) .str)))), .one (.ro (.pr (.int .i64) (.pr (.int .i64) (.pr (.int .i64) .str))))]), (15, [.one (.own (.pr (.int .i64) (.pr (.int .i64) (.pr (.int .i64) .str)))), .one .any]), (16, [.one (.own (.pr (.int .i64) (.int .i64))), .one .any]), (17, [.one (.ro (.pr (.int .i64) (.int .i64))), .one .any]), (22, [.one (.ro (.pr (.int .i64) (.int .i64)))]), (37, [.agg [.any, .any, .any, .any], .one .any]), (39, [.agg [.any, .any, .any, .any]]), (43, [.agg [.any, .any, .any, .any]]), (44, [.one (.ro (.pr (.int .i64) (.int .i64))), .one .any, .one .any]), (45, [.one (.ro (.pr (.int .i64) (.int .i64)))]), (46, [.one (.ro (.pr (.int .i64) (.int .i64))), .one .any, .one .any]), (47, [.agg [.any, .any, .any, .any]]), (48, [.agg [.any, .any], .agg [.any, .any]]), (49, [.agg [.any, .any, .any, .any], .agg [.any, .any, .any, .any]]), (50, [.one .any]), (53, [.one .any, .one .any, .one .any]), (54, [.one (.ro (.pr (.int .i64) (.int .i64)))]), (56, [.one .any]), (59, [.one .any, .one .any, .one .any]), (61, [.one (.ro (.pr (.int .i64) (.int .i64)))]), (70, [.one .any]), (72, [.one .any]), (73, [.one .any]), (80, [.one (.ro (.pr (.int .i64) (.int .i64)))]), (92, [.one .any, .one .any])]
theorem ttok : TTok Tryd.prog tt := .of_chk (by kernel_rfl)
theorem mixed : Tryd.prog.follows .mixedOrders = true := by kernel_rfl

/-! ### loop.example/g00269/laws.szEvent -/
theorem claws_szEvent (n : Nat) : AllOk Tryd.prog [] := trivial
@[reducible] def Slaws_szEvent : PkS := ⟨[.agg [.int .i64, .int .i64, .int .i64, .str], .one (.int .i64)], []⟩
@[reducible] def Tlaws_szEvent : PkS := ⟨[.one (.int .i64), .one (.dead), .one (.dead)], []⟩
def Hlaws_szEvent : List Sh := [.one .any, .skip, .skip]
def Klaws_szEvent (g : ∀ {R : Type}, Nat → Int → Int → Int → ByteArray → Int → (Int → Option R) → Option R) (n : Nat) : KPs := fun R p k => match (PkS.un Slaws_szEvent p : Option (Int × Int × Int × ByteArray × Int × Unit)) with
  | some (x0, x1, x2, x3, x4, _) => g n x0 x1 x2 x3 x4 (fun r0 => k (PkS.pack Tlaws_szEvent (r0, ())))
  | none => none
theorem elaws_szEvent  {R : Type} (n : Nat) (x0 : Int) (x1 : Int) (x2 : Int) (x3 : ByteArray) (x4 : Int) (k : Pk → Option R) : evF tt sig (mkK [] R) (mkL (mkK []) [] R) Tryd.f37 Hlaws_szEvent (PkS.pack Slaws_szEvent (x0, x1, x2, x3, x4, ())) k = (fun (k : Int → Option R) => (bif (decide ((IntKind.wrap .i64 (x4 - (x3.size : Int))) < 0)) then k (-1) else k (IntKind.wrap .i64 (x4 - (x3.size : Int))))) (fun r0 => k (PkS.pack Tlaws_szEvent (r0, ()))) := by kernel_rfl
theorem oklaws_szEvent (n : Nat) : FnOk Tryd.prog 37 (Klaws_szEvent @laws_szEvent n) := by
  refine fn_ok (sig := sig) mixed ttok (mkK_nat (claws_szEvent n)) (mkK_ok (claws_szEvent n)) (mkL_nat (mkK_nat (claws_szEvent n)) (l := []) trivial) (fn := Tryd.f37) (c := bodyOf Tryd.f37) (by kernel_rfl) (by kernel_rfl) (by kernel_rfl) (.eq (l := []) (by kernel_rfl) trivial) (shs := Hlaws_szEvent) (S := Slaws_szEvent) (h1 := by kernel_rfl) fun R p k => ?_
  unfold Klaws_szEvent
  cases h : (PkS.un Slaws_szEvent p) with
  | none => rfl
  | some d =>
    obtain ⟨x0, x1, x2, x3, x4, u⟩ := (d : Int × Int × Int × ByteArray × Int × Unit)
    have hp := PkS.un_pack h
    subst hp
    exact (elaws_szEvent  n x0 x1 x2 x3 x4 k).symm

/-! ### loop.example/g00269/laws.szEventS -/
theorem claws_szEventS (n : Nat) : AllOk Tryd.prog [(37, Klaws_szEvent @laws_szEvent n)] := ⟨oklaws_szEvent n, trivial⟩
@[reducible] def Slaws_szEventS_l5 : PkS := ⟨[.one (.ro (.pr (.int .i64) (.pr (.int .i64) (.pr (.int .i64) .str)))), .one (.int .i64), .one (.int .i64), .one (.dead), .one (.dead)], []⟩
@[reducible] def Tlaws_szEventS_l5_0 : PkS := ⟨[.one (.int .i64), .one (.dead), .one (.dead)], []⟩
@[reducible] def Tlaws_szEventS_l5_1 : PkS := ⟨[.one (.int .i64), .one (.dead), .one (.dead)], []⟩
def Dlaws_szEventS_l5 : LoopD := ⟨27, [0, 1, 5], [.one (.ro (.pr (.int .i64) (.pr (.int .i64) (.pr (.int .i64) .str)))), .one .any, .one .any, .skip, .skip], fun x => match x with
  | .ret => some ([4], [.one .any, .skip, .skip])
  | .exit 0 => some ([1], [.one .any, .skip, .skip])
  | _ => none⟩
def Plaws_szEventS_l5 (g : ∀ {R : Type}, Nat → (List (Int × Int × Int × ByteArray)) → Int → Int → (Int → Option R) → (Int → Option R) → Option R) (n : Nat) : LPs := fun R q kk => match (PkS.un Slaws_szEventS_l5 q : Option ((List (Int × Int × Int × ByteArray)) × Int × Int × Unit)) with
  | some (y5_0, y5_1, y5_2, _) => g n y5_0 y5_1 y5_2 (fun r0 => kk .ret (PkS.pack Tlaws_szEventS_l5_0 (r0, ()))) (fun r0 => kk (.exit 0) (PkS.pack Tlaws_szEventS_l5_1 (r0, ())))
  | none => none
theorem elaws_szEventS_l5 (laws_szEvent : ∀ {R : Type}, Nat → Int → Int → Int → ByteArray → Int → (Int → Option R) → Option R) (laws_szEventS_l5 : ∀ {R : Type}, Nat → (List (Int × Int × Int × ByteArray)) → Int → Int → (Int → Option R) → (Int → Option R) → Option R) {R : Type} (n : Nat) (y5_0 : List (Int × Int × Int × ByteArray)) (y5_1 : Int) (y5_2 : Int) (kk : Ex → Pk → Option R) : Dlaws_szEventS_l5.step tt sig (mkK [(37, Klaws_szEvent @laws_szEvent n)] R) (mkL (mkK [(37, Klaws_szEvent @laws_szEvent n)]) [] R) (loopIn 5 (bodyOf Tryd.f9)) (fun q' => Plaws_szEventS_l5 @laws_szEventS_l5 n R q' kk) (PkS.pack Slaws_szEventS_l5 (y5_0, y5_1, y5_2, ())) kk = (fun (kret : Int → Option R) (kexit0 : Int → Option R) => (bif (decide (y5_2 < (y5_0.length : Int))) then (bif decide (0 ≤ y5_2) then (bif decide (y5_2 < (y5_0.length : Int)) then (laws_szEvent n ((y5_0.getD (Int.toNat y5_2) (0, (0, (0, ByteArray.empty)))).1) ((y5_0.getD (Int.toNat y5_2) (0, (0, (0, ByteArray.empty)))).2.1) ((y5_0.getD (Int.toNat y5_2) (0, (0, (0, ByteArray.empty)))).2.2.1) ((y5_0.getD (Int.toNat y5_2) (0, (0, (0, ByteArray.empty)))).2.2.2) y5_1 fun r1 => (bif (decide (r1 < 0)) then kret (-1) else laws_szEventS_l5 n y5_0 r1 (IntKind.wrap .i64 (y5_2 + 1)) kret kexit0)) else none) else none) else kexit0 y5_1)) (fun r0 => kk .ret (PkS.pack Tlaws_szEventS_l5_0 (r0, ()))) (fun r0 => kk (.exit 0) (PkS.pack Tlaws_szEventS_l5_1 (r0, ()))) := by kernel_rfl
theorem lelaws_szEventS_l5 : LoopEq tt sig (fun n => mkK [(37, Klaws_szEvent @laws_szEvent n)]) (fun n => mkL (mkK [(37, Klaws_szEvent @laws_szEvent n)]) []) Dlaws_szEventS_l5 Slaws_szEventS_l5 (loopIn 5 (bodyOf Tryd.f9)) (Plaws_szEventS_l5 @laws_szEventS_l5) where
  zero R q kk := by unfold Plaws_szEventS_l5; cases (PkS.un Slaws_szEventS_l5 q) <;> rfl
  succ n R q kk := by
    unfold Plaws_szEventS_l5
    cases h : (PkS.un Slaws_szEventS_l5 q) with
    | none => rfl
    | some d =>
      obtain ⟨y5_0, y5_1, y5_2, u⟩ := (d : (List (Int × Int × Int × ByteArray)) × Int × Int × Unit)
      have hp := PkS.un_pack h
      subst hp
      exact (elaws_szEventS_l5 @laws_szEvent @laws_szEventS_l5 n y5_0 y5_1 y5_2 kk).symm
theorem nllaws_szEventS_l5 : ∀ n, NatLP (Plaws_szEventS_l5 @laws_szEventS_l5 n) := lelaws_szEventS_l5.nat (fun n => mkK_nat (claws_szEventS n)) fun n => mkL_nat (mkK_nat (claws_szEventS n)) (l := []) trivial
theorem inlaws_szEventS_l5 (n : Nat) (R : Type) : LoopsOk Tryd.prog (mkL (mkK [(37, Klaws_szEvent @laws_szEvent n)]) [] R) (loopIn 5 (bodyOf Tryd.f9)) := .eq (l := []) (by kernel_rfl) trivial
theorem lklaws_szEventS_l5 (n : Nat) (R : Type) (L0 : LK R) (h0 : ∀ id, firstRegion (loopIn 5 (bodyOf Tryd.f9)) = some id → L0 id = Dlaws_szEventS_l5.oracle (mkK [(37, Klaws_szEvent @laws_szEvent n)] R) (Plaws_szEventS_l5 @laws_szEventS_l5 n R)) : LoopOk Tryd.prog L0 (loopIn 5 (bodyOf Tryd.f9)) :=
  lelaws_szEventS_l5.ok mixed ttok (fun n => mkK_nat (claws_szEventS n)) (fun n => mkK_ok (claws_szEventS n)) (fun n => inlaws_szEventS_l5 n R) (mkK_nat (claws_szEventS n)) h0
@[reducible] def Slaws_szEventS : PkS := ⟨[.one (.ro (.pr (.int .i64) (.pr (.int .i64) (.pr (.int .i64) .str)))), .one (.int .i64)], []⟩
@[reducible] def Tlaws_szEventS : PkS := ⟨[.one (.int .i64), .one (.dead), .one (.dead)], []⟩
def Hlaws_szEventS : List Sh := [.one .any, .skip, .skip]
def Klaws_szEventS (g : ∀ {R : Type}, Nat → (List (Int × Int × Int × ByteArray)) → Int → (Int → Option R) → Option R) (n : Nat) : KPs := fun R p k => match (PkS.un Slaws_szEventS p : Option ((List (Int × Int × Int × ByteArray)) × Int × Unit)) with
  | some (x0, x1, _) => g n x0 x1 (fun r0 => k (PkS.pack Tlaws_szEventS (r0, ())))
  | none => none
theorem elaws_szEventS (laws_szEvent : ∀ {R : Type}, Nat → Int → Int → Int → ByteArray → Int → (Int → Option R) → Option R) (laws_szEventS_l5 : ∀ {R : Type}, Nat → (List (Int × Int × Int × ByteArray)) → Int → Int → (Int → Option R) → (Int → Option R) → Option R) {R : Type} (n : Nat) (x0 : List (Int × Int × Int × ByteArray)) (x1 : Int) (k : Pk → Option R) : evF tt sig (mkK [(37, Klaws_szEvent @laws_szEvent n)] R) (mkL (mkK [(37, Klaws_szEvent @laws_szEvent n)]) [(5, Dlaws_szEventS_l5, Plaws_szEventS_l5 @laws_szEventS_l5 n)] R) Tryd.f9 Hlaws_szEventS (PkS.pack Slaws_szEventS (x0, x1, ())) k = (fun (k : Int → Option R) => (bif (decide ((IntKind.wrap .i64 (x1 - (x0.length : Int))) < 0)) then k (-1) else (laws_szEventS_l5 n x0 (IntKind.wrap .i64 (x1 - (x0.length : Int))) 0 (fun r2 => k r2) (fun r3 => k r3)))) (fun r0 => k (PkS.pack Tlaws_szEventS (r0, ()))) := by kernel_rfl
theorem oklaws_szEventS (n : Nat) : FnOk Tryd.prog 9 (Klaws_szEventS @laws_szEventS n) := by
  refine fn_ok (sig := sig) mixed ttok (mkK_nat (claws_szEventS n)) (mkK_ok (claws_szEventS n)) (mkL_nat (mkK_nat (claws_szEventS n)) (l := [(5, Dlaws_szEventS_l5, Plaws_szEventS_l5 @laws_szEventS_l5 n)]) ⟨nllaws_szEventS_l5 n, trivial⟩) (fn := Tryd.f9) (c := bodyOf Tryd.f9) (by kernel_rfl) (by kernel_rfl) (by kernel_rfl) (.eq (l := [.lo (loopIn 5 (bodyOf Tryd.f9))]) (by kernel_rfl) ⟨(lklaws_szEventS_l5 n _ _ (at_id (i := 5) (by kernel_rfl) rfl)), trivial⟩) (shs := Hlaws_szEventS) (S := Slaws_szEventS) (h1 := by kernel_rfl) fun R p k => ?_
  unfold Klaws_szEventS
  cases h : (PkS.un Slaws_szEventS p) with
  | none => rfl
  | some d =>
    obtain ⟨x0, x1, u⟩ := (d : (List (Int × Int × Int × ByteArray)) × Int × Unit)
    have hp := PkS.un_pack h
    subst hp
    exact (elaws_szEventS @laws_szEvent @laws_szEventS_l5 n x0 x1 k).symm

/-! ### loop.example/g00269/laws.toEvent -/
theorem claws_toEvent (n : Nat) : AllOk Tryd.prog [] := trivial
@[reducible] def Slaws_toEvent : PkS := ⟨[.agg [.int .i64, .int .i64, .int .i64, .str]], []⟩
@[reducible] def Tlaws_toEvent : PkS := ⟨[.agg [.int .i64, .int .i64, .int .i64, .str], .one (.dead)], []⟩
def Hlaws_toEvent : List Sh := [.agg [.any, .any, .any, .any], .skip]
def Klaws_toEvent (g : ∀ {R : Type}, Nat → Int → Int → Int → ByteArray → (Int → Int → Int → ByteArray → Option R) → Option R) (n : Nat) : KPs := fun R p k => match (PkS.un Slaws_toEvent p : Option (Int × Int × Int × ByteArray × Unit)) with
  | some (x0, x1, x2, x3, _) => g n x0 x1 x2 x3 (fun r0 r1 r2 r3 => k (PkS.pack Tlaws_toEvent (r0, r1, r2, r3, ())))
  | none => none
theorem elaws_toEvent  {R : Type} (n : Nat) (x0 : Int) (x1 : Int) (x2 : Int) (x3 : ByteArray) (k : Pk → Option R) : evF tt sig (mkK [] R) (mkL (mkK []) [] R) Tryd.f39 Hlaws_toEvent (PkS.pack Slaws_toEvent (x0, x1, x2, x3, ())) k = (fun (k : Int → Int → Int → ByteArray → Option R) => k x0 x1 x2 x3) (fun r0 r1 r2 r3 => k (PkS.pack Tlaws_toEvent (r0, r1, r2, r3, ()))) := by kernel_rfl
theorem oklaws_toEvent (n : Nat) : FnOk Tryd.prog 39 (Klaws_toEvent @laws_toEvent n) := by
  refine fn_ok (sig := sig) mixed ttok (mkK_nat (claws_toEvent n)) (mkK_ok (claws_toEvent n)) (mkL_nat (mkK_nat (claws_toEvent n)) (l := []) trivial) (fn := Tryd.f39) (c := bodyOf Tryd.f39) (by kernel_rfl) (by kernel_rfl) (by kernel_rfl) (.eq (l := []) (by kernel_rfl) trivial) (shs := Hlaws_toEvent) (S := Slaws_toEvent) (h1 := by kernel_rfl) fun R p k => ?_
  unfold Klaws_toEvent
  cases h : (PkS.un Slaws_toEvent p) with
  | none => rfl
  | some d =>
    obtain ⟨x0, x1, x2, x3, u⟩ := (d : Int × Int × Int × ByteArray × Unit)
    have hp := PkS.un_pack h
    subst hp
    exact (elaws_toEvent  n x0 x1 x2 x3 k).symm

/-! ### loop.example/g00269/laws.toEventS -/
theorem claws_toEventS (n : Nat) : AllOk Tryd.prog [(39, Klaws_toEvent @laws_toEvent n)] := ⟨oklaws_toEvent n, trivial⟩
@[reducible] def Slaws_toEventS_l3 : PkS := ⟨[.one (.ro (.pr (.int .i64) (.pr (.int .i64) (.pr (.int .i64) .str)))), .one (.whole (100000, 0)), .one (.int .i64), .one (.dead)], [((100000, 0), .arr (.pr (.int .i64) (.pr (.int .i64) (.pr (.int .i64) .str))))]⟩
@[reducible] def Tlaws_toEventS_l3_0 : PkS := ⟨[.one (.whole (100000, 0)), .one (.dead)], [((100000, 0), .arr (.pr (.int .i64) (.pr (.int .i64) (.pr (.int .i64) .str))))]⟩
def Dlaws_toEventS_l3 : LoopD := ⟨23, [0, 3, 4], [.one (.ro (.pr (.int .i64) (.pr (.int .i64) (.pr (.int .i64) .str)))), .one (.own (.pr (.int .i64) (.pr (.int .i64) (.pr (.int .i64) .str)))), .one .any, .skip], fun x => match x with
  | .exit 0 => some ([3], [.one (.own (.pr (.int .i64) (.pr (.int .i64) (.pr (.int .i64) .str)))), .skip])
  | _ => none⟩
def Plaws_toEventS_l3 (g : ∀ {R : Type}, Nat → (List (Int × Int × Int × ByteArray)) → Int → (List (Int × Int × Int × ByteArray)) → ((List (Int × Int × Int × ByteArray)) → Option R) → Option R) (n : Nat) : LPs := fun R q kk => match (PkS.un Slaws_toEventS_l3 q : Option ((List (Int × Int × Int × ByteArray)) × Int × (List (Int × Int × Int × ByteArray)) × Unit)) with
  | some (y3_0, y3_1, y3_2, _) => g n y3_0 y3_1 y3_2 (fun r0 => kk (.exit 0) (PkS.pack Tlaws_toEventS_l3_0 (r0, ())))
  | none => none
theorem elaws_toEventS_l3 (laws_toEvent : ∀ {R : Type}, Nat → Int → Int → Int → ByteArray → (Int → Int → Int → ByteArray → Option R) → Option R) (laws_toEventS_l3 : ∀ {R : Type}, Nat → (List (Int × Int × Int × ByteArray)) → Int → (List (Int × Int × Int × ByteArray)) → ((List (Int × Int × Int × ByteArray)) → Option R) → Option R) {R : Type} (n : Nat) (y3_0 : List (Int × Int × Int × ByteArray)) (y3_1 : Int) (y3_2 : List (Int × Int × Int × ByteArray)) (kk : Ex → Pk → Option R) : Dlaws_toEventS_l3.step tt sig (mkK [(39, Klaws_toEvent @laws_toEvent n)] R) (mkL (mkK [(39, Klaws_toEvent @laws_toEvent n)]) [] R) (loopIn 3 (bodyOf Tryd.f11)) (fun q' => Plaws_toEventS_l3 @laws_toEventS_l3 n R q' kk) (PkS.pack Slaws_toEventS_l3 (y3_0, y3_1, y3_2, ())) kk = (fun (kexit0 : (List (Int × Int × Int × ByteArray)) → Option R) => (bif (decide (y3_1 < (y3_0.length : Int))) then (bif decide (0 ≤ y3_1) then (bif decide (y3_1 < (y3_0.length : Int)) then (laws_toEvent n ((y3_0.getD (Int.toNat y3_1) (0, (0, (0, ByteArray.empty)))).1) ((y3_0.getD (Int.toNat y3_1) (0, (0, (0, ByteArray.empty)))).2.1) ((y3_0.getD (Int.toNat y3_1) (0, (0, (0, ByteArray.empty)))).2.2.1) ((y3_0.getD (Int.toNat y3_1) (0, (0, (0, ByteArray.empty)))).2.2.2) fun r1 r2 r3 r4 => (bif decide (0 ≤ y3_1) then (bif decide (y3_1 < (y3_2.length : Int)) then laws_toEventS_l3 n y3_0 (IntKind.wrap .i64 (y3_1 + 1)) (y3_2.set (Int.toNat y3_1) (r1, (r2, (r3, r4)))) kexit0 else none) else none)) else none) else none) else kexit0 y3_2)) (fun r0 => kk (.exit 0) (PkS.pack Tlaws_toEventS_l3_0 (r0, ()))) := by kernel_rfl
theorem lelaws_toEventS_l3 : LoopEq tt sig (fun n => mkK [(39, Klaws_toEvent @laws_toEvent n)]) (fun n => mkL (mkK [(39, Klaws_toEvent @laws_toEvent n)]) []) Dlaws_toEventS_l3 Slaws_toEventS_l3 (loopIn 3 (bodyOf Tryd.f11)) (Plaws_toEventS_l3 @laws_toEventS_l3) where
  zero R q kk := by unfold Plaws_toEventS_l3; cases (PkS.un Slaws_toEventS_l3 q) <;> rfl
  succ n R q kk := by
    unfold Plaws_toEventS_l3
    cases h : (PkS.un Slaws_toEventS_l3 q) with
    | none => rfl
    | some d =>
      obtain ⟨y3_0, y3_1, y3_2, u⟩ := (d : (List (Int × Int × Int × ByteArray)) × Int × (List (Int × Int × Int × ByteArray)) × Unit)
      have hp := PkS.un_pack h
      subst hp
      exact (elaws_toEventS_l3 @laws_toEvent @laws_toEventS_l3 n y3_0 y3_1 y3_2 kk).symm
theorem nllaws_toEventS_l3 : ∀ n, NatLP (Plaws_toEventS_l3 @laws_toEventS_l3 n) := lelaws_toEventS_l3.nat (fun n => mkK_nat (claws_toEventS n)) fun n => mkL_nat (mkK_nat (claws_toEventS n)) (l := []) trivial
theorem inlaws_toEventS_l3 (n : Nat) (R : Type) : LoopsOk Tryd.prog (mkL (mkK [(39, Klaws_toEvent @laws_toEvent n)]) [] R) (loopIn 3 (bodyOf Tryd.f11)) := .eq (l := []) (by kernel_rfl) trivial
theorem lklaws_toEventS_l3 (n : Nat) (R : Type) (L0 : LK R) (h0 : ∀ id, firstRegion (loopIn 3 (bodyOf Tryd.f11)) = some id → L0 id = Dlaws_toEventS_l3.oracle (mkK [(39, Klaws_toEvent @laws_toEvent n)] R) (Plaws_toEventS_l3 @laws_toEventS_l3 n R)) : LoopOk Tryd.prog L0 (loopIn 3 (bodyOf Tryd.f11)) :=
  lelaws_toEventS_l3.ok mixed ttok (fun n => mkK_nat (claws_toEventS n)) (fun n => mkK_ok (claws_toEventS n)) (fun n => inlaws_toEventS_l3 n R) (mkK_nat (claws_toEventS n)) h0
@[reducible] def Slaws_toEventS : PkS := ⟨[.one (.ro (.pr (.int .i64) (.pr (.int .i64) (.pr (.int .i64) .str))))], []⟩
@[reducible] def Tlaws_toEventS : PkS := ⟨[.one (.whole (300000, 0)), .one (.dead)], [((300000, 0), .arr (.pr (.int .i64) (.pr (.int .i64) (.pr (.int .i64) .str))))]⟩
def Hlaws_toEventS : List Sh := [.one (.own (.pr (.int .i64) (.pr (.int .i64) (.pr (.int .i64) .str)))), .skip]
def Klaws_toEventS (g : ∀ {R : Type}, Nat → (List (Int × Int × Int × ByteArray)) → ((List (Int × Int × Int × ByteArray)) → Option R) → Option R) (n : Nat) : KPs := fun R p k => match (PkS.un Slaws_toEventS p : Option ((List (Int × Int × Int × ByteArray)) × Unit)) with
  | some (x0, _) => g n x0 (fun r0 => k (PkS.pack Tlaws_toEventS (r0, ())))
  | none => none
theorem elaws_toEventS (laws_toEvent : ∀ {R : Type}, Nat → Int → Int → Int → ByteArray → (Int → Int → Int → ByteArray → Option R) → Option R) (laws_toEventS_l3 : ∀ {R : Type}, Nat → (List (Int × Int × Int × ByteArray)) → Int → (List (Int × Int × Int × ByteArray)) → ((List (Int × Int × Int × ByteArray)) → Option R) → Option R) {R : Type} (n : Nat) (x0 : List (Int × Int × Int × ByteArray)) (k : Pk → Option R) : evF tt sig (mkK [(39, Klaws_toEvent @laws_toEvent n)] R) (mkL (mkK [(39, Klaws_toEvent @laws_toEvent n)]) [(3, Dlaws_toEventS_l3, Plaws_toEventS_l3 @laws_toEventS_l3 n)] R) Tryd.f11 Hlaws_toEventS (PkS.pack Slaws_toEventS (x0, ())) k = (fun (k : (List (Int × Int × Int × ByteArray)) → Option R) => (bif decide (0 ≤ (x0.length : Int)) then (bif decide ((x0.length : Int) ≤ (x0.length : Int)) then (bif decide ((x0.length : Int) ≤ 1099511627776) then (laws_toEventS_l3 n x0 0 (List.replicate (Int.toNat (x0.length : Int)) (0, (0, (0, ByteArray.empty)))) (fun r5 => k r5)) else none) else none) else none)) (fun r0 => k (PkS.pack Tlaws_toEventS (r0, ()))) := by kernel_rfl
theorem oklaws_toEventS (n : Nat) : FnOk Tryd.prog 11 (Klaws_toEventS @laws_toEventS n) := by
  refine fn_ok (sig := sig) mixed ttok (mkK_nat (claws_toEventS n)) (mkK_ok (claws_toEventS n)) (mkL_nat (mkK_nat (claws_toEventS n)) (l := [(3, Dlaws_toEventS_l3, Plaws_toEventS_l3 @laws_toEventS_l3 n)]) ⟨nllaws_toEventS_l3 n, trivial⟩) (fn := Tryd.f11) (c := bodyOf Tryd.f11) (by kernel_rfl) (by kernel_rfl) (by kernel_rfl) (.eq (l := [.lo (loopIn 3 (bodyOf Tryd.f11))]) (by kernel_rfl) ⟨(lklaws_toEventS_l3 n _ _ (at_id (i := 3) (by kernel_rfl) rfl)), trivial⟩) (shs := Hlaws_toEventS) (S := Slaws_toEventS) (h1 := by kernel_rfl) fun R p k => ?_
  unfold Klaws_toEventS
  cases h : (PkS.un Slaws_toEventS p) with
  | none => rfl
  | some d =>
    obtain ⟨x0, u⟩ := (d : (List (Int × Int × Int × ByteArray)) × Unit)
    have hp := PkS.un_pack h
    subst hp
    exact (elaws_toEventS @laws_toEvent @laws_toEventS_l3 n x0 k).symm

/-! ### loop.example/g00269/spec.l1In -/
theorem cspec_l1In (n : Nat) : AllOk Tryd.prog [] := trivial
@[reducible] def Sspec_l1In : PkS := ⟨[.one (.int .i64), .one (.int .i64), .one (.int .i64)], []⟩
@[reducible] def Tspec_l1In : PkS := ⟨[.one (.bool), .one (.dead), .one (.dead), .one (.dead)], []⟩
def Hspec_l1In : List Sh := [.one .any, .skip, .skip, .skip]
def Kspec_l1In (g : ∀ {R : Type}, Nat → Int → Int → Int → (Bool → Option R) → Option R) (n : Nat) : KPs := fun R p k => match (PkS.un Sspec_l1In p : Option (Int × Int × Int × Unit)) with
  | some (x0, x1, x2, _) => g n x0 x1 x2 (fun r0 => k (PkS.pack Tspec_l1In (r0, ())))
  | none => none
theorem espec_l1In  {R : Type} (n : Nat) (x0 : Int) (x1 : Int) (x2 : Int) (k : Pk → Option R) : evF tt sig (mkK [] R) (mkL (mkK []) [] R) Tryd.f59 Hspec_l1In (PkS.pack Sspec_l1In (x0, x1, x2, ())) k = (fun (k : Bool → Option R) => (bif (decide (x0 ≥ x1)) then k (decide (x0 ≤ x2)) else k false)) (fun r0 => k (PkS.pack Tspec_l1In (r0, ()))) := by kernel_rfl
theorem okspec_l1In (n : Nat) : FnOk Tryd.prog 59 (Kspec_l1In @spec_l1In n) := by
  refine fn_ok (sig := sig) mixed ttok (mkK_nat (cspec_l1In n)) (mkK_ok (cspec_l1In n)) (mkL_nat (mkK_nat (cspec_l1In n)) (l := []) trivial) (fn := Tryd.f59) (c := bodyOf Tryd.f59) (by kernel_rfl) (by kernel_rfl) (by kernel_rfl) (.eq (l := []) (by kernel_rfl) trivial) (shs := Hspec_l1In) (S := Sspec_l1In) (h1 := by kernel_rfl) fun R p k => ?_
  unfold Kspec_l1In
  cases h : (PkS.un Sspec_l1In p) with
  | none => rfl
  | some d =>
    obtain ⟨x0, x1, x2, u⟩ := (d : Int × Int × Int × Unit)
    have hp := PkS.un_pack h
    subst hp
    exact (espec_l1In  n x0 x1 x2 k).symm

/-! ### loop.example/g00269/spec.l1Name -/
theorem cspec_l1Name (n : Nat) : AllOk Tryd.prog [] := trivial
@[reducible] def Sspec_l1Name_l2 : PkS := ⟨[.one (.str), .one (.int .i64), .one (.dead)], []⟩
@[reducible] def Tspec_l1Name_l2_0 : PkS := ⟨[.one (.bool), .one (.dead)], []⟩
@[reducible] def Tspec_l1Name_l2_1 : PkS := ⟨[.one (.str), .one (.dead)], []⟩
def Dspec_l1Name_l2 : LoopD := ⟨36, [0, 3], [.one .any, .one .any, .skip], fun x => match x with
  | .ret => some ([2], [.one .any, .skip])
  | .exit 0 => some ([0], [.one .any, .skip])
  | _ => none⟩
def Pspec_l1Name_l2 (g : ∀ {R : Type}, Nat → ByteArray → Int → (Bool → Option R) → (ByteArray → Option R) → Option R) (n : Nat) : LPs := fun R q kk => match (PkS.un Sspec_l1Name_l2 q : Option (ByteArray × Int × Unit)) with
  | some (y2_0, y2_1, _) => g n y2_0 y2_1 (fun r0 => kk .ret (PkS.pack Tspec_l1Name_l2_0 (r0, ()))) (fun r0 => kk (.exit 0) (PkS.pack Tspec_l1Name_l2_1 (r0, ())))
  | none => none
theorem espec_l1Name_l2 (spec_l1Name_l2 : ∀ {R : Type}, Nat → ByteArray → Int → (Bool → Option R) → (ByteArray → Option R) → Option R) {R : Type} (n : Nat) (y2_0 : ByteArray) (y2_1 : Int) (kk : Ex → Pk → Option R) : Dspec_l1Name_l2.step tt sig (mkK [] R) (mkL (mkK []) [] R) (loopIn 2 (bodyOf Tryd.f70)) (fun q' => Pspec_l1Name_l2 @spec_l1Name_l2 n R q' kk) (PkS.pack Sspec_l1Name_l2 (y2_0, y2_1, ())) kk = (fun (kret : Bool → Option R) (kexit0 : ByteArray → Option R) => (bif (decide (y2_1 < (y2_0.size : Int))) then (bif decide (0 ≤ y2_1) then (bif decide (y2_1 < (y2_0.size : Int)) then (bif (decide (((y2_0.data.getD (Int.toNat y2_1) 0).toNat : Int) ≥ 97)) then (bif decide (0 ≤ y2_1) then (bif decide (y2_1 < (y2_0.size : Int)) then (bif (decide (((y2_0.data.getD (Int.toNat y2_1) 0).toNat : Int) ≤ 122)) then spec_l1Name_l2 n y2_0 (IntKind.wrap .i64 (y2_1 + 1)) kret kexit0 else (bif decide (0 ≤ y2_1) then (bif decide (y2_1 < (y2_0.size : Int)) then (bif (decide (((y2_0.data.getD (Int.toNat y2_1) 0).toNat : Int) ≥ 48)) then (bif decide (0 ≤ y2_1) then (bif decide (y2_1 < (y2_0.size : Int)) then (bif (!(decide (((y2_0.data.getD (Int.toNat y2_1) 0).toNat : Int) ≤ 57))) then kret false else spec_l1Name_l2 n y2_0 (IntKind.wrap .i64 (y2_1 + 1)) kret kexit0) else none) else none) else kret false) else none) else none)) else none) else none) else (bif decide (0 ≤ y2_1) then (bif decide (y2_1 < (y2_0.size : Int)) then (bif (decide (((y2_0.data.getD (Int.toNat y2_1) 0).toNat : Int) ≥ 48)) then (bif decide (0 ≤ y2_1) then (bif decide (y2_1 < (y2_0.size : Int)) then (bif (!(decide (((y2_0.data.getD (Int.toNat y2_1) 0).toNat : Int) ≤ 57))) then kret false else spec_l1Name_l2 n y2_0 (IntKind.wrap .i64 (y2_1 + 1)) kret kexit0) else none) else none) else kret false) else none) else none)) else none) else none) else kexit0 y2_0)) (fun r0 => kk .ret (PkS.pack Tspec_l1Name_l2_0 (r0, ()))) (fun r0 => kk (.exit 0) (PkS.pack Tspec_l1Name_l2_1 (r0, ()))) := by kernel_rfl
theorem lespec_l1Name_l2 : LoopEq tt sig (fun n => mkK []) (fun n => mkL (mkK []) []) Dspec_l1Name_l2 Sspec_l1Name_l2 (loopIn 2 (bodyOf Tryd.f70)) (Pspec_l1Name_l2 @spec_l1Name_l2) where
  zero R q kk := by unfold Pspec_l1Name_l2; cases (PkS.un Sspec_l1Name_l2 q) <;> rfl
  succ n R q kk := by
    unfold Pspec_l1Name_l2
    cases h : (PkS.un Sspec_l1Name_l2 q) with
    | none => rfl
    | some d =>
      obtain ⟨y2_0, y2_1, u⟩ := (d : ByteArray × Int × Unit)
      have hp := PkS.un_pack h
      subst hp
      exact (espec_l1Name_l2 @spec_l1Name_l2 n y2_0 y2_1 kk).symm
theorem nlspec_l1Name_l2 : ∀ n, NatLP (Pspec_l1Name_l2 @spec_l1Name_l2 n) := lespec_l1Name_l2.nat (fun n => mkK_nat (cspec_l1Name n)) fun n => mkL_nat (mkK_nat (cspec_l1Name n)) (l := []) trivial
theorem inspec_l1Name_l2 (n : Nat) (R : Type) : LoopsOk Tryd.prog (mkL (mkK []) [] R) (loopIn 2 (bodyOf Tryd.f70)) := .eq (l := []) (by kernel_rfl) trivial
theorem lkspec_l1Name_l2 (n : Nat) (R : Type) (L0 : LK R) (h0 : ∀ id, firstRegion (loopIn 2 (bodyOf Tryd.f70)) = some id → L0 id = Dspec_l1Name_l2.oracle (mkK [] R) (Pspec_l1Name_l2 @spec_l1Name_l2 n R)) : LoopOk Tryd.prog L0 (loopIn 2 (bodyOf Tryd.f70)) :=
  lespec_l1Name_l2.ok mixed ttok (fun n => mkK_nat (cspec_l1Name n)) (fun n => mkK_ok (cspec_l1Name n)) (fun n => inspec_l1Name_l2 n R) (mkK_nat (cspec_l1Name n)) h0
@[reducible] def Sspec_l1Name : PkS := ⟨[.one (.str)], []⟩
@[reducible] def Tspec_l1Name : PkS := ⟨[.one (.bool), .one (.dead)], []⟩
def Hspec_l1Name : List Sh := [.one .any, .skip]
def Kspec_l1Name (g : ∀ {R : Type}, Nat → ByteArray → (Bool → Option R) → Option R) (n : Nat) : KPs := fun R p k => match (PkS.un Sspec_l1Name p : Option (ByteArray × Unit)) with
  | some (x0, _) => g n x0 (fun r0 => k (PkS.pack Tspec_l1Name (r0, ())))
  | none => none
theorem espec_l1Name (spec_l1Name_l2 : ∀ {R : Type}, Nat → ByteArray → Int → (Bool → Option R) → (ByteArray → Option R) → Option R) {R : Type} (n : Nat) (x0 : ByteArray) (k : Pk → Option R) : evF tt sig (mkK [] R) (mkL (mkK []) [(2, Dspec_l1Name_l2, Pspec_l1Name_l2 @spec_l1Name_l2 n)] R) Tryd.f70 Hspec_l1Name (PkS.pack Sspec_l1Name (x0, ())) k = (fun (k : Bool → Option R) => (spec_l1Name_l2 n x0 0 (fun r1 => k r1) (fun r2 => k (decide ((r2.size : Int) ≤ 12))))) (fun r0 => k (PkS.pack Tspec_l1Name (r0, ()))) := by kernel_rfl
theorem okspec_l1Name (n : Nat) : FnOk Tryd.prog 70 (Kspec_l1Name @spec_l1Name n) := by
  refine fn_ok (sig := sig) mixed ttok (mkK_nat (cspec_l1Name n)) (mkK_ok (cspec_l1Name n)) (mkL_nat (mkK_nat (cspec_l1Name n)) (l := [(2, Dspec_l1Name_l2, Pspec_l1Name_l2 @spec_l1Name_l2 n)]) ⟨nlspec_l1Name_l2 n, trivial⟩) (fn := Tryd.f70) (c := bodyOf Tryd.f70) (by kernel_rfl) (by kernel_rfl) (by kernel_rfl) (.eq (l := [.lo (loopIn 2 (bodyOf Tryd.f70))]) (by kernel_rfl) ⟨(lkspec_l1Name_l2 n _ _ (at_id (i := 2) (by kernel_rfl) rfl)), trivial⟩) (shs := Hspec_l1Name) (S := Sspec_l1Name) (h1 := by kernel_rfl) fun R p k => ?_
  unfold Kspec_l1Name
  cases h : (PkS.un Sspec_l1Name p) with
  | none => rfl
  | some d =>
    obtain ⟨x0, u⟩ := (d : ByteArray × Unit)
    have hp := PkS.un_pack h
    subst hp
    exact (espec_l1Name @spec_l1Name_l2 n x0 k).symm

/-! ### loop.example/g00269/spec.GoodEvent -/
theorem cspec_GoodEvent (n : Nat) : AllOk Tryd.prog [(59, Kspec_l1In @spec_l1In n), (70, Kspec_l1Name @spec_l1Name n)] := ⟨okspec_l1In n, ⟨okspec_l1Name n, trivial⟩⟩
@[reducible] def Sspec_GoodEvent : PkS := ⟨[.agg [.int .i64, .int .i64, .int .i64, .str]], []⟩
@[reducible] def Tspec_GoodEvent : PkS := ⟨[.one (.bool), .one (.dead)], []⟩
def Hspec_GoodEvent : List Sh := [.one .any, .skip]
def Kspec_GoodEvent (g : ∀ {R : Type}, Nat → Int → Int → Int → ByteArray → (Bool → Option R) → Option R) (n : Nat) : KPs := fun R p k => match (PkS.un Sspec_GoodEvent p : Option (Int × Int × Int × ByteArray × Unit)) with
  | some (x0, x1, x2, x3, _) => g n x0 x1 x2 x3 (fun r0 => k (PkS.pack Tspec_GoodEvent (r0, ())))
  | none => none
theorem espec_GoodEvent (spec_l1In : ∀ {R : Type}, Nat → Int → Int → Int → (Bool → Option R) → Option R) (spec_l1Name : ∀ {R : Type}, Nat → ByteArray → (Bool → Option R) → Option R) {R : Type} (n : Nat) (x0 : Int) (x1 : Int) (x2 : Int) (x3 : ByteArray) (k : Pk → Option R) : evF tt sig (mkK [(59, Kspec_l1In @spec_l1In n), (70, Kspec_l1Name @spec_l1Name n)] R) (mkL (mkK [(59, Kspec_l1In @spec_l1In n), (70, Kspec_l1Name @spec_l1Name n)]) [] R) Tryd.f43 Hspec_GoodEvent (PkS.pack Sspec_GoodEvent (x0, x1, x2, x3, ())) k = (fun (k : Bool → Option R) => (spec_l1In n x0 1 1000 fun r1 => (bif r1 then (spec_l1In n x1 0 1000000 fun r2 => (bif r2 then (spec_l1In n x2 1 6 fun r3 => (bif r3 then (spec_l1Name n x3 fun r4 => k r4) else k false)) else k false)) else k false))) (fun r0 => k (PkS.pack Tspec_GoodEvent (r0, ()))) := by kernel_rfl
theorem okspec_GoodEvent (n : Nat) : FnOk Tryd.prog 43 (Kspec_GoodEvent @spec_GoodEvent n) := by
  refine fn_ok (sig := sig) mixed ttok (mkK_nat (cspec_GoodEvent n)) (mkK_ok (cspec_GoodEvent n)) (mkL_nat (mkK_nat (cspec_GoodEvent n)) (l := []) trivial) (fn := Tryd.f43) (c := bodyOf Tryd.f43) (by kernel_rfl) (by kernel_rfl) (by kernel_rfl) (.eq (l := []) (by kernel_rfl) trivial) (shs := Hspec_GoodEvent) (S := Sspec_GoodEvent) (h1 := by kernel_rfl) fun R p k => ?_
  unfold Kspec_GoodEvent
  cases h : (PkS.un Sspec_GoodEvent p) with
  | none => rfl
  | some d =>
    obtain ⟨x0, x1, x2, x3, u⟩ := (d : Int × Int × Int × ByteArray × Unit)
    have hp := PkS.un_pack h
    subst hp
    exact (espec_GoodEvent @spec_l1In @spec_l1Name n x0 x1 x2 x3 k).symm

/-! ### loop.example/g00269/spec.l11Append -/
theorem cspec_l11Append (n : Nat) : AllOk Tryd.prog [] := trivial
@[reducible] def Sspec_l11Append : PkS := ⟨[.one (.ro (.pr (.int .i64) (.int .i64))), .one (.int .i64), .one (.int .i64)], []⟩
@[reducible] def Tspec_l11Append : PkS := ⟨[.one (.whole (300000, 0)), .one (.dead), .one (.dead), .one (.dead)], [((300000, 0), .arr (.pr (.int .i64) (.int .i64)))]⟩
def Hspec_l11Append : List Sh := [.one (.own (.pr (.int .i64) (.int .i64))), .skip, .skip, .skip]
def Kspec_l11Append (g : ∀ {R : Type}, Nat → (List (Int × Int)) → Int → Int → ((List (Int × Int)) → Option R) → Option R) (n : Nat) : KPs := fun R p k => match (PkS.un Sspec_l11Append p : Option ((List (Int × Int)) × Int × Int × Unit)) with
  | some (x0, x1, x2, _) => g n x0 x1 x2 (fun r0 => k (PkS.pack Tspec_l11Append (r0, ())))
  | none => none
theorem espec_l11Append  {R : Type} (n : Nat) (x0 : List (Int × Int)) (x1 : Int) (x2 : Int) (k : Pk → Option R) : evF tt sig (mkK [] R) (mkL (mkK []) [] R) Tryd.f44 Hspec_l11Append (PkS.pack Sspec_l11Append (x0, x1, x2, ())) k = (fun (k : (List (Int × Int)) → Option R) => (bif decide (([] : List (Int × Int)).length + x0.length ≤ LIM) then (bif (decide ((IntKind.wrap .i64 (((([] : List (Int × Int)) ++ x0).length : Int) - 1)) ≥ 0)) then (bif decide (0 ≤ (IntKind.wrap .i64 (((([] : List (Int × Int)) ++ x0).length : Int) - 1))) then (bif decide ((IntKind.wrap .i64 (((([] : List (Int × Int)) ++ x0).length : Int) - 1)) < ((([] : List (Int × Int)) ++ x0).length : Int)) then (bif (((([] : List (Int × Int)) ++ x0).getD (Int.toNat (IntKind.wrap .i64 (((([] : List (Int × Int)) ++ x0).length : Int) - 1))) (0, 0)).2 == x2) then (bif decide (0 ≤ (IntKind.wrap .i64 (((([] : List (Int × Int)) ++ x0).length : Int) - 1))) then (bif decide ((IntKind.wrap .i64 (((([] : List (Int × Int)) ++ x0).length : Int) - 1)) < ((([] : List (Int × Int)) ++ x0).length : Int)) then k ((([] : List (Int × Int)) ++ x0).set (Int.toNat (IntKind.wrap .i64 (((([] : List (Int × Int)) ++ x0).length : Int) - 1))) (x1, ((([] : List (Int × Int)) ++ x0).getD (Int.toNat (IntKind.wrap .i64 (((([] : List (Int × Int)) ++ x0).length : Int) - 1))) (0, 0)).2)) else none) else none) else (bif decide ((([] : List (Int × Int)) ++ x0).length + ([(x1, x2)]).length ≤ LIM) then k ((([] : List (Int × Int)) ++ x0) ++ [(x1, x2)]) else none)) else none) else none) else (bif decide ((([] : List (Int × Int)) ++ x0).length + ([(x1, x2)]).length ≤ LIM) then k ((([] : List (Int × Int)) ++ x0) ++ [(x1, x2)]) else none)) else none)) (fun r0 => k (PkS.pack Tspec_l11Append (r0, ()))) := by kernel_rfl
theorem okspec_l11Append (n : Nat) : FnOk Tryd.prog 44 (Kspec_l11Append @spec_l11Append n) := by
  refine fn_ok (sig := sig) mixed ttok (mkK_nat (cspec_l11Append n)) (mkK_ok (cspec_l11Append n)) (mkL_nat (mkK_nat (cspec_l11Append n)) (l := []) trivial) (fn := Tryd.f44) (c := bodyOf Tryd.f44) (by kernel_rfl) (by kernel_rfl) (by kernel_rfl) (.eq (l := []) (by kernel_rfl) trivial) (shs := Hspec_l11Append) (S := Sspec_l11Append) (h1 := by kernel_rfl) fun R p k => ?_
  unfold Kspec_l11Append
  cases h : (PkS.un Sspec_l11Append p) with
  | none => rfl
  | some d =>
    obtain ⟨x0, x1, x2, u⟩ := (d : (List (Int × Int)) × Int × Int × Unit)
    have hp := PkS.un_pack h
    subst hp
    exact (espec_l11Append  n x0 x1 x2 k).symm

/-! ### loop.example/g00269/spec.GoodItems -/
theorem cspec_GoodItems (n : Nat) : AllOk Tryd.prog [(59, Kspec_l1In @spec_l1In n)] := ⟨okspec_l1In n, trivial⟩
@[reducible] def Sspec_GoodItems_l2 : PkS := ⟨[.one (.ro (.pr (.int .i64) (.int .i64))), .one (.ro (.pr (.int .i64) (.int .i64))), .one (.int .i64), .one (.int .i64), .one (.dead)], []⟩
@[reducible] def Tspec_GoodItems_l2_0 : PkS := ⟨[.one (.bool), .one (.dead)], []⟩
@[reducible] def Tspec_GoodItems_l2_1 : PkS := ⟨[.one (.ro (.pr (.int .i64) (.int .i64))), .one (.dead)], []⟩
def Dspec_GoodItems_l2 : LoopD := ⟨52, [0, 5, 6, 7], [.one (.ro (.pr (.int .i64) (.int .i64))), .one (.ro (.pr (.int .i64) (.int .i64))), .one .any, .one .any, .skip], fun x => match x with
  | .ret => some ([2], [.one .any, .skip])
  | .exit 0 => some ([0], [.one (.ro (.pr (.int .i64) (.int .i64))), .skip])
  | _ => none⟩
def Pspec_GoodItems_l2 (g : ∀ {R : Type}, Nat → (List (Int × Int)) → (List (Int × Int)) → Int → Int → (Bool → Option R) → ((List (Int × Int)) → Option R) → Option R) (n : Nat) : LPs := fun R q kk => match (PkS.un Sspec_GoodItems_l2 q : Option ((List (Int × Int)) × (List (Int × Int)) × Int × Int × Unit)) with
  | some (y2_0, y2_1, y2_2, y2_3, _) => g n y2_0 y2_1 y2_2 y2_3 (fun r0 => kk .ret (PkS.pack Tspec_GoodItems_l2_0 (r0, ()))) (fun r0 => kk (.exit 0) (PkS.pack Tspec_GoodItems_l2_1 (r0, ())))
  | none => none
theorem espec_GoodItems_l2 (spec_l1In : ∀ {R : Type}, Nat → Int → Int → Int → (Bool → Option R) → Option R) (spec_GoodItems_l2 : ∀ {R : Type}, Nat → (List (Int × Int)) → (List (Int × Int)) → Int → Int → (Bool → Option R) → ((List (Int × Int)) → Option R) → Option R) {R : Type} (n : Nat) (y2_0 : List (Int × Int)) (y2_1 : List (Int × Int)) (y2_2 : Int) (y2_3 : Int) (kk : Ex → Pk → Option R) : Dspec_GoodItems_l2.step tt sig (mkK [(59, Kspec_l1In @spec_l1In n)] R) (mkL (mkK [(59, Kspec_l1In @spec_l1In n)]) [] R) (loopIn 2 (bodyOf Tryd.f45)) (fun q' => Pspec_GoodItems_l2 @spec_GoodItems_l2 n R q' kk) (PkS.pack Sspec_GoodItems_l2 (y2_0, y2_1, y2_2, y2_3, ())) kk = (fun (kret : Bool → Option R) (kexit0 : (List (Int × Int)) → Option R) => (bif (decide (y2_3 < y2_2)) then (bif decide (0 ≤ y2_3) then (bif decide (y2_3 < (y2_1.length : Int)) then (spec_l1In n ((y2_1.getD (Int.toNat y2_3) (0, 0)).1) 1 1000 fun r1 => (bif (!r1) then kret false else (spec_l1In n ((y2_1.getD (Int.toNat y2_3) (0, 0)).2) 0 1000000 fun r2 => (bif (!r2) then kret false else (bif (decide (y2_3 > 0)) then (bif decide (0 ≤ (IntKind.wrap .i64 (y2_3 - 1))) then (bif decide ((IntKind.wrap .i64 (y2_3 - 1)) < (y2_0.length : Int)) then (bif (decide ((y2_0.getD (Int.toNat (IntKind.wrap .i64 (y2_3 - 1))) (0, 0)).1 ≥ (y2_1.getD (Int.toNat y2_3) (0, 0)).1)) then kret false else (bif decide (0 ≤ (IntKind.wrap .i64 (y2_3 - 1))) then (bif decide ((IntKind.wrap .i64 (y2_3 - 1)) < (y2_0.length : Int)) then (bif (decide ((y2_0.getD (Int.toNat (IntKind.wrap .i64 (y2_3 - 1))) (0, 0)).2 ≥ (y2_1.getD (Int.toNat y2_3) (0, 0)).2)) then kret false else spec_GoodItems_l2 n y2_0 y2_1 y2_2 (IntKind.wrap .i64 (y2_3 + 1)) kret kexit0) else none) else none)) else none) else none) else spec_GoodItems_l2 n y2_0 y2_1 y2_2 (IntKind.wrap .i64 (y2_3 + 1)) kret kexit0))))) else none) else none) else kexit0 y2_0)) (fun r0 => kk .ret (PkS.pack Tspec_GoodItems_l2_0 (r0, ()))) (fun r0 => kk (.exit 0) (PkS.pack Tspec_GoodItems_l2_1 (r0, ()))) := by kernel_rfl
theorem lespec_GoodItems_l2 : LoopEq tt sig (fun n => mkK [(59, Kspec_l1In @spec_l1In n)]) (fun n => mkL (mkK [(59, Kspec_l1In @spec_l1In n)]) []) Dspec_GoodItems_l2 Sspec_GoodItems_l2 (loopIn 2 (bodyOf Tryd.f45)) (Pspec_GoodItems_l2 @spec_GoodItems_l2) where
  zero R q kk := by unfold Pspec_GoodItems_l2; cases (PkS.un Sspec_GoodItems_l2 q) <;> rfl
  succ n R q kk := by
    unfold Pspec_GoodItems_l2
    cases h : (PkS.un Sspec_GoodItems_l2 q) with
    | none => rfl
    | some d =>
      obtain ⟨y2_0, y2_1, y2_2, y2_3, u⟩ := (d : (List (Int × Int)) × (List (Int × Int)) × Int × Int × Unit)
      have hp := PkS.un_pack h
      subst hp
      exact (espec_GoodItems_l2 @spec_l1In @spec_GoodItems_l2 n y2_0 y2_1 y2_2 y2_3 kk).symm
theorem nlspec_GoodItems_l2 : ∀ n, NatLP (Pspec_GoodItems_l2 @spec_GoodItems_l2 n) := lespec_GoodItems_l2.nat (fun n => mkK_nat (cspec_GoodItems n)) fun n => mkL_nat (mkK_nat (cspec_GoodItems n)) (l := []) trivial
theorem inspec_GoodItems_l2 (n : Nat) (R : Type) : LoopsOk Tryd.prog (mkL (mkK [(59, Kspec_l1In @spec_l1In n)]) [] R) (loopIn 2 (bodyOf Tryd.f45)) := .eq (l := []) (by kernel_rfl) trivial
theorem lkspec_GoodItems_l2 (n : Nat) (R : Type) (L0 : LK R) (h0 : ∀ id, firstRegion (loopIn 2 (bodyOf Tryd.f45)) = some id → L0 id = Dspec_GoodItems_l2.oracle (mkK [(59, Kspec_l1In @spec_l1In n)] R) (Pspec_GoodItems_l2 @spec_GoodItems_l2 n R)) : LoopOk Tryd.prog L0 (loopIn 2 (bodyOf Tryd.f45)) :=
  lespec_GoodItems_l2.ok mixed ttok (fun n => mkK_nat (cspec_GoodItems n)) (fun n => mkK_ok (cspec_GoodItems n)) (fun n => inspec_GoodItems_l2 n R) (mkK_nat (cspec_GoodItems n)) h0
@[reducible] def Sspec_GoodItems : PkS := ⟨[.one (.ro (.pr (.int .i64) (.int .i64)))], []⟩
@[reducible] def Tspec_GoodItems : PkS := ⟨[.one (.bool), .one (.dead)], []⟩
def Hspec_GoodItems : List Sh := [.one .any, .skip]
def Kspec_GoodItems (g : ∀ {R : Type}, Nat → (List (Int × Int)) → (Bool → Option R) → Option R) (n : Nat) : KPs := fun R p k => match (PkS.un Sspec_GoodItems p : Option ((List (Int × Int)) × Unit)) with
  | some (x0, _) => g n x0 (fun r0 => k (PkS.pack Tspec_GoodItems (r0, ())))
  | none => none
theorem espec_GoodItems (spec_l1In : ∀ {R : Type}, Nat → Int → Int → Int → (Bool → Option R) → Option R) (spec_GoodItems_l2 : ∀ {R : Type}, Nat → (List (Int × Int)) → (List (Int × Int)) → Int → Int → (Bool → Option R) → ((List (Int × Int)) → Option R) → Option R) {R : Type} (n : Nat) (x0 : List (Int × Int)) (k : Pk → Option R) : evF tt sig (mkK [(59, Kspec_l1In @spec_l1In n)] R) (mkL (mkK [(59, Kspec_l1In @spec_l1In n)]) [(2, Dspec_GoodItems_l2, Pspec_GoodItems_l2 @spec_GoodItems_l2 n)] R) Tryd.f45 Hspec_GoodItems (PkS.pack Sspec_GoodItems (x0, ())) k = (fun (k : Bool → Option R) => (spec_GoodItems_l2 n x0 x0 (x0.length : Int) 0 (fun r3 => k r3) (fun r4 => k (decide ((r4.length : Int) ≤ 20))))) (fun r0 => k (PkS.pack Tspec_GoodItems (r0, ()))) := by kernel_rfl
theorem okspec_GoodItems (n : Nat) : FnOk Tryd.prog 45 (Kspec_GoodItems @spec_GoodItems n) := by
  refine fn_ok (sig := sig) mixed ttok (mkK_nat (cspec_GoodItems n)) (mkK_ok (cspec_GoodItems n)) (mkL_nat (mkK_nat (cspec_GoodItems n)) (l := [(2, Dspec_GoodItems_l2, Pspec_GoodItems_l2 @spec_GoodItems_l2 n)]) ⟨nlspec_GoodItems_l2 n, trivial⟩) (fn := Tryd.f45) (c := bodyOf Tryd.f45) (by kernel_rfl) (by kernel_rfl) (by kernel_rfl) (.eq (l := [.lo (loopIn 2 (bodyOf Tryd.f45))]) (by kernel_rfl) ⟨(lkspec_GoodItems_l2 n _ _ (at_id (i := 2) (by kernel_rfl) rfl)), trivial⟩) (shs := Hspec_GoodItems) (S := Sspec_GoodItems) (h1 := by kernel_rfl) fun R p k => ?_
  unfold Kspec_GoodItems
  cases h : (PkS.un Sspec_GoodItems p) with
  | none => rfl
  | some d =>
    obtain ⟨x0, u⟩ := (d : (List (Int × Int)) × Unit)
    have hp := PkS.un_pack h
    subst hp
    exact (espec_GoodItems @spec_l1In @spec_GoodItems_l2 n x0 k).symm

/-! ### loop.example/g00269/spec.ItemsOf -/
theorem cspec_ItemsOf (n : Nat) : AllOk Tryd.prog [(43, Kspec_GoodEvent @spec_GoodEvent n), (44, Kspec_l11Append @spec_l11Append n), (45, Kspec_GoodItems @spec_GoodItems n)] := ⟨okspec_GoodEvent n, ⟨okspec_l11Append n, ⟨okspec_GoodItems n, trivial⟩⟩⟩
@[reducible] def Sspec_ItemsOf_l3 : PkS := ⟨[.one (.ro (.pr (.int .i64) (.pr (.int .i64) (.pr (.int .i64) .str)))), .one (.whole (100000, 0)), .one (.ro (.pr (.int .i64) (.pr (.int .i64) (.pr (.int .i64) .str)))), .one (.int .i64), .one (.int .i64), .one (.dead)], [((100000, 0), .arr (.pr (.int .i64) (.int .i64)))]⟩
@[reducible] def Tspec_ItemsOf_l3_0 : PkS := ⟨[.one (.ro (.pr (.int .i64) (.int .i64))), .one (.bool), .one (.dead)], []⟩
@[reducible] def Tspec_ItemsOf_l3_1 : PkS := ⟨[.one (.ro (.pr (.int .i64) (.pr (.int .i64) (.pr (.int .i64) .str)))), .one (.ro (.pr (.int .i64) (.int .i64))), .one (.dead)], []⟩
def Dspec_ItemsOf_l3 : LoopD := ⟨55, [0, 4, 7, 8, 9], [.one (.ro (.pr (.int .i64) (.pr (.int .i64) (.pr (.int .i64) .str)))), .one (.own (.pr (.int .i64) (.int .i64))), .one (.ro (.pr (.int .i64) (.pr (.int .i64) (.pr (.int .i64) .str)))), .one .any, .one .any, .skip], fun x => match x with
  | .ret => some ([2, 3], [.one (.ro (.pr (.int .i64) (.int .i64))), .one .any, .skip])
  | .exit 0 => some ([0, 4], [.one (.ro (.pr (.int .i64) (.pr (.int .i64) (.pr (.int .i64) .str)))), .one (.ro (.pr (.int .i64) (.int .i64))), .skip])
  | _ => none⟩
def Pspec_ItemsOf_l3 (g : ∀ {R : Type}, Nat → (List (Int × Int × Int × ByteArray)) → (List (Int × Int × Int × ByteArray)) → Int → Int → (List (Int × Int)) → ((List (Int × Int)) → Bool → Option R) → ((List (Int × Int × Int × ByteArray)) → (List (Int × Int)) → Option R) → Option R) (n : Nat) : LPs := fun R q kk => match (PkS.un Sspec_ItemsOf_l3 q : Option ((List (Int × Int × Int × ByteArray)) × (List (Int × Int × Int × ByteArray)) × Int × Int × (List (Int × Int)) × Unit)) with
  | some (y3_0, y3_1, y3_2, y3_3, y3_4, _) => g n y3_0 y3_1 y3_2 y3_3 y3_4 (fun r0 r1 => kk .ret (PkS.pack Tspec_ItemsOf_l3_0 (r0, r1, ()))) (fun r0 r1 => kk (.exit 0) (PkS.pack Tspec_ItemsOf_l3_1 (r0, r1, ())))
  | none => none
theorem espec_ItemsOf_l3 (spec_GoodEvent : ∀ {R : Type}, Nat → Int → Int → Int → ByteArray → (Bool → Option R) → Option R) (spec_l11Append : ∀ {R : Type}, Nat → (List (Int × Int)) → Int → Int → ((List (Int × Int)) → Option R) → Option R) (spec_GoodItems : ∀ {R : Type}, Nat → (List (Int × Int)) → (Bool → Option R) → Option R) (spec_ItemsOf_l3 : ∀ {R : Type}, Nat → (List (Int × Int × Int × ByteArray)) → (List (Int × Int × Int × ByteArray)) → Int → Int → (List (Int × Int)) → ((List (Int × Int)) → Bool → Option R) → ((List (Int × Int × Int × ByteArray)) → (List (Int × Int)) → Option R) → Option R) {R : Type} (n : Nat) (y3_0 : List (Int × Int × Int × ByteArray)) (y3_1 : List (Int × Int × Int × ByteArray)) (y3_2 : Int) (y3_3 : Int) (y3_4 : List (Int × Int)) (kk : Ex → Pk → Option R) : Dspec_ItemsOf_l3.step tt sig (mkK [(43, Kspec_GoodEvent @spec_GoodEvent n), (44, Kspec_l11Append @spec_l11Append n), (45, Kspec_GoodItems @spec_GoodItems n)] R) (mkL (mkK [(43, Kspec_GoodEvent @spec_GoodEvent n), (44, Kspec_l11Append @spec_l11Append n), (45, Kspec_GoodItems @spec_GoodItems n)]) [] R) (loopIn 3 (bodyOf Tryd.f10)) (fun q' => Pspec_ItemsOf_l3 @spec_ItemsOf_l3 n R q' kk) (PkS.pack Sspec_ItemsOf_l3 (y3_0, y3_1, y3_2, y3_3, y3_4, ())) kk = (fun (kret : (List (Int × Int)) → Bool → Option R) (kexit0 : (List (Int × Int × Int × ByteArray)) → (List (Int × Int)) → Option R) => (bif (decide (y3_3 < y3_2)) then (bif decide (0 ≤ y3_3) then (bif decide (y3_3 < (y3_1.length : Int)) then (spec_GoodEvent n ((y3_1.getD (Int.toNat y3_3) (0, (0, (0, ByteArray.empty)))).1) ((y3_1.getD (Int.toNat y3_3) (0, (0, (0, ByteArray.empty)))).2.1) ((y3_1.getD (Int.toNat y3_3) (0, (0, (0, ByteArray.empty)))).2.2.1) ((y3_1.getD (Int.toNat y3_3) (0, (0, (0, ByteArray.empty)))).2.2.2) fun r1 => (bif (!r1) then kret ([] : List (Int × Int)) false else (bif ((y3_1.getD (Int.toNat y3_3) (0, (0, (0, ByteArray.empty)))).1 != (IntKind.wrap .i64 (y3_3 + 1))) then kret ([] : List (Int × Int)) false else (bif (decide (y3_3 > 0)) then (bif decide (0 ≤ (IntKind.wrap .i64 (y3_3 - 1))) then (bif decide ((IntKind.wrap .i64 (y3_3 - 1)) < (y3_0.length : Int)) then (bif (decide ((y3_0.getD (Int.toNat (IntKind.wrap .i64 (y3_3 - 1))) (0, (0, (0, ByteArray.empty)))).2.1 > (y3_1.getD (Int.toNat y3_3) (0, (0, (0, ByteArray.empty)))).2.1)) then kret ([] : List (Int × Int)) false else (spec_l11Append n y3_4 ((y3_1.getD (Int.toNat y3_3) (0, (0, (0, ByteArray.empty)))).1) ((y3_1.getD (Int.toNat y3_3) (0, (0, (0, ByteArray.empty)))).2.1) fun r2 => spec_ItemsOf_l3 n y3_0 y3_1 y3_2 (IntKind.wrap .i64 (y3_3 + 1)) r2 kret kexit0)) else none) else none) else (spec_l11Append n y3_4 ((y3_1.getD (Int.toNat y3_3) (0, (0, (0, ByteArray.empty)))).1) ((y3_1.getD (Int.toNat y3_3) (0, (0, (0, ByteArray.empty)))).2.1) fun r3 => spec_ItemsOf_l3 n y3_0 y3_1 y3_2 (IntKind.wrap .i64 (y3_3 + 1)) r3 kret kexit0))))) else none) else none) else kexit0 y3_0 y3_4)) (fun r0 r1 => kk .ret (PkS.pack Tspec_ItemsOf_l3_0 (r0, r1, ()))) (fun r0 r1 => kk (.exit 0) (PkS.pack Tspec_ItemsOf_l3_1 (r0, r1, ()))) := by kernel_rfl
theorem lespec_ItemsOf_l3 : LoopEq tt sig (fun n => mkK [(43, Kspec_GoodEvent @spec_GoodEvent n), (44, Kspec_l11Append @spec_l11Append n), (45, Kspec_GoodItems @spec_GoodItems n)]) (fun n => mkL (mkK [(43, Kspec_GoodEvent @spec_GoodEvent n), (44, Kspec_l11Append @spec_l11Append n), (45, Kspec_GoodItems @spec_GoodItems n)]) []) Dspec_ItemsOf_l3 Sspec_ItemsOf_l3 (loopIn 3 (bodyOf Tryd.f10)) (Pspec_ItemsOf_l3 @spec_ItemsOf_l3) where
  zero R q kk := by unfold Pspec_ItemsOf_l3; cases (PkS.un Sspec_ItemsOf_l3 q) <;> rfl
  succ n R q kk := by
    unfold Pspec_ItemsOf_l3
    cases h : (PkS.un Sspec_ItemsOf_l3 q) with
    | none => rfl
    | some d =>
      obtain ⟨y3_0, y3_1, y3_2, y3_3, y3_4, u⟩ := (d : (List (Int × Int × Int × ByteArray)) × (List (Int × Int × Int × ByteArray)) × Int × Int × (List (Int × Int)) × Unit)
      have hp := PkS.un_pack h
      subst hp
      exact (espec_ItemsOf_l3 @spec_GoodEvent @spec_l11Append @spec_GoodItems @spec_ItemsOf_l3 n y3_0 y3_1 y3_2 y3_3 y3_4 kk).symm
theorem nlspec_ItemsOf_l3 : ∀ n, NatLP (Pspec_ItemsOf_l3 @spec_ItemsOf_l3 n) := lespec_ItemsOf_l3.nat (fun n => mkK_nat (cspec_ItemsOf n)) fun n => mkL_nat (mkK_nat (cspec_ItemsOf n)) (l := []) trivial
theorem inspec_ItemsOf_l3 (n : Nat) (R : Type) : LoopsOk Tryd.prog (mkL (mkK [(43, Kspec_GoodEvent @spec_GoodEvent n), (44, Kspec_l11Append @spec_l11Append n), (45, Kspec_GoodItems @spec_GoodItems n)]) [] R) (loopIn 3 (bodyOf Tryd.f10)) := .eq (l := []) (by kernel_rfl) trivial
theorem lkspec_ItemsOf_l3 (n : Nat) (R : Type) (L0 : LK R) (h0 : ∀ id, firstRegion (loopIn 3 (bodyOf Tryd.f10)) = some id → L0 id = Dspec_ItemsOf_l3.oracle (mkK [(43, Kspec_GoodEvent @spec_GoodEvent n), (44, Kspec_l11Append @spec_l11Append n), (45, Kspec_GoodItems @spec_GoodItems n)] R) (Pspec_ItemsOf_l3 @spec_ItemsOf_l3 n R)) : LoopOk Tryd.prog L0 (loopIn 3 (bodyOf Tryd.f10)) :=
  lespec_ItemsOf_l3.ok mixed ttok (fun n => mkK_nat (cspec_ItemsOf n)) (fun n => mkK_ok (cspec_ItemsOf n)) (fun n => inspec_ItemsOf_l3 n R) (mkK_nat (cspec_ItemsOf n)) h0
@[reducible] def Sspec_ItemsOf : PkS := ⟨[.one (.ro (.pr (.int .i64) (.pr (.int .i64) (.pr (.int .i64) .str))))], []⟩
@[reducible] def Tspec_ItemsOf : PkS := ⟨[.tup [(false, [.ro (.pr (.int .i64) (.int .i64))]), (false, [.bool])], .one (.dead)], []⟩
def Hspec_ItemsOf : List Sh := [.tup [(false, [(.ro (.pr (.int .i64) (.int .i64)))]), (false, [.any])], .skip]
def Kspec_ItemsOf (g : ∀ {R : Type}, Nat → (List (Int × Int × Int × ByteArray)) → ((List (Int × Int)) → Bool → Option R) → Option R) (n : Nat) : KPs := fun R p k => match (PkS.un Sspec_ItemsOf p : Option ((List (Int × Int × Int × ByteArray)) × Unit)) with
  | some (x0, _) => g n x0 (fun r0 r1 => k (PkS.pack Tspec_ItemsOf (r0, r1, ())))
  | none => none
theorem espec_ItemsOf (spec_GoodEvent : ∀ {R : Type}, Nat → Int → Int → Int → ByteArray → (Bool → Option R) → Option R) (spec_l11Append : ∀ {R : Type}, Nat → (List (Int × Int)) → Int → Int → ((List (Int × Int)) → Option R) → Option R) (spec_GoodItems : ∀ {R : Type}, Nat → (List (Int × Int)) → (Bool → Option R) → Option R) (spec_ItemsOf_l3 : ∀ {R : Type}, Nat → (List (Int × Int × Int × ByteArray)) → (List (Int × Int × Int × ByteArray)) → Int → Int → (List (Int × Int)) → ((List (Int × Int)) → Bool → Option R) → ((List (Int × Int × Int × ByteArray)) → (List (Int × Int)) → Option R) → Option R) {R : Type} (n : Nat) (x0 : List (Int × Int × Int × ByteArray)) (k : Pk → Option R) : evF tt sig (mkK [(43, Kspec_GoodEvent @spec_GoodEvent n), (44, Kspec_l11Append @spec_l11Append n), (45, Kspec_GoodItems @spec_GoodItems n)] R) (mkL (mkK [(43, Kspec_GoodEvent @spec_GoodEvent n), (44, Kspec_l11Append @spec_l11Append n), (45, Kspec_GoodItems @spec_GoodItems n)]) [(3, Dspec_ItemsOf_l3, Pspec_ItemsOf_l3 @spec_ItemsOf_l3 n)] R) Tryd.f10 Hspec_ItemsOf (PkS.pack Sspec_ItemsOf (x0, ())) k = (fun (k : (List (Int × Int)) → Bool → Option R) => (spec_ItemsOf_l3 n x0 x0 (x0.length : Int) 0 ([] : List (Int × Int)) (fun r4 r5 => k r4 r5) (fun r6 r7 => (bif (decide ((r6.length : Int) > 60)) then k ([] : List (Int × Int)) false else (spec_GoodItems n r7 fun r8 => (bif (!r8) then k ([] : List (Int × Int)) false else k r7 true)))))) (fun r0 r1 => k (PkS.pack Tspec_ItemsOf (r0, r1, ()))) := by kernel_rfl
theorem okspec_ItemsOf (n : Nat) : FnOk Tryd.prog 10 (Kspec_ItemsOf @spec_ItemsOf n) := by
  refine fn_ok (sig := sig) mixed ttok (mkK_nat (cspec_ItemsOf n)) (mkK_ok (cspec_ItemsOf n)) (mkL_nat (mkK_nat (cspec_ItemsOf n)) (l := [(3, Dspec_ItemsOf_l3, Pspec_ItemsOf_l3 @spec_ItemsOf_l3 n)]) ⟨nlspec_ItemsOf_l3 n, trivial⟩) (fn := Tryd.f10) (c := bodyOf Tryd.f10) (by kernel_rfl) (by kernel_rfl) (by kernel_rfl) (.eq (l := [.lo (loopIn 3 (bodyOf Tryd.f10))]) (by kernel_rfl) ⟨(lkspec_ItemsOf_l3 n _ _ (at_id (i := 3) (by kernel_rfl) rfl)), trivial⟩) (shs := Hspec_ItemsOf) (S := Sspec_ItemsOf) (h1 := by kernel_rfl) fun R p k => ?_
  unfold Kspec_ItemsOf
  cases h : (PkS.un Sspec_ItemsOf p) with
  | none => rfl
  | some d =>
    obtain ⟨x0, u⟩ := (d : (List (Int × Int × Int × ByteArray)) × Unit)
    have hp := PkS.un_pack h
    subst hp
    exact (espec_ItemsOf @spec_GoodEvent @spec_l11Append @spec_GoodItems @spec_ItemsOf_l3 n x0 k).symm

/-! ### loop.example/g00269/impl.last -/
theorem cimpl_last (n : Nat) : AllOk Tryd.prog [] := trivial
@[reducible] def Simpl_last : PkS := ⟨[.one (.ro (.pr (.int .i64) (.int .i64)))], []⟩
@[reducible] def Timpl_last : PkS := ⟨[.one (.int .i64), .one (.dead)], []⟩
def Himpl_last : List Sh := [.one .any, .skip]
def Kimpl_last (g : ∀ {R : Type}, Nat → (List (Int × Int)) → (Int → Option R) → Option R) (n : Nat) : KPs := fun R p k => match (PkS.un Simpl_last p : Option ((List (Int × Int)) × Unit)) with
  | some (x0, _) => g n x0 (fun r0 => k (PkS.pack Timpl_last (r0, ())))
  | none => none
theorem eimpl_last  {R : Type} (n : Nat) (x0 : List (Int × Int)) (k : Pk → Option R) : evF tt sig (mkK [] R) (mkL (mkK []) [] R) Tryd.f54 Himpl_last (PkS.pack Simpl_last (x0, ())) k = (fun (k : Int → Option R) => (bif ((x0.length : Int) == 0) then k 0 else (bif decide (0 ≤ (IntKind.wrap .i64 ((x0.length : Int) - 1))) then (bif decide ((IntKind.wrap .i64 ((x0.length : Int) - 1)) < (x0.length : Int)) then k ((x0.getD (Int.toNat (IntKind.wrap .i64 ((x0.length : Int) - 1))) (0, 0)).1) else none) else none))) (fun r0 => k (PkS.pack Timpl_last (r0, ()))) := by kernel_rfl
theorem okimpl_last (n : Nat) : FnOk Tryd.prog 54 (Kimpl_last @impl_last n) := by
  refine fn_ok (sig := sig) mixed ttok (mkK_nat (cimpl_last n)) (mkK_ok (cimpl_last n)) (mkL_nat (mkK_nat (cimpl_last n)) (l := []) trivial) (fn := Tryd.f54) (c := bodyOf Tryd.f54) (by kernel_rfl) (by kernel_rfl) (by kernel_rfl) (.eq (l := []) (by kernel_rfl) trivial) (shs := Himpl_last) (S := Simpl_last) (h1 := by kernel_rfl) fun R p k => ?_
  unfold Kimpl_last
  cases h : (PkS.un Simpl_last p) with
  | none => rfl
  | some d =>
    obtain ⟨x0, u⟩ := (d : (List (Int × Int)) × Unit)
    have hp := PkS.un_pack h
    subst hp
    exact (eimpl_last  n x0 k).symm

/-! ### loop.example/g00269/impl.lastVersion -/
theorem cimpl_lastVersion (n : Nat) : AllOk Tryd.prog [] := trivial
@[reducible] def Simpl_lastVersion : PkS := ⟨[.one (.ro (.pr (.int .i64) (.int .i64)))], []⟩
@[reducible] def Timpl_lastVersion : PkS := ⟨[.one (.int .i64), .one (.dead)], []⟩
def Himpl_lastVersion : List Sh := [.one .any, .skip]
def Kimpl_lastVersion (g : ∀ {R : Type}, Nat → (List (Int × Int)) → (Int → Option R) → Option R) (n : Nat) : KPs := fun R p k => match (PkS.un Simpl_lastVersion p : Option ((List (Int × Int)) × Unit)) with
  | some (x0, _) => g n x0 (fun r0 => k (PkS.pack Timpl_lastVersion (r0, ())))
  | none => none
theorem eimpl_lastVersion  {R : Type} (n : Nat) (x0 : List (Int × Int)) (k : Pk → Option R) : evF tt sig (mkK [] R) (mkL (mkK []) [] R) Tryd.f61 Himpl_lastVersion (PkS.pack Simpl_lastVersion (x0, ())) k = (fun (k : Int → Option R) => (bif ((x0.length : Int) == 0) then k 0 else (bif decide (0 ≤ (IntKind.wrap .i64 ((x0.length : Int) - 1))) then (bif decide ((IntKind.wrap .i64 ((x0.length : Int) - 1)) < (x0.length : Int)) then k ((x0.getD (Int.toNat (IntKind.wrap .i64 ((x0.length : Int) - 1))) (0, 0)).2) else none) else none))) (fun r0 => k (PkS.pack Timpl_lastVersion (r0, ()))) := by kernel_rfl
theorem okimpl_lastVersion (n : Nat) : FnOk Tryd.prog 61 (Kimpl_lastVersion @impl_lastVersion n) := by
  refine fn_ok (sig := sig) mixed ttok (mkK_nat (cimpl_lastVersion n)) (mkK_ok (cimpl_lastVersion n)) (mkL_nat (mkK_nat (cimpl_lastVersion n)) (l := []) trivial) (fn := Tryd.f61) (c := bodyOf Tryd.f61) (by kernel_rfl) (by kernel_rfl) (by kernel_rfl) (.eq (l := []) (by kernel_rfl) trivial) (shs := Himpl_lastVersion) (S := Simpl_lastVersion) (h1 := by kernel_rfl) fun R p k => ?_
  unfold Kimpl_lastVersion
  cases h : (PkS.un Simpl_lastVersion p) with
  | none => rfl
  | some d =>
    obtain ⟨x0, u⟩ := (d : (List (Int × Int)) × Unit)
    have hp := PkS.un_pack h
    subst hp
    exact (eimpl_lastVersion  n x0 k).symm

/-! ### loop.example/g00269/impl.in -/
theorem cimpl_in (n : Nat) : AllOk Tryd.prog [] := trivial
@[reducible] def Simpl_in : PkS := ⟨[.one (.int .i64), .one (.int .i64), .one (.int .i64)], []⟩
@[reducible] def Timpl_in : PkS := ⟨[.one (.bool), .one (.dead), .one (.dead), .one (.dead)], []⟩
def Himpl_in : List Sh := [.one .any, .skip, .skip, .skip]
def Kimpl_in (g : ∀ {R : Type}, Nat → Int → Int → Int → (Bool → Option R) → Option R) (n : Nat) : KPs := fun R p k => match (PkS.un Simpl_in p : Option (Int × Int × Int × Unit)) with
  | some (x0, x1, x2, _) => g n x0 x1 x2 (fun r0 => k (PkS.pack Timpl_in (r0, ())))
  | none => none
theorem eimpl_in  {R : Type} (n : Nat) (x0 : Int) (x1 : Int) (x2 : Int) (k : Pk → Option R) : evF tt sig (mkK [] R) (mkL (mkK []) [] R) Tryd.f53 Himpl_in (PkS.pack Simpl_in (x0, x1, x2, ())) k = (fun (k : Bool → Option R) => (bif (decide (x0 ≥ x1)) then k (decide (x0 ≤ x2)) else k false)) (fun r0 => k (PkS.pack Timpl_in (r0, ()))) := by kernel_rfl
theorem okimpl_in (n : Nat) : FnOk Tryd.prog 53 (Kimpl_in @impl_in n) := by
  refine fn_ok (sig := sig) mixed ttok (mkK_nat (cimpl_in n)) (mkK_ok (cimpl_in n)) (mkL_nat (mkK_nat (cimpl_in n)) (l := []) trivial) (fn := Tryd.f53) (c := bodyOf Tryd.f53) (by kernel_rfl) (by kernel_rfl) (by kernel_rfl) (.eq (l := []) (by kernel_rfl) trivial) (shs := Himpl_in) (S := Simpl_in) (h1 := by kernel_rfl) fun R p k => ?_
  unfold Kimpl_in
  cases h : (PkS.un Simpl_in p) with
  | none => rfl
  | some d =>
    obtain ⟨x0, x1, x2, u⟩ := (d : Int × Int × Int × Unit)
    have hp := PkS.un_pack h
    subst hp
    exact (eimpl_in  n x0 x1 x2 k).symm

/-! ### loop.example/g00269/impl.isVersion -/
theorem cimpl_isVersion (n : Nat) : AllOk Tryd.prog [(53, Kimpl_in @impl_in n)] := ⟨okimpl_in n, trivial⟩
@[reducible] def Simpl_isVersion : PkS := ⟨[.one (.int .i64)], []⟩
@[reducible] def Timpl_isVersion : PkS := ⟨[.one (.bool), .one (.dead)], []⟩
def Himpl_isVersion : List Sh := [.one .any, .skip]
def Kimpl_isVersion (g : ∀ {R : Type}, Nat → Int → (Bool → Option R) → Option R) (n : Nat) : KPs := fun R p k => match (PkS.un Simpl_isVersion p : Option (Int × Unit)) with
  | some (x0, _) => g n x0 (fun r0 => k (PkS.pack Timpl_isVersion (r0, ())))
  | none => none
theorem eimpl_isVersion (impl_in : ∀ {R : Type}, Nat → Int → Int → Int → (Bool → Option R) → Option R) {R : Type} (n : Nat) (x0 : Int) (k : Pk → Option R) : evF tt sig (mkK [(53, Kimpl_in @impl_in n)] R) (mkL (mkK [(53, Kimpl_in @impl_in n)]) [] R) Tryd.f56 Himpl_isVersion (PkS.pack Simpl_isVersion (x0, ())) k = (fun (k : Bool → Option R) => (impl_in n x0 0 1000000 fun r1 => k r1)) (fun r0 => k (PkS.pack Timpl_isVersion (r0, ()))) := by kernel_rfl
theorem okimpl_isVersion (n : Nat) : FnOk Tryd.prog 56 (Kimpl_isVersion @impl_isVersion n) := by
  refine fn_ok (sig := sig) mixed ttok (mkK_nat (cimpl_isVersion n)) (mkK_ok (cimpl_isVersion n)) (mkL_nat (mkK_nat (cimpl_isVersion n)) (l := []) trivial) (fn := Tryd.f56) (c := bodyOf Tryd.f56) (by kernel_rfl) (by kernel_rfl) (by kernel_rfl) (.eq (l := []) (by kernel_rfl) trivial) (shs := Himpl_isVersion) (S := Simpl_isVersion) (h1 := by kernel_rfl) fun R p k => ?_
  unfold Kimpl_isVersion
  cases h : (PkS.un Simpl_isVersion p) with
  | none => rfl
  | some d =>
    obtain ⟨x0, u⟩ := (d : Int × Unit)
    have hp := PkS.un_pack h
    subst hp
    exact (eimpl_isVersion @impl_in n x0 k).symm

/-! ### slices.Clone[[]loop.example/g00269/impl.Item,loop.example/g00269/impl.Item] -/
theorem cslices_Clone_impl_Item (n : Nat) : AllOk Tryd.prog [] := trivial
@[reducible] def Sslices_Clone_impl_Item : PkS := ⟨[.one (.ro (.pr (.int .i64) (.int .i64)))], []⟩
@[reducible] def Tslices_Clone_impl_Item : PkS := ⟨[.one (.whole (300000, 0)), .one (.dead)], [((300000, 0), .arr (.pr (.int .i64) (.int .i64)))]⟩
def Kslices_Clone_impl_Item (g : ∀ {R : Type}, Nat → (List (Int × Int)) → ((List (Int × Int)) → Option R) → Option R) (n : Nat) : KPs := fun R p k => match (PkS.un Sslices_Clone_impl_Item p : Option ((List (Int × Int)) × Unit)) with
  | some (x0, _) => g n x0 (fun r0 => k (PkS.pack Tslices_Clone_impl_Item (r0, ())))
  | none => none
theorem okslices_Clone_impl_Item (n : Nat) : FnOk Tryd.prog 80 (Kslices_Clone_impl_Item @slices_Clone_impl_Item n) := by
  have e : Kslices_Clone_impl_Item @slices_Clone_impl_Item n = cloneK (.pr (.int .i64) (.int .i64)) := by kernel_rfl
  rw [e]
  exact clone_ok (sig := sig) mixed ttok (fn := Tryd.f80) (c := bodyOf Tryd.f80) (by kernel_rfl) (by kernel_rfl) (by kernel_rfl) (.pr (.int .i64) (.int .i64)) [.one (.own (.pr (.int .i64) (.int .i64))), .skip] (.eq (l := []) (by kernel_rfl) trivial) (fun xs => by kernel_rfl) (by kernel_rfl) (by kernel_rfl)

/-! ### loop.example/g00269/impl.GoodItems -/
theorem cimpl_GoodItems (n : Nat) : AllOk Tryd.prog [(53, Kimpl_in @impl_in n), (56, Kimpl_isVersion @impl_isVersion n)] := ⟨okimpl_in n, ⟨okimpl_isVersion n, trivial⟩⟩
@[reducible] def Simpl_GoodItems_l4 : PkS := ⟨[.one (.ro (.pr (.int .i64) (.int .i64))), .one (.ro (.pr (.int .i64) (.int .i64))), .one (.int .i64), .one (.int .i64), .one (.dead)], []⟩
@[reducible] def Timpl_GoodItems_l4_0 : PkS := ⟨[.one (.bool), .one (.dead)], []⟩
@[reducible] def Timpl_GoodItems_l4_1 : PkS := ⟨[.one (.dead)], []⟩
def Dimpl_GoodItems_l4 : LoopD := ⟨52, [0, 8, 9, 10], [.one (.ro (.pr (.int .i64) (.int .i64))), .one (.ro (.pr (.int .i64) (.int .i64))), .one .any, .one .any, .skip], fun x => match x with
  | .ret => some ([2], [.one .any, .skip])
  | .exit 0 => some ([], [.skip])
  | _ => none⟩
def Pimpl_GoodItems_l4 (g : ∀ {R : Type}, Nat → (List (Int × Int)) → (List (Int × Int)) → Int → Int → (Bool → Option R) → (Option R) → Option R) (n : Nat) : LPs := fun R q kk => match (PkS.un Simpl_GoodItems_l4 q : Option ((List (Int × Int)) × (List (Int × Int)) × Int × Int × Unit)) with
  | some (y4_0, y4_1, y4_2, y4_3, _) => g n y4_0 y4_1 y4_2 y4_3 (fun r0 => kk .ret (PkS.pack Timpl_GoodItems_l4_0 (r0, ()))) (kk (.exit 0) (PkS.pack Timpl_GoodItems_l4_1 ()))
  | none => none
theorem eimpl_GoodItems_l4 (impl_in : ∀ {R : Type}, Nat → Int → Int → Int → (Bool → Option R) → Option R) (impl_isVersion : ∀ {R : Type}, Nat → Int → (Bool → Option R) → Option R) (impl_GoodItems_l4 : ∀ {R : Type}, Nat → (List (Int × Int)) → (List (Int × Int)) → Int → Int → (Bool → Option R) → (Option R) → Option R) {R : Type} (n : Nat) (y4_0 : List (Int × Int)) (y4_1 : List (Int × Int)) (y4_2 : Int) (y4_3 : Int) (kk : Ex → Pk → Option R) : Dimpl_GoodItems_l4.step tt sig (mkK [(53, Kimpl_in @impl_in n), (56, Kimpl_isVersion @impl_isVersion n)] R) (mkL (mkK [(53, Kimpl_in @impl_in n), (56, Kimpl_isVersion @impl_isVersion n)]) [] R) (loopIn 4 (bodyOf Tryd.f22)) (fun q' => Pimpl_GoodItems_l4 @impl_GoodItems_l4 n R q' kk) (PkS.pack Simpl_GoodItems_l4 (y4_0, y4_1, y4_2, y4_3, ())) kk = (fun (kret : Bool → Option R) (kexit0 : Option R) => (bif (decide (y4_3 < y4_2)) then (bif decide (0 ≤ y4_3) then (bif decide (y4_3 < (y4_1.length : Int)) then (impl_in n ((y4_1.getD (Int.toNat y4_3) (0, 0)).1) 1 1000 fun r1 => (bif (!r1) then kret false else (impl_isVersion n ((y4_1.getD (Int.toNat y4_3) (0, 0)).2) fun r2 => (bif (!r2) then kret false else (bif (decide (y4_3 > 0)) then (bif decide (0 ≤ (IntKind.wrap .i64 (y4_3 - 1))) then (bif decide ((IntKind.wrap .i64 (y4_3 - 1)) < (y4_0.length : Int)) then (bif (decide ((y4_1.getD (Int.toNat y4_3) (0, 0)).1 ≤ (y4_0.getD (Int.toNat (IntKind.wrap .i64 (y4_3 - 1))) (0, 0)).1)) then kret false else (bif decide (0 ≤ (IntKind.wrap .i64 (y4_3 - 1))) then (bif decide ((IntKind.wrap .i64 (y4_3 - 1)) < (y4_0.length : Int)) then (bif (decide ((y4_1.getD (Int.toNat y4_3) (0, 0)).2 ≤ (y4_0.getD (Int.toNat (IntKind.wrap .i64 (y4_3 - 1))) (0, 0)).2)) then kret false else impl_GoodItems_l4 n y4_0 y4_1 y4_2 (IntKind.wrap .i64 (y4_3 + 1)) kret kexit0) else none) else none)) else none) else none) else impl_GoodItems_l4 n y4_0 y4_1 y4_2 (IntKind.wrap .i64 (y4_3 + 1)) kret kexit0))))) else none) else none) else kexit0)) (fun r0 => kk .ret (PkS.pack Timpl_GoodItems_l4_0 (r0, ()))) (kk (.exit 0) (PkS.pack Timpl_GoodItems_l4_1 ())) := by kernel_rfl
theorem leimpl_GoodItems_l4 : LoopEq tt sig (fun n => mkK [(53, Kimpl_in @impl_in n), (56, Kimpl_isVersion @impl_isVersion n)]) (fun n => mkL (mkK [(53, Kimpl_in @impl_in n), (56, Kimpl_isVersion @impl_isVersion n)]) []) Dimpl_GoodItems_l4 Simpl_GoodItems_l4 (loopIn 4 (bodyOf Tryd.f22)) (Pimpl_GoodItems_l4 @impl_GoodItems_l4) where
  zero R q kk := by unfold Pimpl_GoodItems_l4; cases (PkS.un Simpl_GoodItems_l4 q) <;> rfl
  succ n R q kk := by
    unfold Pimpl_GoodItems_l4
    cases h : (PkS.un Simpl_GoodItems_l4 q) with
    | none => rfl
    | some d =>
      obtain ⟨y4_0, y4_1, y4_2, y4_3, u⟩ := (d : (List (Int × Int)) × (List (Int × Int)) × Int × Int × Unit)
      have hp := PkS.un_pack h
      subst hp
      exact (eimpl_GoodItems_l4 @impl_in @impl_isVersion @impl_GoodItems_l4 n y4_0 y4_1 y4_2 y4_3 kk).symm
theorem nlimpl_GoodItems_l4 : ∀ n, NatLP (Pimpl_GoodItems_l4 @impl_GoodItems_l4 n) := leimpl_GoodItems_l4.nat (fun n => mkK_nat (cimpl_GoodItems n)) fun n => mkL_nat (mkK_nat (cimpl_GoodItems n)) (l := []) trivial
theorem inimpl_GoodItems_l4 (n : Nat) (R : Type) : LoopsOk Tryd.prog (mkL (mkK [(53, Kimpl_in @impl_in n), (56, Kimpl_isVersion @impl_isVersion n)]) [] R) (loopIn 4 (bodyOf Tryd.f22)) := .eq (l := []) (by kernel_rfl) trivial
theorem lkimpl_GoodItems_l4 (n : Nat) (R : Type) (L0 : LK R) (h0 : ∀ id, firstRegion (loopIn 4 (bodyOf Tryd.f22)) = some id → L0 id = Dimpl_GoodItems_l4.oracle (mkK [(53, Kimpl_in @impl_in n), (56, Kimpl_isVersion @impl_isVersion n)] R) (Pimpl_GoodItems_l4 @impl_GoodItems_l4 n R)) : LoopOk Tryd.prog L0 (loopIn 4 (bodyOf Tryd.f22)) :=
  leimpl_GoodItems_l4.ok mixed ttok (fun n => mkK_nat (cimpl_GoodItems n)) (fun n => mkK_ok (cimpl_GoodItems n)) (fun n => inimpl_GoodItems_l4 n R) (mkK_nat (cimpl_GoodItems n)) h0
@[reducible] def Simpl_GoodItems : PkS := ⟨[.one (.ro (.pr (.int .i64) (.int .i64)))], []⟩
@[reducible] def Timpl_GoodItems : PkS := ⟨[.one (.bool), .one (.dead)], []⟩
def Himpl_GoodItems : List Sh := [.one .any, .skip]
def Kimpl_GoodItems (g : ∀ {R : Type}, Nat → (List (Int × Int)) → (Bool → Option R) → Option R) (n : Nat) : KPs := fun R p k => match (PkS.un Simpl_GoodItems p : Option ((List (Int × Int)) × Unit)) with
  | some (x0, _) => g n x0 (fun r0 => k (PkS.pack Timpl_GoodItems (r0, ())))
  | none => none
theorem eimpl_GoodItems (impl_in : ∀ {R : Type}, Nat → Int → Int → Int → (Bool → Option R) → Option R) (impl_isVersion : ∀ {R : Type}, Nat → Int → (Bool → Option R) → Option R) (impl_GoodItems_l4 : ∀ {R : Type}, Nat → (List (Int × Int)) → (List (Int × Int)) → Int → Int → (Bool → Option R) → (Option R) → Option R) {R : Type} (n : Nat) (x0 : List (Int × Int)) (k : Pk → Option R) : evF tt sig (mkK [(53, Kimpl_in @impl_in n), (56, Kimpl_isVersion @impl_isVersion n)] R) (mkL (mkK [(53, Kimpl_in @impl_in n), (56, Kimpl_isVersion @impl_isVersion n)]) [(4, Dimpl_GoodItems_l4, Pimpl_GoodItems_l4 @impl_GoodItems_l4 n)] R) Tryd.f22 Himpl_GoodItems (PkS.pack Simpl_GoodItems (x0, ())) k = (fun (k : Bool → Option R) => (bif (decide ((x0.length : Int) > 20)) then k false else (impl_GoodItems_l4 n x0 x0 (x0.length : Int) 0 (fun r3 => k r3) (k true)))) (fun r0 => k (PkS.pack Timpl_GoodItems (r0, ()))) := by kernel_rfl
theorem okimpl_GoodItems (n : Nat) : FnOk Tryd.prog 22 (Kimpl_GoodItems @impl_GoodItems n) := by
  refine fn_ok (sig := sig) mixed ttok (mkK_nat (cimpl_GoodItems n)) (mkK_ok (cimpl_GoodItems n)) (mkL_nat (mkK_nat (cimpl_GoodItems n)) (l := [(4, Dimpl_GoodItems_l4, Pimpl_GoodItems_l4 @impl_GoodItems_l4 n)]) ⟨nlimpl_GoodItems_l4 n, trivial⟩) (fn := Tryd.f22) (c := bodyOf Tryd.f22) (by kernel_rfl) (by kernel_rfl) (by kernel_rfl) (.eq (l := [.lo (loopIn 4 (bodyOf Tryd.f22))]) (by kernel_rfl) ⟨(lkimpl_GoodItems_l4 n _ _ (at_id (i := 4) (by kernel_rfl) rfl)), trivial⟩) (shs := Himpl_GoodItems) (S := Simpl_GoodItems) (h1 := by kernel_rfl) fun R p k => ?_
  unfold Kimpl_GoodItems
  cases h : (PkS.un Simpl_GoodItems p) with
  | none => rfl
  | some d =>
    obtain ⟨x0, u⟩ := (d : (List (Int × Int)) × Unit)
    have hp := PkS.un_pack h
    subst hp
    exact (eimpl_GoodItems @impl_in @impl_isVersion @impl_GoodItems_l4 n x0 k).symm

/-! ### loop.example/g00269/impl.appended -/
theorem cimpl_appended (n : Nat) : AllOk Tryd.prog [(54, Kimpl_last @impl_last n), (61, Kimpl_lastVersion @impl_lastVersion n), (56, Kimpl_isVersion @impl_isVersion n), (80, Kslices_Clone_impl_Item @slices_Clone_impl_Item n), (22, Kimpl_GoodItems @impl_GoodItems n)] := ⟨okimpl_last n, ⟨okimpl_lastVersion n, ⟨okimpl_isVersion n, ⟨okslices_Clone_impl_Item n, ⟨okimpl_GoodItems n, trivial⟩⟩⟩⟩⟩
@[reducible] def Simpl_appended : PkS := ⟨[.one (.ro (.pr (.int .i64) (.int .i64))), .one (.int .i64), .one (.int .i64)], []⟩
@[reducible] def Timpl_appended : PkS := ⟨[.tup [(false, [.whole (300000, 0)]), (false, [.bool])], .one (.dead), .one (.dead), .one (.dead)], [((300000, 0), .arr (.pr (.int .i64) (.int .i64)))]⟩
def Himpl_appended : List Sh := [.tup [(false, [(.own (.pr (.int .i64) (.int .i64)))]), (false, [.any])], .skip, .skip, .skip]
def Kimpl_appended (g : ∀ {R : Type}, Nat → (List (Int × Int)) → Int → Int → (Bool → (List (Int × Int)) → Option R) → Option R) (n : Nat) : KPs := fun R p k => match (PkS.un Simpl_appended p : Option ((List (Int × Int)) × Int × Int × Unit)) with
  | some (x0, x1, x2, _) => g n x0 x1 x2 (fun r0 r1 => k (PkS.pack Timpl_appended (r0, r1, ())))
  | none => none
theorem eimpl_appended (impl_last : ∀ {R : Type}, Nat → (List (Int × Int)) → (Int → Option R) → Option R) (impl_lastVersion : ∀ {R : Type}, Nat → (List (Int × Int)) → (Int → Option R) → Option R) (impl_isVersion : ∀ {R : Type}, Nat → Int → (Bool → Option R) → Option R) (slices_Clone_impl_Item : ∀ {R : Type}, Nat → (List (Int × Int)) → ((List (Int × Int)) → Option R) → Option R) (impl_GoodItems : ∀ {R : Type}, Nat → (List (Int × Int)) → (Bool → Option R) → Option R) {R : Type} (n : Nat) (x0 : List (Int × Int)) (x1 : Int) (x2 : Int) (k : Pk → Option R) : evF tt sig (mkK [(54, Kimpl_last @impl_last n), (61, Kimpl_lastVersion @impl_lastVersion n), (56, Kimpl_isVersion @impl_isVersion n), (80, Kslices_Clone_impl_Item @slices_Clone_impl_Item n), (22, Kimpl_GoodItems @impl_GoodItems n)] R) (mkL (mkK [(54, Kimpl_last @impl_last n), (61, Kimpl_lastVersion @impl_lastVersion n), (56, Kimpl_isVersion @impl_isVersion n), (80, Kslices_Clone_impl_Item @slices_Clone_impl_Item n), (22, Kimpl_GoodItems @impl_GoodItems n)]) [] R) Tryd.f46 Himpl_appended (PkS.pack Simpl_appended (x0, x1, x2, ())) k = (fun (k : Bool → (List (Int × Int)) → Option R) => (impl_last n x0 fun r1 => (bif (x1 != (IntKind.wrap .i64 (r1 + 1))) then k false ([] : List (Int × Int)) else (impl_lastVersion n x0 fun r2 => (bif (decide (x2 < r2)) then k false ([] : List (Int × Int)) else (impl_isVersion n x2 fun r3 => (bif (!r3) then k false ([] : List (Int × Int)) else (slices_Clone_impl_Item n x0 fun r4 => (bif (decide ((x0.length : Int) > 0)) then (impl_lastVersion n x0 fun r5 => (bif (x2 == r5) then (bif decide (0 ≤ (IntKind.wrap .i64 ((x0.length : Int) - 1))) then (bif decide ((IntKind.wrap .i64 ((x0.length : Int) - 1)) < (r4.length : Int)) then (impl_GoodItems n (r4.set (Int.toNat (IntKind.wrap .i64 ((x0.length : Int) - 1))) (x1, (r4.getD (Int.toNat (IntKind.wrap .i64 ((x0.length : Int) - 1))) (0, 0)).2)) fun r6 => k r6 (r4.set (Int.toNat (IntKind.wrap .i64 ((x0.length : Int) - 1))) (x1, (r4.getD (Int.toNat (IntKind.wrap .i64 ((x0.length : Int) - 1))) (0, 0)).2))) else none) else none) else (bif decide (r4.length + ([(x1, x2)]).length ≤ LIM) then (impl_GoodItems n (r4 ++ [(x1, x2)]) fun r7 => k r7 (r4 ++ [(x1, x2)])) else none))) else (bif decide (r4.length + ([(x1, x2)]).length ≤ LIM) then (impl_GoodItems n (r4 ++ [(x1, x2)]) fun r8 => k r8 (r4 ++ [(x1, x2)])) else none)))))))))) (fun r0 r1 => k (PkS.pack Timpl_appended (r0, r1, ()))) := by kernel_rfl
theorem okimpl_appended (n : Nat) : FnOk Tryd.prog 46 (Kimpl_appended @impl_appended n) := by
  refine fn_ok (sig := sig) mixed ttok (mkK_nat (cimpl_appended n)) (mkK_ok (cimpl_appended n)) (mkL_nat (mkK_nat (cimpl_appended n)) (l := []) trivial) (fn := Tryd.f46) (c := bodyOf Tryd.f46) (by kernel_rfl) (by kernel_rfl) (by kernel_rfl) (.eq (l := []) (by kernel_rfl) trivial) (shs := Himpl_appended) (S := Simpl_appended) (h1 := by kernel_rfl) fun R p k => ?_
  unfold Kimpl_appended
  cases h : (PkS.un Simpl_appended p) with
  | none => rfl
  | some d =>
    obtain ⟨x0, x1, x2, u⟩ := (d : (List (Int × Int)) × Int × Int × Unit)
    have hp := PkS.un_pack h
    subst hp
    exact (eimpl_appended @impl_last @impl_lastVersion @impl_isVersion @slices_Clone_impl_Item @impl_GoodItems n x0 x1 x2 k).symm

/-! ### loop.example/g00269/impl.goodKind -/
theorem cimpl_goodKind (n : Nat) : AllOk Tryd.prog [(53, Kimpl_in @impl_in n)] := ⟨okimpl_in n, trivial⟩
@[reducible] def Simpl_goodKind : PkS := ⟨[.one (.int .i64)], []⟩
@[reducible] def Timpl_goodKind : PkS := ⟨[.one (.bool), .one (.dead)], []⟩
def Himpl_goodKind : List Sh := [.one .any, .skip]
def Kimpl_goodKind (g : ∀ {R : Type}, Nat → Int → (Bool → Option R) → Option R) (n : Nat) : KPs := fun R p k => match (PkS.un Simpl_goodKind p : Option (Int × Unit)) with
  | some (x0, _) => g n x0 (fun r0 => k (PkS.pack Timpl_goodKind (r0, ())))
  | none => none
theorem eimpl_goodKind (impl_in : ∀ {R : Type}, Nat → Int → Int → Int → (Bool → Option R) → Option R) {R : Type} (n : Nat) (x0 : Int) (k : Pk → Option R) : evF tt sig (mkK [(53, Kimpl_in @impl_in n)] R) (mkL (mkK [(53, Kimpl_in @impl_in n)]) [] R) Tryd.f72 Himpl_goodKind (PkS.pack Simpl_goodKind (x0, ())) k = (fun (k : Bool → Option R) => (impl_in n x0 1 6 fun r1 => k r1)) (fun r0 => k (PkS.pack Timpl_goodKind (r0, ()))) := by kernel_rfl
theorem okimpl_goodKind (n : Nat) : FnOk Tryd.prog 72 (Kimpl_goodKind @impl_goodKind n) := by
  refine fn_ok (sig := sig) mixed ttok (mkK_nat (cimpl_goodKind n)) (mkK_ok (cimpl_goodKind n)) (mkL_nat (mkK_nat (cimpl_goodKind n)) (l := []) trivial) (fn := Tryd.f72) (c := bodyOf Tryd.f72) (by kernel_rfl) (by kernel_rfl) (by kernel_rfl) (.eq (l := []) (by kernel_rfl) trivial) (shs := Himpl_goodKind) (S := Simpl_goodKind) (h1 := by kernel_rfl) fun R p k => ?_
  unfold Kimpl_goodKind
  cases h : (PkS.un Simpl_goodKind p) with
  | none => rfl
  | some d =>
    obtain ⟨x0, u⟩ := (d : Int × Unit)
    have hp := PkS.un_pack h
    subst hp
    exact (eimpl_goodKind @impl_in n x0 k).symm

/-! ### strings.Trim -/
theorem cstrings_Trim (n : Nat) : AllOk Tryd.prog [] := trivial
@[reducible] def Sstrings_Trim : PkS := ⟨[.one (.str), .one (.str)], []⟩
@[reducible] def Tstrings_Trim : PkS := ⟨[.one (.str), .one (.dead), .one (.dead)], []⟩
def Kstrings_Trim (g : ∀ {R : Type}, Nat → ByteArray → ByteArray → (ByteArray → Option R) → Option R) (n : Nat) : KPs := fun R p k => match (PkS.un Sstrings_Trim p : Option (ByteArray × ByteArray × Unit)) with
  | some (x0, x1, _) => g n x0 x1 (fun r0 => k (PkS.pack Tstrings_Trim (r0, ())))
  | none => none
def ren160 : Go.Shelf.Ren := ⟨fun n => match n with
  | 160 => 92
  | 232 => 101
  | 231 => 100
  | 227 => 102
  | 234 => 104
  | 233 => 103
  | 236 => 106
  | 235 => 105
  | 228 => 110
  | 271 => 113
  | 151 => 112
  | 197 => 111
  | 120 => 119
  | 152 => 118
  | 260 => 117
  | 137 => 121
  | 119 => 122
  | 224 => 123
  | 225 => 124
  | 217 => 126
  | 266 => 127
  | _ => 0, fun n => match n with
  | 0 => 0
  | 3 => 3
  | 4 => 4
  | 5 => 5
  | 9 => 9
  | 21 => 21
  | 46 => 112
  | 105 => 125
  | 116 => 116
  | 117 => 117
  | 119 => 130
  | 124 => 120
  | 138 => 132
  | 139 => 133
  | _ => 0, fun n => match n with
  | 3 => 0
  | 4 => 1
  | _ => 0⟩
theorem lays160 : Go.Proofs.Lays.n160 Tryd.prog ren160 where
  mixed := by kernel_rfl
  f119 := by kernel_rfl
  f120 := by kernel_rfl
  f137 := by kernel_rfl
  f151 := by kernel_rfl
  f152 := by kernel_rfl
  f160 := by kernel_rfl
  f197 := by kernel_rfl
  f217 := by kernel_rfl
  f224 := by kernel_rfl
  f225 := by kernel_rfl
  f227 := by kernel_rfl
  f228 := by kernel_rfl
  f231 := by kernel_rfl
  f232 := by kernel_rfl
  f233 := by kernel_rfl
  f234 := by kernel_rfl
  f235 := by kernel_rfl
  f236 := by kernel_rfl
  f260 := by kernel_rfl
  f266 := by kernel_rfl
  f271 := by kernel_rfl
  t0 := by kernel_rfl
  a0 w := by kernel_rfl
  z0 w := by kernel_rfl
  v0 w := by kernel_rfl
  t3 := by kernel_rfl
  a3 w := by kernel_rfl
  z3 w := by kernel_rfl
  v3 w := by kernel_rfl
  t4 := by kernel_rfl
  a4 w := by kernel_rfl
  z4 w := by kernel_rfl
  v4 w := by kernel_rfl
  t5 := by kernel_rfl
  a5 w := by kernel_rfl
  z5 w := by kernel_rfl
  v5 w := by kernel_rfl
  t9 := by kernel_rfl
  a9 w := by kernel_rfl
  z9 w := by kernel_rfl
  v9 w := by kernel_rfl
  t21 := by kernel_rfl
  a21 w := by kernel_rfl
  z21 w := by kernel_rfl
  v21 w := by kernel_rfl
  t46 := by kernel_rfl
  a46 w := by kernel_rfl
  z46 w := by kernel_rfl
  v46 w := by kernel_rfl
  t105 := by kernel_rfl
  a105 w := by kernel_rfl
  z105 w := by kernel_rfl
  v105 w := by kernel_rfl
  t116 := by kernel_rfl
  a116 w := by kernel_rfl
  z116 w := by kernel_rfl
  t117 := by kernel_rfl
  a117 w := by kernel_rfl
  z117 w := by kernel_rfl
  v117 w := by kernel_rfl
  t119 := by kernel_rfl
  a119 w := by kernel_rfl
  z119 w := by kernel_rfl
  t124 := by kernel_rfl
  a124 w := by kernel_rfl
  z124 w := by kernel_rfl
  v124 w := by kernel_rfl
  t138 := by kernel_rfl
  a138 w := by kernel_rfl
  z138 w := by kernel_rfl
  v138 w := by kernel_rfl
  t139 := by kernel_rfl
  a139 w := by kernel_rfl
  z139 w := by kernel_rfl
  v139 w := by kernel_rfl
  g3 := by kernel_rfl
  g4 := by kernel_rfl
theorem okstrings_Trim (n : Nat) : FnOk Tryd.prog 92 (Kstrings_Trim @strings_Trim n) := by
  have e : Kstrings_Trim @strings_Trim n = trimK := by kernel_rfl
  rw [e]
  exact trim_ok lays160 (by kernel_rfl) rfl (fn := Tryd.f92) (c := bodyOf Tryd.f92) (by kernel_rfl) (by kernel_rfl) (by kernel_rfl)

/-! ### loop.example/g00269/impl.goodName -/
theorem cimpl_goodName (n : Nat) : AllOk Tryd.prog [(92, Kstrings_Trim @strings_Trim n)] := ⟨okstrings_Trim n, trivial⟩
@[reducible] def Simpl_goodName : PkS := ⟨[.one (.str)], []⟩
@[reducible] def Timpl_goodName : PkS := ⟨[.one (.bool), .one (.dead)], []⟩
def Himpl_goodName : List Sh := [.one .any, .skip]
def Kimpl_goodName (g : ∀ {R : Type}, Nat → ByteArray → (Bool → Option R) → Option R) (n : Nat) : KPs := fun R p k => match (PkS.un Simpl_goodName p : Option (ByteArray × Unit)) with
  | some (x0, _) => g n x0 (fun r0 => k (PkS.pack Timpl_goodName (r0, ())))
  | none => none
theorem eimpl_goodName (strings_Trim : ∀ {R : Type}, Nat → ByteArray → ByteArray → (ByteArray → Option R) → Option R) {R : Type} (n : Nat) (x0 : ByteArray) (k : Pk → Option R) : evF tt sig (mkK [(92, Kstrings_Trim @strings_Trim n)] R) (mkL (mkK [(92, Kstrings_Trim @strings_Trim n)]) [] R) Tryd.f73 Himpl_goodName (PkS.pack Simpl_goodName (x0, ())) k = (fun (k : Bool → Option R) => (bif (decide ((x0.size : Int) ≤ 12)) then (strings_Trim n x0 (ByteArray.mk #[97, 98, 99, 100, 101, 102, 103, 104, 105, 106, 107, 108, 109, 110, 111, 112, 113, 114, 115, 116, 117, 118, 119, 120, 121, 122, 48, 49, 50, 51, 52, 53, 54, 55, 56, 57]) fun r1 => k ((ByteArray.toList r1) == (ByteArray.toList (ByteArray.mk #[])))) else k false)) (fun r0 => k (PkS.pack Timpl_goodName (r0, ()))) := by kernel_rfl
theorem okimpl_goodName (n : Nat) : FnOk Tryd.prog 73 (Kimpl_goodName @impl_goodName n) := by
  refine fn_ok (sig := sig) mixed ttok (mkK_nat (cimpl_goodName n)) (mkK_ok (cimpl_goodName n)) (mkL_nat (mkK_nat (cimpl_goodName n)) (l := []) trivial) (fn := Tryd.f73) (c := bodyOf Tryd.f73) (by kernel_rfl) (by kernel_rfl) (by kernel_rfl) (.eq (l := []) (by kernel_rfl) trivial) (shs := Himpl_goodName) (S := Simpl_goodName) (h1 := by kernel_rfl) fun R p k => ?_
  unfold Kimpl_goodName
  cases h : (PkS.un Simpl_goodName p) with
  | none => rfl
  | some d =>
    obtain ⟨x0, u⟩ := (d : ByteArray × Unit)
    have hp := PkS.un_pack h
    subst hp
    exact (eimpl_goodName @strings_Trim n x0 k).symm

/-! ### loop.example/g00269/impl.GoodEvent -/
theorem cimpl_GoodEvent (n : Nat) : AllOk Tryd.prog [(53, Kimpl_in @impl_in n), (56, Kimpl_isVersion @impl_isVersion n), (72, Kimpl_goodKind @impl_goodKind n), (73, Kimpl_goodName @impl_goodName n)] := ⟨okimpl_in n, ⟨okimpl_isVersion n, ⟨okimpl_goodKind n, ⟨okimpl_goodName n, trivial⟩⟩⟩⟩
@[reducible] def Simpl_GoodEvent : PkS := ⟨[.agg [.int .i64, .int .i64, .int .i64, .str]], []⟩
@[reducible] def Timpl_GoodEvent : PkS := ⟨[.one (.bool), .one (.dead)], []⟩
def Himpl_GoodEvent : List Sh := [.one .any, .skip]
def Kimpl_GoodEvent (g : ∀ {R : Type}, Nat → Int → Int → Int → ByteArray → (Bool → Option R) → Option R) (n : Nat) : KPs := fun R p k => match (PkS.un Simpl_GoodEvent p : Option (Int × Int × Int × ByteArray × Unit)) with
  | some (x0, x1, x2, x3, _) => g n x0 x1 x2 x3 (fun r0 => k (PkS.pack Timpl_GoodEvent (r0, ())))
  | none => none
theorem eimpl_GoodEvent (impl_in : ∀ {R : Type}, Nat → Int → Int → Int → (Bool → Option R) → Option R) (impl_isVersion : ∀ {R : Type}, Nat → Int → (Bool → Option R) → Option R) (impl_goodKind : ∀ {R : Type}, Nat → Int → (Bool → Option R) → Option R) (impl_goodName : ∀ {R : Type}, Nat → ByteArray → (Bool → Option R) → Option R) {R : Type} (n : Nat) (x0 : Int) (x1 : Int) (x2 : Int) (x3 : ByteArray) (k : Pk → Option R) : evF tt sig (mkK [(53, Kimpl_in @impl_in n), (56, Kimpl_isVersion @impl_isVersion n), (72, Kimpl_goodKind @impl_goodKind n), (73, Kimpl_goodName @impl_goodName n)] R) (mkL (mkK [(53, Kimpl_in @impl_in n), (56, Kimpl_isVersion @impl_isVersion n), (72, Kimpl_goodKind @impl_goodKind n), (73, Kimpl_goodName @impl_goodName n)]) [] R) Tryd.f47 Himpl_GoodEvent (PkS.pack Simpl_GoodEvent (x0, x1, x2, x3, ())) k = (fun (k : Bool → Option R) => (impl_in n x0 1 1000 fun r1 => (bif r1 then (impl_isVersion n x1 fun r2 => (bif r2 then (impl_goodKind n x2 fun r3 => (bif r3 then (impl_goodName n x3 fun r4 => k r4) else k false)) else k false)) else k false))) (fun r0 => k (PkS.pack Timpl_GoodEvent (r0, ()))) := by kernel_rfl
theorem okimpl_GoodEvent (n : Nat) : FnOk Tryd.prog 47 (Kimpl_GoodEvent @impl_GoodEvent n) := by
  refine fn_ok (sig := sig) mixed ttok (mkK_nat (cimpl_GoodEvent n)) (mkK_ok (cimpl_GoodEvent n)) (mkL_nat (mkK_nat (cimpl_GoodEvent n)) (l := []) trivial) (fn := Tryd.f47) (c := bodyOf Tryd.f47) (by kernel_rfl) (by kernel_rfl) (by kernel_rfl) (.eq (l := []) (by kernel_rfl) trivial) (shs := Himpl_GoodEvent) (S := Simpl_GoodEvent) (h1 := by kernel_rfl) fun R p k => ?_
  unfold Kimpl_GoodEvent
  cases h : (PkS.un Simpl_GoodEvent p) with
  | none => rfl
  | some d =>
    obtain ⟨x0, x1, x2, x3, u⟩ := (d : Int × Int × Int × ByteArray × Unit)
    have hp := PkS.un_pack h
    subst hp
    exact (eimpl_GoodEvent @impl_in @impl_isVersion @impl_goodKind @impl_goodName n x0 x1 x2 x3 k).symm

/-! ### loop.example/g00269/impl.ItemsOf -/
theorem cimpl_ItemsOf (n : Nat) : AllOk Tryd.prog [(46, Kimpl_appended @impl_appended n), (47, Kimpl_GoodEvent @impl_GoodEvent n)] := ⟨okimpl_appended n, ⟨okimpl_GoodEvent n, trivial⟩⟩
@[reducible] def Simpl_ItemsOf_l5 : PkS := ⟨[.one (.whole (100000, 0)), .one (.ro (.pr (.int .i64) (.pr (.int .i64) (.pr (.int .i64) .str)))), .one (.int .i64), .one (.int .i64), .one (.dead)], [((100000, 0), .arr (.pr (.int .i64) (.int .i64)))]⟩
@[reducible] def Timpl_ItemsOf_l5_0 : PkS := ⟨[.one (.whole (100000, 0)), .one (.bool), .one (.dead)], [((100000, 0), .arr (.pr (.int .i64) (.int .i64)))]⟩
@[reducible] def Timpl_ItemsOf_l5_1 : PkS := ⟨[.one (.whole (100000, 0)), .one (.dead)], [((100000, 0), .arr (.pr (.int .i64) (.int .i64)))]⟩
def Dimpl_ItemsOf_l5 : LoopD := ⟨38, [4, 13, 14, 15], [.one (.own (.pr (.int .i64) (.int .i64))), .one (.ro (.pr (.int .i64) (.pr (.int .i64) (.pr (.int .i64) .str)))), .one .any, .one .any, .skip], fun x => match x with
  | .ret => some ([2, 3], [.one (.own (.pr (.int .i64) (.int .i64))), .one .any, .skip])
  | .exit 0 => some ([4], [.one (.own (.pr (.int .i64) (.int .i64))), .skip])
  | _ => none⟩
def Pimpl_ItemsOf_l5 (g : ∀ {R : Type}, Nat → (List (Int × Int × Int × ByteArray)) → Int → Int → (List (Int × Int)) → (Bool → (List (Int × Int)) → Option R) → ((List (Int × Int)) → Option R) → Option R) (n : Nat) : LPs := fun R q kk => match (PkS.un Simpl_ItemsOf_l5 q : Option ((List (Int × Int × Int × ByteArray)) × Int × Int × (List (Int × Int)) × Unit)) with
  | some (y5_0, y5_1, y5_2, y5_3, _) => g n y5_0 y5_1 y5_2 y5_3 (fun r0 r1 => kk .ret (PkS.pack Timpl_ItemsOf_l5_0 (r0, r1, ()))) (fun r0 => kk (.exit 0) (PkS.pack Timpl_ItemsOf_l5_1 (r0, ())))
  | none => none
theorem eimpl_ItemsOf_l5 (impl_appended : ∀ {R : Type}, Nat → (List (Int × Int)) → Int → Int → (Bool → (List (Int × Int)) → Option R) → Option R) (impl_GoodEvent : ∀ {R : Type}, Nat → Int → Int → Int → ByteArray → (Bool → Option R) → Option R) (impl_ItemsOf_l5 : ∀ {R : Type}, Nat → (List (Int × Int × Int × ByteArray)) → Int → Int → (List (Int × Int)) → (Bool → (List (Int × Int)) → Option R) → ((List (Int × Int)) → Option R) → Option R) {R : Type} (n : Nat) (y5_0 : List (Int × Int × Int × ByteArray)) (y5_1 : Int) (y5_2 : Int) (y5_3 : List (Int × Int)) (kk : Ex → Pk → Option R) : Dimpl_ItemsOf_l5.step tt sig (mkK [(46, Kimpl_appended @impl_appended n), (47, Kimpl_GoodEvent @impl_GoodEvent n)] R) (mkL (mkK [(46, Kimpl_appended @impl_appended n), (47, Kimpl_GoodEvent @impl_GoodEvent n)]) [] R) (loopIn 5 (bodyOf Tryd.f12)) (fun q' => Pimpl_ItemsOf_l5 @impl_ItemsOf_l5 n R q' kk) (PkS.pack Simpl_ItemsOf_l5 (y5_0, y5_1, y5_2, y5_3, ())) kk = (fun (kret : Bool → (List (Int × Int)) → Option R) (kexit0 : (List (Int × Int)) → Option R) => (bif (decide (y5_2 < y5_1)) then (bif decide (0 ≤ y5_2) then (bif decide (y5_2 < (y5_0.length : Int)) then (impl_appended n y5_3 ((y5_0.getD (Int.toNat y5_2) (0, (0, (0, ByteArray.empty)))).1) ((y5_0.getD (Int.toNat y5_2) (0, (0, (0, ByteArray.empty)))).2.1) fun r1 r2 => (bif (!r1) then kret false ([] : List (Int × Int)) else (impl_GoodEvent n ((y5_0.getD (Int.toNat y5_2) (0, (0, (0, ByteArray.empty)))).1) ((y5_0.getD (Int.toNat y5_2) (0, (0, (0, ByteArray.empty)))).2.1) ((y5_0.getD (Int.toNat y5_2) (0, (0, (0, ByteArray.empty)))).2.2.1) ((y5_0.getD (Int.toNat y5_2) (0, (0, (0, ByteArray.empty)))).2.2.2) fun r3 => (bif (!r3) then kret false ([] : List (Int × Int)) else impl_ItemsOf_l5 n y5_0 y5_1 (IntKind.wrap .i64 (y5_2 + 1)) r2 kret kexit0)))) else none) else none) else kexit0 y5_3)) (fun r0 r1 => kk .ret (PkS.pack Timpl_ItemsOf_l5_0 (r0, r1, ()))) (fun r0 => kk (.exit 0) (PkS.pack Timpl_ItemsOf_l5_1 (r0, ()))) := by kernel_rfl
theorem leimpl_ItemsOf_l5 : LoopEq tt sig (fun n => mkK [(46, Kimpl_appended @impl_appended n), (47, Kimpl_GoodEvent @impl_GoodEvent n)]) (fun n => mkL (mkK [(46, Kimpl_appended @impl_appended n), (47, Kimpl_GoodEvent @impl_GoodEvent n)]) []) Dimpl_ItemsOf_l5 Simpl_ItemsOf_l5 (loopIn 5 (bodyOf Tryd.f12)) (Pimpl_ItemsOf_l5 @impl_ItemsOf_l5) where
  zero R q kk := by unfold Pimpl_ItemsOf_l5; cases (PkS.un Simpl_ItemsOf_l5 q) <;> rfl
  succ n R q kk := by
    unfold Pimpl_ItemsOf_l5
    cases h : (PkS.un Simpl_ItemsOf_l5 q) with
    | none => rfl
    | some d =>
      obtain ⟨y5_0, y5_1, y5_2, y5_3, u⟩ := (d : (List (Int × Int × Int × ByteArray)) × Int × Int × (List (Int × Int)) × Unit)
      have hp := PkS.un_pack h
      subst hp
      exact (eimpl_ItemsOf_l5 @impl_appended @impl_GoodEvent @impl_ItemsOf_l5 n y5_0 y5_1 y5_2 y5_3 kk).symm
theorem nlimpl_ItemsOf_l5 : ∀ n, NatLP (Pimpl_ItemsOf_l5 @impl_ItemsOf_l5 n) := leimpl_ItemsOf_l5.nat (fun n => mkK_nat (cimpl_ItemsOf n)) fun n => mkL_nat (mkK_nat (cimpl_ItemsOf n)) (l := []) trivial
theorem inimpl_ItemsOf_l5 (n : Nat) (R : Type) : LoopsOk Tryd.prog (mkL (mkK [(46, Kimpl_appended @impl_appended n), (47, Kimpl_GoodEvent @impl_GoodEvent n)]) [] R) (loopIn 5 (bodyOf Tryd.f12)) := .eq (l := []) (by kernel_rfl) trivial
theorem lkimpl_ItemsOf_l5 (n : Nat) (R : Type) (L0 : LK R) (h0 : ∀ id, firstRegion (loopIn 5 (bodyOf Tryd.f12)) = some id → L0 id = Dimpl_ItemsOf_l5.oracle (mkK [(46, Kimpl_appended @impl_appended n), (47, Kimpl_GoodEvent @impl_GoodEvent n)] R) (Pimpl_ItemsOf_l5 @impl_ItemsOf_l5 n R)) : LoopOk Tryd.prog L0 (loopIn 5 (bodyOf Tryd.f12)) :=
  leimpl_ItemsOf_l5.ok mixed ttok (fun n => mkK_nat (cimpl_ItemsOf n)) (fun n => mkK_ok (cimpl_ItemsOf n)) (fun n => inimpl_ItemsOf_l5 n R) (mkK_nat (cimpl_ItemsOf n)) h0
@[reducible] def Simpl_ItemsOf : PkS := ⟨[.one (.ro (.pr (.int .i64) (.pr (.int .i64) (.pr (.int .i64) .str))))], []⟩
@[reducible] def Timpl_ItemsOf : PkS := ⟨[.tup [(false, [.whole (300000, 0)]), (false, [.bool])], .one (.dead)], [((300000, 0), .arr (.pr (.int .i64) (.int .i64)))]⟩
def Himpl_ItemsOf : List Sh := [.tup [(false, [(.own (.pr (.int .i64) (.int .i64)))]), (false, [.any])], .skip]
def Kimpl_ItemsOf (g : ∀ {R : Type}, Nat → (List (Int × Int × Int × ByteArray)) → (Bool → (List (Int × Int)) → Option R) → Option R) (n : Nat) : KPs := fun R p k => match (PkS.un Simpl_ItemsOf p : Option ((List (Int × Int × Int × ByteArray)) × Unit)) with
  | some (x0, _) => g n x0 (fun r0 r1 => k (PkS.pack Timpl_ItemsOf (r0, r1, ())))
  | none => none
theorem eimpl_ItemsOf (impl_appended : ∀ {R : Type}, Nat → (List (Int × Int)) → Int → Int → (Bool → (List (Int × Int)) → Option R) → Option R) (impl_GoodEvent : ∀ {R : Type}, Nat → Int → Int → Int → ByteArray → (Bool → Option R) → Option R) (impl_ItemsOf_l5 : ∀ {R : Type}, Nat → (List (Int × Int × Int × ByteArray)) → Int → Int → (List (Int × Int)) → (Bool → (List (Int × Int)) → Option R) → ((List (Int × Int)) → Option R) → Option R) {R : Type} (n : Nat) (x0 : List (Int × Int × Int × ByteArray)) (k : Pk → Option R) : evF tt sig (mkK [(46, Kimpl_appended @impl_appended n), (47, Kimpl_GoodEvent @impl_GoodEvent n)] R) (mkL (mkK [(46, Kimpl_appended @impl_appended n), (47, Kimpl_GoodEvent @impl_GoodEvent n)]) [(5, Dimpl_ItemsOf_l5, Pimpl_ItemsOf_l5 @impl_ItemsOf_l5 n)] R) Tryd.f12 Himpl_ItemsOf (PkS.pack Simpl_ItemsOf (x0, ())) k = (fun (k : Bool → (List (Int × Int)) → Option R) => (bif (decide ((x0.length : Int) > 60)) then k false ([] : List (Int × Int)) else (impl_ItemsOf_l5 n x0 (x0.length : Int) 0 ([] : List (Int × Int)) (fun r4 r5 => k r4 r5) (fun r6 => k true r6)))) (fun r0 r1 => k (PkS.pack Timpl_ItemsOf (r0, r1, ()))) := by kernel_rfl
theorem okimpl_ItemsOf (n : Nat) : FnOk Tryd.prog 12 (Kimpl_ItemsOf @impl_ItemsOf n) := by
  refine fn_ok (sig := sig) mixed ttok (mkK_nat (cimpl_ItemsOf n)) (mkK_ok (cimpl_ItemsOf n)) (mkL_nat (mkK_nat (cimpl_ItemsOf n)) (l := [(5, Dimpl_ItemsOf_l5, Pimpl_ItemsOf_l5 @impl_ItemsOf_l5 n)]) ⟨nlimpl_ItemsOf_l5 n, trivial⟩) (fn := Tryd.f12) (c := bodyOf Tryd.f12) (by kernel_rfl) (by kernel_rfl) (by kernel_rfl) (.eq (l := [.lo (loopIn 5 (bodyOf Tryd.f12))]) (by kernel_rfl) ⟨(lkimpl_ItemsOf_l5 n _ _ (at_id (i := 5) (by kernel_rfl) rfl)), trivial⟩) (shs := Himpl_ItemsOf) (S := Simpl_ItemsOf) (h1 := by kernel_rfl) fun R p k => ?_
  unfold Kimpl_ItemsOf
  cases h : (PkS.un Simpl_ItemsOf p) with
  | none => rfl
  | some d =>
    obtain ⟨x0, u⟩ := (d : (List (Int × Int × Int × ByteArray)) × Unit)
    have hp := PkS.un_pack h
    subst hp
    exact (eimpl_ItemsOf @impl_appended @impl_GoodEvent @impl_ItemsOf_l5 n x0 k).symm

/-! ### loop.example/g00269/laws.eqItem -/
theorem claws_eqItem (n : Nat) : AllOk Tryd.prog [] := trivial
@[reducible] def Slaws_eqItem : PkS := ⟨[.agg [.int .i64, .int .i64], .agg [.int .i64, .int .i64]], []⟩
@[reducible] def Tlaws_eqItem : PkS := ⟨[.one (.bool), .one (.dead), .one (.dead)], []⟩
def Hlaws_eqItem : List Sh := [.one .any, .skip, .skip]
def Klaws_eqItem (g : ∀ {R : Type}, Nat → Int → Int → Int → Int → (Bool → Option R) → Option R) (n : Nat) : KPs := fun R p k => match (PkS.un Slaws_eqItem p : Option (Int × Int × Int × Int × Unit)) with
  | some (x0, x1, x2, x3, _) => g n x0 x1 x2 x3 (fun r0 => k (PkS.pack Tlaws_eqItem (r0, ())))
  | none => none
theorem elaws_eqItem  {R : Type} (n : Nat) (x0 : Int) (x1 : Int) (x2 : Int) (x3 : Int) (k : Pk → Option R) : evF tt sig (mkK [] R) (mkL (mkK []) [] R) Tryd.f48 Hlaws_eqItem (PkS.pack Slaws_eqItem (x0, x1, x2, x3, ())) k = (fun (k : Bool → Option R) => (bif (x0 != x2) then k false else (bif (x1 != x3) then k false else k true))) (fun r0 => k (PkS.pack Tlaws_eqItem (r0, ()))) := by kernel_rfl
theorem oklaws_eqItem (n : Nat) : FnOk Tryd.prog 48 (Klaws_eqItem @laws_eqItem n) := by
  refine fn_ok (sig := sig) mixed ttok (mkK_nat (claws_eqItem n)) (mkK_ok (claws_eqItem n)) (mkL_nat (mkK_nat (claws_eqItem n)) (l := []) trivial) (fn := Tryd.f48) (c := bodyOf Tryd.f48) (by kernel_rfl) (by kernel_rfl) (by kernel_rfl) (.eq (l := []) (by kernel_rfl) trivial) (shs := Hlaws_eqItem) (S := Slaws_eqItem) (h1 := by kernel_rfl) fun R p k => ?_
  unfold Klaws_eqItem
  cases h : (PkS.un Slaws_eqItem p) with
  | none => rfl
  | some d =>
    obtain ⟨x0, x1, x2, x3, u⟩ := (d : Int × Int × Int × Int × Unit)
    have hp := PkS.un_pack h
    subst hp
    exact (elaws_eqItem  n x0 x1 x2 x3 k).symm

/-! ### loop.example/g00269/laws.eqItemS -/
theorem claws_eqItemS (n : Nat) : AllOk Tryd.prog [(48, Klaws_eqItem @laws_eqItem n)] := ⟨oklaws_eqItem n, trivial⟩
@[reducible] def Slaws_eqItemS_l4 : PkS := ⟨[.one (.ro (.pr (.int .i64) (.int .i64))), .one (.ro (.pr (.int .i64) (.int .i64))), .one (.int .i64), .one (.dead), .one (.dead)], []⟩
@[reducible] def Tlaws_eqItemS_l4_0 : PkS := ⟨[.one (.bool), .one (.dead), .one (.dead)], []⟩
@[reducible] def Tlaws_eqItemS_l4_1 : PkS := ⟨[.one (.dead), .one (.dead)], []⟩
def Dlaws_eqItemS_l4 : LoopD := ⟨27, [0, 1, 5], [.one (.ro (.pr (.int .i64) (.int .i64))), .one (.ro (.pr (.int .i64) (.int .i64))), .one .any, .skip, .skip], fun x => match x with
  | .ret => some ([4], [.one .any, .skip, .skip])
  | .exit 0 => some ([], [.skip, .skip])
  | _ => none⟩
def Plaws_eqItemS_l4 (g : ∀ {R : Type}, Nat → (List (Int × Int)) → (List (Int × Int)) → Int → (Bool → Option R) → (Option R) → Option R) (n : Nat) : LPs := fun R q kk => match (PkS.un Slaws_eqItemS_l4 q : Option ((List (Int × Int)) × (List (Int × Int)) × Int × Unit)) with
  | some (y4_0, y4_1, y4_2, _) => g n y4_0 y4_1 y4_2 (fun r0 => kk .ret (PkS.pack Tlaws_eqItemS_l4_0 (r0, ()))) (kk (.exit 0) (PkS.pack Tlaws_eqItemS_l4_1 ()))
  | none => none
theorem elaws_eqItemS_l4 (laws_eqItem : ∀ {R : Type}, Nat → Int → Int → Int → Int → (Bool → Option R) → Option R) (laws_eqItemS_l4 : ∀ {R : Type}, Nat → (List (Int × Int)) → (List (Int × Int)) → Int → (Bool → Option R) → (Option R) → Option R) {R : Type} (n : Nat) (y4_0 : List (Int × Int)) (y4_1 : List (Int × Int)) (y4_2 : Int) (kk : Ex → Pk → Option R) : Dlaws_eqItemS_l4.step tt sig (mkK [(48, Klaws_eqItem @laws_eqItem n)] R) (mkL (mkK [(48, Klaws_eqItem @laws_eqItem n)]) [] R) (loopIn 4 (bodyOf Tryd.f13)) (fun q' => Plaws_eqItemS_l4 @laws_eqItemS_l4 n R q' kk) (PkS.pack Slaws_eqItemS_l4 (y4_0, y4_1, y4_2, ())) kk = (fun (kret : Bool → Option R) (kexit0 : Option R) => (bif (decide (y4_2 < (y4_0.length : Int))) then (bif decide (0 ≤ y4_2) then (bif decide (y4_2 < (y4_0.length : Int)) then (bif decide (0 ≤ y4_2) then (bif decide (y4_2 < (y4_1.length : Int)) then (laws_eqItem n ((y4_0.getD (Int.toNat y4_2) (0, 0)).1) ((y4_0.getD (Int.toNat y4_2) (0, 0)).2) ((y4_1.getD (Int.toNat y4_2) (0, 0)).1) ((y4_1.getD (Int.toNat y4_2) (0, 0)).2) fun r1 => (bif (!r1) then kret false else laws_eqItemS_l4 n y4_0 y4_1 (IntKind.wrap .i64 (y4_2 + 1)) kret kexit0)) else none) else none) else none) else none) else kexit0)) (fun r0 => kk .ret (PkS.pack Tlaws_eqItemS_l4_0 (r0, ()))) (kk (.exit 0) (PkS.pack Tlaws_eqItemS_l4_1 ())) := by kernel_rfl
theorem lelaws_eqItemS_l4 : LoopEq tt sig (fun n => mkK [(48, Klaws_eqItem @laws_eqItem n)]) (fun n => mkL (mkK [(48, Klaws_eqItem @laws_eqItem n)]) []) Dlaws_eqItemS_l4 Slaws_eqItemS_l4 (loopIn 4 (bodyOf Tryd.f13)) (Plaws_eqItemS_l4 @laws_eqItemS_l4) where
  zero R q kk := by unfold Plaws_eqItemS_l4; cases (PkS.un Slaws_eqItemS_l4 q) <;> rfl
  succ n R q kk := by
    unfold Plaws_eqItemS_l4
    cases h : (PkS.un Slaws_eqItemS_l4 q) with
    | none => rfl
    | some d =>
      obtain ⟨y4_0, y4_1, y4_2, u⟩ := (d : (List (Int × Int)) × (List (Int × Int)) × Int × Unit)
      have hp := PkS.un_pack h
      subst hp
      exact (elaws_eqItemS_l4 @laws_eqItem @laws_eqItemS_l4 n y4_0 y4_1 y4_2 kk).symm
theorem nllaws_eqItemS_l4 : ∀ n, NatLP (Plaws_eqItemS_l4 @laws_eqItemS_l4 n) := lelaws_eqItemS_l4.nat (fun n => mkK_nat (claws_eqItemS n)) fun n => mkL_nat (mkK_nat (claws_eqItemS n)) (l := []) trivial
theorem inlaws_eqItemS_l4 (n : Nat) (R : Type) : LoopsOk Tryd.prog (mkL (mkK [(48, Klaws_eqItem @laws_eqItem n)]) [] R) (loopIn 4 (bodyOf Tryd.f13)) := .eq (l := []) (by kernel_rfl) trivial
theorem lklaws_eqItemS_l4 (n : Nat) (R : Type) (L0 : LK R) (h0 : ∀ id, firstRegion (loopIn 4 (bodyOf Tryd.f13)) = some id → L0 id = Dlaws_eqItemS_l4.oracle (mkK [(48, Klaws_eqItem @laws_eqItem n)] R) (Plaws_eqItemS_l4 @laws_eqItemS_l4 n R)) : LoopOk Tryd.prog L0 (loopIn 4 (bodyOf Tryd.f13)) :=
  lelaws_eqItemS_l4.ok mixed ttok (fun n => mkK_nat (claws_eqItemS n)) (fun n => mkK_ok (claws_eqItemS n)) (fun n => inlaws_eqItemS_l4 n R) (mkK_nat (claws_eqItemS n)) h0
@[reducible] def Slaws_eqItemS : PkS := ⟨[.one (.ro (.pr (.int .i64) (.int .i64))), .one (.ro (.pr (.int .i64) (.int .i64)))], []⟩
@[reducible] def Tlaws_eqItemS : PkS := ⟨[.one (.bool), .one (.dead), .one (.dead)], []⟩
def Hlaws_eqItemS : List Sh := [.one .any, .skip, .skip]
def Klaws_eqItemS (g : ∀ {R : Type}, Nat → (List (Int × Int)) → (List (Int × Int)) → (Bool → Option R) → Option R) (n : Nat) : KPs := fun R p k => match (PkS.un Slaws_eqItemS p : Option ((List (Int × Int)) × (List (Int × Int)) × Unit)) with
  | some (x0, x1, _) => g n x0 x1 (fun r0 => k (PkS.pack Tlaws_eqItemS (r0, ())))
  | none => none
theorem elaws_eqItemS (laws_eqItem : ∀ {R : Type}, Nat → Int → Int → Int → Int → (Bool → Option R) → Option R) (laws_eqItemS_l4 : ∀ {R : Type}, Nat → (List (Int × Int)) → (List (Int × Int)) → Int → (Bool → Option R) → (Option R) → Option R) {R : Type} (n : Nat) (x0 : List (Int × Int)) (x1 : List (Int × Int)) (k : Pk → Option R) : evF tt sig (mkK [(48, Klaws_eqItem @laws_eqItem n)] R) (mkL (mkK [(48, Klaws_eqItem @laws_eqItem n)]) [(4, Dlaws_eqItemS_l4, Plaws_eqItemS_l4 @laws_eqItemS_l4 n)] R) Tryd.f13 Hlaws_eqItemS (PkS.pack Slaws_eqItemS (x0, x1, ())) k = (fun (k : Bool → Option R) => (bif ((x0.length : Int) != (x1.length : Int)) then k false else (laws_eqItemS_l4 n x0 x1 0 (fun r2 => k r2) (k true)))) (fun r0 => k (PkS.pack Tlaws_eqItemS (r0, ()))) := by kernel_rfl
theorem oklaws_eqItemS (n : Nat) : FnOk Tryd.prog 13 (Klaws_eqItemS @laws_eqItemS n) := by
  refine fn_ok (sig := sig) mixed ttok (mkK_nat (claws_eqItemS n)) (mkK_ok (claws_eqItemS n)) (mkL_nat (mkK_nat (claws_eqItemS n)) (l := [(4, Dlaws_eqItemS_l4, Plaws_eqItemS_l4 @laws_eqItemS_l4 n)]) ⟨nllaws_eqItemS_l4 n, trivial⟩) (fn := Tryd.f13) (c := bodyOf Tryd.f13) (by kernel_rfl) (by kernel_rfl) (by kernel_rfl) (.eq (l := [.lo (loopIn 4 (bodyOf Tryd.f13))]) (by kernel_rfl) ⟨(lklaws_eqItemS_l4 n _ _ (at_id (i := 4) (by kernel_rfl) rfl)), trivial⟩) (shs := Hlaws_eqItemS) (S := Slaws_eqItemS) (h1 := by kernel_rfl) fun R p k => ?_
  unfold Klaws_eqItemS
  cases h : (PkS.un Slaws_eqItemS p) with
  | none => rfl
  | some d =>
    obtain ⟨x0, x1, u⟩ := (d : (List (Int × Int)) × (List (Int × Int)) × Unit)
    have hp := PkS.un_pack h
    subst hp
    exact (elaws_eqItemS @laws_eqItem @laws_eqItemS_l4 n x0 x1 k).symm

/-! ### loop.example/g00269/laws.eqEvent -/
theorem claws_eqEvent (n : Nat) : AllOk Tryd.prog [] := trivial
@[reducible] def Slaws_eqEvent : PkS := ⟨[.agg [.int .i64, .int .i64, .int .i64, .str], .agg [.int .i64, .int .i64, .int .i64, .str]], []⟩
@[reducible] def Tlaws_eqEvent : PkS := ⟨[.one (.bool), .one (.dead), .one (.dead)], []⟩
def Hlaws_eqEvent : List Sh := [.one .any, .skip, .skip]
def Klaws_eqEvent (g : ∀ {R : Type}, Nat → Int → Int → Int → ByteArray → Int → Int → Int → ByteArray → (Bool → Option R) → Option R) (n : Nat) : KPs := fun R p k => match (PkS.un Slaws_eqEvent p : Option (Int × Int × Int × ByteArray × Int × Int × Int × ByteArray × Unit)) with
  | some (x0, x1, x2, x3, x4, x5, x6, x7, _) => g n x0 x1 x2 x3 x4 x5 x6 x7 (fun r0 => k (PkS.pack Tlaws_eqEvent (r0, ())))
  | none => none
theorem elaws_eqEvent  {R : Type} (n : Nat) (x0 : Int) (x1 : Int) (x2 : Int) (x3 : ByteArray) (x4 : Int) (x5 : Int) (x6 : Int) (x7 : ByteArray) (k : Pk → Option R) : evF tt sig (mkK [] R) (mkL (mkK []) [] R) Tryd.f49 Hlaws_eqEvent (PkS.pack Slaws_eqEvent (x0, x1, x2, x3, x4, x5, x6, x7, ())) k = (fun (k : Bool → Option R) => (bif (x0 != x4) then k false else (bif (x1 != x5) then k false else (bif (x2 != x6) then k false else (bif (!((ByteArray.toList x3) == (ByteArray.toList x7))) then k false else k true))))) (fun r0 => k (PkS.pack Tlaws_eqEvent (r0, ()))) := by kernel_rfl
theorem oklaws_eqEvent (n : Nat) : FnOk Tryd.prog 49 (Klaws_eqEvent @laws_eqEvent n) := by
  refine fn_ok (sig := sig) mixed ttok (mkK_nat (claws_eqEvent n)) (mkK_ok (claws_eqEvent n)) (mkL_nat (mkK_nat (claws_eqEvent n)) (l := []) trivial) (fn := Tryd.f49) (c := bodyOf Tryd.f49) (by kernel_rfl) (by kernel_rfl) (by kernel_rfl) (.eq (l := []) (by kernel_rfl) trivial) (shs := Hlaws_eqEvent) (S := Slaws_eqEvent) (h1 := by kernel_rfl) fun R p k => ?_
  unfold Klaws_eqEvent
  cases h : (PkS.un Slaws_eqEvent p) with
  | none => rfl
  | some d =>
    obtain ⟨x0, x1, x2, x3, x4, x5, x6, x7, u⟩ := (d : Int × Int × Int × ByteArray × Int × Int × Int × ByteArray × Unit)
    have hp := PkS.un_pack h
    subst hp
    exact (elaws_eqEvent  n x0 x1 x2 x3 x4 x5 x6 x7 k).symm

/-! ### loop.example/g00269/laws.eqEventS -/
theorem claws_eqEventS (n : Nat) : AllOk Tryd.prog [(49, Klaws_eqEvent @laws_eqEvent n)] := ⟨oklaws_eqEvent n, trivial⟩
@[reducible] def Slaws_eqEventS_l4 : PkS := ⟨[.one (.ro (.pr (.int .i64) (.pr (.int .i64) (.pr (.int .i64) .str)))), .one (.ro (.pr (.int .i64) (.pr (.int .i64) (.pr (.int .i64) .str)))), .one (.int .i64), .one (.dead), .one (.dead)], []⟩
@[reducible] def Tlaws_eqEventS_l4_0 : PkS := ⟨[.one (.bool), .one (.dead), .one (.dead)], []⟩
@[reducible] def Tlaws_eqEventS_l4_1 : PkS := ⟨[.one (.dead), .one (.dead)], []⟩
def Dlaws_eqEventS_l4 : LoopD := ⟨27, [0, 1, 5], [.one (.ro (.pr (.int .i64) (.pr (.int .i64) (.pr (.int .i64) .str)))), .one (.ro (.pr (.int .i64) (.pr (.int .i64) (.pr (.int .i64) .str)))), .one .any, .skip, .skip], fun x => match x with
  | .ret => some ([4], [.one .any, .skip, .skip])
  | .exit 0 => some ([], [.skip, .skip])
  | _ => none⟩
def Plaws_eqEventS_l4 (g : ∀ {R : Type}, Nat → (List (Int × Int × Int × ByteArray)) → (List (Int × Int × Int × ByteArray)) → Int → (Bool → Option R) → (Option R) → Option R) (n : Nat) : LPs := fun R q kk => match (PkS.un Slaws_eqEventS_l4 q : Option ((List (Int × Int × Int × ByteArray)) × (List (Int × Int × Int × ByteArray)) × Int × Unit)) with
  | some (y4_0, y4_1, y4_2, _) => g n y4_0 y4_1 y4_2 (fun r0 => kk .ret (PkS.pack Tlaws_eqEventS_l4_0 (r0, ()))) (kk (.exit 0) (PkS.pack Tlaws_eqEventS_l4_1 ()))
  | none => none
theorem elaws_eqEventS_l4 (laws_eqEvent : ∀ {R : Type}, Nat → Int → Int → Int → ByteArray → Int → Int → Int → ByteArray → (Bool → Option R) → Option R) (laws_eqEventS_l4 : ∀ {R : Type}, Nat → (List (Int × Int × Int × ByteArray)) → (List (Int × Int × Int × ByteArray)) → Int → (Bool → Option R) → (Option R) → Option R) {R : Type} (n : Nat) (y4_0 : List (Int × Int × Int × ByteArray)) (y4_1 : List (Int × Int × Int × ByteArray)) (y4_2 : Int) (kk : Ex → Pk → Option R) : Dlaws_eqEventS_l4.step tt sig (mkK [(49, Klaws_eqEvent @laws_eqEvent n)] R) (mkL (mkK [(49, Klaws_eqEvent @laws_eqEvent n)]) [] R) (loopIn 4 (bodyOf Tryd.f14)) (fun q' => Plaws_eqEventS_l4 @laws_eqEventS_l4 n R q' kk) (PkS.pack Slaws_eqEventS_l4 (y4_0, y4_1, y4_2, ())) kk = (fun (kret : Bool → Option R) (kexit0 : Option R) => (bif (decide (y4_2 < (y4_0.length : Int))) then (bif decide (0 ≤ y4_2) then (bif decide (y4_2 < (y4_0.length : Int)) then (bif decide (0 ≤ y4_2) then (bif decide (y4_2 < (y4_1.length : Int)) then (laws_eqEvent n ((y4_0.getD (Int.toNat y4_2) (0, (0, (0, ByteArray.empty)))).1) ((y4_0.getD (Int.toNat y4_2) (0, (0, (0, ByteArray.empty)))).2.1) ((y4_0.getD (Int.toNat y4_2) (0, (0, (0, ByteArray.empty)))).2.2.1) ((y4_0.getD (Int.toNat y4_2) (0, (0, (0, ByteArray.empty)))).2.2.2) ((y4_1.getD (Int.toNat y4_2) (0, (0, (0, ByteArray.empty)))).1) ((y4_1.getD (Int.toNat y4_2) (0, (0, (0, ByteArray.empty)))).2.1) ((y4_1.getD (Int.toNat y4_2) (0, (0, (0, ByteArray.empty)))).2.2.1) ((y4_1.getD (Int.toNat y4_2) (0, (0, (0, ByteArray.empty)))).2.2.2) fun r1 => (bif (!r1) then kret false else laws_eqEventS_l4 n y4_0 y4_1 (IntKind.wrap .i64 (y4_2 + 1)) kret kexit0)) else none) else none) else none) else none) else kexit0)) (fun r0 => kk .ret (PkS.pack Tlaws_eqEventS_l4_0 (r0, ()))) (kk (.exit 0) (PkS.pack Tlaws_eqEventS_l4_1 ())) := by kernel_rfl
theorem lelaws_eqEventS_l4 : LoopEq tt sig (fun n => mkK [(49, Klaws_eqEvent @laws_eqEvent n)]) (fun n => mkL (mkK [(49, Klaws_eqEvent @laws_eqEvent n)]) []) Dlaws_eqEventS_l4 Slaws_eqEventS_l4 (loopIn 4 (bodyOf Tryd.f14)) (Plaws_eqEventS_l4 @laws_eqEventS_l4) where
  zero R q kk := by unfold Plaws_eqEventS_l4; cases (PkS.un Slaws_eqEventS_l4 q) <;> rfl
  succ n R q kk := by
    unfold Plaws_eqEventS_l4
    cases h : (PkS.un Slaws_eqEventS_l4 q) with
    | none => rfl
    | some d =>
      obtain ⟨y4_0, y4_1, y4_2, u⟩ := (d : (List (Int × Int × Int × ByteArray)) × (List (Int × Int × Int × ByteArray)) × Int × Unit)
      have hp := PkS.un_pack h
      subst hp
      exact (elaws_eqEventS_l4 @laws_eqEvent @laws_eqEventS_l4 n y4_0 y4_1 y4_2 kk).symm
theorem nllaws_eqEventS_l4 : ∀ n, NatLP (Plaws_eqEventS_l4 @laws_eqEventS_l4 n) := lelaws_eqEventS_l4.nat (fun n => mkK_nat (claws_eqEventS n)) fun n => mkL_nat (mkK_nat (claws_eqEventS n)) (l := []) trivial
theorem inlaws_eqEventS_l4 (n : Nat) (R : Type) : LoopsOk Tryd.prog (mkL (mkK [(49, Klaws_eqEvent @laws_eqEvent n)]) [] R) (loopIn 4 (bodyOf Tryd.f14)) := .eq (l := []) (by kernel_rfl) trivial
theorem lklaws_eqEventS_l4 (n : Nat) (R : Type) (L0 : LK R) (h0 : ∀ id, firstRegion (loopIn 4 (bodyOf Tryd.f14)) = some id → L0 id = Dlaws_eqEventS_l4.oracle (mkK [(49, Klaws_eqEvent @laws_eqEvent n)] R) (Plaws_eqEventS_l4 @laws_eqEventS_l4 n R)) : LoopOk Tryd.prog L0 (loopIn 4 (bodyOf Tryd.f14)) :=
  lelaws_eqEventS_l4.ok mixed ttok (fun n => mkK_nat (claws_eqEventS n)) (fun n => mkK_ok (claws_eqEventS n)) (fun n => inlaws_eqEventS_l4 n R) (mkK_nat (claws_eqEventS n)) h0
@[reducible] def Slaws_eqEventS : PkS := ⟨[.one (.ro (.pr (.int .i64) (.pr (.int .i64) (.pr (.int .i64) .str)))), .one (.ro (.pr (.int .i64) (.pr (.int .i64) (.pr (.int .i64) .str))))], []⟩
@[reducible] def Tlaws_eqEventS : PkS := ⟨[.one (.bool), .one (.dead), .one (.dead)], []⟩
def Hlaws_eqEventS : List Sh := [.one .any, .skip, .skip]
def Klaws_eqEventS (g : ∀ {R : Type}, Nat → (List (Int × Int × Int × ByteArray)) → (List (Int × Int × Int × ByteArray)) → (Bool → Option R) → Option R) (n : Nat) : KPs := fun R p k => match (PkS.un Slaws_eqEventS p : Option ((List (Int × Int × Int × ByteArray)) × (List (Int × Int × Int × ByteArray)) × Unit)) with
  | some (x0, x1, _) => g n x0 x1 (fun r0 => k (PkS.pack Tlaws_eqEventS (r0, ())))
  | none => none
theorem elaws_eqEventS (laws_eqEvent : ∀ {R : Type}, Nat → Int → Int → Int → ByteArray → Int → Int → Int → ByteArray → (Bool → Option R) → Option R) (laws_eqEventS_l4 : ∀ {R : Type}, Nat → (List (Int × Int × Int × ByteArray)) → (List (Int × Int × Int × ByteArray)) → Int → (Bool → Option R) → (Option R) → Option R) {R : Type} (n : Nat) (x0 : List (Int × Int × Int × ByteArray)) (x1 : List (Int × Int × Int × ByteArray)) (k : Pk → Option R) : evF tt sig (mkK [(49, Klaws_eqEvent @laws_eqEvent n)] R) (mkL (mkK [(49, Klaws_eqEvent @laws_eqEvent n)]) [(4, Dlaws_eqEventS_l4, Plaws_eqEventS_l4 @laws_eqEventS_l4 n)] R) Tryd.f14 Hlaws_eqEventS (PkS.pack Slaws_eqEventS (x0, x1, ())) k = (fun (k : Bool → Option R) => (bif ((x0.length : Int) != (x1.length : Int)) then k false else (laws_eqEventS_l4 n x0 x1 0 (fun r2 => k r2) (k true)))) (fun r0 => k (PkS.pack Tlaws_eqEventS (r0, ()))) := by kernel_rfl
theorem oklaws_eqEventS (n : Nat) : FnOk Tryd.prog 14 (Klaws_eqEventS @laws_eqEventS n) := by
  refine fn_ok (sig := sig) mixed ttok (mkK_nat (claws_eqEventS n)) (mkK_ok (claws_eqEventS n)) (mkL_nat (mkK_nat (claws_eqEventS n)) (l := [(4, Dlaws_eqEventS_l4, Plaws_eqEventS_l4 @laws_eqEventS_l4 n)]) ⟨nllaws_eqEventS_l4 n, trivial⟩) (fn := Tryd.f14) (c := bodyOf Tryd.f14) (by kernel_rfl) (by kernel_rfl) (by kernel_rfl) (.eq (l := [.lo (loopIn 4 (bodyOf Tryd.f14))]) (by kernel_rfl) ⟨(lklaws_eqEventS_l4 n _ _ (at_id (i := 4) (by kernel_rfl) rfl)), trivial⟩) (shs := Hlaws_eqEventS) (S := Slaws_eqEventS) (h1 := by kernel_rfl) fun R p k => ?_
  unfold Klaws_eqEventS
  cases h : (PkS.un Slaws_eqEventS p) with
  | none => rfl
  | some d =>
    obtain ⟨x0, x1, u⟩ := (d : (List (Int × Int × Int × ByteArray)) × (List (Int × Int × Int × ByteArray)) × Unit)
    have hp := PkS.un_pack h
    subst hp
    exact (elaws_eqEventS @laws_eqEvent @laws_eqEventS_l4 n x0 x1 k).symm

/-! ### loop.example/g00269/laws.markText -/
theorem claws_markText (n : Nat) : AllOk Tryd.prog [] := trivial
@[reducible] def Slaws_markText_l4 : PkS := ⟨[.one (.int .i64), .one (.str), .one (.dead)], []⟩
@[reducible] def Tlaws_markText_l4_0 : PkS := ⟨[.one (.str), .one (.dead)], []⟩
def Dlaws_markText_l4 : LoopD := ⟨20, [0, 3], [.one .any, .one .any, .skip], fun x => match x with
  | .exit 0 => some ([3], [.one .any, .skip])
  | _ => none⟩
def Plaws_markText_l4 (g : ∀ {R : Type}, Nat → Int → ByteArray → (ByteArray → Option R) → Option R) (n : Nat) : LPs := fun R q kk => match (PkS.un Slaws_markText_l4 q : Option (Int × ByteArray × Unit)) with
  | some (y4_0, y4_1, _) => g n y4_0 y4_1 (fun r0 => kk (.exit 0) (PkS.pack Tlaws_markText_l4_0 (r0, ())))
  | none => none
theorem elaws_markText_l4 (laws_markText_l4 : ∀ {R : Type}, Nat → Int → ByteArray → (ByteArray → Option R) → Option R) {R : Type} (n : Nat) (y4_0 : Int) (y4_1 : ByteArray) (kk : Ex → Pk → Option R) : Dlaws_markText_l4.step tt sig (mkK [] R) (mkL (mkK []) [] R) (loopIn 4 (bodyOf Tryd.f50)) (fun q' => Plaws_markText_l4 @laws_markText_l4 n R q' kk) (PkS.pack Slaws_markText_l4 (y4_0, y4_1, ())) kk = (fun (kexit0 : ByteArray → Option R) => (bif (decide (y4_0 > 0)) then (bif decide ((bytesOf ([(IntKind.wrap .u8 ((IntKind.wrap .i64 (48 + (Int.tmod y4_0 10)))))])).size + y4_1.size ≤ STR) then laws_markText_l4 n (IntKind.wrap .i64 (Int.tdiv y4_0 10)) ((bytesOf ([(IntKind.wrap .u8 ((IntKind.wrap .i64 (48 + (Int.tmod y4_0 10)))))])) ++ y4_1) kexit0 else none) else kexit0 y4_1)) (fun r0 => kk (.exit 0) (PkS.pack Tlaws_markText_l4_0 (r0, ()))) := by kernel_rfl
theorem lelaws_markText_l4 : LoopEq tt sig (fun n => mkK []) (fun n => mkL (mkK []) []) Dlaws_markText_l4 Slaws_markText_l4 (loopIn 4 (bodyOf Tryd.f50)) (Plaws_markText_l4 @laws_markText_l4) where
  zero R q kk := by unfold Plaws_markText_l4; cases (PkS.un Slaws_markText_l4 q) <;> rfl
  succ n R q kk := by
    unfold Plaws_markText_l4
    cases h : (PkS.un Slaws_markText_l4 q) with
    | none => rfl
    | some d =>
      obtain ⟨y4_0, y4_1, u⟩ := (d : Int × ByteArray × Unit)
      have hp := PkS.un_pack h
      subst hp
      exact (elaws_markText_l4 @laws_markText_l4 n y4_0 y4_1 kk).symm
theorem nllaws_markText_l4 : ∀ n, NatLP (Plaws_markText_l4 @laws_markText_l4 n) := lelaws_markText_l4.nat (fun n => mkK_nat (claws_markText n)) fun n => mkL_nat (mkK_nat (claws_markText n)) (l := []) trivial
theorem inlaws_markText_l4 (n : Nat) (R : Type) : LoopsOk Tryd.prog (mkL (mkK []) [] R) (loopIn 4 (bodyOf Tryd.f50)) := .eq (l := []) (by kernel_rfl) trivial
theorem lklaws_markText_l4 (n : Nat) (R : Type) (L0 : LK R) (h0 : ∀ id, firstRegion (loopIn 4 (bodyOf Tryd.f50)) = some id → L0 id = Dlaws_markText_l4.oracle (mkK [] R) (Plaws_markText_l4 @laws_markText_l4 n R)) : LoopOk Tryd.prog L0 (loopIn 4 (bodyOf Tryd.f50)) :=
  lelaws_markText_l4.ok mixed ttok (fun n => mkK_nat (claws_markText n)) (fun n => mkK_ok (claws_markText n)) (fun n => inlaws_markText_l4 n R) (mkK_nat (claws_markText n)) h0
@[reducible] def Slaws_markText : PkS := ⟨[.one (.int .i64)], []⟩
@[reducible] def Tlaws_markText : PkS := ⟨[.one (.str), .one (.dead)], []⟩
def Hlaws_markText : List Sh := [.one .any, .skip]
def Klaws_markText (g : ∀ {R : Type}, Nat → Int → (ByteArray → Option R) → Option R) (n : Nat) : KPs := fun R p k => match (PkS.un Slaws_markText p : Option (Int × Unit)) with
  | some (x0, _) => g n x0 (fun r0 => k (PkS.pack Tlaws_markText (r0, ())))
  | none => none
theorem elaws_markText (laws_markText_l4 : ∀ {R : Type}, Nat → Int → ByteArray → (ByteArray → Option R) → Option R) {R : Type} (n : Nat) (x0 : Int) (k : Pk → Option R) : evF tt sig (mkK [] R) (mkL (mkK []) [(4, Dlaws_markText_l4, Plaws_markText_l4 @laws_markText_l4 n)] R) Tryd.f50 Hlaws_markText (PkS.pack Slaws_markText (x0, ())) k = (fun (k : ByteArray → Option R) => (bif (decide (x0 ≤ 0)) then k (ByteArray.mk #[109, 48]) else (laws_markText_l4 n x0 (ByteArray.mk #[]) (fun r1 => (bif decide ((ByteArray.mk #[109]).size + r1.size ≤ STR) then k ((ByteArray.mk #[109]) ++ r1) else none))))) (fun r0 => k (PkS.pack Tlaws_markText (r0, ()))) := by kernel_rfl
theorem oklaws_markText (n : Nat) : FnOk Tryd.prog 50 (Klaws_markText @laws_markText n) := by
  refine fn_ok (sig := sig) mixed ttok (mkK_nat (claws_markText n)) (mkK_ok (claws_markText n)) (mkL_nat (mkK_nat (claws_markText n)) (l := [(4, Dlaws_markText_l4, Plaws_markText_l4 @laws_markText_l4 n)]) ⟨nllaws_markText_l4 n, trivial⟩) (fn := Tryd.f50) (c := bodyOf Tryd.f50) (by kernel_rfl) (by kernel_rfl) (by kernel_rfl) (.eq (l := [.lo (loopIn 4 (bodyOf Tryd.f50))]) (by kernel_rfl) ⟨(lklaws_markText_l4 n _ _ (at_id (i := 4) (by kernel_rfl) rfl)), trivial⟩) (shs := Hlaws_markText) (S := Slaws_markText) (h1 := by kernel_rfl) fun R p k => ?_
  unfold Klaws_markText
  cases h : (PkS.un Slaws_markText p) with
  | none => rfl
  | some d =>
    obtain ⟨x0, u⟩ := (d : Int × Unit)
    have hp := PkS.un_pack h
    subst hp
    exact (elaws_markText @laws_markText_l4 n x0 k).symm

/-! ### loop.example/g00269/laws.markEventS -/
theorem claws_markEventS (n : Nat) : AllOk Tryd.prog [(50, Klaws_markText @laws_markText n)] := ⟨oklaws_markText n, trivial⟩
@[reducible] def Slaws_markEventS_l2 : PkS := ⟨[.one (.whole (100000, 0)), .one (.int .i64), .one (.int .i64), .one (.whole (100000, 0)), .one (.dead)], [((100000, 0), .arr (.pr (.int .i64) (.pr (.int .i64) (.pr (.int .i64) .str))))]⟩
@[reducible] def Tlaws_markEventS_l2_0 : PkS := ⟨[.one (.int .i64), .one (.whole (100000, 0)), .one (.dead)], [((100000, 0), .arr (.pr (.int .i64) (.pr (.int .i64) (.pr (.int .i64) .str))))]⟩
def Dlaws_markEventS_l2 : LoopD := ⟨42, [0, 1, 5], [.one (.own (.pr (.int .i64) (.pr (.int .i64) (.pr (.int .i64) .str)))), .one .any, .one .any, .one (.own (.pr (.int .i64) (.pr (.int .i64) (.pr (.int .i64) .str)))), .skip], fun x => match x with
  | .exit 0 => some ([1], [.one .any, .one (.own (.pr (.int .i64) (.pr (.int .i64) (.pr (.int .i64) .str)))), .skip])
  | _ => none⟩
def Plaws_markEventS_l2 (g : ∀ {R : Type}, Nat → Int → Int → (List (Int × Int × Int × ByteArray)) → (Int → (List (Int × Int × Int × ByteArray)) → Option R) → Option R) (n : Nat) : LPs := fun R q kk => match (PkS.un Slaws_markEventS_l2 q : Option (Int × Int × (List (Int × Int × Int × ByteArray)) × Unit)) with
  | some (y2_0, y2_1, y2_2, _) => g n y2_0 y2_1 y2_2 (fun r0 r1 => kk (.exit 0) (PkS.pack Tlaws_markEventS_l2_0 (r0, r1, ())))
  | none => none
theorem elaws_markEventS_l2 (laws_markText : ∀ {R : Type}, Nat → Int → (ByteArray → Option R) → Option R) (laws_markEventS_l2 : ∀ {R : Type}, Nat → Int → Int → (List (Int × Int × Int × ByteArray)) → (Int → (List (Int × Int × Int × ByteArray)) → Option R) → Option R) {R : Type} (n : Nat) (y2_0 : Int) (y2_1 : Int) (y2_2 : List (Int × Int × Int × ByteArray)) (kk : Ex → Pk → Option R) : Dlaws_markEventS_l2.step tt sig (mkK [(50, Klaws_markText @laws_markText n)] R) (mkL (mkK [(50, Klaws_markText @laws_markText n)]) [] R) (loopIn 2 (bodyOf Tryd.f15)) (fun q' => Plaws_markEventS_l2 @laws_markEventS_l2 n R q' kk) (PkS.pack Slaws_markEventS_l2 (y2_0, y2_1, y2_2, ())) kk = (fun (kexit0 : Int → (List (Int × Int × Int × ByteArray)) → Option R) => (bif (decide (y2_1 < (y2_2.length : Int))) then (bif decide (0 ≤ y2_1) then (bif decide (y2_1 < (y2_2.length : Int)) then (bif decide (0 ≤ y2_1) then (bif decide (y2_1 < ((y2_2.set (Int.toNat y2_1) (y2_0, (y2_2.getD (Int.toNat y2_1) (0, (0, (0, ByteArray.empty)))).2)).length : Int)) then (bif decide (0 ≤ y2_1) then (bif decide (y2_1 < (((y2_2.set (Int.toNat y2_1) (y2_0, (y2_2.getD (Int.toNat y2_1) (0, (0, (0, ByteArray.empty)))).2)).set (Int.toNat y2_1) (((y2_2.set (Int.toNat y2_1) (y2_0, (y2_2.getD (Int.toNat y2_1) (0, (0, (0, ByteArray.empty)))).2)).getD (Int.toNat y2_1) (0, (0, (0, ByteArray.empty)))).1, ((IntKind.wrap .i64 (y2_0 + 1)), ((y2_2.set (Int.toNat y2_1) (y2_0, (y2_2.getD (Int.toNat y2_1) (0, (0, (0, ByteArray.empty)))).2)).getD (Int.toNat y2_1) (0, (0, (0, ByteArray.empty)))).2.2))).length : Int)) then (laws_markText n (IntKind.wrap .i64 ((IntKind.wrap .i64 ((IntKind.wrap .i64 (y2_0 + 1)) + 1)) + 1)) fun r1 => (bif decide (0 ≤ y2_1) then (bif decide (y2_1 < ((((y2_2.set (Int.toNat y2_1) (y2_0, (y2_2.getD (Int.toNat y2_1) (0, (0, (0, ByteArray.empty)))).2)).set (Int.toNat y2_1) (((y2_2.set (Int.toNat y2_1) (y2_0, (y2_2.getD (Int.toNat y2_1) (0, (0, (0, ByteArray.empty)))).2)).getD (Int.toNat y2_1) (0, (0, (0, ByteArray.empty)))).1, ((IntKind.wrap .i64 (y2_0 + 1)), ((y2_2.set (Int.toNat y2_1) (y2_0, (y2_2.getD (Int.toNat y2_1) (0, (0, (0, ByteArray.empty)))).2)).getD (Int.toNat y2_1) (0, (0, (0, ByteArray.empty)))).2.2))).set (Int.toNat y2_1) ((((y2_2.set (Int.toNat y2_1) (y2_0, (y2_2.getD (Int.toNat y2_1) (0, (0, (0, ByteArray.empty)))).2)).set (Int.toNat y2_1) (((y2_2.set (Int.toNat y2_1) (y2_0, (y2_2.getD (Int.toNat y2_1) (0, (0, (0, ByteArray.empty)))).2)).getD (Int.toNat y2_1) (0, (0, (0, ByteArray.empty)))).1, ((IntKind.wrap .i64 (y2_0 + 1)), ((y2_2.set (Int.toNat y2_1) (y2_0, (y2_2.getD (Int.toNat y2_1) (0, (0, (0, ByteArray.empty)))).2)).getD (Int.toNat y2_1) (0, (0, (0, ByteArray.empty)))).2.2))).getD (Int.toNat y2_1) (0, (0, (0, ByteArray.empty)))).1, ((((y2_2.set (Int.toNat y2_1) (y2_0, (y2_2.getD (Int.toNat y2_1) (0, (0, (0, ByteArray.empty)))).2)).set (Int.toNat y2_1) (((y2_2.set (Int.toNat y2_1) (y2_0, (y2_2.getD (Int.toNat y2_1) (0, (0, (0, ByteArray.empty)))).2)).getD (Int.toNat y2_1) (0, (0, (0, ByteArray.empty)))).1, ((IntKind.wrap .i64 (y2_0 + 1)), ((y2_2.set (Int.toNat y2_1) (y2_0, (y2_2.getD (Int.toNat y2_1) (0, (0, (0, ByteArray.empty)))).2)).getD (Int.toNat y2_1) (0, (0, (0, ByteArray.empty)))).2.2))).getD (Int.toNat y2_1) (0, (0, (0, ByteArray.empty)))).2.1, ((IntKind.wrap .i64 ((IntKind.wrap .i64 (y2_0 + 1)) + 1)), (((y2_2.set (Int.toNat y2_1) (y2_0, (y2_2.getD (Int.toNat y2_1) (0, (0, (0, ByteArray.empty)))).2)).set (Int.toNat y2_1) (((y2_2.set (Int.toNat y2_1) (y2_0, (y2_2.getD (Int.toNat y2_1) (0, (0, (0, ByteArray.empty)))).2)).getD (Int.toNat y2_1) (0, (0, (0, ByteArray.empty)))).1, ((IntKind.wrap .i64 (y2_0 + 1)), ((y2_2.set (Int.toNat y2_1) (y2_0, (y2_2.getD (Int.toNat y2_1) (0, (0, (0, ByteArray.empty)))).2)).getD (Int.toNat y2_1) (0, (0, (0, ByteArray.empty)))).2.2))).getD (Int.toNat y2_1) (0, (0, (0, ByteArray.empty)))).2.2.2)))).length : Int)) then laws_markEventS_l2 n (IntKind.wrap .i64 ((IntKind.wrap .i64 ((IntKind.wrap .i64 ((IntKind.wrap .i64 (y2_0 + 1)) + 1)) + 1)) + 1)) (IntKind.wrap .i64 (y2_1 + 1)) ((((y2_2.set (Int.toNat y2_1) (y2_0, (y2_2.getD (Int.toNat y2_1) (0, (0, (0, ByteArray.empty)))).2)).set (Int.toNat y2_1) (((y2_2.set (Int.toNat y2_1) (y2_0, (y2_2.getD (Int.toNat y2_1) (0, (0, (0, ByteArray.empty)))).2)).getD (Int.toNat y2_1) (0, (0, (0, ByteArray.empty)))).1, ((IntKind.wrap .i64 (y2_0 + 1)), ((y2_2.set (Int.toNat y2_1) (y2_0, (y2_2.getD (Int.toNat y2_1) (0, (0, (0, ByteArray.empty)))).2)).getD (Int.toNat y2_1) (0, (0, (0, ByteArray.empty)))).2.2))).set (Int.toNat y2_1) ((((y2_2.set (Int.toNat y2_1) (y2_0, (y2_2.getD (Int.toNat y2_1) (0, (0, (0, ByteArray.empty)))).2)).set (Int.toNat y2_1) (((y2_2.set (Int.toNat y2_1) (y2_0, (y2_2.getD (Int.toNat y2_1) (0, (0, (0, ByteArray.empty)))).2)).getD (Int.toNat y2_1) (0, (0, (0, ByteArray.empty)))).1, ((IntKind.wrap .i64 (y2_0 + 1)), ((y2_2.set (Int.toNat y2_1) (y2_0, (y2_2.getD (Int.toNat y2_1) (0, (0, (0, ByteArray.empty)))).2)).getD (Int.toNat y2_1) (0, (0, (0, ByteArray.empty)))).2.2))).getD (Int.toNat y2_1) (0, (0, (0, ByteArray.empty)))).1, ((((y2_2.set (Int.toNat y2_1) (y2_0, (y2_2.getD (Int.toNat y2_1) (0, (0, (0, ByteArray.empty)))).2)).set (Int.toNat y2_1) (((y2_2.set (Int.toNat y2_1) (y2_0, (y2_2.getD (Int.toNat y2_1) (0, (0, (0, ByteArray.empty)))).2)).getD (Int.toNat y2_1) (0, (0, (0, ByteArray.empty)))).1, ((IntKind.wrap .i64 (y2_0 + 1)), ((y2_2.set (Int.toNat y2_1) (y2_0, (y2_2.getD (Int.toNat y2_1) (0, (0, (0, ByteArray.empty)))).2)).getD (Int.toNat y2_1) (0, (0, (0, ByteArray.empty)))).2.2))).getD (Int.toNat y2_1) (0, (0, (0, ByteArray.empty)))).2.1, ((IntKind.wrap .i64 ((IntKind.wrap .i64 (y2_0 + 1)) + 1)), (((y2_2.set (Int.toNat y2_1) (y2_0, (y2_2.getD (Int.toNat y2_1) (0, (0, (0, ByteArray.empty)))).2)).set (Int.toNat y2_1) (((y2_2.set (Int.toNat y2_1) (y2_0, (y2_2.getD (Int.toNat y2_1) (0, (0, (0, ByteArray.empty)))).2)).getD (Int.toNat y2_1) (0, (0, (0, ByteArray.empty)))).1, ((IntKind.wrap .i64 (y2_0 + 1)), ((y2_2.set (Int.toNat y2_1) (y2_0, (y2_2.getD (Int.toNat y2_1) (0, (0, (0, ByteArray.empty)))).2)).getD (Int.toNat y2_1) (0, (0, (0, ByteArray.empty)))).2.2))).getD (Int.toNat y2_1) (0, (0, (0, ByteArray.empty)))).2.2.2)))).set (Int.toNat y2_1) (((((y2_2.set (Int.toNat y2_1) (y2_0, (y2_2.getD (Int.toNat y2_1) (0, (0, (0, ByteArray.empty)))).2)).set (Int.toNat y2_1) (((y2_2.set (Int.toNat y2_1) (y2_0, (y2_2.getD (Int.toNat y2_1) (0, (0, (0, ByteArray.empty)))).2)).getD (Int.toNat y2_1) (0, (0, (0, ByteArray.empty)))).1, ((IntKind.wrap .i64 (y2_0 + 1)), ((y2_2.set (Int.toNat y2_1) (y2_0, (y2_2.getD (Int.toNat y2_1) (0, (0, (0, ByteArray.empty)))).2)).getD (Int.toNat y2_1) (0, (0, (0, ByteArray.empty)))).2.2))).set (Int.toNat y2_1) ((((y2_2.set (Int.toNat y2_1) (y2_0, (y2_2.getD (Int.toNat y2_1) (0, (0, (0, ByteArray.empty)))).2)).set (Int.toNat y2_1) (((y2_2.set (Int.toNat y2_1) (y2_0, (y2_2.getD (Int.toNat y2_1) (0, (0, (0, ByteArray.empty)))).2)).getD (Int.toNat y2_1) (0, (0, (0, ByteArray.empty)))).1, ((IntKind.wrap .i64 (y2_0 + 1)), ((y2_2.set (Int.toNat y2_1) (y2_0, (y2_2.getD (Int.toNat y2_1) (0, (0, (0, ByteArray.empty)))).2)).getD (Int.toNat y2_1) (0, (0, (0, ByteArray.empty)))).2.2))).getD (Int.toNat y2_1) (0, (0, (0, ByteArray.empty)))).1, ((((y2_2.set (Int.toNat y2_1) (y2_0, (y2_2.getD (Int.toNat y2_1) (0, (0, (0, ByteArray.empty)))).2)).set (Int.toNat y2_1) (((y2_2.set (Int.toNat y2_1) (y2_0, (y2_2.getD (Int.toNat y2_1) (0, (0, (0, ByteArray.empty)))).2)).getD (Int.toNat y2_1) (0, (0, (0, ByteArray.empty)))).1, ((IntKind.wrap .i64 (y2_0 + 1)), ((y2_2.set (Int.toNat y2_1) (y2_0, (y2_2.getD (Int.toNat y2_1) (0, (0, (0, ByteArray.empty)))).2)).getD (Int.toNat y2_1) (0, (0, (0, ByteArray.empty)))).2.2))).getD (Int.toNat y2_1) (0, (0, (0, ByteArray.empty)))).2.1, ((IntKind.wrap .i64 ((IntKind.wrap .i64 (y2_0 + 1)) + 1)), (((y2_2.set (Int.toNat y2_1) (y2_0, (y2_2.getD (Int.toNat y2_1) (0, (0, (0, ByteArray.empty)))).2)).set (Int.toNat y2_1) (((y2_2.set (Int.toNat y2_1) (y2_0, (y2_2.getD (Int.toNat y2_1) (0, (0, (0, ByteArray.empty)))).2)).getD (Int.toNat y2_1) (0, (0, (0, ByteArray.empty)))).1, ((IntKind.wrap .i64 (y2_0 + 1)), ((y2_2.set (Int.toNat y2_1) (y2_0, (y2_2.getD (Int.toNat y2_1) (0, (0, (0, ByteArray.empty)))).2)).getD (Int.toNat y2_1) (0, (0, (0, ByteArray.empty)))).2.2))).getD (Int.toNat y2_1) (0, (0, (0, ByteArray.empty)))).2.2.2)))).getD (Int.toNat y2_1) (0, (0, (0, ByteArray.empty)))).1, (((((y2_2.set (Int.toNat y2_1) (y2_0, (y2_2.getD (Int.toNat y2_1) (0, (0, (0, ByteArray.empty)))).2)).set (Int.toNat y2_1) (((y2_2.set (Int.toNat y2_1) (y2_0, (y2_2.getD (Int.toNat y2_1) (0, (0, (0, ByteArray.empty)))).2)).getD (Int.toNat y2_1) (0, (0, (0, ByteArray.empty)))).1, ((IntKind.wrap .i64 (y2_0 + 1)), ((y2_2.set (Int.toNat y2_1) (y2_0, (y2_2.getD (Int.toNat y2_1) (0, (0, (0, ByteArray.empty)))).2)).getD (Int.toNat y2_1) (0, (0, (0, ByteArray.empty)))).2.2))).set (Int.toNat y2_1) ((((y2_2.set (Int.toNat y2_1) (y2_0, (y2_2.getD (Int.toNat y2_1) (0, (0, (0, ByteArray.empty)))).2)).set (Int.toNat y2_1) (((y2_2.set (Int.toNat y2_1) (y2_0, (y2_2.getD (Int.toNat y2_1) (0, (0, (0, ByteArray.empty)))).2)).getD (Int.toNat y2_1) (0, (0, (0, ByteArray.empty)))).1, ((IntKind.wrap .i64 (y2_0 + 1)), ((y2_2.set (Int.toNat y2_1) (y2_0, (y2_2.getD (Int.toNat y2_1) (0, (0, (0, ByteArray.empty)))).2)).getD (Int.toNat y2_1) (0, (0, (0, ByteArray.empty)))).2.2))).getD (Int.toNat y2_1) (0, (0, (0, ByteArray.empty)))).1, ((((y2_2.set (Int.toNat y2_1) (y2_0, (y2_2.getD (Int.toNat y2_1) (0, (0, (0, ByteArray.empty)))).2)).set (Int.toNat y2_1) (((y2_2.set (Int.toNat y2_1) (y2_0, (y2_2.getD (Int.toNat y2_1) (0, (0, (0, ByteArray.empty)))).2)).getD (Int.toNat y2_1) (0, (0, (0, ByteArray.empty)))).1, ((IntKind.wrap .i64 (y2_0 + 1)), ((y2_2.set (Int.toNat y2_1) (y2_0, (y2_2.getD (Int.toNat y2_1) (0, (0, (0, ByteArray.empty)))).2)).getD (Int.toNat y2_1) (0, (0, (0, ByteArray.empty)))).2.2))).getD (Int.toNat y2_1) (0, (0, (0, ByteArray.empty)))).2.1, ((IntKind.wrap .i64 ((IntKind.wrap .i64 (y2_0 + 1)) + 1)), (((y2_2.set (Int.toNat y2_1) (y2_0, (y2_2.getD (Int.toNat y2_1) (0, (0, (0, ByteArray.empty)))).2)).set (Int.toNat y2_1) (((y2_2.set (Int.toNat y2_1) (y2_0, (y2_2.getD (Int.toNat y2_1) (0, (0, (0, ByteArray.empty)))).2)).getD (Int.toNat y2_1) (0, (0, (0, ByteArray.empty)))).1, ((IntKind.wrap .i64 (y2_0 + 1)), ((y2_2.set (Int.toNat y2_1) (y2_0, (y2_2.getD (Int.toNat y2_1) (0, (0, (0, ByteArray.empty)))).2)).getD (Int.toNat y2_1) (0, (0, (0, ByteArray.empty)))).2.2))).getD (Int.toNat y2_1) (0, (0, (0, ByteArray.empty)))).2.2.2)))).getD (Int.toNat y2_1) (0, (0, (0, ByteArray.empty)))).2.1, (((((y2_2.set (Int.toNat y2_1) (y2_0, (y2_2.getD (Int.toNat y2_1) (0, (0, (0, ByteArray.empty)))).2)).set (Int.toNat y2_1) (((y2_2.set (Int.toNat y2_1) (y2_0, (y2_2.getD (Int.toNat y2_1) (0, (0, (0, ByteArray.empty)))).2)).getD (Int.toNat y2_1) (0, (0, (0, ByteArray.empty)))).1, ((IntKind.wrap .i64 (y2_0 + 1)), ((y2_2.set (Int.toNat y2_1) (y2_0, (y2_2.getD (Int.toNat y2_1) (0, (0, (0, ByteArray.empty)))).2)).getD (Int.toNat y2_1) (0, (0, (0, ByteArray.empty)))).2.2))).set (Int.toNat y2_1) ((((y2_2.set (Int.toNat y2_1) (y2_0, (y2_2.getD (Int.toNat y2_1) (0, (0, (0, ByteArray.empty)))).2)).set (Int.toNat y2_1) (((y2_2.set (Int.toNat y2_1) (y2_0, (y2_2.getD (Int.toNat y2_1) (0, (0, (0, ByteArray.empty)))).2)).getD (Int.toNat y2_1) (0, (0, (0, ByteArray.empty)))).1, ((IntKind.wrap .i64 (y2_0 + 1)), ((y2_2.set (Int.toNat y2_1) (y2_0, (y2_2.getD (Int.toNat y2_1) (0, (0, (0, ByteArray.empty)))).2)).getD (Int.toNat y2_1) (0, (0, (0, ByteArray.empty)))).2.2))).getD (Int.toNat y2_1) (0, (0, (0, ByteArray.empty)))).1, ((((y2_2.set (Int.toNat y2_1) (y2_0, (y2_2.getD (Int.toNat y2_1) (0, (0, (0, ByteArray.empty)))).2)).set (Int.toNat y2_1) (((y2_2.set (Int.toNat y2_1) (y2_0, (y2_2.getD (Int.toNat y2_1) (0, (0, (0, ByteArray.empty)))).2)).getD (Int.toNat y2_1) (0, (0, (0, ByteArray.empty)))).1, ((IntKind.wrap .i64 (y2_0 + 1)), ((y2_2.set (Int.toNat y2_1) (y2_0, (y2_2.getD (Int.toNat y2_1) (0, (0, (0, ByteArray.empty)))).2)).getD (Int.toNat y2_1) (0, (0, (0, ByteArray.empty)))).2.2))).getD (Int.toNat y2_1) (0, (0, (0, ByteArray.empty)))).2.1, ((IntKind.wrap .i64 ((IntKind.wrap .i64 (y2_0 + 1)) + 1)), (((y2_2.set (Int.toNat y2_1) (y2_0, (y2_2.getD (Int.toNat y2_1) (0, (0, (0, ByteArray.empty)))).2)).set (Int.toNat y2_1) (((y2_2.set (Int.toNat y2_1) (y2_0, (y2_2.getD (Int.toNat y2_1) (0, (0, (0, ByteArray.empty)))).2)).getD (Int.toNat y2_1) (0, (0, (0, ByteArray.empty)))).1, ((IntKind.wrap .i64 (y2_0 + 1)), ((y2_2.set (Int.toNat y2_1) (y2_0, (y2_2.getD (Int.toNat y2_1) (0, (0, (0, ByteArray.empty)))).2)).getD (Int.toNat y2_1) (0, (0, (0, ByteArray.empty)))).2.2))).getD (Int.toNat y2_1) (0, (0, (0, ByteArray.empty)))).2.2.2)))).getD (Int.toNat y2_1) (0, (0, (0, ByteArray.empty)))).2.2.1, r1)))) kexit0 else none) else none)) else none) else none) else none) else none) else none) else none) else kexit0 y2_0 y2_2)) (fun r0 r1 => kk (.exit 0) (PkS.pack Tlaws_markEventS_l2_0 (r0, r1, ()))) := by kernel_rfl
theorem lelaws_markEventS_l2 : LoopEq tt sig (fun n => mkK [(50, Klaws_markText @laws_markText n)]) (fun n => mkL (mkK [(50, Klaws_markText @laws_markText n)]) []) Dlaws_markEventS_l2 Slaws_markEventS_l2 (loopIn 2 (bodyOf Tryd.f15)) (Plaws_markEventS_l2 @laws_markEventS_l2) where
  zero R q kk := by unfold Plaws_markEventS_l2; cases (PkS.un Slaws_markEventS_l2 q) <;> rfl
  succ n R q kk := by
    unfold Plaws_markEventS_l2
    cases h : (PkS.un Slaws_markEventS_l2 q) with
    | none => rfl
    | some d =>
      obtain ⟨y2_0, y2_1, y2_2, u⟩ := (d : Int × Int × (List (Int × Int × Int × ByteArray)) × Unit)
      have hp := PkS.un_pack h
      subst hp
      exact (elaws_markEventS_l2 @laws_markText @laws_markEventS_l2 n y2_0 y2_1 y2_2 kk).symm
theorem nllaws_markEventS_l2 : ∀ n, NatLP (Plaws_markEventS_l2 @laws_markEventS_l2 n) := lelaws_markEventS_l2.nat (fun n => mkK_nat (claws_markEventS n)) fun n => mkL_nat (mkK_nat (claws_markEventS n)) (l := []) trivial
theorem inlaws_markEventS_l2 (n : Nat) (R : Type) : LoopsOk Tryd.prog (mkL (mkK [(50, Klaws_markText @laws_markText n)]) [] R) (loopIn 2 (bodyOf Tryd.f15)) := .eq (l := []) (by kernel_rfl) trivial
theorem lklaws_markEventS_l2 (n : Nat) (R : Type) (L0 : LK R) (h0 : ∀ id, firstRegion (loopIn 2 (bodyOf Tryd.f15)) = some id → L0 id = Dlaws_markEventS_l2.oracle (mkK [(50, Klaws_markText @laws_markText n)] R) (Plaws_markEventS_l2 @laws_markEventS_l2 n R)) : LoopOk Tryd.prog L0 (loopIn 2 (bodyOf Tryd.f15)) :=
  lelaws_markEventS_l2.ok mixed ttok (fun n => mkK_nat (claws_markEventS n)) (fun n => mkK_ok (claws_markEventS n)) (fun n => inlaws_markEventS_l2 n R) (mkK_nat (claws_markEventS n)) h0
@[reducible] def Slaws_markEventS : PkS := ⟨[.one (.whole (200000, 0)), .one (.int .i64)], [((200000, 0), .arr (.pr (.int .i64) (.pr (.int .i64) (.pr (.int .i64) .str))))]⟩
@[reducible] def Tlaws_markEventS : PkS := ⟨[.one (.int .i64), .one (.whole (300000, 0)), .one (.dead)], [((300000, 0), .arr (.pr (.int .i64) (.pr (.int .i64) (.pr (.int .i64) .str))))]⟩
def Hlaws_markEventS : List Sh := [.one .any, .one (.own (.pr (.int .i64) (.pr (.int .i64) (.pr (.int .i64) .str)))), .skip]
def Klaws_markEventS (g : ∀ {R : Type}, Nat → Int → (List (Int × Int × Int × ByteArray)) → (Int → (List (Int × Int × Int × ByteArray)) → Option R) → Option R) (n : Nat) : KPs := fun R p k => match (PkS.un Slaws_markEventS p : Option (Int × (List (Int × Int × Int × ByteArray)) × Unit)) with
  | some (x0, x1, _) => g n x0 x1 (fun r0 r1 => k (PkS.pack Tlaws_markEventS (r0, r1, ())))
  | none => none
theorem elaws_markEventS (laws_markText : ∀ {R : Type}, Nat → Int → (ByteArray → Option R) → Option R) (laws_markEventS_l2 : ∀ {R : Type}, Nat → Int → Int → (List (Int × Int × Int × ByteArray)) → (Int → (List (Int × Int × Int × ByteArray)) → Option R) → Option R) {R : Type} (n : Nat) (x0 : Int) (x1 : List (Int × Int × Int × ByteArray)) (k : Pk → Option R) : evF tt sig (mkK [(50, Klaws_markText @laws_markText n)] R) (mkL (mkK [(50, Klaws_markText @laws_markText n)]) [(2, Dlaws_markEventS_l2, Plaws_markEventS_l2 @laws_markEventS_l2 n)] R) Tryd.f15 Hlaws_markEventS (PkS.pack Slaws_markEventS (x0, x1, ())) k = (fun (k : Int → (List (Int × Int × Int × ByteArray)) → Option R) => (laws_markEventS_l2 n x0 0 x1 (fun r2 r3 => k r2 r3))) (fun r0 r1 => k (PkS.pack Tlaws_markEventS (r0, r1, ()))) := by kernel_rfl
theorem oklaws_markEventS (n : Nat) : FnOk Tryd.prog 15 (Klaws_markEventS @laws_markEventS n) := by
  refine fn_ok (sig := sig) mixed ttok (mkK_nat (claws_markEventS n)) (mkK_ok (claws_markEventS n)) (mkL_nat (mkK_nat (claws_markEventS n)) (l := [(2, Dlaws_markEventS_l2, Plaws_markEventS_l2 @laws_markEventS_l2 n)]) ⟨nllaws_markEventS_l2 n, trivial⟩) (fn := Tryd.f15) (c := bodyOf Tryd.f15) (by kernel_rfl) (by kernel_rfl) (by kernel_rfl) (.eq (l := [.lo (loopIn 2 (bodyOf Tryd.f15))]) (by kernel_rfl) ⟨(lklaws_markEventS_l2 n _ _ (at_id (i := 2) (by kernel_rfl) rfl)), trivial⟩) (shs := Hlaws_markEventS) (S := Slaws_markEventS) (h1 := by kernel_rfl) fun R p k => ?_
  unfold Klaws_markEventS
  cases h : (PkS.un Slaws_markEventS p) with
  | none => rfl
  | some d =>
    obtain ⟨x0, x1, u⟩ := (d : Int × (List (Int × Int × Int × ByteArray)) × Unit)
    have hp := PkS.un_pack h
    subst hp
    exact (elaws_markEventS @laws_markText @laws_markEventS_l2 n x0 x1 k).symm

/-! ### loop.example/g00269/laws.markItemS -/
theorem claws_markItemS (n : Nat) : AllOk Tryd.prog [] := trivial
@[reducible] def Slaws_markItemS_l2 : PkS := ⟨[.one (.whole (100000, 0)), .one (.int .i64), .one (.int .i64), .one (.whole (100000, 0)), .one (.dead)], [((100000, 0), .arr (.pr (.int .i64) (.int .i64)))]⟩
@[reducible] def Tlaws_markItemS_l2_0 : PkS := ⟨[.one (.int .i64), .one (.whole (100000, 0)), .one (.dead)], [((100000, 0), .arr (.pr (.int .i64) (.int .i64)))]⟩
def Dlaws_markItemS_l2 : LoopD := ⟨27, [0, 1, 5], [.one (.own (.pr (.int .i64) (.int .i64))), .one .any, .one .any, .one (.own (.pr (.int .i64) (.int .i64))), .skip], fun x => match x with
  | .exit 0 => some ([1], [.one .any, .one (.own (.pr (.int .i64) (.int .i64))), .skip])
  | _ => none⟩
def Plaws_markItemS_l2 (g : ∀ {R : Type}, Nat → Int → Int → (List (Int × Int)) → (Int → (List (Int × Int)) → Option R) → Option R) (n : Nat) : LPs := fun R q kk => match (PkS.un Slaws_markItemS_l2 q : Option (Int × Int × (List (Int × Int)) × Unit)) with
  | some (y2_0, y2_1, y2_2, _) => g n y2_0 y2_1 y2_2 (fun r0 r1 => kk (.exit 0) (PkS.pack Tlaws_markItemS_l2_0 (r0, r1, ())))
  | none => none
theorem elaws_markItemS_l2 (laws_markItemS_l2 : ∀ {R : Type}, Nat → Int → Int → (List (Int × Int)) → (Int → (List (Int × Int)) → Option R) → Option R) {R : Type} (n : Nat) (y2_0 : Int) (y2_1 : Int) (y2_2 : List (Int × Int)) (kk : Ex → Pk → Option R) : Dlaws_markItemS_l2.step tt sig (mkK [] R) (mkL (mkK []) [] R) (loopIn 2 (bodyOf Tryd.f16)) (fun q' => Plaws_markItemS_l2 @laws_markItemS_l2 n R q' kk) (PkS.pack Slaws_markItemS_l2 (y2_0, y2_1, y2_2, ())) kk = (fun (kexit0 : Int → (List (Int × Int)) → Option R) => (bif (decide (y2_1 < (y2_2.length : Int))) then (bif decide (0 ≤ y2_1) then (bif decide (y2_1 < (y2_2.length : Int)) then (bif decide (0 ≤ y2_1) then (bif decide (y2_1 < ((y2_2.set (Int.toNat y2_1) (y2_0, (y2_2.getD (Int.toNat y2_1) (0, 0)).2)).length : Int)) then laws_markItemS_l2 n (IntKind.wrap .i64 ((IntKind.wrap .i64 (y2_0 + 1)) + 1)) (IntKind.wrap .i64 (y2_1 + 1)) ((y2_2.set (Int.toNat y2_1) (y2_0, (y2_2.getD (Int.toNat y2_1) (0, 0)).2)).set (Int.toNat y2_1) (((y2_2.set (Int.toNat y2_1) (y2_0, (y2_2.getD (Int.toNat y2_1) (0, 0)).2)).getD (Int.toNat y2_1) (0, 0)).1, (IntKind.wrap .i64 (y2_0 + 1)))) kexit0 else none) else none) else none) else none) else kexit0 y2_0 y2_2)) (fun r0 r1 => kk (.exit 0) (PkS.pack Tlaws_markItemS_l2_0 (r0, r1, ()))) := by kernel_rfl
theorem lelaws_markItemS_l2 : LoopEq tt sig (fun n => mkK []) (fun n => mkL (mkK []) []) Dlaws_markItemS_l2 Slaws_markItemS_l2 (loopIn 2 (bodyOf Tryd.f16)) (Plaws_markItemS_l2 @laws_markItemS_l2) where
  zero R q kk := by unfold Plaws_markItemS_l2; cases (PkS.un Slaws_markItemS_l2 q) <;> rfl
  succ n R q kk := by
    unfold Plaws_markItemS_l2
    cases h : (PkS.un Slaws_markItemS_l2 q) with
    | none => rfl
    | some d =>
      obtain ⟨y2_0, y2_1, y2_2, u⟩ := (d : Int × Int × (List (Int × Int)) × Unit)
      have hp := PkS.un_pack h
      subst hp
      exact (elaws_markItemS_l2 @laws_markItemS_l2 n y2_0 y2_1 y2_2 kk).symm
theorem nllaws_markItemS_l2 : ∀ n, NatLP (Plaws_markItemS_l2 @laws_markItemS_l2 n) := lelaws_markItemS_l2.nat (fun n => mkK_nat (claws_markItemS n)) fun n => mkL_nat (mkK_nat (claws_markItemS n)) (l := []) trivial
theorem inlaws_markItemS_l2 (n : Nat) (R : Type) : LoopsOk Tryd.prog (mkL (mkK []) [] R) (loopIn 2 (bodyOf Tryd.f16)) := .eq (l := []) (by kernel_rfl) trivial
theorem lklaws_markItemS_l2 (n : Nat) (R : Type) (L0 : LK R) (h0 : ∀ id, firstRegion (loopIn 2 (bodyOf Tryd.f16)) = some id → L0 id = Dlaws_markItemS_l2.oracle (mkK [] R) (Plaws_markItemS_l2 @laws_markItemS_l2 n R)) : LoopOk Tryd.prog L0 (loopIn 2 (bodyOf Tryd.f16)) :=
  lelaws_markItemS_l2.ok mixed ttok (fun n => mkK_nat (claws_markItemS n)) (fun n => mkK_ok (claws_markItemS n)) (fun n => inlaws_markItemS_l2 n R) (mkK_nat (claws_markItemS n)) h0
@[reducible] def Slaws_markItemS : PkS := ⟨[.one (.whole (200000, 0)), .one (.int .i64)], [((200000, 0), .arr (.pr (.int .i64) (.int .i64)))]⟩
@[reducible] def Tlaws_markItemS : PkS := ⟨[.one (.int .i64), .one (.whole (300000, 0)), .one (.dead)], [((300000, 0), .arr (.pr (.int .i64) (.int .i64)))]⟩
def Hlaws_markItemS : List Sh := [.one .any, .one (.own (.pr (.int .i64) (.int .i64))), .skip]
def Klaws_markItemS (g : ∀ {R : Type}, Nat → Int → (List (Int × Int)) → (Int → (List (Int × Int)) → Option R) → Option R) (n : Nat) : KPs := fun R p k => match (PkS.un Slaws_markItemS p : Option (Int × (List (Int × Int)) × Unit)) with
  | some (x0, x1, _) => g n x0 x1 (fun r0 r1 => k (PkS.pack Tlaws_markItemS (r0, r1, ())))
  | none => none
theorem elaws_markItemS (laws_markItemS_l2 : ∀ {R : Type}, Nat → Int → Int → (List (Int × Int)) → (Int → (List (Int × Int)) → Option R) → Option R) {R : Type} (n : Nat) (x0 : Int) (x1 : List (Int × Int)) (k : Pk → Option R) : evF tt sig (mkK [] R) (mkL (mkK []) [(2, Dlaws_markItemS_l2, Plaws_markItemS_l2 @laws_markItemS_l2 n)] R) Tryd.f16 Hlaws_markItemS (PkS.pack Slaws_markItemS (x0, x1, ())) k = (fun (k : Int → (List (Int × Int)) → Option R) => (laws_markItemS_l2 n x0 0 x1 (fun r1 r2 => k r1 r2))) (fun r0 r1 => k (PkS.pack Tlaws_markItemS (r0, r1, ()))) := by kernel_rfl
theorem oklaws_markItemS (n : Nat) : FnOk Tryd.prog 16 (Klaws_markItemS @laws_markItemS n) := by
  refine fn_ok (sig := sig) mixed ttok (mkK_nat (claws_markItemS n)) (mkK_ok (claws_markItemS n)) (mkL_nat (mkK_nat (claws_markItemS n)) (l := [(2, Dlaws_markItemS_l2, Plaws_markItemS_l2 @laws_markItemS_l2 n)]) ⟨nllaws_markItemS_l2 n, trivial⟩) (fn := Tryd.f16) (c := bodyOf Tryd.f16) (by kernel_rfl) (by kernel_rfl) (by kernel_rfl) (.eq (l := [.lo (loopIn 2 (bodyOf Tryd.f16))]) (by kernel_rfl) ⟨(lklaws_markItemS_l2 n _ _ (at_id (i := 2) (by kernel_rfl) rfl)), trivial⟩) (shs := Hlaws_markItemS) (S := Slaws_markItemS) (h1 := by kernel_rfl) fun R p k => ?_
  unfold Klaws_markItemS
  cases h : (PkS.un Slaws_markItemS p) with
  | none => rfl
  | some d =>
    obtain ⟨x0, x1, u⟩ := (d : Int × (List (Int × Int)) × Unit)
    have hp := PkS.un_pack h
    subst hp
    exact (elaws_markItemS @laws_markItemS_l2 n x0 x1 k).symm

/-! ### loop.example/g00269/laws.heldItemS -/
theorem claws_heldItemS (n : Nat) : AllOk Tryd.prog [] := trivial
@[reducible] def Slaws_heldItemS_l2 : PkS := ⟨[.one (.ro (.pr (.int .i64) (.int .i64))), .one (.int .i64), .one (.int .i64), .one (.dead), .one (.dead)], []⟩
@[reducible] def Tlaws_heldItemS_l2_0 : PkS := ⟨[.one (.int .i64), .one (.dead), .one (.dead)], []⟩
@[reducible] def Tlaws_heldItemS_l2_1 : PkS := ⟨[.one (.int .i64), .one (.dead), .one (.dead)], []⟩
def Dlaws_heldItemS_l2 : LoopD := ⟨31, [0, 1, 5], [.one (.ro (.pr (.int .i64) (.int .i64))), .one .any, .one .any, .skip, .skip], fun x => match x with
  | .ret => some ([4], [.one .any, .skip, .skip])
  | .exit 0 => some ([1], [.one .any, .skip, .skip])
  | _ => none⟩
def Plaws_heldItemS_l2 (g : ∀ {R : Type}, Nat → (List (Int × Int)) → Int → Int → (Int → Option R) → (Int → Option R) → Option R) (n : Nat) : LPs := fun R q kk => match (PkS.un Slaws_heldItemS_l2 q : Option ((List (Int × Int)) × Int × Int × Unit)) with
  | some (y2_0, y2_1, y2_2, _) => g n y2_0 y2_1 y2_2 (fun r0 => kk .ret (PkS.pack Tlaws_heldItemS_l2_0 (r0, ()))) (fun r0 => kk (.exit 0) (PkS.pack Tlaws_heldItemS_l2_1 (r0, ())))
  | none => none
theorem elaws_heldItemS_l2 (laws_heldItemS_l2 : ∀ {R : Type}, Nat → (List (Int × Int)) → Int → Int → (Int → Option R) → (Int → Option R) → Option R) {R : Type} (n : Nat) (y2_0 : List (Int × Int)) (y2_1 : Int) (y2_2 : Int) (kk : Ex → Pk → Option R) : Dlaws_heldItemS_l2.step tt sig (mkK [] R) (mkL (mkK []) [] R) (loopIn 2 (bodyOf Tryd.f17)) (fun q' => Plaws_heldItemS_l2 @laws_heldItemS_l2 n R q' kk) (PkS.pack Slaws_heldItemS_l2 (y2_0, y2_1, y2_2, ())) kk = (fun (kret : Int → Option R) (kexit0 : Int → Option R) => (bif (decide (y2_2 < (y2_0.length : Int))) then (bif decide (0 ≤ y2_2) then (bif decide (y2_2 < (y2_0.length : Int)) then (bif ((y2_0.getD (Int.toNat y2_2) (0, 0)).1 != y2_1) then kret (-1) else (bif decide (0 ≤ y2_2) then (bif decide (y2_2 < (y2_0.length : Int)) then (bif ((y2_0.getD (Int.toNat y2_2) (0, 0)).2 != (IntKind.wrap .i64 (y2_1 + 1))) then kret (-1) else laws_heldItemS_l2 n y2_0 (IntKind.wrap .i64 ((IntKind.wrap .i64 (y2_1 + 1)) + 1)) (IntKind.wrap .i64 (y2_2 + 1)) kret kexit0) else none) else none)) else none) else none) else kexit0 y2_1)) (fun r0 => kk .ret (PkS.pack Tlaws_heldItemS_l2_0 (r0, ()))) (fun r0 => kk (.exit 0) (PkS.pack Tlaws_heldItemS_l2_1 (r0, ()))) := by kernel_rfl
theorem lelaws_heldItemS_l2 : LoopEq tt sig (fun n => mkK []) (fun n => mkL (mkK []) []) Dlaws_heldItemS_l2 Slaws_heldItemS_l2 (loopIn 2 (bodyOf Tryd.f17)) (Plaws_heldItemS_l2 @laws_heldItemS_l2) where
  zero R q kk := by unfold Plaws_heldItemS_l2; cases (PkS.un Slaws_heldItemS_l2 q) <;> rfl
  succ n R q kk := by
    unfold Plaws_heldItemS_l2
    cases h : (PkS.un Slaws_heldItemS_l2 q) with
    | none => rfl
    | some d =>
      obtain ⟨y2_0, y2_1, y2_2, u⟩ := (d : (List (Int × Int)) × Int × Int × Unit)
      have hp := PkS.un_pack h
      subst hp
      exact (elaws_heldItemS_l2 @laws_heldItemS_l2 n y2_0 y2_1 y2_2 kk).symm
theorem nllaws_heldItemS_l2 : ∀ n, NatLP (Plaws_heldItemS_l2 @laws_heldItemS_l2 n) := lelaws_heldItemS_l2.nat (fun n => mkK_nat (claws_heldItemS n)) fun n => mkL_nat (mkK_nat (claws_heldItemS n)) (l := []) trivial
theorem inlaws_heldItemS_l2 (n : Nat) (R : Type) : LoopsOk Tryd.prog (mkL (mkK []) [] R) (loopIn 2 (bodyOf Tryd.f17)) := .eq (l := []) (by kernel_rfl) trivial
theorem lklaws_heldItemS_l2 (n : Nat) (R : Type) (L0 : LK R) (h0 : ∀ id, firstRegion (loopIn 2 (bodyOf Tryd.f17)) = some id → L0 id = Dlaws_heldItemS_l2.oracle (mkK [] R) (Plaws_heldItemS_l2 @laws_heldItemS_l2 n R)) : LoopOk Tryd.prog L0 (loopIn 2 (bodyOf Tryd.f17)) :=
  lelaws_heldItemS_l2.ok mixed ttok (fun n => mkK_nat (claws_heldItemS n)) (fun n => mkK_ok (claws_heldItemS n)) (fun n => inlaws_heldItemS_l2 n R) (mkK_nat (claws_heldItemS n)) h0
@[reducible] def Slaws_heldItemS : PkS := ⟨[.one (.ro (.pr (.int .i64) (.int .i64))), .one (.int .i64)], []⟩
@[reducible] def Tlaws_heldItemS : PkS := ⟨[.one (.int .i64), .one (.dead), .one (.dead)], []⟩
def Hlaws_heldItemS : List Sh := [.one .any, .skip, .skip]
def Klaws_heldItemS (g : ∀ {R : Type}, Nat → (List (Int × Int)) → Int → (Int → Option R) → Option R) (n : Nat) : KPs := fun R p k => match (PkS.un Slaws_heldItemS p : Option ((List (Int × Int)) × Int × Unit)) with
  | some (x0, x1, _) => g n x0 x1 (fun r0 => k (PkS.pack Tlaws_heldItemS (r0, ())))
  | none => none
theorem elaws_heldItemS (laws_heldItemS_l2 : ∀ {R : Type}, Nat → (List (Int × Int)) → Int → Int → (Int → Option R) → (Int → Option R) → Option R) {R : Type} (n : Nat) (x0 : List (Int × Int)) (x1 : Int) (k : Pk → Option R) : evF tt sig (mkK [] R) (mkL (mkK []) [(2, Dlaws_heldItemS_l2, Plaws_heldItemS_l2 @laws_heldItemS_l2 n)] R) Tryd.f17 Hlaws_heldItemS (PkS.pack Slaws_heldItemS (x0, x1, ())) k = (fun (k : Int → Option R) => (laws_heldItemS_l2 n x0 x1 0 (fun r1 => k r1) (fun r2 => k r2))) (fun r0 => k (PkS.pack Tlaws_heldItemS (r0, ()))) := by kernel_rfl
theorem oklaws_heldItemS (n : Nat) : FnOk Tryd.prog 17 (Klaws_heldItemS @laws_heldItemS n) := by
  refine fn_ok (sig := sig) mixed ttok (mkK_nat (claws_heldItemS n)) (mkK_ok (claws_heldItemS n)) (mkL_nat (mkK_nat (claws_heldItemS n)) (l := [(2, Dlaws_heldItemS_l2, Plaws_heldItemS_l2 @laws_heldItemS_l2 n)]) ⟨nllaws_heldItemS_l2 n, trivial⟩) (fn := Tryd.f17) (c := bodyOf Tryd.f17) (by kernel_rfl) (by kernel_rfl) (by kernel_rfl) (.eq (l := [.lo (loopIn 2 (bodyOf Tryd.f17))]) (by kernel_rfl) ⟨(lklaws_heldItemS_l2 n _ _ (at_id (i := 2) (by kernel_rfl) rfl)), trivial⟩) (shs := Hlaws_heldItemS) (S := Slaws_heldItemS) (h1 := by kernel_rfl) fun R p k => ?_
  unfold Klaws_heldItemS
  cases h : (PkS.un Slaws_heldItemS p) with
  | none => rfl
  | some d =>
    obtain ⟨x0, x1, u⟩ := (d : (List (Int × Int)) × Int × Unit)
    have hp := PkS.un_pack h
    subst hp
    exact (elaws_heldItemS @laws_heldItemS_l2 n x0 x1 k).symm

/-! ### loop.example/g00269/laws.FnExactItemsOf -/
theorem claws_FnExactItemsOf (n : Nat) : AllOk Tryd.prog [(9, Klaws_szEventS @laws_szEventS n), (11, Klaws_toEventS @laws_toEventS n), (10, Kspec_ItemsOf @spec_ItemsOf n), (12, Kimpl_ItemsOf @impl_ItemsOf n), (13, Klaws_eqItemS @laws_eqItemS n), (14, Klaws_eqEventS @laws_eqEventS n), (15, Klaws_markEventS @laws_markEventS n), (16, Klaws_markItemS @laws_markItemS n), (17, Klaws_heldItemS @laws_heldItemS n)] := ⟨oklaws_szEventS n, ⟨oklaws_toEventS n, ⟨okspec_ItemsOf n, ⟨okimpl_ItemsOf n, ⟨oklaws_eqItemS n, ⟨oklaws_eqEventS n, ⟨oklaws_markEventS n, ⟨oklaws_markItemS n, ⟨oklaws_heldItemS n, trivial⟩⟩⟩⟩⟩⟩⟩⟩⟩
@[reducible] def Slaws_FnExactItemsOf : PkS := ⟨[.one (.ro (.pr (.int .i64) (.pr (.int .i64) (.pr (.int .i64) .str))))], []⟩
@[reducible] def Tlaws_FnExactItemsOf : PkS := ⟨[.one (.bool), .one (.dead)], []⟩
def Hlaws_FnExactItemsOf : List Sh := [.one .any, .skip]
def Klaws_FnExactItemsOf (g : ∀ {R : Type}, Nat → (List (Int × Int × Int × ByteArray)) → (Bool → Option R) → Option R) (n : Nat) : KPs := fun R p k => match (PkS.un Slaws_FnExactItemsOf p : Option ((List (Int × Int × Int × ByteArray)) × Unit)) with
  | some (x0, _) => g n x0 (fun r0 => k (PkS.pack Tlaws_FnExactItemsOf (r0, ())))
  | none => none
theorem elaws_FnExactItemsOf (laws_szEventS : ∀ {R : Type}, Nat → (List (Int × Int × Int × ByteArray)) → Int → (Int → Option R) → Option R) (laws_toEventS : ∀ {R : Type}, Nat → (List (Int × Int × Int × ByteArray)) → ((List (Int × Int × Int × ByteArray)) → Option R) → Option R) (spec_ItemsOf : ∀ {R : Type}, Nat → (List (Int × Int × Int × ByteArray)) → ((List (Int × Int)) → Bool → Option R) → Option R) (impl_ItemsOf : ∀ {R : Type}, Nat → (List (Int × Int × Int × ByteArray)) → (Bool → (List (Int × Int)) → Option R) → Option R) (laws_eqItemS : ∀ {R : Type}, Nat → (List (Int × Int)) → (List (Int × Int)) → (Bool → Option R) → Option R) (laws_eqEventS : ∀ {R : Type}, Nat → (List (Int × Int × Int × ByteArray)) → (List (Int × Int × Int × ByteArray)) → (Bool → Option R) → Option R) (laws_markEventS : ∀ {R : Type}, Nat → Int → (List (Int × Int × Int × ByteArray)) → (Int → (List (Int × Int × Int × ByteArray)) → Option R) → Option R) (laws_markItemS : ∀ {R : Type}, Nat → Int → (List (Int × Int)) → (Int → (List (Int × Int)) → Option R) → Option R) (laws_heldItemS : ∀ {R : Type}, Nat → (List (Int × Int)) → Int → (Int → Option R) → Option R) {R : Type} (n : Nat) (x0 : List (Int × Int × Int × ByteArray)) (k : Pk → Option R) : evF tt sig (mkK [(9, Klaws_szEventS @laws_szEventS n), (11, Klaws_toEventS @laws_toEventS n), (10, Kspec_ItemsOf @spec_ItemsOf n), (12, Kimpl_ItemsOf @impl_ItemsOf n), (13, Klaws_eqItemS @laws_eqItemS n), (14, Klaws_eqEventS @laws_eqEventS n), (15, Klaws_markEventS @laws_markEventS n), (16, Klaws_markItemS @laws_markItemS n), (17, Klaws_heldItemS @laws_heldItemS n)] R) (mkL (mkK [(9, Klaws_szEventS @laws_szEventS n), (11, Klaws_toEventS @laws_toEventS n), (10, Kspec_ItemsOf @spec_ItemsOf n), (12, Kimpl_ItemsOf @impl_ItemsOf n), (13, Klaws_eqItemS @laws_eqItemS n), (14, Klaws_eqEventS @laws_eqEventS n), (15, Klaws_markEventS @laws_markEventS n), (16, Klaws_markItemS @laws_markItemS n), (17, Klaws_heldItemS @laws_heldItemS n)]) [] R) Tryd.f3 Hlaws_FnExactItemsOf (PkS.pack Slaws_FnExactItemsOf (x0, ())) k = (fun (k : Bool → Option R) => (laws_szEventS n x0 1048576 fun r1 => (bif (decide (r1 < 0)) then k true else (laws_toEventS n x0 fun r2 => (spec_ItemsOf n r2 fun r3 r4 => (laws_toEventS n x0 fun r5 => (impl_ItemsOf n r5 fun r6 r7 => (laws_eqItemS n r7 r3 fun r8 => (bif (!r8) then k false else (bif (!(r6 == r4)) then k false else (laws_toEventS n x0 fun r9 => (laws_eqEventS n r5 r9 fun r10 => (bif (!r10) then k false else (laws_markEventS n 1 r5 fun r11 r12 => (bif (decide (r11 < 0)) then k false else (laws_eqItemS n r7 r3 fun r13 => (bif (!r13) then k false else (bif (!(r6 == r4)) then k false else (laws_markItemS n 1 r7 fun r14 r15 => (laws_heldItemS n r15 1 fun r16 => (bif (decide (r16 < 0)) then k false else (bif (r16 != r14) then k false else (laws_toEventS n x0 fun r17 => (impl_ItemsOf n r17 fun r18 r19 => (laws_eqItemS n r19 r3 fun r20 => (bif (!r20) then k false else (bif (!(r18 == r4)) then k false else (laws_heldItemS n r15 1 fun r21 => (bif (decide (r21 < 0)) then k false else (bif (r21 != r14) then k false else k true)))))))))))))))))))))))))))))) (fun r0 => k (PkS.pack Tlaws_FnExactItemsOf (r0, ()))) := by kernel_rfl
theorem oklaws_FnExactItemsOf (n : Nat) : FnOk Tryd.prog 3 (Klaws_FnExactItemsOf @laws_FnExactItemsOf n) := by
  refine fn_ok (sig := sig) mixed ttok (mkK_nat (claws_FnExactItemsOf n)) (mkK_ok (claws_FnExactItemsOf n)) (mkL_nat (mkK_nat (claws_FnExactItemsOf n)) (l := []) trivial) (fn := Tryd.f3) (c := bodyOf Tryd.f3) (by kernel_rfl) (by kernel_rfl) (by kernel_rfl) (.eq (l := []) (by kernel_rfl) trivial) (shs := Hlaws_FnExactItemsOf) (S := Slaws_FnExactItemsOf) (h1 := by kernel_rfl) fun R p k => ?_
  unfold Klaws_FnExactItemsOf
  cases h : (PkS.un Slaws_FnExactItemsOf p) with
  | none => rfl
  | some d =>
    obtain ⟨x0, u⟩ := (d : (List (Int × Int × Int × ByteArray)) × Unit)
    have hp := PkS.un_pack h
    subst hp
    exact (elaws_FnExactItemsOf @laws_szEventS @laws_toEventS @spec_ItemsOf @impl_ItemsOf @laws_eqItemS @laws_eqEventS @laws_markEventS @laws_markItemS @laws_heldItemS n x0 k).symm
end Go.Am.G
