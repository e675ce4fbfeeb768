/- The code of the functions that the law reaches does what the plain functions say. -/
import Derived.Test.YtclmflfhhdcipaaF6
import Derived.Test.YtclmflfhhdcipaaAmB
import Derived.KernelRfl
import Derived.Test.YtclmflfhhdcipaaProg
set_option linter.unusedVariables false
set_option maxRecDepth 100000
namespace Go.Am.G
open Go Go.Am
open Go.Proofs
def tt : TT := [(3, ⟨1, false, (.int .i64), 0, [], [.int .i64 0], 8, true, false, [], none⟩), (4, ⟨1, false, .bool, 0, [], [.bool false], 1, true, false, [], none⟩), (22, ⟨1, false, (.sl (.pr (.int .i64) (.pr (.int .i64) (.int .i64)))), 81, [], [.nil], 24, true, true, [], none⟩), (24, ⟨2, true, (.pr (.sl (.pr (.int .i64) (.pr (.int .i64) (.int .i64)))) (.int .i64)), 0, [(0, 1, false), (1, 1, false)], [.nil, .int .i64 0], 32, true, false, [], none⟩), (27, ⟨1, false, (.sl (.pr (.int .i64) (.pr (.int .i64) (.int .i64)))), 79, [], [.nil], 24, true, true, [], none⟩), (29, ⟨2, true, (.pr (.sl (.pr (.int .i64) (.pr (.int .i64) (.int .i64)))) (.int .i64)), 0, [(0, 1, false), (1, 1, false)], [.nil, .int .i64 0], 32, true, false, [], none⟩), (51, ⟨1, false, (.int .u64), 0, [], [.int .u64 0], 8, true, false, [], none⟩), (57, ⟨1, false, (.int .u64), 0, [], [.int .u64 0], 8, true, false, [], none⟩), (61, ⟨1, false, (.int .u64), 0, [], [.int .u64 0], 8, true, false, [], none⟩), (79, ⟨3, true, (.pr (.int .i64) (.pr (.int .i64) (.int .i64))), 0, [(0, 1, false), (1, 1, false), (2, 1, false)], [.int .i64 0, .int .i64 0, .int .i64 0], 24, true, false, [(.int .i64), (.int .i64), (.int .i64)], none⟩), (81, ⟨3, true, (.pr (.int .i64) (.pr (.int .i64) (.int .i64))), 0, [(0, 1, false), (1, 1, false), (2, 1, false)], [.int .i64 0, .int .i64 0, .int .i64 0], 24, true, false, [(.int .i64), (.int .i64), (.int .i64)], none⟩), (82, ⟨1, false, (.sl (.int .u64)), 61, [], [.nil], 24, true, true, [], none⟩), (96, ⟨1, false, .bool, 0, [], [.dead], 8, false, false, [], some (61, 3)⟩), (98, ⟨2, true, .bool, 0, [(0, 1, false), (1, 1, false)], [.nil, .dead], 32, false, false, [], none⟩), (105, ⟨1, false, (.sl (.int .u64)), 57, [], [.nil], 24, true, true, [], none⟩), (106, ⟨1, false, (.sl .bool), 4, [], [.nil], 24, true, true, [], none⟩)]
def sig : Sig := sigOf [(6, [.agg [(.ro (.pr (.int .i64) (.pr (.int .i64) (.int .i64)))), .any]]), (12, [.agg [(.ro (.pr (.int .i64) (.pr (.int .i64) (.int .i64)))), .any], .one .any]), (14, [.agg [(.ro (.pr (.int .i64) (.pr (.int .i64) (.int .i64)))), .any]]), (16, [.agg [(.ro (.pr (.int .i64) (.pr (.int .i64) (.int .i64)))), .any], .agg [(.ro (.pr (.int .i64) (.pr (.int .i64) (.int .i64)))), .any]]), (23, [.agg [(.ro (.pr (.int .i64) (.pr (.int .i64) (.int .i64)))), .any]]), (24, [.agg [(.ro (.pr (.int .i64) (.pr (.int .i64) (.int .i64)))), .any]]), (39, [.one (.ro (.pr (.int .i64) (.pr (.int .i64) (.int .i64)))), .one .any]), (40, [.agg [(.ro (.pr (.int .i64) (.pr (.int .i64) (.int .i64)))), .any]]), (41, [.one (.ro (.pr (.int .i64) (.pr (.int .i64) (.int .i64))))]), (42, [.agg [(.ro (.pr (.int .i64) (.pr (.int .i64) (.int .i64)))), .any]]), (43, [.one (.ro (.pr (.int .i64) (.pr (.int .i64) (.int .i64)))), .one (.ro (.pr (.int .i64) (.pr (.int .i64) (.int .i64))))]), (44, [.one .any, .one .any, .one .any]), (45, [.one .any, .one .any, .one .any]), (47, [.one .any]), (49, [.one .any]), (52, [.one .any]), (54, [.one .any, .one .any, .one .any]), (55, [.one .any, .one .any, .one .any]), (58, [.agg [(.ro (.pr (.int .i64) (.pr (.int .i64) (.int .i64)))), .any]]), (59, [.agg [.any, .any, .any]]), (60, [.one .any, .one (.ro (.int .u64))]), (61, [.one .any]), (62, [.one (.ro (.pr (.int .i64) (.pr (.int .i64) (.int .i64)))), .one (.ro (.pr (.int .i64) (.pr (.int .i64) (.int .i64))))]), (63, [.agg [.any, .any, .any], .agg [.any, .any, .any]]), (65, [.one .any, .one .any, .one (.own (.pr (.int .i64) (.pr (.int .i64) (.int .i64))))]), (67, [.box [(.own (.pr (.int .i64) (.pr (.int .i64) (.int .i64)))), .map], .one .any]), (68, [.one .any])]
theorem ttok : TTok Try.prog tt := .of_chk (by kernel_rfl)
theorem mixed : Try.prog.follows .mixedOrders = true := by kernel_rfl

/-! ### loop.example/g00269/laws.szChoiceS -/
theorem claws_szChoiceS (n : Nat) : AllOk Try.prog [] := trivial
@[reducible] def Slaws_szChoiceS : PkS := ⟨[.one (.ro (.pr (.int .i64) (.pr (.int .i64) (.int .i64)))), .one (.int .i64)], []⟩
@[reducible] def Tlaws_szChoiceS : PkS := ⟨[.one (.int .i64), .one (.dead), .one (.dead)], []⟩
def Hlaws_szChoiceS : List Sh := [.one .any, .skip, .skip]
def Klaws_szChoiceS (g : ∀ {R : Type}, Nat → (List (Int × Int × Int)) → Int → (Int → Option R) → Option R) (n : Nat) : KPs := fun R p k => match (PkS.un Slaws_szChoiceS p : Option ((List (Int × Int × Int)) × Int × Unit)) with
  | some (x0, x1, _) => g n x0 x1 (fun r0 => k (PkS.pack Tlaws_szChoiceS (r0, ())))
  | none => none
theorem elaws_szChoiceS  {R : Type} (n : Nat) (x0 : List (Int × Int × Int)) (x1 : Int) (k : Pk → Option R) : evF tt sig (mkK [] R) (mkL (mkK []) [] R) Try.f39 Hlaws_szChoiceS (PkS.pack Slaws_szChoiceS (x0, x1, ())) k = (fun (k : Int → Option R) => (bif (decide ((IntKind.wrap .i64 (x1 - (x0.length : Int))) < 0)) then k (-1) else k (IntKind.wrap .i64 (x1 - (x0.length : Int))))) (fun r0 => k (PkS.pack Tlaws_szChoiceS (r0, ()))) := by kernel_rfl
theorem oklaws_szChoiceS (n : Nat) : FnOk Try.prog 39 (Klaws_szChoiceS @laws_szChoiceS n) := by
  refine fn_ok (sig := sig) mixed ttok (mkK_nat (claws_szChoiceS n)) (mkK_ok (claws_szChoiceS n)) (mkL_nat (mkK_nat (claws_szChoiceS n)) (l := []) trivial) (fn := Try.f39) (c := bodyOf Try.f39) (by kernel_rfl) (by kernel_rfl) (by kernel_rfl) (.eq (l := []) (by kernel_rfl) trivial) (shs := Hlaws_szChoiceS) (S := Slaws_szChoiceS) (h1 := by kernel_rfl) fun R p k => ?_
  unfold Klaws_szChoiceS
  cases h : (PkS.un Slaws_szChoiceS p) with
  | none => rfl
  | some d =>
    obtain ⟨x0, x1, u⟩ := (d : (List (Int × Int × Int)) × Int × Unit)
    have hp := PkS.un_pack h
    subst hp
    exact (elaws_szChoiceS  n x0 x1 k).symm

/-! ### loop.example/g00269/laws.szDiagram -/
theorem claws_szDiagram (n : Nat) : AllOk Try.prog [(39, Klaws_szChoiceS @laws_szChoiceS n)] := ⟨oklaws_szChoiceS n, trivial⟩
@[reducible] def Slaws_szDiagram : PkS := ⟨[.agg [.ro (.pr (.int .i64) (.pr (.int .i64) (.int .i64))), .int .i64], .one (.int .i64)], []⟩
@[reducible] def Tlaws_szDiagram : PkS := ⟨[.one (.int .i64), .one (.dead), .one (.dead)], []⟩
def Hlaws_szDiagram : List Sh := [.one .any, .skip, .skip]
def Klaws_szDiagram (g : ∀ {R : Type}, Nat → (List (Int × Int × Int)) → Int → Int → (Int → Option R) → Option R) (n : Nat) : KPs := fun R p k => match (PkS.un Slaws_szDiagram p : Option ((List (Int × Int × Int)) × Int × Int × Unit)) with
  | some (x0, x1, x2, _) => g n x0 x1 x2 (fun r0 => k (PkS.pack Tlaws_szDiagram (r0, ())))
  | none => none
theorem elaws_szDiagram (laws_szChoiceS : ∀ {R : Type}, Nat → (List (Int × Int × Int)) → Int → (Int → Option R) → Option R) {R : Type} (n : Nat) (x0 : List (Int × Int × Int)) (x1 : Int) (x2 : Int) (k : Pk → Option R) : evF tt sig (mkK [(39, Klaws_szChoiceS @laws_szChoiceS n)] R) (mkL (mkK [(39, Klaws_szChoiceS @laws_szChoiceS n)]) [] R) Try.f12 Hlaws_szDiagram (PkS.pack Slaws_szDiagram (x0, x1, x2, ())) k = (fun (k : Int → Option R) => (laws_szChoiceS n x0 x2 fun r1 => (bif (decide (r1 < 0)) then k (-1) else k r1))) (fun r0 => k (PkS.pack Tlaws_szDiagram (r0, ()))) := by kernel_rfl
theorem oklaws_szDiagram (n : Nat) : FnOk Try.prog 12 (Klaws_szDiagram @laws_szDiagram n) := by
  refine fn_ok (sig := sig) mixed ttok (mkK_nat (claws_szDiagram n)) (mkK_ok (claws_szDiagram n)) (mkL_nat (mkK_nat (claws_szDiagram n)) (l := []) trivial) (fn := Try.f12) (c := bodyOf Try.f12) (by kernel_rfl) (by kernel_rfl) (by kernel_rfl) (.eq (l := []) (by kernel_rfl) trivial) (shs := Hlaws_szDiagram) (S := Slaws_szDiagram) (h1 := by kernel_rfl) fun R p k => ?_
  unfold Klaws_szDiagram
  cases h : (PkS.un Slaws_szDiagram p) with
  | none => rfl
  | some d =>
    obtain ⟨x0, x1, x2, u⟩ := (d : (List (Int × Int × Int)) × Int × Int × Unit)
    have hp := PkS.un_pack h
    subst hp
    exact (elaws_szDiagram @laws_szChoiceS n x0 x1 x2 k).symm

/-! ### loop.example/g00269/laws.toChoice -/
theorem claws_toChoice (n : Nat) : AllOk Try.prog [] := trivial
@[reducible] def Slaws_toChoice : PkS := ⟨[.agg [.int .i64, .int .i64, .int .i64]], []⟩
@[reducible] def Tlaws_toChoice : PkS := ⟨[.agg [.int .i64, .int .i64, .int .i64], .one (.dead)], []⟩
def Hlaws_toChoice : List Sh := [.agg [.any, .any, .any], .skip]
def Klaws_toChoice (g : ∀ {R : Type}, Nat → Int → Int → Int → (Int → Int → Int → Option R) → Option R) (n : Nat) : KPs := fun R p k => match (PkS.un Slaws_toChoice p : Option (Int × Int × Int × Unit)) with
  | some (x0, x1, x2, _) => g n x0 x1 x2 (fun r0 r1 r2 => k (PkS.pack Tlaws_toChoice (r0, r1, r2, ())))
  | none => none
theorem elaws_toChoice  {R : Type} (n : Nat) (x0 : Int) (x1 : Int) (x2 : Int) (k : Pk → Option R) : evF tt sig (mkK [] R) (mkL (mkK []) [] R) Try.f59 Hlaws_toChoice (PkS.pack Slaws_toChoice (x0, x1, x2, ())) k = (fun (k : Int → Int → Int → Option R) => k x0 x1 x2) (fun r0 r1 r2 => k (PkS.pack Tlaws_toChoice (r0, r1, r2, ()))) := by kernel_rfl
theorem oklaws_toChoice (n : Nat) : FnOk Try.prog 59 (Klaws_toChoice @laws_toChoice n) := by
  refine fn_ok (sig := sig) mixed ttok (mkK_nat (claws_toChoice n)) (mkK_ok (claws_toChoice n)) (mkL_nat (mkK_nat (claws_toChoice n)) (l := []) trivial) (fn := Try.f59) (c := bodyOf Try.f59) (by kernel_rfl) (by kernel_rfl) (by kernel_rfl) (.eq (l := []) (by kernel_rfl) trivial) (shs := Hlaws_toChoice) (S := Slaws_toChoice) (h1 := by kernel_rfl) fun R p k => ?_
  unfold Klaws_toChoice
  cases h : (PkS.un Slaws_toChoice p) with
  | none => rfl
  | some d =>
    obtain ⟨x0, x1, x2, u⟩ := (d : Int × Int × Int × Unit)
    have hp := PkS.un_pack h
    subst hp
    exact (elaws_toChoice  n x0 x1 x2 k).symm

/-! ### loop.example/g00269/laws.toChoiceS -/
theorem claws_toChoiceS (n : Nat) : AllOk Try.prog [(59, Klaws_toChoice @laws_toChoice n)] := ⟨oklaws_toChoice n, trivial⟩
@[reducible] def Slaws_toChoiceS_l3 : PkS := ⟨[.one (.ro (.pr (.int .i64) (.pr (.int .i64) (.int .i64)))), .one (.whole (100000, 0)), .one (.int .i64), .one (.dead)], [((100000, 0), .arr (.pr (.int .i64) (.pr (.int .i64) (.int .i64))))]⟩
@[reducible] def Tlaws_toChoiceS_l3_0 : PkS := ⟨[.one (.whole (100000, 0)), .one (.dead)], [((100000, 0), .arr (.pr (.int .i64) (.pr (.int .i64) (.int .i64))))]⟩
def Dlaws_toChoiceS_l3 : LoopD := ⟨23, [0, 3, 4], [.one (.ro (.pr (.int .i64) (.pr (.int .i64) (.int .i64)))), .one (.own (.pr (.int .i64) (.pr (.int .i64) (.int .i64)))), .one .any, .skip], fun x => match x with
  | .exit 0 => some ([3], [.one (.own (.pr (.int .i64) (.pr (.int .i64) (.int .i64)))), .skip])
  | _ => none⟩
def Plaws_toChoiceS_l3 (g : ∀ {R : Type}, Nat → (List (Int × Int × Int)) → Int → (List (Int × Int × Int)) → ((List (Int × Int × Int)) → Option R) → Option R) (n : Nat) : LPs := fun R q kk => match (PkS.un Slaws_toChoiceS_l3 q : Option ((List (Int × Int × Int)) × Int × (List (Int × Int × Int)) × Unit)) with
  | some (y3_0, y3_1, y3_2, _) => g n y3_0 y3_1 y3_2 (fun r0 => kk (.exit 0) (PkS.pack Tlaws_toChoiceS_l3_0 (r0, ())))
  | none => none
theorem elaws_toChoiceS_l3 (laws_toChoice : ∀ {R : Type}, Nat → Int → Int → Int → (Int → Int → Int → Option R) → Option R) (laws_toChoiceS_l3 : ∀ {R : Type}, Nat → (List (Int × Int × Int)) → Int → (List (Int × Int × Int)) → ((List (Int × Int × Int)) → Option R) → Option R) {R : Type} (n : Nat) (y3_0 : List (Int × Int × Int)) (y3_1 : Int) (y3_2 : List (Int × Int × Int)) (kk : Ex → Pk → Option R) : Dlaws_toChoiceS_l3.step tt sig (mkK [(59, Klaws_toChoice @laws_toChoice n)] R) (mkL (mkK [(59, Klaws_toChoice @laws_toChoice n)]) [] R) (loopIn 3 (bodyOf Try.f41)) (fun q' => Plaws_toChoiceS_l3 @laws_toChoiceS_l3 n R q' kk) (PkS.pack Slaws_toChoiceS_l3 (y3_0, y3_1, y3_2, ())) kk = (fun (kexit0 : (List (Int × Int × Int)) → Option R) => (bif (decide (y3_1 < (y3_0.length : Int))) then (bif decide (0 ≤ y3_1) then (bif decide (y3_1 < (y3_0.length : Int)) then (laws_toChoice n ((y3_0.getD (Int.toNat y3_1) (0, (0, 0))).1) ((y3_0.getD (Int.toNat y3_1) (0, (0, 0))).2.1) ((y3_0.getD (Int.toNat y3_1) (0, (0, 0))).2.2) fun r1 r2 r3 => (bif decide (0 ≤ y3_1) then (bif decide (y3_1 < (y3_2.length : Int)) then laws_toChoiceS_l3 n y3_0 (IntKind.wrap .i64 (y3_1 + 1)) (y3_2.set (Int.toNat y3_1) (r1, (r2, r3))) kexit0 else none) else none)) else none) else none) else kexit0 y3_2)) (fun r0 => kk (.exit 0) (PkS.pack Tlaws_toChoiceS_l3_0 (r0, ()))) := by kernel_rfl
theorem lelaws_toChoiceS_l3 : LoopEq tt sig (fun n => mkK [(59, Klaws_toChoice @laws_toChoice n)]) (fun n => mkL (mkK [(59, Klaws_toChoice @laws_toChoice n)]) []) Dlaws_toChoiceS_l3 Slaws_toChoiceS_l3 (loopIn 3 (bodyOf Try.f41)) (Plaws_toChoiceS_l3 @laws_toChoiceS_l3) where
  zero R q kk := by unfold Plaws_toChoiceS_l3; cases (PkS.un Slaws_toChoiceS_l3 q) <;> rfl
  succ n R q kk := by
    unfold Plaws_toChoiceS_l3
    cases h : (PkS.un Slaws_toChoiceS_l3 q) with
    | none => rfl
    | some d =>
      obtain ⟨y3_0, y3_1, y3_2, u⟩ := (d : (List (Int × Int × Int)) × Int × (List (Int × Int × Int)) × Unit)
      have hp := PkS.un_pack h
      subst hp
      exact (elaws_toChoiceS_l3 @laws_toChoice @laws_toChoiceS_l3 n y3_0 y3_1 y3_2 kk).symm
theorem nllaws_toChoiceS_l3 : ∀ n, NatLP (Plaws_toChoiceS_l3 @laws_toChoiceS_l3 n) := lelaws_toChoiceS_l3.nat (fun n => mkK_nat (claws_toChoiceS n)) fun n => mkL_nat (mkK_nat (claws_toChoiceS n)) (l := []) trivial
theorem inlaws_toChoiceS_l3 (n : Nat) (R : Type) : LoopsOk Try.prog (mkL (mkK [(59, Klaws_toChoice @laws_toChoice n)]) [] R) (loopIn 3 (bodyOf Try.f41)) := .eq (l := []) (by kernel_rfl) trivial
theorem lklaws_toChoiceS_l3 (n : Nat) (R : Type) (L0 : LK R) (h0 : ∀ id, firstRegion (loopIn 3 (bodyOf Try.f41)) = some id → L0 id = Dlaws_toChoiceS_l3.oracle (mkK [(59, Klaws_toChoice @laws_toChoice n)] R) (Plaws_toChoiceS_l3 @laws_toChoiceS_l3 n R)) : LoopOk Try.prog L0 (loopIn 3 (bodyOf Try.f41)) :=
  lelaws_toChoiceS_l3.ok mixed ttok (fun n => mkK_nat (claws_toChoiceS n)) (fun n => mkK_ok (claws_toChoiceS n)) (fun n => inlaws_toChoiceS_l3 n R) (mkK_nat (claws_toChoiceS n)) h0
@[reducible] def Slaws_toChoiceS : PkS := ⟨[.one (.ro (.pr (.int .i64) (.pr (.int .i64) (.int .i64))))], []⟩
@[reducible] def Tlaws_toChoiceS : PkS := ⟨[.one (.whole (300000, 0)), .one (.dead)], [((300000, 0), .arr (.pr (.int .i64) (.pr (.int .i64) (.int .i64))))]⟩
def Hlaws_toChoiceS : List Sh := [.one (.own (.pr (.int .i64) (.pr (.int .i64) (.int .i64)))), .skip]
def Klaws_toChoiceS (g : ∀ {R : Type}, Nat → (List (Int × Int × Int)) → ((List (Int × Int × Int)) → Option R) → Option R) (n : Nat) : KPs := fun R p k => match (PkS.un Slaws_toChoiceS p : Option ((List (Int × Int × Int)) × Unit)) with
  | some (x0, _) => g n x0 (fun r0 => k (PkS.pack Tlaws_toChoiceS (r0, ())))
  | none => none
theorem elaws_toChoiceS (laws_toChoice : ∀ {R : Type}, Nat → Int → Int → Int → (Int → Int → Int → Option R) → Option R) (laws_toChoiceS_l3 : ∀ {R : Type}, Nat → (List (Int × Int × Int)) → Int → (List (Int × Int × Int)) → ((List (Int × Int × Int)) → Option R) → Option R) {R : Type} (n : Nat) (x0 : List (Int × Int × Int)) (k : Pk → Option R) : evF tt sig (mkK [(59, Klaws_toChoice @laws_toChoice n)] R) (mkL (mkK [(59, Klaws_toChoice @laws_toChoice n)]) [(3, Dlaws_toChoiceS_l3, Plaws_toChoiceS_l3 @laws_toChoiceS_l3 n)] R) Try.f41 Hlaws_toChoiceS (PkS.pack Slaws_toChoiceS (x0, ())) k = (fun (k : (List (Int × Int × Int)) → Option R) => (bif decide (0 ≤ (x0.length : Int)) then (bif decide ((x0.length : Int) ≤ (x0.length : Int)) then (bif decide ((x0.length : Int) ≤ 1099511627776) then (laws_toChoiceS_l3 n x0 0 (List.replicate (Int.toNat (x0.length : Int)) (0, (0, 0))) (fun r4 => k r4)) else none) else none) else none)) (fun r0 => k (PkS.pack Tlaws_toChoiceS (r0, ()))) := by kernel_rfl
theorem oklaws_toChoiceS (n : Nat) : FnOk Try.prog 41 (Klaws_toChoiceS @laws_toChoiceS n) := by
  refine fn_ok (sig := sig) mixed ttok (mkK_nat (claws_toChoiceS n)) (mkK_ok (claws_toChoiceS n)) (mkL_nat (mkK_nat (claws_toChoiceS n)) (l := [(3, Dlaws_toChoiceS_l3, Plaws_toChoiceS_l3 @laws_toChoiceS_l3 n)]) ⟨nllaws_toChoiceS_l3 n, trivial⟩) (fn := Try.f41) (c := bodyOf Try.f41) (by kernel_rfl) (by kernel_rfl) (by kernel_rfl) (.eq (l := [.lo (loopIn 3 (bodyOf Try.f41))]) (by kernel_rfl) ⟨(lklaws_toChoiceS_l3 n _ _ (at_id (i := 3) (by kernel_rfl) rfl)), trivial⟩) (shs := Hlaws_toChoiceS) (S := Slaws_toChoiceS) (h1 := by kernel_rfl) fun R p k => ?_
  unfold Klaws_toChoiceS
  cases h : (PkS.un Slaws_toChoiceS p) with
  | none => rfl
  | some d =>
    obtain ⟨x0, u⟩ := (d : (List (Int × Int × Int)) × Unit)
    have hp := PkS.un_pack h
    subst hp
    exact (elaws_toChoiceS @laws_toChoice @laws_toChoiceS_l3 n x0 k).symm

/-! ### loop.example/g00269/laws.toDiagram -/
theorem claws_toDiagram (n : Nat) : AllOk Try.prog [(41, Klaws_toChoiceS @laws_toChoiceS n)] := ⟨oklaws_toChoiceS n, trivial⟩
@[reducible] def Slaws_toDiagram : PkS := ⟨[.agg [.ro (.pr (.int .i64) (.pr (.int .i64) (.int .i64))), .int .i64]], []⟩
@[reducible] def Tlaws_toDiagram : PkS := ⟨[.agg [.whole (300000, 0), .int .i64], .one (.dead)], [((300000, 0), .arr (.pr (.int .i64) (.pr (.int .i64) (.int .i64))))]⟩
def Hlaws_toDiagram : List Sh := [.agg [(.own (.pr (.int .i64) (.pr (.int .i64) (.int .i64)))), .any], .skip]
def Klaws_toDiagram (g : ∀ {R : Type}, Nat → (List (Int × Int × Int)) → Int → (Int → (List (Int × Int × Int)) → Option R) → Option R) (n : Nat) : KPs := fun R p k => match (PkS.un Slaws_toDiagram p : Option ((List (Int × Int × Int)) × Int × Unit)) with
  | some (x0, x1, _) => g n x0 x1 (fun r0 r1 => k (PkS.pack Tlaws_toDiagram (r0, r1, ())))
  | none => none
theorem elaws_toDiagram (laws_toChoiceS : ∀ {R : Type}, Nat → (List (Int × Int × Int)) → ((List (Int × Int × Int)) → Option R) → Option R) {R : Type} (n : Nat) (x0 : List (Int × Int × Int)) (x1 : Int) (k : Pk → Option R) : evF tt sig (mkK [(41, Klaws_toChoiceS @laws_toChoiceS n)] R) (mkL (mkK [(41, Klaws_toChoiceS @laws_toChoiceS n)]) [] R) Try.f14 Hlaws_toDiagram (PkS.pack Slaws_toDiagram (x0, x1, ())) k = (fun (k : Int → (List (Int × Int × Int)) → Option R) => (laws_toChoiceS n x0 fun r1 => k x1 r1)) (fun r0 r1 => k (PkS.pack Tlaws_toDiagram (r0, r1, ()))) := by kernel_rfl
theorem oklaws_toDiagram (n : Nat) : FnOk Try.prog 14 (Klaws_toDiagram @laws_toDiagram n) := by
  refine fn_ok (sig := sig) mixed ttok (mkK_nat (claws_toDiagram n)) (mkK_ok (claws_toDiagram n)) (mkL_nat (mkK_nat (claws_toDiagram n)) (l := []) trivial) (fn := Try.f14) (c := bodyOf Try.f14) (by kernel_rfl) (by kernel_rfl) (by kernel_rfl) (.eq (l := []) (by kernel_rfl) trivial) (shs := Hlaws_toDiagram) (S := Slaws_toDiagram) (h1 := by kernel_rfl) fun R p k => ?_
  unfold Klaws_toDiagram
  cases h : (PkS.un Slaws_toDiagram p) with
  | none => rfl
  | some d =>
    obtain ⟨x0, x1, u⟩ := (d : (List (Int × Int × Int)) × Int × Unit)
    have hp := PkS.un_pack h
    subst hp
    exact (elaws_toDiagram @laws_toChoiceS n x0 x1 k).symm

/-! ### loop.example/g00269/spec.l1In -/
theorem cspec_l1In (n : Nat) : AllOk Try.prog [] := trivial
@[reducible] def Sspec_l1In : PkS := ⟨[.one (.int .i64), .one (.int .i64), .one (.int .i64)], []⟩
@[reducible] def Tspec_l1In : PkS := ⟨[.one (.bool), .one (.dead), .one (.dead), .one (.dead)], []⟩
def Hspec_l1In : List Sh := [.one .any, .skip, .skip, .skip]
def Kspec_l1In (g : ∀ {R : Type}, Nat → Int → Int → Int → (Bool → Option R) → Option R) (n : Nat) : KPs := fun R p k => match (PkS.un Sspec_l1In p : Option (Int × Int × Int × Unit)) with
  | some (x0, x1, x2, _) => g n x0 x1 x2 (fun r0 => k (PkS.pack Tspec_l1In (r0, ())))
  | none => none
theorem espec_l1In  {R : Type} (n : Nat) (x0 : Int) (x1 : Int) (x2 : Int) (k : Pk → Option R) : evF tt sig (mkK [] R) (mkL (mkK []) [] R) Try.f44 Hspec_l1In (PkS.pack Sspec_l1In (x0, x1, x2, ())) k = (fun (k : Bool → Option R) => (bif (decide (x0 ≥ x1)) then k (decide (x0 ≤ x2)) else k false)) (fun r0 => k (PkS.pack Tspec_l1In (r0, ()))) := by kernel_rfl
theorem okspec_l1In (n : Nat) : FnOk Try.prog 44 (Kspec_l1In @spec_l1In n) := by
  refine fn_ok (sig := sig) mixed ttok (mkK_nat (cspec_l1In n)) (mkK_ok (cspec_l1In n)) (mkL_nat (mkK_nat (cspec_l1In n)) (l := []) trivial) (fn := Try.f44) (c := bodyOf Try.f44) (by kernel_rfl) (by kernel_rfl) (by kernel_rfl) (.eq (l := []) (by kernel_rfl) trivial) (shs := Hspec_l1In) (S := Sspec_l1In) (h1 := by kernel_rfl) fun R p k => ?_
  unfold Kspec_l1In
  cases h : (PkS.un Sspec_l1In p) with
  | none => rfl
  | some d =>
    obtain ⟨x0, x1, x2, u⟩ := (d : Int × Int × Int × Unit)
    have hp := PkS.un_pack h
    subst hp
    exact (espec_l1In  n x0 x1 x2 k).symm

/-! ### loop.example/g00269/spec.l7Var -/
theorem cspec_l7Var (n : Nat) : AllOk Try.prog [] := trivial
@[reducible] def Sspec_l7Var_l3 : PkS := ⟨[.one (.int .i64), .one (.int .u64), .one (.int .i64), .one (.dead)], []⟩
@[reducible] def Tspec_l7Var_l3_0 : PkS := ⟨[.one (.int .u64), .one (.dead)], []⟩
def Dspec_l7Var_l3 : LoopD := ⟨21, [0, 3, 4], [.one .any, .one .any, .one .any, .skip], fun x => match x with
  | .exit 0 => some ([3], [.one .any, .skip])
  | _ => none⟩
def Pspec_l7Var_l3 (g : ∀ {R : Type}, Nat → Int → Int → Int → (Int → Option R) → Option R) (n : Nat) : LPs := fun R q kk => match (PkS.un Sspec_l7Var_l3 q : Option (Int × Int × Int × Unit)) with
  | some (y3_0, y3_1, y3_2, _) => g n y3_0 y3_1 y3_2 (fun r0 => kk (.exit 0) (PkS.pack Tspec_l7Var_l3_0 (r0, ())))
  | none => none
theorem espec_l7Var_l3 (spec_l7Var_l3 : ∀ {R : Type}, Nat → Int → Int → Int → (Int → Option R) → Option R) {R : Type} (n : Nat) (y3_0 : Int) (y3_1 : Int) (y3_2 : Int) (kk : Ex → Pk → Option R) : Dspec_l7Var_l3.step tt sig (mkK [] R) (mkL (mkK []) [] R) (loopIn 3 (bodyOf Try.f68)) (fun q' => Pspec_l7Var_l3 @spec_l7Var_l3 n R q' kk) (PkS.pack Sspec_l7Var_l3 (y3_0, y3_1, y3_2, ())) kk = (fun (kexit0 : Int → Option R) => (bif (decide (y3_2 < 64)) then (bif decide (0 ≤ (IntKind.wrap .u64 (y3_0))) then (bif ((IntKind.wrap .i64 (Int.ofNat (BitVec.toNat (BitVec.ofInt (IntKind.bits .i64) (Int.fdiv y3_2 (2 ^ (min (Int.toNat (IntKind.wrap .u64 (y3_0))) (IntKind.bits .i64)))) &&& BitVec.ofInt (IntKind.bits .i64) 1)))) == 1) then (bif decide (0 ≤ (IntKind.wrap .u64 (y3_2))) then spec_l7Var_l3 n y3_0 (IntKind.wrap .u64 (Int.ofNat (BitVec.toNat (BitVec.ofInt (IntKind.bits .u64) y3_1 ||| BitVec.ofInt (IntKind.bits .u64) (IntKind.wrap .u64 (1 * 2 ^ (min (Int.toNat (IntKind.wrap .u64 (y3_2))) (IntKind.bits .u64)))))))) (IntKind.wrap .i64 (y3_2 + 1)) kexit0 else none) else spec_l7Var_l3 n y3_0 y3_1 (IntKind.wrap .i64 (y3_2 + 1)) kexit0) else none) else kexit0 y3_1)) (fun r0 => kk (.exit 0) (PkS.pack Tspec_l7Var_l3_0 (r0, ()))) := by kernel_rfl
theorem lespec_l7Var_l3 : LoopEq tt sig (fun n => mkK []) (fun n => mkL (mkK []) []) Dspec_l7Var_l3 Sspec_l7Var_l3 (loopIn 3 (bodyOf Try.f68)) (Pspec_l7Var_l3 @spec_l7Var_l3) where
  zero R q kk := by unfold Pspec_l7Var_l3; cases (PkS.un Sspec_l7Var_l3 q) <;> rfl
  succ n R q kk := by
    unfold Pspec_l7Var_l3
    cases h : (PkS.un Sspec_l7Var_l3 q) with
    | none => rfl
    | some d =>
      obtain ⟨y3_0, y3_1, y3_2, u⟩ := (d : Int × Int × Int × Unit)
      have hp := PkS.un_pack h
      subst hp
      exact (espec_l7Var_l3 @spec_l7Var_l3 n y3_0 y3_1 y3_2 kk).symm
theorem nlspec_l7Var_l3 : ∀ n, NatLP (Pspec_l7Var_l3 @spec_l7Var_l3 n) := lespec_l7Var_l3.nat (fun n => mkK_nat (cspec_l7Var n)) fun n => mkL_nat (mkK_nat (cspec_l7Var n)) (l := []) trivial
theorem inspec_l7Var_l3 (n : Nat) (R : Type) : LoopsOk Try.prog (mkL (mkK []) [] R) (loopIn 3 (bodyOf Try.f68)) := .eq (l := []) (by kernel_rfl) trivial
theorem lkspec_l7Var_l3 (n : Nat) (R : Type) (L0 : LK R) (h0 : ∀ id, firstRegion (loopIn 3 (bodyOf Try.f68)) = some id → L0 id = Dspec_l7Var_l3.oracle (mkK [] R) (Pspec_l7Var_l3 @spec_l7Var_l3 n R)) : LoopOk Try.prog L0 (loopIn 3 (bodyOf Try.f68)) :=
  lespec_l7Var_l3.ok mixed ttok (fun n => mkK_nat (cspec_l7Var n)) (fun n => mkK_ok (cspec_l7Var n)) (fun n => inspec_l7Var_l3 n R) (mkK_nat (cspec_l7Var n)) h0
@[reducible] def Sspec_l7Var : PkS := ⟨[.one (.int .i64)], []⟩
@[reducible] def Tspec_l7Var : PkS := ⟨[.one (.int .u64), .one (.dead)], []⟩
def Hspec_l7Var : List Sh := [.one .any, .skip]
def Kspec_l7Var (g : ∀ {R : Type}, Nat → Int → (Int → Option R) → Option R) (n : Nat) : KPs := fun R p k => match (PkS.un Sspec_l7Var p : Option (Int × Unit)) with
  | some (x0, _) => g n x0 (fun r0 => k (PkS.pack Tspec_l7Var (r0, ())))
  | none => none
theorem espec_l7Var (spec_l7Var_l3 : ∀ {R : Type}, Nat → Int → Int → Int → (Int → Option R) → Option R) {R : Type} (n : Nat) (x0 : Int) (k : Pk → Option R) : evF tt sig (mkK [] R) (mkL (mkK []) [(3, Dspec_l7Var_l3, Pspec_l7Var_l3 @spec_l7Var_l3 n)] R) Try.f68 Hspec_l7Var (PkS.pack Sspec_l7Var (x0, ())) k = (fun (k : Int → Option R) => (spec_l7Var_l3 n x0 0 0 (fun r1 => k r1))) (fun r0 => k (PkS.pack Tspec_l7Var (r0, ()))) := by kernel_rfl
theorem okspec_l7Var (n : Nat) : FnOk Try.prog 68 (Kspec_l7Var @spec_l7Var n) := by
  refine fn_ok (sig := sig) mixed ttok (mkK_nat (cspec_l7Var n)) (mkK_ok (cspec_l7Var n)) (mkL_nat (mkK_nat (cspec_l7Var n)) (l := [(3, Dspec_l7Var_l3, Pspec_l7Var_l3 @spec_l7Var_l3 n)]) ⟨nlspec_l7Var_l3 n, trivial⟩) (fn := Try.f68) (c := bodyOf Try.f68) (by kernel_rfl) (by kernel_rfl) (by kernel_rfl) (.eq (l := [.lo (loopIn 3 (bodyOf Try.f68))]) (by kernel_rfl) ⟨(lkspec_l7Var_l3 n _ _ (at_id (i := 3) (by kernel_rfl) rfl)), trivial⟩) (shs := Hspec_l7Var) (S := Sspec_l7Var) (h1 := by kernel_rfl) fun R p k => ?_
  unfold Kspec_l7Var
  cases h : (PkS.un Sspec_l7Var p) with
  | none => rfl
  | some d =>
    obtain ⟨x0, u⟩ := (d : Int × Unit)
    have hp := PkS.un_pack h
    subst hp
    exact (espec_l7Var @spec_l7Var_l3 n x0 k).symm

/-! ### loop.example/g00269/spec.l7Of -/
theorem cspec_l7Of (n : Nat) : AllOk Try.prog [(44, Kspec_l1In @spec_l1In n), (68, Kspec_l7Var @spec_l7Var n)] := ⟨okspec_l1In n, ⟨okspec_l7Var n, trivial⟩⟩
@[reducible] def Sspec_l7Of_l11 : PkS := ⟨[.one (.box (100000, 0) 0), .one (.whole (100000, 1)), .one (.box (100000, 2) 0), .one (.int .u64), .one (.ro (.pr (.int .i64) (.pr (.int .i64) (.int .i64)))), .one (.int .i64), .one (.int .i64), .one (.whole (100000, 3)), .one (.int .i64), .one (.int .i64), .one (.dead)], [((100000, 0), .box [.ro (.pr (.int .i64) (.pr (.int .i64) (.int .i64))), .int .i64]), ((100000, 1), .arr (.int .u64)), ((100000, 2), .box [.int .i64, .int .i64, .int .i64]), ((100000, 3), .arr .bool)]⟩
@[reducible] def Tspec_l7Of_l11_0 : PkS := ⟨[.one (.int .u64), .one (.bool), .one (.dead)], []⟩
@[reducible] def Tspec_l7Of_l11_1 : PkS := ⟨[.one (.box (100000, 0) 0), .one (.whole (100000, 1)), .one (.int .u64), .one (.ro (.pr (.int .i64) (.pr (.int .i64) (.int .i64)))), .one (.int .i64), .one (.int .i64), .one (.dead)], [((100000, 0), .box [.ro (.pr (.int .i64) (.pr (.int .i64) (.int .i64))), .int .i64]), ((100000, 1), .arr (.int .u64))]⟩
def Dspec_l7Of_l11 : LoopD := ⟨127, [1, 4, 6, 7, 17, 18, 19, 51, 52, 53], [.box [(.ro (.pr (.int .i64) (.pr (.int .i64) (.int .i64)))), .any], .one (.own (.int .u64)), .box [.any, .any, .any], .one .any, .one (.ro (.pr (.int .i64) (.pr (.int .i64) (.int .i64)))), .one .any, .one .any, .one (.own .bool), .one .any, .one .any, .skip], fun x => match x with
  | .ret => some ([2, 3], [.one .any, .one .any, .skip])
  | .exit 2 => some ([1, 4, 7, 17, 18, 19], [.box [(.ro (.pr (.int .i64) (.pr (.int .i64) (.int .i64)))), .any], .one (.own (.int .u64)), .one .any, .one (.ro (.pr (.int .i64) (.pr (.int .i64) (.int .i64)))), .one .any, .one .any, .skip])
  | _ => none⟩
def Pspec_l7Of_l11 (g : ∀ {R : Type}, Nat → Int → (List (Int × Int × Int)) → Int → Int → Int → Int → (List (Int × Int × Int)) → Int → (List Int) → Int → Int → Int → (List Bool) → (Int → Bool → Option R) → (Int → (List (Int × Int × Int)) → Int → Int → (List (Int × Int × Int)) → Int → (List Int) → Option R) → Option R) (n : Nat) : LPs := fun R q kk => match (PkS.un Sspec_l7Of_l11 q : Option (Int × (List (Int × Int × Int)) × Int × Int × Int × Int × (List (Int × Int × Int)) × Int × (List Int) × Int × Int × Int × (List Bool) × Unit)) with
  | some (y11_0, y11_1, y11_2, y11_3, y11_4, y11_5, y11_6, y11_7, y11_8, y11_9, y11_10, y11_11, y11_12, _) => g n y11_0 y11_1 y11_2 y11_3 y11_4 y11_5 y11_6 y11_7 y11_8 y11_9 y11_10 y11_11 y11_12 (fun r0 r1 => kk .ret (PkS.pack Tspec_l7Of_l11_0 (r0, r1, ()))) (fun r0 r1 r2 r3 r4 r5 r6 => kk (.exit 2) (PkS.pack Tspec_l7Of_l11_1 (r0, r1, r2, r3, r4, r5, r6, ())))
  | none => none
theorem espec_l7Of_l11 (spec_l1In : ∀ {R : Type}, Nat → Int → Int → Int → (Bool → Option R) → Option R) (spec_l7Var : ∀ {R : Type}, Nat → Int → (Int → Option R) → Option R) (spec_l7Of_l11 : ∀ {R : Type}, Nat → Int → (List (Int × Int × Int)) → Int → Int → Int → Int → (List (Int × Int × Int)) → Int → (List Int) → Int → Int → Int → (List Bool) → (Int → Bool → Option R) → (Int → (List (Int × Int × Int)) → Int → Int → (List (Int × Int × Int)) → Int → (List Int) → Option R) → Option R) {R : Type} (n : Nat) (y11_0 : Int) (y11_1 : List (Int × Int × Int)) (y11_2 : Int) (y11_3 : Int) (y11_4 : Int) (y11_5 : Int) (y11_6 : List (Int × Int × Int)) (y11_7 : Int) (y11_8 : List Int) (y11_9 : Int) (y11_10 : Int) (y11_11 : Int) (y11_12 : List Bool) (kk : Ex → Pk → Option R) : Dspec_l7Of_l11.step tt sig (mkK [(44, Kspec_l1In @spec_l1In n), (68, Kspec_l7Var @spec_l7Var n)] R) (mkL (mkK [(44, Kspec_l1In @spec_l1In n), (68, Kspec_l7Var @spec_l7Var n)]) [] R) (loopIn 11 (bodyOf Try.f58)) (fun q' => Pspec_l7Of_l11 @spec_l7Of_l11 n R q' kk) (PkS.pack Sspec_l7Of_l11 (y11_0, y11_1, y11_2, y11_3, y11_4, y11_5, y11_6, y11_7, y11_8, y11_9, y11_10, y11_11, y11_12, ())) kk = (fun (kret : Int → Bool → Option R) (kexit2 : Int → (List (Int × Int × Int)) → Int → Int → (List (Int × Int × Int)) → Int → (List Int) → Option R) => (bif (decide (y11_5 < y11_4)) then (bif decide (0 ≤ y11_5) then (bif decide (y11_5 < (y11_12.length : Int)) then (spec_l7Var n y11_9 fun r4 => (bif (y11_12.getD (Int.toNat y11_5) false) then (spec_l7Var n y11_9 fun r5 => (bif (y11_11 == (-1)) then spec_l7Of_l11 n (IntKind.wrap .u64 (Int.ofNat (BitVec.toNat (BitVec.ofInt (IntKind.bits .u64) y11_0 ||| BitVec.ofInt (IntKind.bits .u64) r5)))) y11_1 y11_2 y11_3 y11_4 (IntKind.wrap .i64 (y11_5 + 1)) y11_6 y11_7 y11_8 y11_9 y11_10 y11_11 y11_12 kret kexit2 else (bif (decide (y11_11 ≥ 0)) then (bif decide (0 ≤ y11_11) then (bif decide (y11_11 < (y11_6.length : Int)) then (bif (decide ((y11_6.getD (Int.toNat y11_11) (0, (0, 0))).1 ≤ y11_9)) then kret 0 false else (bif decide (0 ≤ y11_11) then (bif decide (y11_11 < (y11_8.length : Int)) then spec_l7Of_l11 n (IntKind.wrap .u64 (Int.ofNat (BitVec.toNat (BitVec.ofInt (IntKind.bits .u64) y11_0 ||| BitVec.ofInt (IntKind.bits .u64) (IntKind.wrap .u64 (Int.ofNat (BitVec.toNat (BitVec.ofInt (IntKind.bits .u64) r5 &&& BitVec.ofInt (IntKind.bits .u64) (y11_8.getD (Int.toNat y11_11) 0))))))))) y11_1 y11_2 y11_3 y11_4 (IntKind.wrap .i64 (y11_5 + 1)) y11_6 y11_7 y11_8 y11_9 y11_10 y11_11 y11_12 kret kexit2 else none) else none)) else none) else none) else spec_l7Of_l11 n y11_0 y11_1 y11_2 y11_3 y11_4 (IntKind.wrap .i64 (y11_5 + 1)) y11_6 y11_7 y11_8 y11_9 y11_10 y11_11 y11_12 kret kexit2))) else (bif (y11_10 == (-1)) then spec_l7Of_l11 n (IntKind.wrap .u64 (Int.ofNat (BitVec.toNat (BitVec.ofInt (IntKind.bits .u64) y11_0 ||| BitVec.ofInt (IntKind.bits .u64) (IntKind.wrap .u64 (BitVec.toNat (BitVec.ofInt (IntKind.bits .u64) (18446744073709551615) ^^^ BitVec.ofInt (IntKind.bits .u64) r4))))))) y11_1 y11_2 y11_3 y11_4 (IntKind.wrap .i64 (y11_5 + 1)) y11_6 y11_7 y11_8 y11_9 y11_10 y11_11 y11_12 kret kexit2 else (bif (decide (y11_10 ≥ 0)) then (bif decide (0 ≤ y11_10) then (bif decide (y11_10 < (y11_6.length : Int)) then (bif (decide ((y11_6.getD (Int.toNat y11_10) (0, (0, 0))).1 ≤ y11_9)) then kret 0 false else (bif decide (0 ≤ y11_10) then (bif decide (y11_10 < (y11_8.length : Int)) then spec_l7Of_l11 n (IntKind.wrap .u64 (Int.ofNat (BitVec.toNat (BitVec.ofInt (IntKind.bits .u64) y11_0 ||| BitVec.ofInt (IntKind.bits .u64) (IntKind.wrap .u64 (Int.ofNat (BitVec.toNat (BitVec.ofInt (IntKind.bits .u64) (IntKind.wrap .u64 (BitVec.toNat (BitVec.ofInt (IntKind.bits .u64) (18446744073709551615) ^^^ BitVec.ofInt (IntKind.bits .u64) r4))) &&& BitVec.ofInt (IntKind.bits .u64) (y11_8.getD (Int.toNat y11_10) 0))))))))) y11_1 y11_2 y11_3 y11_4 (IntKind.wrap .i64 (y11_5 + 1)) y11_6 y11_7 y11_8 y11_9 y11_10 y11_11 y11_12 kret kexit2 else none) else none)) else none) else none) else spec_l7Of_l11 n y11_0 y11_1 y11_2 y11_3 y11_4 (IntKind.wrap .i64 (y11_5 + 1)) y11_6 y11_7 y11_8 y11_9 y11_10 y11_11 y11_12 kret kexit2)))) else none) else none) else kexit2 y11_0 y11_1 y11_2 y11_3 y11_6 y11_7 y11_8)) (fun r0 r1 => kk .ret (PkS.pack Tspec_l7Of_l11_0 (r0, r1, ()))) (fun r0 r1 r2 r3 r4 r5 r6 => kk (.exit 2) (PkS.pack Tspec_l7Of_l11_1 (r0, r1, r2, r3, r4, r5, r6, ()))) := by kernel_rfl
theorem lespec_l7Of_l11 : LoopEq tt sig (fun n => mkK [(44, Kspec_l1In @spec_l1In n), (68, Kspec_l7Var @spec_l7Var n)]) (fun n => mkL (mkK [(44, Kspec_l1In @spec_l1In n), (68, Kspec_l7Var @spec_l7Var n)]) []) Dspec_l7Of_l11 Sspec_l7Of_l11 (loopIn 11 (bodyOf Try.f58)) (Pspec_l7Of_l11 @spec_l7Of_l11) where
  zero R q kk := by unfold Pspec_l7Of_l11; cases (PkS.un Sspec_l7Of_l11 q) <;> rfl
  succ n R q kk := by
    unfold Pspec_l7Of_l11
    cases h : (PkS.un Sspec_l7Of_l11 q) with
    | none => rfl
    | some d =>
      obtain ⟨y11_0, y11_1, y11_2, y11_3, y11_4, y11_5, y11_6, y11_7, y11_8, y11_9, y11_10, y11_11, y11_12, u⟩ := (d : Int × (List (Int × Int × Int)) × Int × Int × Int × Int × (List (Int × Int × Int)) × Int × (List Int) × Int × Int × Int × (List Bool) × Unit)
      have hp := PkS.un_pack h
      subst hp
      exact (espec_l7Of_l11 @spec_l1In @spec_l7Var @spec_l7Of_l11 n y11_0 y11_1 y11_2 y11_3 y11_4 y11_5 y11_6 y11_7 y11_8 y11_9 y11_10 y11_11 y11_12 kk).symm
theorem nlspec_l7Of_l11 : ∀ n, NatLP (Pspec_l7Of_l11 @spec_l7Of_l11 n) := lespec_l7Of_l11.nat (fun n => mkK_nat (cspec_l7Of n)) fun n => mkL_nat (mkK_nat (cspec_l7Of n)) (l := []) trivial
theorem inspec_l7Of_l11 (n : Nat) (R : Type) : LoopsOk Try.prog (mkL (mkK [(44, Kspec_l1In @spec_l1In n), (68, Kspec_l7Var @spec_l7Var n)]) [] R) (loopIn 11 (bodyOf Try.f58)) := .eq (l := []) (by kernel_rfl) trivial
theorem lkspec_l7Of_l11 (n : Nat) (R : Type) (L0 : LK R) (h0 : ∀ id, firstRegion (loopIn 11 (bodyOf Try.f58)) = some id → L0 id = Dspec_l7Of_l11.oracle (mkK [(44, Kspec_l1In @spec_l1In n), (68, Kspec_l7Var @spec_l7Var n)] R) (Pspec_l7Of_l11 @spec_l7Of_l11 n R)) : LoopOk Try.prog L0 (loopIn 11 (bodyOf Try.f58)) :=
  lespec_l7Of_l11.ok mixed ttok (fun n => mkK_nat (cspec_l7Of n)) (fun n => mkK_ok (cspec_l7Of n)) (fun n => inspec_l7Of_l11 n R) (mkK_nat (cspec_l7Of n)) h0
@[reducible] def Sspec_l7Of_l5 : PkS := ⟨[.one (.box (100000, 0) 0), .one (.whole (100000, 1)), .one (.ro (.pr (.int .i64) (.pr (.int .i64) (.int .i64)))), .one (.int .i64), .one (.int .i64), .one (.dead)], [((100000, 0), .box [.ro (.pr (.int .i64) (.pr (.int .i64) (.int .i64))), .int .i64]), ((100000, 1), .arr (.int .u64))]⟩
@[reducible] def Tspec_l7Of_l5_0 : PkS := ⟨[.one (.int .u64), .one (.bool), .one (.dead)], []⟩
@[reducible] def Tspec_l7Of_l5_1 : PkS := ⟨[.one (.box (100000, 0) 0), .one (.whole (100000, 1)), .one (.dead)], [((100000, 0), .box [.ro (.pr (.int .i64) (.pr (.int .i64) (.int .i64))), .int .i64]), ((100000, 1), .arr (.int .u64))]⟩
def Dspec_l7Of_l5 : LoopD := ⟨127, [1, 4, 17, 18, 19], [.box [(.ro (.pr (.int .i64) (.pr (.int .i64) (.int .i64)))), .any], .one (.own (.int .u64)), .one (.ro (.pr (.int .i64) (.pr (.int .i64) (.int .i64)))), .one .any, .one .any, .skip], fun x => match x with
  | .ret => some ([2, 3], [.one .any, .one .any, .skip])
  | .exit 0 => some ([1, 4], [.box [(.ro (.pr (.int .i64) (.pr (.int .i64) (.int .i64)))), .any], .one (.own (.int .u64)), .skip])
  | _ => none⟩
def Pspec_l7Of_l5 (g : ∀ {R : Type}, Nat → (List (Int × Int × Int)) → Int → Int → (List (Int × Int × Int)) → Int → (List Int) → (Int → Bool → Option R) → ((List (Int × Int × Int)) → Int → (List Int) → Option R) → Option R) (n : Nat) : LPs := fun R q kk => match (PkS.un Sspec_l7Of_l5 q : Option ((List (Int × Int × Int)) × Int × Int × (List (Int × Int × Int)) × Int × (List Int) × Unit)) with
  | some (y5_0, y5_1, y5_2, y5_3, y5_4, y5_5, _) => g n y5_0 y5_1 y5_2 y5_3 y5_4 y5_5 (fun r0 r1 => kk .ret (PkS.pack Tspec_l7Of_l5_0 (r0, r1, ()))) (fun r0 r1 r2 => kk (.exit 0) (PkS.pack Tspec_l7Of_l5_1 (r0, r1, r2, ())))
  | none => none
theorem espec_l7Of_l5 (spec_l1In : ∀ {R : Type}, Nat → Int → Int → Int → (Bool → Option R) → Option R) (spec_l7Var : ∀ {R : Type}, Nat → Int → (Int → Option R) → Option R) (spec_l7Of_l11 : ∀ {R : Type}, Nat → Int → (List (Int × Int × Int)) → Int → Int → Int → Int → (List (Int × Int × Int)) → Int → (List Int) → Int → Int → Int → (List Bool) → (Int → Bool → Option R) → (Int → (List (Int × Int × Int)) → Int → Int → (List (Int × Int × Int)) → Int → (List Int) → Option R) → Option R) (spec_l7Of_l5 : ∀ {R : Type}, Nat → (List (Int × Int × Int)) → Int → Int → (List (Int × Int × Int)) → Int → (List Int) → (Int → Bool → Option R) → ((List (Int × Int × Int)) → Int → (List Int) → Option R) → Option R) {R : Type} (n : Nat) (y5_0 : List (Int × Int × Int)) (y5_1 : Int) (y5_2 : Int) (y5_3 : List (Int × Int × Int)) (y5_4 : Int) (y5_5 : List Int) (kk : Ex → Pk → Option R) : Dspec_l7Of_l5.step tt sig (mkK [(44, Kspec_l1In @spec_l1In n), (68, Kspec_l7Var @spec_l7Var n)] R) (mkL (mkK [(44, Kspec_l1In @spec_l1In n), (68, Kspec_l7Var @spec_l7Var n)]) [(11, Dspec_l7Of_l11, Pspec_l7Of_l11 @spec_l7Of_l11 n)] R) (loopIn 5 (bodyOf Try.f58)) (fun q' => Pspec_l7Of_l5 @spec_l7Of_l5 n R q' kk) (PkS.pack Sspec_l7Of_l5 (y5_0, y5_1, y5_2, y5_3, y5_4, y5_5, ())) kk = (fun (kret : Int → Bool → Option R) (kexit0 : (List (Int × Int × Int)) → Int → (List Int) → Option R) => (bif (decide (y5_2 < y5_1)) then (bif decide (0 ≤ y5_2) then (bif decide (y5_2 < (y5_0.length : Int)) then (spec_l1In n ((y5_0.getD (Int.toNat y5_2) (0, (0, 0))).1) 0 5 fun r1 => (bif (!r1) then kret 0 false else (spec_l1In n ((y5_0.getD (Int.toNat y5_2) (0, (0, 0))).2.1) (-2) (IntKind.wrap .i64 (y5_2 - 1)) fun r2 => (bif (!r2) then kret 0 false else (spec_l1In n ((y5_0.getD (Int.toNat y5_2) (0, (0, 0))).2.2) (-2) (IntKind.wrap .i64 (y5_2 - 1)) fun r3 => (bif (!r3) then kret 0 false else (bif ((y5_0.getD (Int.toNat y5_2) (0, (0, 0))).2.1 == (y5_0.getD (Int.toNat y5_2) (0, (0, 0))).2.2) then kret 0 false else (spec_l7Of_l11 n 0 y5_0 y5_1 y5_2 (([false, true]).length : Int) 0 y5_3 y5_4 y5_5 ((y5_0.getD (Int.toNat y5_2) (0, (0, 0))).1) ((y5_0.getD (Int.toNat y5_2) (0, (0, 0))).2.1) ((y5_0.getD (Int.toNat y5_2) (0, (0, 0))).2.2) ([false, true]) (fun r6 r7 => kret r6 r7) (fun r8 r9 r10 r11 r12 r13 r14 => (bif decide (r14.length + [r8].length ≤ LIM) then spec_l7Of_l5 n r9 r10 (IntKind.wrap .i64 (r11 + 1)) r12 r13 (r14 ++ [r8]) kret kexit0 else none)))))))))) else none) else none) else kexit0 y5_3 y5_4 y5_5)) (fun r0 r1 => kk .ret (PkS.pack Tspec_l7Of_l5_0 (r0, r1, ()))) (fun r0 r1 r2 => kk (.exit 0) (PkS.pack Tspec_l7Of_l5_1 (r0, r1, r2, ()))) := by kernel_rfl
theorem lespec_l7Of_l5 : LoopEq tt sig (fun n => mkK [(44, Kspec_l1In @spec_l1In n), (68, Kspec_l7Var @spec_l7Var n)]) (fun n => mkL (mkK [(44, Kspec_l1In @spec_l1In n), (68, Kspec_l7Var @spec_l7Var n)]) [(11, Dspec_l7Of_l11, Pspec_l7Of_l11 @spec_l7Of_l11 n)]) Dspec_l7Of_l5 Sspec_l7Of_l5 (loopIn 5 (bodyOf Try.f58)) (Pspec_l7Of_l5 @spec_l7Of_l5) where
  zero R q kk := by unfold Pspec_l7Of_l5; cases (PkS.un Sspec_l7Of_l5 q) <;> rfl
  succ n R q kk := by
    unfold Pspec_l7Of_l5
    cases h : (PkS.un Sspec_l7Of_l5 q) with
    | none => rfl
    | some d =>
      obtain ⟨y5_0, y5_1, y5_2, y5_3, y5_4, y5_5, u⟩ := (d : (List (Int × Int × Int)) × Int × Int × (List (Int × Int × Int)) × Int × (List Int) × Unit)
      have hp := PkS.un_pack h
      subst hp
      exact (espec_l7Of_l5 @spec_l1In @spec_l7Var @spec_l7Of_l11 @spec_l7Of_l5 n y5_0 y5_1 y5_2 y5_3 y5_4 y5_5 kk).symm
theorem nlspec_l7Of_l5 : ∀ n, NatLP (Pspec_l7Of_l5 @spec_l7Of_l5 n) := lespec_l7Of_l5.nat (fun n => mkK_nat (cspec_l7Of n)) fun n => mkL_nat (mkK_nat (cspec_l7Of n)) (l := [(11, Dspec_l7Of_l11, Pspec_l7Of_l11 @spec_l7Of_l11 n)]) ⟨nlspec_l7Of_l11 n, trivial⟩
theorem inspec_l7Of_l5 (n : Nat) (R : Type) : LoopsOk Try.prog (mkL (mkK [(44, Kspec_l1In @spec_l1In n), (68, Kspec_l7Var @spec_l7Var n)]) [(11, Dspec_l7Of_l11, Pspec_l7Of_l11 @spec_l7Of_l11 n)] R) (loopIn 5 (bodyOf Try.f58)) := .eq (l := [.lo (loopIn 11 (bodyOf Try.f58))]) (by kernel_rfl) ⟨(lkspec_l7Of_l11 n R _ (at_id (i := 11) (by kernel_rfl) rfl)), trivial⟩
theorem lkspec_l7Of_l5 (n : Nat) (R : Type) (L0 : LK R) (h0 : ∀ id, firstRegion (loopIn 5 (bodyOf Try.f58)) = some id → L0 id = Dspec_l7Of_l5.oracle (mkK [(44, Kspec_l1In @spec_l1In n), (68, Kspec_l7Var @spec_l7Var n)] R) (Pspec_l7Of_l5 @spec_l7Of_l5 n R)) : LoopOk Try.prog L0 (loopIn 5 (bodyOf Try.f58)) :=
  lespec_l7Of_l5.ok mixed ttok (fun n => mkK_nat (cspec_l7Of n)) (fun n => mkK_ok (cspec_l7Of n)) (fun n => inspec_l7Of_l5 n R) (mkK_nat (cspec_l7Of n)) h0
@[reducible] def Sspec_l7Of : PkS := ⟨[.agg [.ro (.pr (.int .i64) (.pr (.int .i64) (.int .i64))), .int .i64]], []⟩
@[reducible] def Tspec_l7Of : PkS := ⟨[.tup [(false, [.int .u64]), (false, [.bool])], .one (.dead)], []⟩
def Hspec_l7Of : List Sh := [.tup [(false, [.any]), (false, [.any])], .skip]
def Kspec_l7Of (g : ∀ {R : Type}, Nat → (List (Int × Int × Int)) → Int → (Int → Bool → Option R) → Option R) (n : Nat) : KPs := fun R p k => match (PkS.un Sspec_l7Of p : Option ((List (Int × Int × Int)) × Int × Unit)) with
  | some (x0, x1, _) => g n x0 x1 (fun r0 r1 => k (PkS.pack Tspec_l7Of (r0, r1, ())))
  | none => none
theorem espec_l7Of (spec_l1In : ∀ {R : Type}, Nat → Int → Int → Int → (Bool → Option R) → Option R) (spec_l7Var : ∀ {R : Type}, Nat → Int → (Int → Option R) → Option R) (spec_l7Of_l11 : ∀ {R : Type}, Nat → Int → (List (Int × Int × Int)) → Int → Int → Int → Int → (List (Int × Int × Int)) → Int → (List Int) → Int → Int → Int → (List Bool) → (Int → Bool → Option R) → (Int → (List (Int × Int × Int)) → Int → Int → (List (Int × Int × Int)) → Int → (List Int) → Option R) → Option R) (spec_l7Of_l5 : ∀ {R : Type}, Nat → (List (Int × Int × Int)) → Int → Int → (List (Int × Int × Int)) → Int → (List Int) → (Int → Bool → Option R) → ((List (Int × Int × Int)) → Int → (List Int) → Option R) → Option R) {R : Type} (n : Nat) (x0 : List (Int × Int × Int)) (x1 : Int) (k : Pk → Option R) : evF tt sig (mkK [(44, Kspec_l1In @spec_l1In n), (68, Kspec_l7Var @spec_l7Var n)] R) (mkL (mkK [(44, Kspec_l1In @spec_l1In n), (68, Kspec_l7Var @spec_l7Var n)]) [(11, Dspec_l7Of_l11, Pspec_l7Of_l11 @spec_l7Of_l11 n), (5, Dspec_l7Of_l5, Pspec_l7Of_l5 @spec_l7Of_l5 n)] R) Try.f58 Hspec_l7Of (PkS.pack Sspec_l7Of (x0, x1, ())) k = (fun (k : Int → Bool → Option R) => (bif (decide ((x0.length : Int) > 70)) then k 0 false else (spec_l7Of_l5 n x0 (x0.length : Int) 0 x0 x1 ([] : List Int) (fun r15 r16 => k r15 r16) (fun r17 r18 r19 => (bif (r18 == (-2)) then k 0 ((r19.length : Int) == 0) else (bif (r18 == (-1)) then k 18446744073709551615 ((r19.length : Int) == 0) else (bif (r18 != (IntKind.wrap .i64 ((r19.length : Int) - 1))) then k 0 false else (bif decide (0 ≤ r18) then (bif decide (r18 < (r19.length : Int)) then k (r19.getD (Int.toNat r18) 0) true else none) else none)))))))) (fun r0 r1 => k (PkS.pack Tspec_l7Of (r0, r1, ()))) := by kernel_rfl
theorem okspec_l7Of (n : Nat) : FnOk Try.prog 58 (Kspec_l7Of @spec_l7Of n) := by
  refine fn_ok (sig := sig) mixed ttok (mkK_nat (cspec_l7Of n)) (mkK_ok (cspec_l7Of n)) (mkL_nat (mkK_nat (cspec_l7Of n)) (l := [(11, Dspec_l7Of_l11, Pspec_l7Of_l11 @spec_l7Of_l11 n), (5, Dspec_l7Of_l5, Pspec_l7Of_l5 @spec_l7Of_l5 n)]) ⟨nlspec_l7Of_l11 n, ⟨nlspec_l7Of_l5 n, trivial⟩⟩) (fn := Try.f58) (c := bodyOf Try.f58) (by kernel_rfl) (by kernel_rfl) (by kernel_rfl) (.eq (l := [.lo (loopIn 5 (bodyOf Try.f58))]) (by kernel_rfl) ⟨(lkspec_l7Of_l5 n _ _ (at_id (i := 5) (by kernel_rfl) rfl)), trivial⟩) (shs := Hspec_l7Of) (S := Sspec_l7Of) (h1 := by kernel_rfl) fun R p k => ?_
  unfold Kspec_l7Of
  cases h : (PkS.un Sspec_l7Of p) with
  | none => rfl
  | some d =>
    obtain ⟨x0, x1, u⟩ := (d : (List (Int × Int × Int)) × Int × Unit)
    have hp := PkS.un_pack h
    subst hp
    exact (espec_l7Of @spec_l1In @spec_l7Var @spec_l7Of_l11 @spec_l7Of_l5 n x0 x1 k).symm

/-! ### loop.example/g00269/spec.l7Half -/
theorem cspec_l7Half (n : Nat) : AllOk Try.prog [(68, Kspec_l7Var @spec_l7Var n)] := ⟨okspec_l7Var n, trivial⟩
@[reducible] def Sspec_l7Half : PkS := ⟨[.one (.int .u64), .one (.int .i64), .one (.bool)], []⟩
@[reducible] def Tspec_l7Half : PkS := ⟨[.one (.int .u64), .one (.dead), .one (.dead), .one (.dead)], []⟩
def Hspec_l7Half : List Sh := [.one .any, .skip, .skip, .skip]
def Kspec_l7Half (g : ∀ {R : Type}, Nat → Int → Int → Bool → (Int → Option R) → Option R) (n : Nat) : KPs := fun R p k => match (PkS.un Sspec_l7Half p : Option (Int × Int × Bool × Unit)) with
  | some (x0, x1, x2, _) => g n x0 x1 x2 (fun r0 => k (PkS.pack Tspec_l7Half (r0, ())))
  | none => none
theorem espec_l7Half (spec_l7Var : ∀ {R : Type}, Nat → Int → (Int → Option R) → Option R) {R : Type} (n : Nat) (x0 : Int) (x1 : Int) (x2 : Bool) (k : Pk → Option R) : evF tt sig (mkK [(68, Kspec_l7Var @spec_l7Var n)] R) (mkL (mkK [(68, Kspec_l7Var @spec_l7Var n)]) [] R) Try.f54 Hspec_l7Half (PkS.pack Sspec_l7Half (x0, x1, x2, ())) k = (fun (k : Int → Option R) => (spec_l7Var n x1 fun r1 => (bif decide (0 ≤ (IntKind.wrap .u64 (x1))) then (bif x2 then (bif decide (0 ≤ (IntKind.wrap .u64 (1 * 2 ^ (min (Int.toNat (IntKind.wrap .u64 (x1))) (IntKind.bits .u64))))) then k (IntKind.wrap .u64 (Int.ofNat (BitVec.toNat (BitVec.ofInt (IntKind.bits .u64) (IntKind.wrap .u64 (Int.ofNat (BitVec.toNat (BitVec.ofInt (IntKind.bits .u64) x0 &&& BitVec.ofInt (IntKind.bits .u64) r1)))) ||| BitVec.ofInt (IntKind.bits .u64) (Int.fdiv (IntKind.wrap .u64 (Int.ofNat (BitVec.toNat (BitVec.ofInt (IntKind.bits .u64) x0 &&& BitVec.ofInt (IntKind.bits .u64) r1)))) (2 ^ (min (Int.toNat (IntKind.wrap .u64 (1 * 2 ^ (min (Int.toNat (IntKind.wrap .u64 (x1))) (IntKind.bits .u64))))) (IntKind.bits .u64)))))))) else none) else (bif decide (0 ≤ (IntKind.wrap .u64 (1 * 2 ^ (min (Int.toNat (IntKind.wrap .u64 (x1))) (IntKind.bits .u64))))) then k (IntKind.wrap .u64 (Int.ofNat (BitVec.toNat (BitVec.ofInt (IntKind.bits .u64) (IntKind.wrap .u64 (Int.ofNat (BitVec.toNat (BitVec.ofInt (IntKind.bits .u64) x0 &&& ~~~ BitVec.ofInt (IntKind.bits .u64) r1)))) ||| BitVec.ofInt (IntKind.bits .u64) (IntKind.wrap .u64 ((IntKind.wrap .u64 (Int.ofNat (BitVec.toNat (BitVec.ofInt (IntKind.bits .u64) x0 &&& ~~~ BitVec.ofInt (IntKind.bits .u64) r1)))) * 2 ^ (min (Int.toNat (IntKind.wrap .u64 (1 * 2 ^ (min (Int.toNat (IntKind.wrap .u64 (x1))) (IntKind.bits .u64))))) (IntKind.bits .u64)))))))) else none)) else none))) (fun r0 => k (PkS.pack Tspec_l7Half (r0, ()))) := by kernel_rfl
theorem okspec_l7Half (n : Nat) : FnOk Try.prog 54 (Kspec_l7Half @spec_l7Half n) := by
  refine fn_ok (sig := sig) mixed ttok (mkK_nat (cspec_l7Half n)) (mkK_ok (cspec_l7Half n)) (mkL_nat (mkK_nat (cspec_l7Half n)) (l := []) trivial) (fn := Try.f54) (c := bodyOf Try.f54) (by kernel_rfl) (by kernel_rfl) (by kernel_rfl) (.eq (l := []) (by kernel_rfl) trivial) (shs := Hspec_l7Half) (S := Sspec_l7Half) (h1 := by kernel_rfl) fun R p k => ?_
  unfold Kspec_l7Half
  cases h : (PkS.un Sspec_l7Half p) with
  | none => rfl
  | some d =>
    obtain ⟨x0, x1, x2, u⟩ := (d : Int × Int × Bool × Unit)
    have hp := PkS.un_pack h
    subst hp
    exact (espec_l7Half @spec_l7Var n x0 x1 x2 k).symm

/-! ### loop.example/g00269/spec.l7Build -/
theorem cspec_l7Build (n : Nat) : AllOk Try.prog [(54, Kspec_l7Half @spec_l7Half n)] := ⟨okspec_l7Half n, trivial⟩
@[reducible] def Sspec_l7Build_l14 : PkS := ⟨[.one (.whole (100000, 0)), .one (.box (100000, 1) 0), .one (.whole (100000, 0)), .one (.int .i64), .one (.int .i64), .one (.dead), .one (.dead), .one (.dead)], [((100000, 0), .arr (.pr (.int .i64) (.pr (.int .i64) (.int .i64)))), ((100000, 1), .box [.int .i64, .int .i64, .int .i64])]⟩
@[reducible] def Tspec_l7Build_l14_0 : PkS := ⟨[.one (.int .i64), .one (.whole (100000, 0)), .one (.dead), .one (.dead), .one (.dead)], [((100000, 0), .arr (.pr (.int .i64) (.pr (.int .i64) (.int .i64))))]⟩
@[reducible] def Tspec_l7Build_l14_1 : PkS := ⟨[.one (.whole (100000, 0)), .one (.box (100000, 1) 0), .one (.dead), .one (.dead), .one (.dead)], [((100000, 0), .arr (.pr (.int .i64) (.pr (.int .i64) (.int .i64)))), ((100000, 1), .box [.int .i64, .int .i64, .int .i64])]⟩
def Dspec_l7Build_l14 : LoopD := ⟨77, [2, 12, 58, 59, 60], [.one (.own (.pr (.int .i64) (.pr (.int .i64) (.int .i64)))), .box [.any, .any, .any], .one (.own (.pr (.int .i64) (.pr (.int .i64) (.int .i64)))), .one .any, .one .any, .skip, .skip, .skip], fun x => match x with
  | .ret => some ([6, 7], [.one .any, .one (.own (.pr (.int .i64) (.pr (.int .i64) (.int .i64)))), .skip, .skip, .skip])
  | .exit 1 => some ([2, 12], [.one (.own (.pr (.int .i64) (.pr (.int .i64) (.int .i64)))), .box [.any, .any, .any], .skip, .skip, .skip])
  | _ => none⟩
def Pspec_l7Build_l14 (g : ∀ {R : Type}, Nat → Int → Int → (List (Int × Int × Int)) → Int → Int → Int → (Int → (List (Int × Int × Int)) → Option R) → ((List (Int × Int × Int)) → Int → Int → Int → Option R) → Option R) (n : Nat) : LPs := fun R q kk => match (PkS.un Sspec_l7Build_l14 q : Option (Int × Int × (List (Int × Int × Int)) × Int × Int × Int × Unit)) with
  | some (y14_0, y14_1, y14_2, y14_3, y14_4, y14_5, _) => g n y14_0 y14_1 y14_2 y14_3 y14_4 y14_5 (fun r0 r1 => kk .ret (PkS.pack Tspec_l7Build_l14_0 (r0, r1, ()))) (fun r0 r1 r2 r3 => kk (.exit 1) (PkS.pack Tspec_l7Build_l14_1 (r0, r1, r2, r3, ())))
  | none => none
theorem espec_l7Build_l14 (spec_l7Half : ∀ {R : Type}, Nat → Int → Int → Bool → (Int → Option R) → Option R) (spec_l7Build_l14 : ∀ {R : Type}, Nat → Int → Int → (List (Int × Int × Int)) → Int → Int → Int → (Int → (List (Int × Int × Int)) → Option R) → ((List (Int × Int × Int)) → Int → Int → Int → Option R) → Option R) {R : Type} (n : Nat) (y14_0 : Int) (y14_1 : Int) (y14_2 : List (Int × Int × Int)) (y14_3 : Int) (y14_4 : Int) (y14_5 : Int) (kk : Ex → Pk → Option R) : Dspec_l7Build_l14.step tt sig (mkK [(54, Kspec_l7Half @spec_l7Half n)] R) (mkL (mkK [(54, Kspec_l7Half @spec_l7Half n)]) [] R) (loopIn 14 (bodyOf Try.f65)) (fun q' => Pspec_l7Build_l14 @spec_l7Build_l14 n R q' kk) (PkS.pack Sspec_l7Build_l14 (y14_0, y14_1, y14_2, y14_3, y14_4, y14_5, ())) kk = (fun (kret : Int → (List (Int × Int × Int)) → Option R) (kexit1 : (List (Int × Int × Int)) → Int → Int → Int → Option R) => (bif (decide (y14_1 < y14_0)) then (bif decide (0 ≤ y14_1) then (bif decide (y14_1 < (y14_2.length : Int)) then (bif (((y14_2.getD (Int.toNat y14_1) (0, (0, 0))).1 == y14_3) && (((y14_2.getD (Int.toNat y14_1) (0, (0, 0))).2.1 == y14_4) && (((y14_2.getD (Int.toNat y14_1) (0, (0, 0))).2.2 == y14_5) && true))) then kret y14_1 y14_2 else spec_l7Build_l14 n y14_0 (IntKind.wrap .i64 (y14_1 + 1)) y14_2 y14_3 y14_4 y14_5 kret kexit1) else none) else none) else kexit1 y14_2 y14_3 y14_4 y14_5)) (fun r0 r1 => kk .ret (PkS.pack Tspec_l7Build_l14_0 (r0, r1, ()))) (fun r0 r1 r2 r3 => kk (.exit 1) (PkS.pack Tspec_l7Build_l14_1 (r0, r1, r2, r3, ()))) := by kernel_rfl
theorem lespec_l7Build_l14 : LoopEq tt sig (fun n => mkK [(54, Kspec_l7Half @spec_l7Half n)]) (fun n => mkL (mkK [(54, Kspec_l7Half @spec_l7Half n)]) []) Dspec_l7Build_l14 Sspec_l7Build_l14 (loopIn 14 (bodyOf Try.f65)) (Pspec_l7Build_l14 @spec_l7Build_l14) where
  zero R q kk := by unfold Pspec_l7Build_l14; cases (PkS.un Sspec_l7Build_l14 q) <;> rfl
  succ n R q kk := by
    unfold Pspec_l7Build_l14
    cases h : (PkS.un Sspec_l7Build_l14 q) with
    | none => rfl
    | some d =>
      obtain ⟨y14_0, y14_1, y14_2, y14_3, y14_4, y14_5, u⟩ := (d : Int × Int × (List (Int × Int × Int)) × Int × Int × Int × Unit)
      have hp := PkS.un_pack h
      subst hp
      exact (espec_l7Build_l14 @spec_l7Half @spec_l7Build_l14 n y14_0 y14_1 y14_2 y14_3 y14_4 y14_5 kk).symm
theorem nlspec_l7Build_l14 : ∀ n, NatLP (Pspec_l7Build_l14 @spec_l7Build_l14 n) := lespec_l7Build_l14.nat (fun n => mkK_nat (cspec_l7Build n)) fun n => mkL_nat (mkK_nat (cspec_l7Build n)) (l := []) trivial
theorem inspec_l7Build_l14 (n : Nat) (R : Type) : LoopsOk Try.prog (mkL (mkK [(54, Kspec_l7Half @spec_l7Half n)]) [] R) (loopIn 14 (bodyOf Try.f65)) := .eq (l := []) (by kernel_rfl) trivial
theorem lkspec_l7Build_l14 (n : Nat) (R : Type) (L0 : LK R) (h0 : ∀ id, firstRegion (loopIn 14 (bodyOf Try.f65)) = some id → L0 id = Dspec_l7Build_l14.oracle (mkK [(54, Kspec_l7Half @spec_l7Half n)] R) (Pspec_l7Build_l14 @spec_l7Build_l14 n R)) : LoopOk Try.prog L0 (loopIn 14 (bodyOf Try.f65)) :=
  lespec_l7Build_l14.ok mixed ttok (fun n => mkK_nat (cspec_l7Build n)) (fun n => mkK_ok (cspec_l7Build n)) (fun n => inspec_l7Build_l14 n R) (mkK_nat (cspec_l7Build n)) h0
@[reducible] def Sspec_l7Build : PkS := ⟨[.one (.int .u64), .one (.int .i64), .one (.whole (200000, 0))], [((200000, 0), .arr (.pr (.int .i64) (.pr (.int .i64) (.int .i64))))]⟩
@[reducible] def Tspec_l7Build : PkS := ⟨[.tup [(false, [.int .i64]), (false, [.whole (300000, 0)])], .one (.dead), .one (.dead), .one (.dead)], [((300000, 0), .arr (.pr (.int .i64) (.pr (.int .i64) (.int .i64))))]⟩
def Hspec_l7Build : List Sh := [.tup [(false, [.any]), (false, [(.own (.pr (.int .i64) (.pr (.int .i64) (.int .i64))))])], .skip, .skip, .skip]
def Kspec_l7Build (g : ∀ {R : Type}, Nat → Int → Int → (List (Int × Int × Int)) → (Int → (List (Int × Int × Int)) → Option R) → Option R) (n : Nat) : KPs := fun R p k => match (PkS.un Sspec_l7Build p : Option (Int × Int × (List (Int × Int × Int)) × Unit)) with
  | some (x0, x1, x2, _) => g n x0 x1 x2 (fun r0 r1 => k (PkS.pack Tspec_l7Build (r0, r1, ())))
  | none => none
theorem dspec_l7Build (n : Nat) (ih : FnOk Try.prog 65 (Kspec_l7Build @spec_l7Build n)) : AllOk Try.prog [(54, Kspec_l7Half @spec_l7Half n), (65, Kspec_l7Build @spec_l7Build n)] := ⟨okspec_l7Half n, ⟨ih, trivial⟩⟩
theorem espec_l7Build (spec_l7Half : ∀ {R : Type}, Nat → Int → Int → Bool → (Int → Option R) → Option R) (spec_l7Build : ∀ {R : Type}, Nat → Int → Int → (List (Int × Int × Int)) → (Int → (List (Int × Int × Int)) → Option R) → Option R) (spec_l7Build_l14 : ∀ {R : Type}, Nat → Int → Int → (List (Int × Int × Int)) → Int → Int → Int → (Int → (List (Int × Int × Int)) → Option R) → ((List (Int × Int × Int)) → Int → Int → Int → Option R) → Option R) {R : Type} (n : Nat) (x0 : Int) (x1 : Int) (x2 : List (Int × Int × Int)) (k : Pk → Option R) : evF tt sig (mkK [(54, Kspec_l7Half @spec_l7Half n), (65, Kspec_l7Build @spec_l7Build n)] R) (mkL (mkK [(54, Kspec_l7Half @spec_l7Half n)]) [(14, Dspec_l7Build_l14, Pspec_l7Build_l14 @spec_l7Build_l14 n)] R) Try.f65 Hspec_l7Build (PkS.pack Sspec_l7Build (x0, x1, x2, ())) k = (fun (k : Int → (List (Int × Int × Int)) → Option R) => (bif (x0 == 0) then k (-2) x2 else (bif (x0 == 18446744073709551615) then k (-1) x2 else (spec_l7Half n x0 x1 false fun r1 => (spec_l7Half n x0 x1 true fun r2 => (bif (r1 == r2) then (spec_l7Build n x0 (IntKind.wrap .i64 (x1 + 1)) x2 fun r3 r4 => k r3 r4) else (spec_l7Build n r1 (IntKind.wrap .i64 (x1 + 1)) x2 fun r5 r6 => (spec_l7Build n r2 (IntKind.wrap .i64 (x1 + 1)) r6 fun r7 r8 => (spec_l7Build_l14 n (r8.length : Int) 0 r8 x1 r5 r7 (fun r9 r10 => k r9 r10) (fun r11 r12 r13 r14 => (bif decide (r11.length + ([(r12, (r13, r14))]).length ≤ LIM) then k (r11.length : Int) (r11 ++ [(r12, (r13, r14))]) else none))))))))))) (fun r0 r1 => k (PkS.pack Tspec_l7Build (r0, r1, ()))) := by kernel_rfl
theorem okspec_l7Build : ∀ n, FnOk Try.prog 65 (Kspec_l7Build @spec_l7Build n)
  | 0 => fn_none fun R p k => by unfold Kspec_l7Build; cases (PkS.un Sspec_l7Build p : Option (Int × Int × (List (Int × Int × Int)) × Unit)) <;> rfl
  | n + 1 => by
    refine fn_ok (sig := sig) mixed ttok (mkK_nat (dspec_l7Build n (okspec_l7Build n))) (mkK_ok (dspec_l7Build n (okspec_l7Build n))) (mkL_nat (mkK_nat (cspec_l7Build n)) (l := [(14, Dspec_l7Build_l14, Pspec_l7Build_l14 @spec_l7Build_l14 n)]) ⟨nlspec_l7Build_l14 n, trivial⟩) (fn := Try.f65) (c := bodyOf Try.f65) (by kernel_rfl) (by kernel_rfl) (by kernel_rfl) (.eq (l := [.lo (loopIn 14 (bodyOf Try.f65))]) (by kernel_rfl) ⟨(lkspec_l7Build_l14 n _ _ (at_id (i := 14) (by kernel_rfl) rfl)), trivial⟩) (shs := Hspec_l7Build) (S := Sspec_l7Build) (h1 := by kernel_rfl) fun R p k => ?_
    unfold Kspec_l7Build
    cases h : (PkS.un Sspec_l7Build p) with
    | none => rfl
    | some d =>
      obtain ⟨x0, x1, x2, u⟩ := (d : Int × Int × (List (Int × Int × Int)) × Unit)
      have hp := PkS.un_pack h
      subst hp
      exact (espec_l7Build @spec_l7Half @spec_l7Build @spec_l7Build_l14 n x0 x1 x2 k).symm

/-! ### loop.example/g00269/spec.l7Diagram -/
theorem cspec_l7Diagram (n : Nat) : AllOk Try.prog [(65, Kspec_l7Build @spec_l7Build n)] := ⟨okspec_l7Build n, trivial⟩
@[reducible] def Sspec_l7Diagram : PkS := ⟨[.one (.int .u64)], []⟩
@[reducible] def Tspec_l7Diagram : PkS := ⟨[.tup [(true, [.whole (300000, 0), .int .i64]), (false, [.bool])], .one (.dead)], [((300000, 0), .arr (.pr (.int .i64) (.pr (.int .i64) (.int .i64))))]⟩
def Hspec_l7Diagram : List Sh := [.tup [(true, [(.own (.pr (.int .i64) (.pr (.int .i64) (.int .i64)))), .any]), (false, [.any])], .skip]
def Kspec_l7Diagram (g : ∀ {R : Type}, Nat → Int → (Int → Bool → (List (Int × Int × Int)) → Option R) → Option R) (n : Nat) : KPs := fun R p k => match (PkS.un Sspec_l7Diagram p : Option (Int × Unit)) with
  | some (x0, _) => g n x0 (fun r0 r1 r2 => k (PkS.pack Tspec_l7Diagram (r0, r1, r2, ())))
  | none => none
theorem espec_l7Diagram (spec_l7Build : ∀ {R : Type}, Nat → Int → Int → (List (Int × Int × Int)) → (Int → (List (Int × Int × Int)) → Option R) → Option R) {R : Type} (n : Nat) (x0 : Int) (k : Pk → Option R) : evF tt sig (mkK [(65, Kspec_l7Build @spec_l7Build n)] R) (mkL (mkK [(65, Kspec_l7Build @spec_l7Build n)]) [] R) Try.f47 Hspec_l7Diagram (PkS.pack Sspec_l7Diagram (x0, ())) k = (fun (k : Int → Bool → (List (Int × Int × Int)) → Option R) => (spec_l7Build n x0 0 ([] : List (Int × Int × Int)) fun r1 r2 => k r1 (decide ((r2.length : Int) ≤ 70)) r2)) (fun r0 r1 r2 => k (PkS.pack Tspec_l7Diagram (r0, r1, r2, ()))) := by kernel_rfl
theorem okspec_l7Diagram (n : Nat) : FnOk Try.prog 47 (Kspec_l7Diagram @spec_l7Diagram n) := by
  refine fn_ok (sig := sig) mixed ttok (mkK_nat (cspec_l7Diagram n)) (mkK_ok (cspec_l7Diagram n)) (mkL_nat (mkK_nat (cspec_l7Diagram n)) (l := []) trivial) (fn := Try.f47) (c := bodyOf Try.f47) (by kernel_rfl) (by kernel_rfl) (by kernel_rfl) (.eq (l := []) (by kernel_rfl) trivial) (shs := Hspec_l7Diagram) (S := Sspec_l7Diagram) (h1 := by kernel_rfl) fun R p k => ?_
  unfold Kspec_l7Diagram
  cases h : (PkS.un Sspec_l7Diagram p) with
  | none => rfl
  | some d =>
    obtain ⟨x0, u⟩ := (d : Int × Unit)
    have hp := PkS.un_pack h
    subst hp
    exact (espec_l7Diagram @spec_l7Build n x0 k).symm

/-! ### loop.example/g00269/spec.l7Good -/
theorem cspec_l7Good (n : Nat) : AllOk Try.prog [(58, Kspec_l7Of @spec_l7Of n), (47, Kspec_l7Diagram @spec_l7Diagram n)] := ⟨okspec_l7Of n, ⟨okspec_l7Diagram n, trivial⟩⟩
@[reducible] def Sspec_l7Good_l8 : PkS := ⟨[.one (.box (100000, 0) 0), .one (.int .u64), .one (.box (100000, 2) 0), .one (.int .i64), .one (.int .i64), .one (.dead)], [((100000, 0), .box [.ro (.pr (.int .i64) (.pr (.int .i64) (.int .i64))), .int .i64]), ((100000, 1), .arr (.pr (.int .i64) (.pr (.int .i64) (.int .i64)))), ((100000, 2), .box [.whole (100000, 1), .int .i64])]⟩
@[reducible] def Tspec_l7Good_l8_0 : PkS := ⟨[.one (.int .u64), .one (.bool), .one (.dead)], []⟩
@[reducible] def Tspec_l7Good_l8_1 : PkS := ⟨[.one (.int .u64), .one (.dead)], []⟩
def Dspec_l7Good_l8 : LoopD := ⟨54, [1, 4, 6, 37, 38], [.box [(.ro (.pr (.int .i64) (.pr (.int .i64) (.int .i64)))), .any], .one .any, .box [(.own (.pr (.int .i64) (.pr (.int .i64) (.int .i64)))), .any], .one .any, .one .any, .skip], fun x => match x with
  | .ret => some ([2, 3], [.one .any, .one .any, .skip])
  | .exit 0 => some ([4], [.one .any, .skip])
  | _ => none⟩
def Pspec_l7Good_l8 (g : ∀ {R : Type}, Nat → Int → Int → Int → (List (Int × Int × Int)) → Int → (List (Int × Int × Int)) → Int → (Int → Bool → Option R) → (Int → Option R) → Option R) (n : Nat) : LPs := fun R q kk => match (PkS.un Sspec_l7Good_l8 q : Option (Int × Int × Int × (List (Int × Int × Int)) × Int × (List (Int × Int × Int)) × Int × Unit)) with
  | some (y8_0, y8_1, y8_2, y8_3, y8_4, y8_5, y8_6, _) => g n y8_0 y8_1 y8_2 y8_3 y8_4 y8_5 y8_6 (fun r0 r1 => kk .ret (PkS.pack Tspec_l7Good_l8_0 (r0, r1, ()))) (fun r0 => kk (.exit 0) (PkS.pack Tspec_l7Good_l8_1 (r0, ())))
  | none => none
theorem espec_l7Good_l8 (spec_l7Of : ∀ {R : Type}, Nat → (List (Int × Int × Int)) → Int → (Int → Bool → Option R) → Option R) (spec_l7Diagram : ∀ {R : Type}, Nat → Int → (Int → Bool → (List (Int × Int × Int)) → Option R) → Option R) (spec_l7Good_l8 : ∀ {R : Type}, Nat → Int → Int → Int → (List (Int × Int × Int)) → Int → (List (Int × Int × Int)) → Int → (Int → Bool → Option R) → (Int → Option R) → Option R) {R : Type} (n : Nat) (y8_0 : Int) (y8_1 : Int) (y8_2 : Int) (y8_3 : List (Int × Int × Int)) (y8_4 : Int) (y8_5 : List (Int × Int × Int)) (y8_6 : Int) (kk : Ex → Pk → Option R) : Dspec_l7Good_l8.step tt sig (mkK [(58, Kspec_l7Of @spec_l7Of n), (47, Kspec_l7Diagram @spec_l7Diagram n)] R) (mkL (mkK [(58, Kspec_l7Of @spec_l7Of n), (47, Kspec_l7Diagram @spec_l7Diagram n)]) [] R) (loopIn 8 (bodyOf Try.f40)) (fun q' => Pspec_l7Good_l8 @spec_l7Good_l8 n R q' kk) (PkS.pack Sspec_l7Good_l8 (y8_0, y8_1, y8_2, y8_3, y8_4, y8_5, y8_6, ())) kk = (fun (kret : Int → Bool → Option R) (kexit0 : Int → Option R) => (bif (decide (y8_2 < y8_1)) then (bif decide (0 ≤ y8_2) then (bif decide (y8_2 < (y8_5.length : Int)) then (bif decide (0 ≤ y8_2) then (bif decide (y8_2 < (y8_3.length : Int)) then (bif (!(((y8_5.getD (Int.toNat y8_2) (0, (0, 0))).1 == (y8_3.getD (Int.toNat y8_2) (0, (0, 0))).1) && (((y8_5.getD (Int.toNat y8_2) (0, (0, 0))).2.1 == (y8_3.getD (Int.toNat y8_2) (0, (0, 0))).2.1) && (((y8_5.getD (Int.toNat y8_2) (0, (0, 0))).2.2 == (y8_3.getD (Int.toNat y8_2) (0, (0, 0))).2.2) && true)))) then kret 0 false else spec_l7Good_l8 n y8_0 y8_1 (IntKind.wrap .i64 (y8_2 + 1)) y8_3 y8_4 y8_5 y8_6 kret kexit0) else none) else none) else none) else none) else kexit0 y8_0)) (fun r0 r1 => kk .ret (PkS.pack Tspec_l7Good_l8_0 (r0, r1, ()))) (fun r0 => kk (.exit 0) (PkS.pack Tspec_l7Good_l8_1 (r0, ()))) := by kernel_rfl
theorem lespec_l7Good_l8 : LoopEq tt sig (fun n => mkK [(58, Kspec_l7Of @spec_l7Of n), (47, Kspec_l7Diagram @spec_l7Diagram n)]) (fun n => mkL (mkK [(58, Kspec_l7Of @spec_l7Of n), (47, Kspec_l7Diagram @spec_l7Diagram n)]) []) Dspec_l7Good_l8 Sspec_l7Good_l8 (loopIn 8 (bodyOf Try.f40)) (Pspec_l7Good_l8 @spec_l7Good_l8) where
  zero R q kk := by unfold Pspec_l7Good_l8; cases (PkS.un Sspec_l7Good_l8 q) <;> rfl
  succ n R q kk := by
    unfold Pspec_l7Good_l8
    cases h : (PkS.un Sspec_l7Good_l8 q) with
    | none => rfl
    | some d =>
      obtain ⟨y8_0, y8_1, y8_2, y8_3, y8_4, y8_5, y8_6, u⟩ := (d : Int × Int × Int × (List (Int × Int × Int)) × Int × (List (Int × Int × Int)) × Int × Unit)
      have hp := PkS.un_pack h
      subst hp
      exact (espec_l7Good_l8 @spec_l7Of @spec_l7Diagram @spec_l7Good_l8 n y8_0 y8_1 y8_2 y8_3 y8_4 y8_5 y8_6 kk).symm
theorem nlspec_l7Good_l8 : ∀ n, NatLP (Pspec_l7Good_l8 @spec_l7Good_l8 n) := lespec_l7Good_l8.nat (fun n => mkK_nat (cspec_l7Good n)) fun n => mkL_nat (mkK_nat (cspec_l7Good n)) (l := []) trivial
theorem inspec_l7Good_l8 (n : Nat) (R : Type) : LoopsOk Try.prog (mkL (mkK [(58, Kspec_l7Of @spec_l7Of n), (47, Kspec_l7Diagram @spec_l7Diagram n)]) [] R) (loopIn 8 (bodyOf Try.f40)) := .eq (l := []) (by kernel_rfl) trivial
theorem lkspec_l7Good_l8 (n : Nat) (R : Type) (L0 : LK R) (h0 : ∀ id, firstRegion (loopIn 8 (bodyOf Try.f40)) = some id → L0 id = Dspec_l7Good_l8.oracle (mkK [(58, Kspec_l7Of @spec_l7Of n), (47, Kspec_l7Diagram @spec_l7Diagram n)] R) (Pspec_l7Good_l8 @spec_l7Good_l8 n R)) : LoopOk Try.prog L0 (loopIn 8 (bodyOf Try.f40)) :=
  lespec_l7Good_l8.ok mixed ttok (fun n => mkK_nat (cspec_l7Good n)) (fun n => mkK_ok (cspec_l7Good n)) (fun n => inspec_l7Good_l8 n R) (mkK_nat (cspec_l7Good n)) h0
@[reducible] def Sspec_l7Good : PkS := ⟨[.agg [.ro (.pr (.int .i64) (.pr (.int .i64) (.int .i64))), .int .i64]], []⟩
@[reducible] def Tspec_l7Good : PkS := ⟨[.tup [(false, [.int .u64]), (false, [.bool])], .one (.dead)], []⟩
def Hspec_l7Good : List Sh := [.tup [(false, [.any]), (false, [.any])], .skip]
def Kspec_l7Good (g : ∀ {R : Type}, Nat → (List (Int × Int × Int)) → Int → (Int → Bool → Option R) → Option R) (n : Nat) : KPs := fun R p k => match (PkS.un Sspec_l7Good p : Option ((List (Int × Int × Int)) × Int × Unit)) with
  | some (x0, x1, _) => g n x0 x1 (fun r0 r1 => k (PkS.pack Tspec_l7Good (r0, r1, ())))
  | none => none
theorem espec_l7Good (spec_l7Of : ∀ {R : Type}, Nat → (List (Int × Int × Int)) → Int → (Int → Bool → Option R) → Option R) (spec_l7Diagram : ∀ {R : Type}, Nat → Int → (Int → Bool → (List (Int × Int × Int)) → Option R) → Option R) (spec_l7Good_l8 : ∀ {R : Type}, Nat → Int → Int → Int → (List (Int × Int × Int)) → Int → (List (Int × Int × Int)) → Int → (Int → Bool → Option R) → (Int → Option R) → Option R) {R : Type} (n : Nat) (x0 : List (Int × Int × Int)) (x1 : Int) (k : Pk → Option R) : evF tt sig (mkK [(58, Kspec_l7Of @spec_l7Of n), (47, Kspec_l7Diagram @spec_l7Diagram n)] R) (mkL (mkK [(58, Kspec_l7Of @spec_l7Of n), (47, Kspec_l7Diagram @spec_l7Diagram n)]) [(8, Dspec_l7Good_l8, Pspec_l7Good_l8 @spec_l7Good_l8 n)] R) Try.f40 Hspec_l7Good (PkS.pack Sspec_l7Good (x0, x1, ())) k = (fun (k : Int → Bool → Option R) => (spec_l7Of n x0 x1 fun r1 r2 => (bif (!r2) then k 0 false else (spec_l7Diagram n r1 fun r3 r4 r5 => (bif (r3 != x1) then k 0 false else (bif ((r5.length : Int) != (x0.length : Int)) then k 0 false else (spec_l7Good_l8 n r1 (r5.length : Int) 0 x0 x1 r5 r3 (fun r6 r7 => k r6 r7) (fun r8 => k r8 true)))))))) (fun r0 r1 => k (PkS.pack Tspec_l7Good (r0, r1, ()))) := by kernel_rfl
theorem okspec_l7Good (n : Nat) : FnOk Try.prog 40 (Kspec_l7Good @spec_l7Good n) := by
  refine fn_ok (sig := sig) mixed ttok (mkK_nat (cspec_l7Good n)) (mkK_ok (cspec_l7Good n)) (mkL_nat (mkK_nat (cspec_l7Good n)) (l := [(8, Dspec_l7Good_l8, Pspec_l7Good_l8 @spec_l7Good_l8 n)]) ⟨nlspec_l7Good_l8 n, trivial⟩) (fn := Try.f40) (c := bodyOf Try.f40) (by kernel_rfl) (by kernel_rfl) (by kernel_rfl) (.eq (l := [.lo (loopIn 8 (bodyOf Try.f40))]) (by kernel_rfl) ⟨(lkspec_l7Good_l8 n _ _ (at_id (i := 8) (by kernel_rfl) rfl)), trivial⟩) (shs := Hspec_l7Good) (S := Sspec_l7Good) (h1 := by kernel_rfl) fun R p k => ?_
  unfold Kspec_l7Good
  cases h : (PkS.un Sspec_l7Good p) with
  | none => rfl
  | some d =>
    obtain ⟨x0, x1, u⟩ := (d : (List (Int × Int × Int)) × Int × Unit)
    have hp := PkS.un_pack h
    subst hp
    exact (espec_l7Good @spec_l7Of @spec_l7Diagram @spec_l7Good_l8 n x0 x1 k).symm

/-! ### loop.example/g00269/spec.CountYes -/
theorem cspec_CountYes (n : Nat) : AllOk Try.prog [(40, Kspec_l7Good @spec_l7Good n)] := ⟨okspec_l7Good n, trivial⟩
@[reducible] def Sspec_CountYes_l5 : PkS := ⟨[.one (.int .u64), .one (.int .i64), .one (.dead)], []⟩
@[reducible] def Tspec_CountYes_l5_0 : PkS := ⟨[.one (.int .i64), .one (.dead)], []⟩
def Dspec_CountYes_l5 : LoopD := ⟨23, [4, 6], [.one .any, .one .any, .skip], fun x => match x with
  | .exit 0 => some ([6], [.one .any, .skip])
  | _ => none⟩
def Pspec_CountYes_l5 (g : ∀ {R : Type}, Nat → Int → Int → (Int → Option R) → Option R) (n : Nat) : LPs := fun R q kk => match (PkS.un Sspec_CountYes_l5 q : Option (Int × Int × Unit)) with
  | some (y5_0, y5_1, _) => g n y5_0 y5_1 (fun r0 => kk (.exit 0) (PkS.pack Tspec_CountYes_l5_0 (r0, ())))
  | none => none
theorem espec_CountYes_l5 (spec_l7Good : ∀ {R : Type}, Nat → (List (Int × Int × Int)) → Int → (Int → Bool → Option R) → Option R) (spec_CountYes_l5 : ∀ {R : Type}, Nat → Int → Int → (Int → Option R) → Option R) {R : Type} (n : Nat) (y5_0 : Int) (y5_1 : Int) (kk : Ex → Pk → Option R) : Dspec_CountYes_l5.step tt sig (mkK [(40, Kspec_l7Good @spec_l7Good n)] R) (mkL (mkK [(40, Kspec_l7Good @spec_l7Good n)]) [] R) (loopIn 5 (bodyOf Try.f23)) (fun q' => Pspec_CountYes_l5 @spec_CountYes_l5 n R q' kk) (PkS.pack Sspec_CountYes_l5 (y5_0, y5_1, ())) kk = (fun (kexit0 : Int → Option R) => (bif (decide (y5_0 > 0)) then spec_CountYes_l5 n (IntKind.wrap .u64 (Int.ofNat (BitVec.toNat (BitVec.ofInt (IntKind.bits .u64) y5_0 &&& BitVec.ofInt (IntKind.bits .u64) (IntKind.wrap .u64 (y5_0 - 1)))))) (IntKind.wrap .i64 (y5_1 + 1)) kexit0 else kexit0 y5_1)) (fun r0 => kk (.exit 0) (PkS.pack Tspec_CountYes_l5_0 (r0, ()))) := by kernel_rfl
theorem lespec_CountYes_l5 : LoopEq tt sig (fun n => mkK [(40, Kspec_l7Good @spec_l7Good n)]) (fun n => mkL (mkK [(40, Kspec_l7Good @spec_l7Good n)]) []) Dspec_CountYes_l5 Sspec_CountYes_l5 (loopIn 5 (bodyOf Try.f23)) (Pspec_CountYes_l5 @spec_CountYes_l5) where
  zero R q kk := by unfold Pspec_CountYes_l5; cases (PkS.un Sspec_CountYes_l5 q) <;> rfl
  succ n R q kk := by
    unfold Pspec_CountYes_l5
    cases h : (PkS.un Sspec_CountYes_l5 q) with
    | none => rfl
    | some d =>
      obtain ⟨y5_0, y5_1, u⟩ := (d : Int × Int × Unit)
      have hp := PkS.un_pack h
      subst hp
      exact (espec_CountYes_l5 @spec_l7Good @spec_CountYes_l5 n y5_0 y5_1 kk).symm
theorem nlspec_CountYes_l5 : ∀ n, NatLP (Pspec_CountYes_l5 @spec_CountYes_l5 n) := lespec_CountYes_l5.nat (fun n => mkK_nat (cspec_CountYes n)) fun n => mkL_nat (mkK_nat (cspec_CountYes n)) (l := []) trivial
theorem inspec_CountYes_l5 (n : Nat) (R : Type) : LoopsOk Try.prog (mkL (mkK [(40, Kspec_l7Good @spec_l7Good n)]) [] R) (loopIn 5 (bodyOf Try.f23)) := .eq (l := []) (by kernel_rfl) trivial
theorem lkspec_CountYes_l5 (n : Nat) (R : Type) (L0 : LK R) (h0 : ∀ id, firstRegion (loopIn 5 (bodyOf Try.f23)) = some id → L0 id = Dspec_CountYes_l5.oracle (mkK [(40, Kspec_l7Good @spec_l7Good n)] R) (Pspec_CountYes_l5 @spec_CountYes_l5 n R)) : LoopOk Try.prog L0 (loopIn 5 (bodyOf Try.f23)) :=
  lespec_CountYes_l5.ok mixed ttok (fun n => mkK_nat (cspec_CountYes n)) (fun n => mkK_ok (cspec_CountYes n)) (fun n => inspec_CountYes_l5 n R) (mkK_nat (cspec_CountYes n)) h0
@[reducible] def Sspec_CountYes : PkS := ⟨[.agg [.ro (.pr (.int .i64) (.pr (.int .i64) (.int .i64))), .int .i64]], []⟩
@[reducible] def Tspec_CountYes : PkS := ⟨[.tup [(false, [.int .i64]), (false, [.bool])], .one (.dead)], []⟩
def Hspec_CountYes : List Sh := [.tup [(false, [.any]), (false, [.any])], .skip]
def Kspec_CountYes (g : ∀ {R : Type}, Nat → (List (Int × Int × Int)) → Int → (Int → Bool → Option R) → Option R) (n : Nat) : KPs := fun R p k => match (PkS.un Sspec_CountYes p : Option ((List (Int × Int × Int)) × Int × Unit)) with
  | some (x0, x1, _) => g n x0 x1 (fun r0 r1 => k (PkS.pack Tspec_CountYes (r0, r1, ())))
  | none => none
theorem espec_CountYes (spec_l7Good : ∀ {R : Type}, Nat → (List (Int × Int × Int)) → Int → (Int → Bool → Option R) → Option R) (spec_CountYes_l5 : ∀ {R : Type}, Nat → Int → Int → (Int → Option R) → Option R) {R : Type} (n : Nat) (x0 : List (Int × Int × Int)) (x1 : Int) (k : Pk → Option R) : evF tt sig (mkK [(40, Kspec_l7Good @spec_l7Good n)] R) (mkL (mkK [(40, Kspec_l7Good @spec_l7Good n)]) [(5, Dspec_CountYes_l5, Pspec_CountYes_l5 @spec_CountYes_l5 n)] R) Try.f23 Hspec_CountYes (PkS.pack Sspec_CountYes (x0, x1, ())) k = (fun (k : Int → Bool → Option R) => (spec_l7Good n x0 x1 fun r1 r2 => (bif (!r2) then k 0 false else (spec_CountYes_l5 n r1 0 (fun r3 => k r3 true))))) (fun r0 r1 => k (PkS.pack Tspec_CountYes (r0, r1, ()))) := by kernel_rfl
theorem okspec_CountYes (n : Nat) : FnOk Try.prog 23 (Kspec_CountYes @spec_CountYes n) := by
  refine fn_ok (sig := sig) mixed ttok (mkK_nat (cspec_CountYes n)) (mkK_ok (cspec_CountYes n)) (mkL_nat (mkK_nat (cspec_CountYes n)) (l := [(5, Dspec_CountYes_l5, Pspec_CountYes_l5 @spec_CountYes_l5 n)]) ⟨nlspec_CountYes_l5 n, trivial⟩) (fn := Try.f23) (c := bodyOf Try.f23) (by kernel_rfl) (by kernel_rfl) (by kernel_rfl) (.eq (l := [.lo (loopIn 5 (bodyOf Try.f23))]) (by kernel_rfl) ⟨(lkspec_CountYes_l5 n _ _ (at_id (i := 5) (by kernel_rfl) rfl)), trivial⟩) (shs := Hspec_CountYes) (S := Sspec_CountYes) (h1 := by kernel_rfl) fun R p k => ?_
  unfold Kspec_CountYes
  cases h : (PkS.un Sspec_CountYes p) with
  | none => rfl
  | some d =>
    obtain ⟨x0, x1, u⟩ := (d : (List (Int × Int × Int)) × Int × Unit)
    have hp := PkS.un_pack h
    subst hp
    exact (espec_CountYes @spec_l7Good @spec_CountYes_l5 n x0 x1 k).symm

/-! ### loop.example/g00269/impl.in -/
theorem cimpl_in (n : Nat) : AllOk Try.prog [] := trivial
@[reducible] def Simpl_in : PkS := ⟨[.one (.int .i64), .one (.int .i64), .one (.int .i64)], []⟩
@[reducible] def Timpl_in : PkS := ⟨[.one (.bool), .one (.dead), .one (.dead), .one (.dead)], []⟩
def Himpl_in : List Sh := [.one .any, .skip, .skip, .skip]
def Kimpl_in (g : ∀ {R : Type}, Nat → Int → Int → Int → (Bool → Option R) → Option R) (n : Nat) : KPs := fun R p k => match (PkS.un Simpl_in p : Option (Int × Int × Int × Unit)) with
  | some (x0, x1, x2, _) => g n x0 x1 x2 (fun r0 => k (PkS.pack Timpl_in (r0, ())))
  | none => none
theorem eimpl_in  {R : Type} (n : Nat) (x0 : Int) (x1 : Int) (x2 : Int) (k : Pk → Option R) : evF tt sig (mkK [] R) (mkL (mkK []) [] R) Try.f45 Himpl_in (PkS.pack Simpl_in (x0, x1, x2, ())) k = (fun (k : Bool → Option R) => (bif (decide (x0 ≥ x1)) then k (decide (x0 ≤ x2)) else k false)) (fun r0 => k (PkS.pack Timpl_in (r0, ()))) := by kernel_rfl
theorem okimpl_in (n : Nat) : FnOk Try.prog 45 (Kimpl_in @impl_in n) := by
  refine fn_ok (sig := sig) mixed ttok (mkK_nat (cimpl_in n)) (mkK_ok (cimpl_in n)) (mkL_nat (mkK_nat (cimpl_in n)) (l := []) trivial) (fn := Try.f45) (c := bodyOf Try.f45) (by kernel_rfl) (by kernel_rfl) (by kernel_rfl) (.eq (l := []) (by kernel_rfl) trivial) (shs := Himpl_in) (S := Simpl_in) (h1 := by kernel_rfl) fun R p k => ?_
  unfold Kimpl_in
  cases h : (PkS.un Simpl_in p) with
  | none => rfl
  | some d =>
    obtain ⟨x0, x1, x2, u⟩ := (d : Int × Int × Int × Unit)
    have hp := PkS.un_pack h
    subst hp
    exact (eimpl_in  n x0 x1 x2 k).symm

/-! ### loop.example/g00269/impl.varTruth -/
theorem cimpl_varTruth (n : Nat) : AllOk Try.prog [] := trivial
@[reducible] def Simpl_varTruth_l3 : PkS := ⟨[.one (.int .i64), .one (.int .u64), .one (.int .i64), .one (.dead)], []⟩
@[reducible] def Timpl_varTruth_l3_0 : PkS := ⟨[.one (.int .u64), .one (.dead)], []⟩
def Dimpl_varTruth_l3 : LoopD := ⟨19, [0, 3, 5], [.one .any, .one .any, .one .any, .skip], fun x => match x with
  | .exit 0 => some ([3], [.one .any, .skip])
  | _ => none⟩
def Pimpl_varTruth_l3 (g : ∀ {R : Type}, Nat → Int → Int → Int → (Int → Option R) → Option R) (n : Nat) : LPs := fun R q kk => match (PkS.un Simpl_varTruth_l3 q : Option (Int × Int × Int × Unit)) with
  | some (y3_0, y3_1, y3_2, _) => g n y3_0 y3_1 y3_2 (fun r0 => kk (.exit 0) (PkS.pack Timpl_varTruth_l3_0 (r0, ())))
  | none => none
theorem eimpl_varTruth_l3 (impl_varTruth_l3 : ∀ {R : Type}, Nat → Int → Int → Int → (Int → Option R) → Option R) {R : Type} (n : Nat) (y3_0 : Int) (y3_1 : Int) (y3_2 : Int) (kk : Ex → Pk → Option R) : Dimpl_varTruth_l3.step tt sig (mkK [] R) (mkL (mkK []) [] R) (loopIn 3 (bodyOf Try.f61)) (fun q' => Pimpl_varTruth_l3 @impl_varTruth_l3 n R q' kk) (PkS.pack Simpl_varTruth_l3 (y3_0, y3_1, y3_2, ())) kk = (fun (kexit0 : Int → Option R) => (bif (decide (y3_2 < 64)) then (bif decide (0 ≤ y3_0) then (bif ((IntKind.wrap .i64 (Int.ofNat (BitVec.toNat (BitVec.ofInt (IntKind.bits .i64) (Int.fdiv y3_2 (2 ^ (min (Int.toNat y3_0) (IntKind.bits .i64)))) &&& BitVec.ofInt (IntKind.bits .i64) 1)))) == 1) then (bif decide (0 ≤ y3_2) then impl_varTruth_l3 n y3_0 (IntKind.wrap .u64 (Int.ofNat (BitVec.toNat (BitVec.ofInt (IntKind.bits .u64) y3_1 ||| BitVec.ofInt (IntKind.bits .u64) (IntKind.wrap .u64 (1 * 2 ^ (min (Int.toNat y3_2) (IntKind.bits .u64)))))))) (IntKind.wrap .i64 (y3_2 + 1)) kexit0 else none) else impl_varTruth_l3 n y3_0 y3_1 (IntKind.wrap .i64 (y3_2 + 1)) kexit0) else none) else kexit0 y3_1)) (fun r0 => kk (.exit 0) (PkS.pack Timpl_varTruth_l3_0 (r0, ()))) := by kernel_rfl
theorem leimpl_varTruth_l3 : LoopEq tt sig (fun n => mkK []) (fun n => mkL (mkK []) []) Dimpl_varTruth_l3 Simpl_varTruth_l3 (loopIn 3 (bodyOf Try.f61)) (Pimpl_varTruth_l3 @impl_varTruth_l3) where
  zero R q kk := by unfold Pimpl_varTruth_l3; cases (PkS.un Simpl_varTruth_l3 q) <;> rfl
  succ n R q kk := by
    unfold Pimpl_varTruth_l3
    cases h : (PkS.un Simpl_varTruth_l3 q) with
    | none => rfl
    | some d =>
      obtain ⟨y3_0, y3_1, y3_2, u⟩ := (d : Int × Int × Int × Unit)
      have hp := PkS.un_pack h
      subst hp
      exact (eimpl_varTruth_l3 @impl_varTruth_l3 n y3_0 y3_1 y3_2 kk).symm
theorem nlimpl_varTruth_l3 : ∀ n, NatLP (Pimpl_varTruth_l3 @impl_varTruth_l3 n) := leimpl_varTruth_l3.nat (fun n => mkK_nat (cimpl_varTruth n)) fun n => mkL_nat (mkK_nat (cimpl_varTruth n)) (l := []) trivial
theorem inimpl_varTruth_l3 (n : Nat) (R : Type) : LoopsOk Try.prog (mkL (mkK []) [] R) (loopIn 3 (bodyOf Try.f61)) := .eq (l := []) (by kernel_rfl) trivial
theorem lkimpl_varTruth_l3 (n : Nat) (R : Type) (L0 : LK R) (h0 : ∀ id, firstRegion (loopIn 3 (bodyOf Try.f61)) = some id → L0 id = Dimpl_varTruth_l3.oracle (mkK [] R) (Pimpl_varTruth_l3 @impl_varTruth_l3 n R)) : LoopOk Try.prog L0 (loopIn 3 (bodyOf Try.f61)) :=
  leimpl_varTruth_l3.ok mixed ttok (fun n => mkK_nat (cimpl_varTruth n)) (fun n => mkK_ok (cimpl_varTruth n)) (fun n => inimpl_varTruth_l3 n R) (mkK_nat (cimpl_varTruth n)) h0
@[reducible] def Simpl_varTruth : PkS := ⟨[.one (.int .i64)], []⟩
@[reducible] def Timpl_varTruth : PkS := ⟨[.one (.int .u64), .one (.dead)], []⟩
def Himpl_varTruth : List Sh := [.one .any, .skip]
def Kimpl_varTruth (g : ∀ {R : Type}, Nat → Int → (Int → Option R) → Option R) (n : Nat) : KPs := fun R p k => match (PkS.un Simpl_varTruth p : Option (Int × Unit)) with
  | some (x0, _) => g n x0 (fun r0 => k (PkS.pack Timpl_varTruth (r0, ())))
  | none => none
theorem eimpl_varTruth (impl_varTruth_l3 : ∀ {R : Type}, Nat → Int → Int → Int → (Int → Option R) → Option R) {R : Type} (n : Nat) (x0 : Int) (k : Pk → Option R) : evF tt sig (mkK [] R) (mkL (mkK []) [(3, Dimpl_varTruth_l3, Pimpl_varTruth_l3 @impl_varTruth_l3 n)] R) Try.f61 Himpl_varTruth (PkS.pack Simpl_varTruth (x0, ())) k = (fun (k : Int → Option R) => (impl_varTruth_l3 n x0 0 0 (fun r1 => k r1))) (fun r0 => k (PkS.pack Timpl_varTruth (r0, ()))) := by kernel_rfl
theorem okimpl_varTruth (n : Nat) : FnOk Try.prog 61 (Kimpl_varTruth @impl_varTruth n) := by
  refine fn_ok (sig := sig) mixed ttok (mkK_nat (cimpl_varTruth n)) (mkK_ok (cimpl_varTruth n)) (mkL_nat (mkK_nat (cimpl_varTruth n)) (l := [(3, Dimpl_varTruth_l3, Pimpl_varTruth_l3 @impl_varTruth_l3 n)]) ⟨nlimpl_varTruth_l3 n, trivial⟩) (fn := Try.f61) (c := bodyOf Try.f61) (by kernel_rfl) (by kernel_rfl) (by kernel_rfl) (.eq (l := [.lo (loopIn 3 (bodyOf Try.f61))]) (by kernel_rfl) ⟨(lkimpl_varTruth_l3 n _ _ (at_id (i := 3) (by kernel_rfl) rfl)), trivial⟩) (shs := Himpl_varTruth) (S := Simpl_varTruth) (h1 := by kernel_rfl) fun R p k => ?_
  unfold Kimpl_varTruth
  cases h : (PkS.un Simpl_varTruth p) with
  | none => rfl
  | some d =>
    obtain ⟨x0, u⟩ := (d : Int × Unit)
    have hp := PkS.un_pack h
    subst hp
    exact (eimpl_varTruth @impl_varTruth_l3 n x0 k).symm

/-! ### loop.example/g00269/impl.truthOf$1 -/
theorem cimpl_truthOf_c1 (n : Nat) : AllOk Try.prog [] := trivial
@[reducible] def Simpl_truthOf_c1 : PkS := ⟨[.one (.int .i64), .one (.relt (.sl (.int .u64)))], []⟩
@[reducible] def Timpl_truthOf_c1 : PkS := ⟨[.one (.int .u64), .one (.dead), .one (.dead)], []⟩
def Himpl_truthOf_c1 : List Sh := [.one .any, .skip, .skip]
def Kimpl_truthOf_c1 (g : ∀ {R : Type}, Nat → Int → (List Int) → (Int → Option R) → Option R) (n : Nat) : KPs := fun R p k => match (PkS.un Simpl_truthOf_c1 p : Option (Int × (List Int) × Unit)) with
  | some (x0, x1, _) => g n x0 x1 (fun r0 => k (PkS.pack Timpl_truthOf_c1 (r0, ())))
  | none => none
theorem eimpl_truthOf_c1  {R : Type} (n : Nat) (x0 : Int) (x1 : List Int) (k : Pk → Option R) : evF tt sig (mkK [] R) (mkL (mkK []) [] R) Try.f60 Himpl_truthOf_c1 (PkS.pack Simpl_truthOf_c1 (x0, x1, ())) k = (fun (k : Int → Option R) => (bif (x0 == (-2)) then k 0 else (bif (x0 == (-1)) then k 18446744073709551615 else (bif decide (0 ≤ x0) then (bif decide (x0 < (x1.length : Int)) then k (x1.getD (Int.toNat x0) 0) else none) else none)))) (fun r0 => k (PkS.pack Timpl_truthOf_c1 (r0, ()))) := by kernel_rfl
theorem okimpl_truthOf_c1 (n : Nat) : FnOk Try.prog 60 (Kimpl_truthOf_c1 @impl_truthOf_c1 n) := by
  refine fn_ok (sig := sig) mixed ttok (mkK_nat (cimpl_truthOf_c1 n)) (mkK_ok (cimpl_truthOf_c1 n)) (mkL_nat (mkK_nat (cimpl_truthOf_c1 n)) (l := []) trivial) (fn := Try.f60) (c := bodyOf Try.f60) (by kernel_rfl) (by kernel_rfl) (by kernel_rfl) (.eq (l := []) (by kernel_rfl) trivial) (shs := Himpl_truthOf_c1) (S := Simpl_truthOf_c1) (h1 := by kernel_rfl) fun R p k => ?_
  unfold Kimpl_truthOf_c1
  cases h : (PkS.un Simpl_truthOf_c1 p) with
  | none => rfl
  | some d =>
    obtain ⟨x0, x1, u⟩ := (d : Int × (List Int) × Unit)
    have hp := PkS.un_pack h
    subst hp
    exact (eimpl_truthOf_c1  n x0 x1 k).symm

/-! ### (loop.example/g00269/impl.truth).with -/
theorem cimpl_truth_with (n : Nat) : AllOk Try.prog [(61, Kimpl_varTruth @impl_varTruth n)] := ⟨okimpl_varTruth n, trivial⟩
@[reducible] def Simpl_truth_with : PkS := ⟨[.one (.int .u64), .one (.int .i64), .one (.bool)], []⟩
@[reducible] def Timpl_truth_with : PkS := ⟨[.one (.int .u64), .one (.dead), .one (.dead), .one (.dead)], []⟩
def Himpl_truth_with : List Sh := [.one .any, .skip, .skip, .skip]
def Kimpl_truth_with (g : ∀ {R : Type}, Nat → Int → Int → Bool → (Int → Option R) → Option R) (n : Nat) : KPs := fun R p k => match (PkS.un Simpl_truth_with p : Option (Int × Int × Bool × Unit)) with
  | some (x0, x1, x2, _) => g n x0 x1 x2 (fun r0 => k (PkS.pack Timpl_truth_with (r0, ())))
  | none => none
theorem eimpl_truth_with (impl_varTruth : ∀ {R : Type}, Nat → Int → (Int → Option R) → Option R) {R : Type} (n : Nat) (x0 : Int) (x1 : Int) (x2 : Bool) (k : Pk → Option R) : evF tt sig (mkK [(61, Kimpl_varTruth @impl_varTruth n)] R) (mkL (mkK [(61, Kimpl_varTruth @impl_varTruth n)]) [] R) Try.f55 Himpl_truth_with (PkS.pack Simpl_truth_with (x0, x1, x2, ())) k = (fun (k : Int → Option R) => (impl_varTruth n x1 fun r1 => (bif decide (0 ≤ x1) then (bif x2 then (bif decide (0 ≤ (IntKind.wrap .i64 (1 * 2 ^ (min (Int.toNat x1) (IntKind.bits .i64))))) then k (IntKind.wrap .u64 (Int.ofNat (BitVec.toNat (BitVec.ofInt (IntKind.bits .u64) (IntKind.wrap .u64 (Int.ofNat (BitVec.toNat (BitVec.ofInt (IntKind.bits .u64) x0 &&& BitVec.ofInt (IntKind.bits .u64) r1)))) ||| BitVec.ofInt (IntKind.bits .u64) (Int.fdiv (IntKind.wrap .u64 (Int.ofNat (BitVec.toNat (BitVec.ofInt (IntKind.bits .u64) x0 &&& BitVec.ofInt (IntKind.bits .u64) r1)))) (2 ^ (min (Int.toNat (IntKind.wrap .i64 (1 * 2 ^ (min (Int.toNat x1) (IntKind.bits .i64))))) (IntKind.bits .u64)))))))) else none) else (bif decide (0 ≤ (IntKind.wrap .i64 (1 * 2 ^ (min (Int.toNat x1) (IntKind.bits .i64))))) then k (IntKind.wrap .u64 (Int.ofNat (BitVec.toNat (BitVec.ofInt (IntKind.bits .u64) (IntKind.wrap .u64 (Int.ofNat (BitVec.toNat (BitVec.ofInt (IntKind.bits .u64) x0 &&& ~~~ BitVec.ofInt (IntKind.bits .u64) r1)))) ||| BitVec.ofInt (IntKind.bits .u64) (IntKind.wrap .u64 ((IntKind.wrap .u64 (Int.ofNat (BitVec.toNat (BitVec.ofInt (IntKind.bits .u64) x0 &&& ~~~ BitVec.ofInt (IntKind.bits .u64) r1)))) * 2 ^ (min (Int.toNat (IntKind.wrap .i64 (1 * 2 ^ (min (Int.toNat x1) (IntKind.bits .i64))))) (IntKind.bits .u64)))))))) else none)) else none))) (fun r0 => k (PkS.pack Timpl_truth_with (r0, ()))) := by kernel_rfl
theorem okimpl_truth_with (n : Nat) : FnOk Try.prog 55 (Kimpl_truth_with @impl_truth_with n) := by
  refine fn_ok (sig := sig) mixed ttok (mkK_nat (cimpl_truth_with n)) (mkK_ok (cimpl_truth_with n)) (mkL_nat (mkK_nat (cimpl_truth_with n)) (l := []) trivial) (fn := Try.f55) (c := bodyOf Try.f55) (by kernel_rfl) (by kernel_rfl) (by kernel_rfl) (.eq (l := []) (by kernel_rfl) trivial) (shs := Himpl_truth_with) (S := Simpl_truth_with) (h1 := by kernel_rfl) fun R p k => ?_
  unfold Kimpl_truth_with
  cases h : (PkS.un Simpl_truth_with p) with
  | none => rfl
  | some d =>
    obtain ⟨x0, x1, x2, u⟩ := (d : Int × Int × Bool × Unit)
    have hp := PkS.un_pack h
    subst hp
    exact (eimpl_truth_with @impl_varTruth n x0 x1 x2 k).symm

/-! ### (*loop.example/g00269/impl.builder).node -/
theorem cimpl_builder_node (n : Nat) : AllOk Try.prog [(55, Kimpl_truth_with @impl_truth_with n)] := ⟨okimpl_truth_with n, trivial⟩
@[reducible] def Simpl_builder_node_l10 : PkS := ⟨[.one (.box (100000, 2) 0), .one (.int .u64), .one (.int .i64), .one (.box (100000, 2) 0), .one (.dead)], [((100000, 0), .arr (.pr (.int .i64) (.pr (.int .i64) (.int .i64)))), ((100000, 1), .map), ((100000, 2), .box [.whole (100000, 0), .mp (100000, 1)])]⟩
@[reducible] def Timpl_builder_node_l10_0 : PkS := ⟨[.one (.box (100000, 2) 0), .one (.int .u64), .one (.int .i64), .one (.box (100000, 2) 0), .one (.dead)], [((100000, 0), .arr (.pr (.int .i64) (.pr (.int .i64) (.int .i64)))), ((100000, 1), .map), ((100000, 2), .box [.whole (100000, 0), .mp (100000, 1)])]⟩
def Dimpl_builder_node_l10 : LoopD := ⟨75, [0, 1, 7], [.box [(.own (.pr (.int .i64) (.pr (.int .i64) (.int .i64)))), .map], .one .any, .one .any, .box [(.own (.pr (.int .i64) (.pr (.int .i64) (.int .i64)))), .map], .skip], fun x => match x with
  | .exit 1 => some ([0, 1, 7], [.box [(.own (.pr (.int .i64) (.pr (.int .i64) (.int .i64)))), .map], .one .any, .one .any, .box [(.own (.pr (.int .i64) (.pr (.int .i64) (.int .i64)))), .map], .skip])
  | _ => none⟩
def Pimpl_builder_node_l10 (g : ∀ {R : Type}, Nat → Int → Int → (List (Int × Int × Int)) → (List (Int × Int)) → (Int → Int → (List (Int × Int × Int)) → (List (Int × Int)) → Option R) → Option R) (n : Nat) : LPs := fun R q kk => match (PkS.un Simpl_builder_node_l10 q : Option (Int × Int × (List (Int × Int × Int)) × (List (Int × Int)) × Unit)) with
  | some (y10_0, y10_1, y10_2, y10_3, _) => g n y10_0 y10_1 y10_2 y10_3 (fun r0 r1 r2 r3 => kk (.exit 1) (PkS.pack Timpl_builder_node_l10_0 (r0, r1, r2, r3, ())))
  | none => none
theorem eimpl_builder_node_l10 (impl_truth_with : ∀ {R : Type}, Nat → Int → Int → Bool → (Int → Option R) → Option R) (impl_builder_node_l10 : ∀ {R : Type}, Nat → Int → Int → (List (Int × Int × Int)) → (List (Int × Int)) → (Int → Int → (List (Int × Int × Int)) → (List (Int × Int)) → Option R) → Option R) {R : Type} (n : Nat) (y10_0 : Int) (y10_1 : Int) (y10_2 : List (Int × Int × Int)) (y10_3 : List (Int × Int)) (kk : Ex → Pk → Option R) : Dimpl_builder_node_l10.step tt sig (mkK [(55, Kimpl_truth_with @impl_truth_with n)] R) (mkL (mkK [(55, Kimpl_truth_with @impl_truth_with n)]) [] R) (loopIn 10 (bodyOf Try.f67)) (fun q' => Pimpl_builder_node_l10 @impl_builder_node_l10 n R q' kk) (PkS.pack Simpl_builder_node_l10 (y10_0, y10_1, y10_2, y10_3, ())) kk = (fun (kexit1 : Int → Int → (List (Int × Int × Int)) → (List (Int × Int)) → Option R) => (impl_truth_with n y10_0 y10_1 false fun r1 => (impl_truth_with n y10_0 y10_1 true fun r2 => (bif (r1 == r2) then impl_builder_node_l10 n y10_0 (IntKind.wrap .i64 (y10_1 + 1)) y10_2 y10_3 kexit1 else kexit1 y10_0 y10_1 y10_2 y10_3)))) (fun r0 r1 r2 r3 => kk (.exit 1) (PkS.pack Timpl_builder_node_l10_0 (r0, r1, r2, r3, ()))) := by kernel_rfl
theorem leimpl_builder_node_l10 : LoopEq tt sig (fun n => mkK [(55, Kimpl_truth_with @impl_truth_with n)]) (fun n => mkL (mkK [(55, Kimpl_truth_with @impl_truth_with n)]) []) Dimpl_builder_node_l10 Simpl_builder_node_l10 (loopIn 10 (bodyOf Try.f67)) (Pimpl_builder_node_l10 @impl_builder_node_l10) where
  zero R q kk := by unfold Pimpl_builder_node_l10; cases (PkS.un Simpl_builder_node_l10 q) <;> rfl
  succ n R q kk := by
    unfold Pimpl_builder_node_l10
    cases h : (PkS.un Simpl_builder_node_l10 q) with
    | none => rfl
    | some d =>
      obtain ⟨y10_0, y10_1, y10_2, y10_3, u⟩ := (d : Int × Int × (List (Int × Int × Int)) × (List (Int × Int)) × Unit)
      have hp := PkS.un_pack h
      subst hp
      exact (eimpl_builder_node_l10 @impl_truth_with @impl_builder_node_l10 n y10_0 y10_1 y10_2 y10_3 kk).symm
theorem nlimpl_builder_node_l10 : ∀ n, NatLP (Pimpl_builder_node_l10 @impl_builder_node_l10 n) := leimpl_builder_node_l10.nat (fun n => mkK_nat (cimpl_builder_node n)) fun n => mkL_nat (mkK_nat (cimpl_builder_node n)) (l := []) trivial
theorem inimpl_builder_node_l10 (n : Nat) (R : Type) : LoopsOk Try.prog (mkL (mkK [(55, Kimpl_truth_with @impl_truth_with n)]) [] R) (loopIn 10 (bodyOf Try.f67)) := .eq (l := []) (by kernel_rfl) trivial
theorem lkimpl_builder_node_l10 (n : Nat) (R : Type) (L0 : LK R) (h0 : ∀ id, firstRegion (loopIn 10 (bodyOf Try.f67)) = some id → L0 id = Dimpl_builder_node_l10.oracle (mkK [(55, Kimpl_truth_with @impl_truth_with n)] R) (Pimpl_builder_node_l10 @impl_builder_node_l10 n R)) : LoopOk Try.prog L0 (loopIn 10 (bodyOf Try.f67)) :=
  leimpl_builder_node_l10.ok mixed ttok (fun n => mkK_nat (cimpl_builder_node n)) (fun n => mkK_ok (cimpl_builder_node n)) (fun n => inimpl_builder_node_l10 n R) (mkK_nat (cimpl_builder_node n)) h0
@[reducible] def Simpl_builder_node : PkS := ⟨[.one (.box (200000, 2) 0), .one (.int .u64)], [((200000, 0), .arr (.pr (.int .i64) (.pr (.int .i64) (.int .i64)))), ((200000, 1), .map), ((200000, 2), .box [.whole (200000, 0), .mp (200000, 1)])]⟩
@[reducible] def Timpl_builder_node : PkS := ⟨[.one (.int .i64), .one (.box (300000, 2) 0), .one (.dead)], [((300000, 0), .arr (.pr (.int .i64) (.pr (.int .i64) (.int .i64)))), ((300000, 1), .map), ((300000, 2), .box [.whole (300000, 0), .mp (300000, 1)])]⟩
def Himpl_builder_node : List Sh := [.one .any, .box [(.own (.pr (.int .i64) (.pr (.int .i64) (.int .i64)))), .map], .skip]
def Kimpl_builder_node (g : ∀ {R : Type}, Nat → Int → (List (Int × Int × Int)) → (List (Int × Int)) → (Int → (List (Int × Int × Int)) → (List (Int × Int)) → Option R) → Option R) (n : Nat) : KPs := fun R p k => match (PkS.un Simpl_builder_node p : Option (Int × (List (Int × Int × Int)) × (List (Int × Int)) × Unit)) with
  | some (x0, x1, x2, _) => g n x0 x1 x2 (fun r0 r1 r2 => k (PkS.pack Timpl_builder_node (r0, r1, r2, ())))
  | none => none
theorem dimpl_builder_node (n : Nat) (ih : FnOk Try.prog 67 (Kimpl_builder_node @impl_builder_node n)) : AllOk Try.prog [(55, Kimpl_truth_with @impl_truth_with n), (67, Kimpl_builder_node @impl_builder_node n)] := ⟨okimpl_truth_with n, ⟨ih, trivial⟩⟩
theorem eimpl_builder_node (impl_truth_with : ∀ {R : Type}, Nat → Int → Int → Bool → (Int → Option R) → Option R) (impl_builder_node : ∀ {R : Type}, Nat → Int → (List (Int × Int × Int)) → (List (Int × Int)) → (Int → (List (Int × Int × Int)) → (List (Int × Int)) → Option R) → Option R) (impl_builder_node_l10 : ∀ {R : Type}, Nat → Int → Int → (List (Int × Int × Int)) → (List (Int × Int)) → (Int → Int → (List (Int × Int × Int)) → (List (Int × Int)) → Option R) → Option R) {R : Type} (n : Nat) (x0 : Int) (x1 : List (Int × Int × Int)) (x2 : List (Int × Int)) (k : Pk → Option R) : evF tt sig (mkK [(55, Kimpl_truth_with @impl_truth_with n), (67, Kimpl_builder_node @impl_builder_node n)] R) (mkL (mkK [(55, Kimpl_truth_with @impl_truth_with n)]) [(10, Dimpl_builder_node_l10, Pimpl_builder_node_l10 @impl_builder_node_l10 n)] R) Try.f67 Himpl_builder_node (PkS.pack Simpl_builder_node (x0, x1, x2, ())) k = (fun (k : Int → (List (Int × Int × Int)) → (List (Int × Int)) → Option R) => (bif (x0 == 0) then k (-2) x1 x2 else (bif (x0 == 18446744073709551615) then k (-1) x1 x2 else (bif (List.lookup x0 x2).isSome then k ((List.lookup x0 x2).getD 0) x1 x2 else (impl_builder_node_l10 n x0 0 x1 x2 (fun r3 r4 r5 r6 => (impl_truth_with n r3 r4 false fun r7 => (impl_builder_node n r7 r5 r6 fun r8 r9 r10 => (impl_truth_with n r3 r4 true fun r11 => (impl_builder_node n r11 r9 r10 fun r12 r13 r14 => (bif decide (r13.length + ([(r4, (r8, r12))]).length ≤ LIM) then k (IntKind.wrap .i64 (((r13 ++ [(r4, (r8, r12))]).length : Int) - 1)) (r13 ++ [(r4, (r8, r12))]) ((r3, (IntKind.wrap .i64 (((r13 ++ [(r4, (r8, r12))]).length : Int) - 1))) :: r14) else none))))))))))) (fun r0 r1 r2 => k (PkS.pack Timpl_builder_node (r0, r1, r2, ()))) := by kernel_rfl
theorem okimpl_builder_node : ∀ n, FnOk Try.prog 67 (Kimpl_builder_node @impl_builder_node n)
  | 0 => fn_none fun R p k => by unfold Kimpl_builder_node; cases (PkS.un Simpl_builder_node p : Option (Int × (List (Int × Int × Int)) × (List (Int × Int)) × Unit)) <;> rfl
  | n + 1 => by
    refine fn_ok (sig := sig) mixed ttok (mkK_nat (dimpl_builder_node n (okimpl_builder_node n))) (mkK_ok (dimpl_builder_node n (okimpl_builder_node n))) (mkL_nat (mkK_nat (cimpl_builder_node n)) (l := [(10, Dimpl_builder_node_l10, Pimpl_builder_node_l10 @impl_builder_node_l10 n)]) ⟨nlimpl_builder_node_l10 n, trivial⟩) (fn := Try.f67) (c := bodyOf Try.f67) (by kernel_rfl) (by kernel_rfl) (by kernel_rfl) (.eq (l := [.lo (loopIn 10 (bodyOf Try.f67))]) (by kernel_rfl) ⟨(lkimpl_builder_node_l10 n _ _ (at_id (i := 10) (by kernel_rfl) rfl)), trivial⟩) (shs := Himpl_builder_node) (S := Simpl_builder_node) (h1 := by kernel_rfl) fun R p k => ?_
    unfold Kimpl_builder_node
    cases h : (PkS.un Simpl_builder_node p) with
    | none => rfl
    | some d =>
      obtain ⟨x0, x1, x2, u⟩ := (d : Int × (List (Int × Int × Int)) × (List (Int × Int)) × Unit)
      have hp := PkS.un_pack h
      subst hp
      exact (eimpl_builder_node @impl_truth_with @impl_builder_node @impl_builder_node_l10 n x0 x1 x2 k).symm

/-! ### loop.example/g00269/impl.diagramOf -/
theorem cimpl_diagramOf (n : Nat) : AllOk Try.prog [(67, Kimpl_builder_node @impl_builder_node n)] := ⟨okimpl_builder_node n, trivial⟩
@[reducible] def Simpl_diagramOf : PkS := ⟨[.one (.int .u64)], []⟩
@[reducible] def Timpl_diagramOf : PkS := ⟨[.tup [(true, [.whole (300000, 0), .int .i64]), (false, [.bool])], .one (.dead)], [((300000, 0), .arr (.pr (.int .i64) (.pr (.int .i64) (.int .i64))))]⟩
def Himpl_diagramOf : List Sh := [.tup [(true, [(.own (.pr (.int .i64) (.pr (.int .i64) (.int .i64)))), .any]), (false, [.any])], .skip]
def Kimpl_diagramOf (g : ∀ {R : Type}, Nat → Int → (Int → Bool → (List (Int × Int × Int)) → Option R) → Option R) (n : Nat) : KPs := fun R p k => match (PkS.un Simpl_diagramOf p : Option (Int × Unit)) with
  | some (x0, _) => g n x0 (fun r0 r1 r2 => k (PkS.pack Timpl_diagramOf (r0, r1, r2, ())))
  | none => none
theorem eimpl_diagramOf (impl_builder_node : ∀ {R : Type}, Nat → Int → (List (Int × Int × Int)) → (List (Int × Int)) → (Int → (List (Int × Int × Int)) → (List (Int × Int)) → Option R) → Option R) {R : Type} (n : Nat) (x0 : Int) (k : Pk → Option R) : evF tt sig (mkK [(67, Kimpl_builder_node @impl_builder_node n)] R) (mkL (mkK [(67, Kimpl_builder_node @impl_builder_node n)]) [] R) Try.f49 Himpl_diagramOf (PkS.pack Simpl_diagramOf (x0, ())) k = (fun (k : Int → Bool → (List (Int × Int × Int)) → Option R) => (impl_builder_node n x0 ([] : List (Int × Int × Int)) ([] : List (Int × Int)) fun r1 r2 r3 => (bif (decide ((r2.length : Int) > 70)) then k 0 false ([] : List (Int × Int × Int)) else k r1 true r2))) (fun r0 r1 r2 => k (PkS.pack Timpl_diagramOf (r0, r1, r2, ()))) := by kernel_rfl
theorem okimpl_diagramOf (n : Nat) : FnOk Try.prog 49 (Kimpl_diagramOf @impl_diagramOf n) := by
  refine fn_ok (sig := sig) mixed ttok (mkK_nat (cimpl_diagramOf n)) (mkK_ok (cimpl_diagramOf n)) (mkL_nat (mkK_nat (cimpl_diagramOf n)) (l := []) trivial) (fn := Try.f49) (c := bodyOf Try.f49) (by kernel_rfl) (by kernel_rfl) (by kernel_rfl) (.eq (l := []) (by kernel_rfl) trivial) (shs := Himpl_diagramOf) (S := Simpl_diagramOf) (h1 := by kernel_rfl) fun R p k => ?_
  unfold Kimpl_diagramOf
  cases h : (PkS.un Simpl_diagramOf p) with
  | none => rfl
  | some d =>
    obtain ⟨x0, u⟩ := (d : Int × Unit)
    have hp := PkS.un_pack h
    subst hp
    exact (eimpl_diagramOf @impl_builder_node n x0 k).symm

/-! ### slices.Equal[[]loop.example/g00269/impl.Choice,loop.example/g00269/impl.Choice] -/
theorem cslices_Equal_impl_Choice (n : Nat) : AllOk Try.prog [] := trivial
@[reducible] def Sslices_Equal_impl_Choice_l4 : PkS := ⟨[.one (.ro (.pr (.int .i64) (.pr (.int .i64) (.int .i64)))), .one (.ro (.pr (.int .i64) (.pr (.int .i64) (.int .i64)))), .one (.int .i64), .one (.int .i64), .one (.dead), .one (.dead)], []⟩
@[reducible] def Tslices_Equal_impl_Choice_l4_0 : PkS := ⟨[.one (.bool), .one (.dead), .one (.dead)], []⟩
@[reducible] def Tslices_Equal_impl_Choice_l4_1 : PkS := ⟨[.one (.dead), .one (.dead)], []⟩
def Dslices_Equal_impl_Choice_l4 : LoopD := ⟨26, [0, 1, 12, 13], [.one (.ro (.pr (.int .i64) (.pr (.int .i64) (.int .i64)))), .one (.ro (.pr (.int .i64) (.pr (.int .i64) (.int .i64)))), .one .any, .one .any, .skip, .skip], fun x => match x with
  | .ret => some ([4], [.one .any, .skip, .skip])
  | .exit 0 => some ([], [.skip, .skip])
  | _ => none⟩
def Pslices_Equal_impl_Choice_l4 (g : ∀ {R : Type}, Nat → (List (Int × Int × Int)) → (List (Int × Int × Int)) → Int → Int → (Bool → Option R) → (Option R) → Option R) (n : Nat) : LPs := fun R q kk => match (PkS.un Sslices_Equal_impl_Choice_l4 q : Option ((List (Int × Int × Int)) × (List (Int × Int × Int)) × Int × Int × Unit)) with
  | some (y4_0, y4_1, y4_2, y4_3, _) => g n y4_0 y4_1 y4_2 y4_3 (fun r0 => kk .ret (PkS.pack Tslices_Equal_impl_Choice_l4_0 (r0, ()))) (kk (.exit 0) (PkS.pack Tslices_Equal_impl_Choice_l4_1 ()))
  | none => none
theorem eslices_Equal_impl_Choice_l4 (slices_Equal_impl_Choice_l4 : ∀ {R : Type}, Nat → (List (Int × Int × Int)) → (List (Int × Int × Int)) → Int → Int → (Bool → Option R) → (Option R) → Option R) {R : Type} (n : Nat) (y4_0 : List (Int × Int × Int)) (y4_1 : List (Int × Int × Int)) (y4_2 : Int) (y4_3 : Int) (kk : Ex → Pk → Option R) : Dslices_Equal_impl_Choice_l4.step tt sig (mkK [] R) (mkL (mkK []) [] R) (loopIn 4 (bodyOf Try.f62)) (fun q' => Pslices_Equal_impl_Choice_l4 @slices_Equal_impl_Choice_l4 n R q' kk) (PkS.pack Sslices_Equal_impl_Choice_l4 (y4_0, y4_1, y4_2, y4_3, ())) kk = (fun (kret : Bool → Option R) (kexit0 : Option R) => (bif (decide (y4_3 < y4_2)) then (bif decide (0 ≤ y4_3) then (bif decide (y4_3 < (y4_0.length : Int)) then (bif decide (0 ≤ y4_3) then (bif decide (y4_3 < (y4_1.length : Int)) then (bif (!(((y4_0.getD (Int.toNat y4_3) (0, (0, 0))).1 == (y4_1.getD (Int.toNat y4_3) (0, (0, 0))).1) && (((y4_0.getD (Int.toNat y4_3) (0, (0, 0))).2.1 == (y4_1.getD (Int.toNat y4_3) (0, (0, 0))).2.1) && (((y4_0.getD (Int.toNat y4_3) (0, (0, 0))).2.2 == (y4_1.getD (Int.toNat y4_3) (0, (0, 0))).2.2) && true)))) then kret false else slices_Equal_impl_Choice_l4 n y4_0 y4_1 y4_2 (IntKind.wrap .i64 (y4_3 + 1)) kret kexit0) else none) else none) else none) else none) else kexit0)) (fun r0 => kk .ret (PkS.pack Tslices_Equal_impl_Choice_l4_0 (r0, ()))) (kk (.exit 0) (PkS.pack Tslices_Equal_impl_Choice_l4_1 ())) := by kernel_rfl
theorem leslices_Equal_impl_Choice_l4 : LoopEq tt sig (fun n => mkK []) (fun n => mkL (mkK []) []) Dslices_Equal_impl_Choice_l4 Sslices_Equal_impl_Choice_l4 (loopIn 4 (bodyOf Try.f62)) (Pslices_Equal_impl_Choice_l4 @slices_Equal_impl_Choice_l4) where
  zero R q kk := by unfold Pslices_Equal_impl_Choice_l4; cases (PkS.un Sslices_Equal_impl_Choice_l4 q) <;> rfl
  succ n R q kk := by
    unfold Pslices_Equal_impl_Choice_l4
    cases h : (PkS.un Sslices_Equal_impl_Choice_l4 q) with
    | none => rfl
    | some d =>
      obtain ⟨y4_0, y4_1, y4_2, y4_3, u⟩ := (d : (List (Int × Int × Int)) × (List (Int × Int × Int)) × Int × Int × Unit)
      have hp := PkS.un_pack h
      subst hp
      exact (eslices_Equal_impl_Choice_l4 @slices_Equal_impl_Choice_l4 n y4_0 y4_1 y4_2 y4_3 kk).symm
theorem nlslices_Equal_impl_Choice_l4 : ∀ n, NatLP (Pslices_Equal_impl_Choice_l4 @slices_Equal_impl_Choice_l4 n) := leslices_Equal_impl_Choice_l4.nat (fun n => mkK_nat (cslices_Equal_impl_Choice n)) fun n => mkL_nat (mkK_nat (cslices_Equal_impl_Choice n)) (l := []) trivial
theorem inslices_Equal_impl_Choice_l4 (n : Nat) (R : Type) : LoopsOk Try.prog (mkL (mkK []) [] R) (loopIn 4 (bodyOf Try.f62)) := .eq (l := []) (by kernel_rfl) trivial
theorem lkslices_Equal_impl_Choice_l4 (n : Nat) (R : Type) (L0 : LK R) (h0 : ∀ id, firstRegion (loopIn 4 (bodyOf Try.f62)) = some id → L0 id = Dslices_Equal_impl_Choice_l4.oracle (mkK [] R) (Pslices_Equal_impl_Choice_l4 @slices_Equal_impl_Choice_l4 n R)) : LoopOk Try.prog L0 (loopIn 4 (bodyOf Try.f62)) :=
  leslices_Equal_impl_Choice_l4.ok mixed ttok (fun n => mkK_nat (cslices_Equal_impl_Choice n)) (fun n => mkK_ok (cslices_Equal_impl_Choice n)) (fun n => inslices_Equal_impl_Choice_l4 n R) (mkK_nat (cslices_Equal_impl_Choice n)) h0
@[reducible] def Sslices_Equal_impl_Choice : PkS := ⟨[.one (.ro (.pr (.int .i64) (.pr (.int .i64) (.int .i64)))), .one (.ro (.pr (.int .i64) (.pr (.int .i64) (.int .i64))))], []⟩
@[reducible] def Tslices_Equal_impl_Choice : PkS := ⟨[.one (.bool), .one (.dead), .one (.dead)], []⟩
def Hslices_Equal_impl_Choice : List Sh := [.one .any, .skip, .skip]
def Kslices_Equal_impl_Choice (g : ∀ {R : Type}, Nat → (List (Int × Int × Int)) → (List (Int × Int × Int)) → (Bool → Option R) → Option R) (n : Nat) : KPs := fun R p k => match (PkS.un Sslices_Equal_impl_Choice p : Option ((List (Int × Int × Int)) × (List (Int × Int × Int)) × Unit)) with
  | some (x0, x1, _) => g n x0 x1 (fun r0 => k (PkS.pack Tslices_Equal_impl_Choice (r0, ())))
  | none => none
theorem eslices_Equal_impl_Choice (slices_Equal_impl_Choice_l4 : ∀ {R : Type}, Nat → (List (Int × Int × Int)) → (List (Int × Int × Int)) → Int → Int → (Bool → Option R) → (Option R) → Option R) {R : Type} (n : Nat) (x0 : List (Int × Int × Int)) (x1 : List (Int × Int × Int)) (k : Pk → Option R) : evF tt sig (mkK [] R) (mkL (mkK []) [(4, Dslices_Equal_impl_Choice_l4, Pslices_Equal_impl_Choice_l4 @slices_Equal_impl_Choice_l4 n)] R) Try.f62 Hslices_Equal_impl_Choice (PkS.pack Sslices_Equal_impl_Choice (x0, x1, ())) k = (fun (k : Bool → Option R) => (bif ((x0.length : Int) != (x1.length : Int)) then k false else (slices_Equal_impl_Choice_l4 n x0 x1 (x0.length : Int) 0 (fun r1 => k r1) (k true)))) (fun r0 => k (PkS.pack Tslices_Equal_impl_Choice (r0, ()))) := by kernel_rfl
theorem okslices_Equal_impl_Choice (n : Nat) : FnOk Try.prog 62 (Kslices_Equal_impl_Choice @slices_Equal_impl_Choice n) := by
  refine fn_ok (sig := sig) mixed ttok (mkK_nat (cslices_Equal_impl_Choice n)) (mkK_ok (cslices_Equal_impl_Choice n)) (mkL_nat (mkK_nat (cslices_Equal_impl_Choice n)) (l := [(4, Dslices_Equal_impl_Choice_l4, Pslices_Equal_impl_Choice_l4 @slices_Equal_impl_Choice_l4 n)]) ⟨nlslices_Equal_impl_Choice_l4 n, trivial⟩) (fn := Try.f62) (c := bodyOf Try.f62) (by kernel_rfl) (by kernel_rfl) (by kernel_rfl) (.eq (l := [.lo (loopIn 4 (bodyOf Try.f62))]) (by kernel_rfl) ⟨(lkslices_Equal_impl_Choice_l4 n _ _ (at_id (i := 4) (by kernel_rfl) rfl)), trivial⟩) (shs := Hslices_Equal_impl_Choice) (S := Sslices_Equal_impl_Choice) (h1 := by kernel_rfl) fun R p k => ?_
  unfold Kslices_Equal_impl_Choice
  cases h : (PkS.un Sslices_Equal_impl_Choice p) with
  | none => rfl
  | some d =>
    obtain ⟨x0, x1, u⟩ := (d : (List (Int × Int × Int)) × (List (Int × Int × Int)) × Unit)
    have hp := PkS.un_pack h
    subst hp
    exact (eslices_Equal_impl_Choice @slices_Equal_impl_Choice_l4 n x0 x1 k).symm

/-! ### loop.example/g00269/impl.truthOf -/
theorem cimpl_truthOf (n : Nat) : AllOk Try.prog [(45, Kimpl_in @impl_in n), (61, Kimpl_varTruth @impl_varTruth n), (60, Kimpl_truthOf_c1 @impl_truthOf_c1 n), (49, Kimpl_diagramOf @impl_diagramOf n), (62, Kslices_Equal_impl_Choice @slices_Equal_impl_Choice n)] := ⟨okimpl_in n, ⟨okimpl_varTruth n, ⟨okimpl_truthOf_c1 n, ⟨okimpl_diagramOf n, ⟨okslices_Equal_impl_Choice n, trivial⟩⟩⟩⟩⟩
@[reducible] def Simpl_truthOf_l6 : PkS := ⟨[.one (.box (100000, 0) 0), .one (.box (100000, 2) 0), .one (.fn 60 [((100000, 2), 0)]), .one (.ro (.pr (.int .i64) (.pr (.int .i64) (.int .i64)))), .one (.int .i64), .one (.int .i64), .one (.dead)], [((100000, 0), .box [.ro (.pr (.int .i64) (.pr (.int .i64) (.int .i64))), .int .i64]), ((100000, 1), .arr (.int .u64)), ((100000, 2), .box [.whole (100000, 1)])]⟩
@[reducible] def Timpl_truthOf_l6_0 : PkS := ⟨[.one (.int .u64), .one (.bool), .one (.dead)], []⟩
@[reducible] def Timpl_truthOf_l6_1 : PkS := ⟨[.one (.box (100000, 0) 0), .one (.fn 60 [((100000, 2), 0)]), .one (.dead)], [((100000, 0), .box [.ro (.pr (.int .i64) (.pr (.int .i64) (.int .i64))), .int .i64]), ((100000, 1), .arr (.int .u64)), ((100000, 2), .box [.whole (100000, 1)])]⟩
def Dimpl_truthOf_l6 : LoopD := ⟨101, [1, 4, 5, 29, 30, 31], [.box [(.ro (.pr (.int .i64) (.pr (.int .i64) (.int .i64)))), .any], .box [(.own (.int .u64))], .fn 60 [[(.own (.int .u64))]], .one (.ro (.pr (.int .i64) (.pr (.int .i64) (.int .i64)))), .one .any, .one .any, .skip], fun x => match x with
  | .ret => some ([2, 3], [.one .any, .one .any, .skip])
  | .exit 0 => some ([1, 5], [.box [(.ro (.pr (.int .i64) (.pr (.int .i64) (.int .i64)))), .any], .fn 60 [[(.own (.int .u64))]], .skip])
  | _ => none⟩
def Pimpl_truthOf_l6 (g : ∀ {R : Type}, Nat → (List (Int × Int × Int)) → Int → Int → (List (Int × Int × Int)) → Int → (List Int) → (Int → Bool → Option R) → ((List (Int × Int × Int)) → Int → (List Int) → Option R) → Option R) (n : Nat) : LPs := fun R q kk => match (PkS.un Simpl_truthOf_l6 q : Option ((List (Int × Int × Int)) × Int × Int × (List (Int × Int × Int)) × Int × (List Int) × Unit)) with
  | some (y6_0, y6_1, y6_2, y6_3, y6_4, y6_5, _) => g n y6_0 y6_1 y6_2 y6_3 y6_4 y6_5 (fun r0 r1 => kk .ret (PkS.pack Timpl_truthOf_l6_0 (r0, r1, ()))) (fun r0 r1 r2 => kk (.exit 0) (PkS.pack Timpl_truthOf_l6_1 (r0, r1, r2, ())))
  | none => none
theorem eimpl_truthOf_l6 (impl_in : ∀ {R : Type}, Nat → Int → Int → Int → (Bool → Option R) → Option R) (impl_varTruth : ∀ {R : Type}, Nat → Int → (Int → Option R) → Option R) (impl_truthOf_c1 : ∀ {R : Type}, Nat → Int → (List Int) → (Int → Option R) → Option R) (impl_diagramOf : ∀ {R : Type}, Nat → Int → (Int → Bool → (List (Int × Int × Int)) → Option R) → Option R) (slices_Equal_impl_Choice : ∀ {R : Type}, Nat → (List (Int × Int × Int)) → (List (Int × Int × Int)) → (Bool → Option R) → Option R) (impl_truthOf_l6 : ∀ {R : Type}, Nat → (List (Int × Int × Int)) → Int → Int → (List (Int × Int × Int)) → Int → (List Int) → (Int → Bool → Option R) → ((List (Int × Int × Int)) → Int → (List Int) → Option R) → Option R) {R : Type} (n : Nat) (y6_0 : List (Int × Int × Int)) (y6_1 : Int) (y6_2 : Int) (y6_3 : List (Int × Int × Int)) (y6_4 : Int) (y6_5 : List Int) (kk : Ex → Pk → Option R) : Dimpl_truthOf_l6.step tt sig (mkK [(45, Kimpl_in @impl_in n), (61, Kimpl_varTruth @impl_varTruth n), (60, Kimpl_truthOf_c1 @impl_truthOf_c1 n), (49, Kimpl_diagramOf @impl_diagramOf n), (62, Kslices_Equal_impl_Choice @slices_Equal_impl_Choice n)] R) (mkL (mkK [(45, Kimpl_in @impl_in n), (61, Kimpl_varTruth @impl_varTruth n), (60, Kimpl_truthOf_c1 @impl_truthOf_c1 n), (49, Kimpl_diagramOf @impl_diagramOf n), (62, Kslices_Equal_impl_Choice @slices_Equal_impl_Choice n)]) [] R) (loopIn 6 (bodyOf Try.f42)) (fun q' => Pimpl_truthOf_l6 @impl_truthOf_l6 n R q' kk) (PkS.pack Simpl_truthOf_l6 (y6_0, y6_1, y6_2, y6_3, y6_4, y6_5, ())) kk = (fun (kret : Int → Bool → Option R) (kexit0 : (List (Int × Int × Int)) → Int → (List Int) → Option R) => (bif (decide (y6_2 < y6_1)) then (bif decide (0 ≤ y6_2) then (bif decide (y6_2 < (y6_0.length : Int)) then (impl_in n ((y6_0.getD (Int.toNat y6_2) (0, (0, 0))).1) 0 5 fun r2 => (bif (!r2) then kret 0 false else (impl_in n ((y6_0.getD (Int.toNat y6_2) (0, (0, 0))).2.1) (-2) (IntKind.wrap .i64 (y6_2 - 1)) fun r3 => (bif (!r3) then kret 0 false else (impl_in n ((y6_0.getD (Int.toNat y6_2) (0, (0, 0))).2.2) (-2) (IntKind.wrap .i64 (y6_2 - 1)) fun r4 => (bif (!r4) then kret 0 false else (impl_varTruth n ((y6_0.getD (Int.toNat y6_2) (0, (0, 0))).1) fun r5 => (impl_truthOf_c1 n ((y6_0.getD (Int.toNat y6_2) (0, (0, 0))).2.1) y6_5 fun r6 => (impl_truthOf_c1 n ((y6_0.getD (Int.toNat y6_2) (0, (0, 0))).2.2) y6_5 fun r7 => (bif decide (y6_5.length + ([(IntKind.wrap .u64 (Int.ofNat (BitVec.toNat (BitVec.ofInt (IntKind.bits .u64) (IntKind.wrap .u64 (Int.ofNat (BitVec.toNat (BitVec.ofInt (IntKind.bits .u64) r6 &&& ~~~ BitVec.ofInt (IntKind.bits .u64) r5)))) ||| BitVec.ofInt (IntKind.bits .u64) (IntKind.wrap .u64 (Int.ofNat (BitVec.toNat (BitVec.ofInt (IntKind.bits .u64) r7 &&& BitVec.ofInt (IntKind.bits .u64) r5))))))))]).length ≤ LIM) then impl_truthOf_l6 n y6_0 y6_1 (IntKind.wrap .i64 (y6_2 + 1)) y6_3 y6_4 (y6_5 ++ [(IntKind.wrap .u64 (Int.ofNat (BitVec.toNat (BitVec.ofInt (IntKind.bits .u64) (IntKind.wrap .u64 (Int.ofNat (BitVec.toNat (BitVec.ofInt (IntKind.bits .u64) r6 &&& ~~~ BitVec.ofInt (IntKind.bits .u64) r5)))) ||| BitVec.ofInt (IntKind.bits .u64) (IntKind.wrap .u64 (Int.ofNat (BitVec.toNat (BitVec.ofInt (IntKind.bits .u64) r7 &&& BitVec.ofInt (IntKind.bits .u64) r5))))))))]) kret kexit0 else none)))))))))) else none) else none) else kexit0 y6_3 y6_4 y6_5)) (fun r0 r1 => kk .ret (PkS.pack Timpl_truthOf_l6_0 (r0, r1, ()))) (fun r0 r1 r2 => kk (.exit 0) (PkS.pack Timpl_truthOf_l6_1 (r0, r1, r2, ()))) := by kernel_rfl
theorem leimpl_truthOf_l6 : LoopEq tt sig (fun n => mkK [(45, Kimpl_in @impl_in n), (61, Kimpl_varTruth @impl_varTruth n), (60, Kimpl_truthOf_c1 @impl_truthOf_c1 n), (49, Kimpl_diagramOf @impl_diagramOf n), (62, Kslices_Equal_impl_Choice @slices_Equal_impl_Choice n)]) (fun n => mkL (mkK [(45, Kimpl_in @impl_in n), (61, Kimpl_varTruth @impl_varTruth n), (60, Kimpl_truthOf_c1 @impl_truthOf_c1 n), (49, Kimpl_diagramOf @impl_diagramOf n), (62, Kslices_Equal_impl_Choice @slices_Equal_impl_Choice n)]) []) Dimpl_truthOf_l6 Simpl_truthOf_l6 (loopIn 6 (bodyOf Try.f42)) (Pimpl_truthOf_l6 @impl_truthOf_l6) where
  zero R q kk := by unfold Pimpl_truthOf_l6; cases (PkS.un Simpl_truthOf_l6 q) <;> rfl
  succ n R q kk := by
    unfold Pimpl_truthOf_l6
    cases h : (PkS.un Simpl_truthOf_l6 q) with
    | none => rfl
    | some d =>
      obtain ⟨y6_0, y6_1, y6_2, y6_3, y6_4, y6_5, u⟩ := (d : (List (Int × Int × Int)) × Int × Int × (List (Int × Int × Int)) × Int × (List Int) × Unit)
      have hp := PkS.un_pack h
      subst hp
      exact (eimpl_truthOf_l6 @impl_in @impl_varTruth @impl_truthOf_c1 @impl_diagramOf @slices_Equal_impl_Choice @impl_truthOf_l6 n y6_0 y6_1 y6_2 y6_3 y6_4 y6_5 kk).symm
theorem nlimpl_truthOf_l6 : ∀ n, NatLP (Pimpl_truthOf_l6 @impl_truthOf_l6 n) := leimpl_truthOf_l6.nat (fun n => mkK_nat (cimpl_truthOf n)) fun n => mkL_nat (mkK_nat (cimpl_truthOf n)) (l := []) trivial
theorem inimpl_truthOf_l6 (n : Nat) (R : Type) : LoopsOk Try.prog (mkL (mkK [(45, Kimpl_in @impl_in n), (61, Kimpl_varTruth @impl_varTruth n), (60, Kimpl_truthOf_c1 @impl_truthOf_c1 n), (49, Kimpl_diagramOf @impl_diagramOf n), (62, Kslices_Equal_impl_Choice @slices_Equal_impl_Choice n)]) [] R) (loopIn 6 (bodyOf Try.f42)) := .eq (l := []) (by kernel_rfl) trivial
theorem lkimpl_truthOf_l6 (n : Nat) (R : Type) (L0 : LK R) (h0 : ∀ id, firstRegion (loopIn 6 (bodyOf Try.f42)) = some id → L0 id = Dimpl_truthOf_l6.oracle (mkK [(45, Kimpl_in @impl_in n), (61, Kimpl_varTruth @impl_varTruth n), (60, Kimpl_truthOf_c1 @impl_truthOf_c1 n), (49, Kimpl_diagramOf @impl_diagramOf n), (62, Kslices_Equal_impl_Choice @slices_Equal_impl_Choice n)] R) (Pimpl_truthOf_l6 @impl_truthOf_l6 n R)) : LoopOk Try.prog L0 (loopIn 6 (bodyOf Try.f42)) :=
  leimpl_truthOf_l6.ok mixed ttok (fun n => mkK_nat (cimpl_truthOf n)) (fun n => mkK_ok (cimpl_truthOf n)) (fun n => inimpl_truthOf_l6 n R) (mkK_nat (cimpl_truthOf n)) h0
@[reducible] def Simpl_truthOf : PkS := ⟨[.agg [.ro (.pr (.int .i64) (.pr (.int .i64) (.int .i64))), .int .i64]], []⟩
@[reducible] def Timpl_truthOf : PkS := ⟨[.tup [(false, [.int .u64]), (false, [.bool])], .one (.dead)], []⟩
def Himpl_truthOf : List Sh := [.tup [(false, [.any]), (false, [.any])], .skip]
def Kimpl_truthOf (g : ∀ {R : Type}, Nat → (List (Int × Int × Int)) → Int → (Int → Bool → Option R) → Option R) (n : Nat) : KPs := fun R p k => match (PkS.un Simpl_truthOf p : Option ((List (Int × Int × Int)) × Int × Unit)) with
  | some (x0, x1, _) => g n x0 x1 (fun r0 r1 => k (PkS.pack Timpl_truthOf (r0, r1, ())))
  | none => none
theorem eimpl_truthOf (impl_in : ∀ {R : Type}, Nat → Int → Int → Int → (Bool → Option R) → Option R) (impl_varTruth : ∀ {R : Type}, Nat → Int → (Int → Option R) → Option R) (impl_truthOf_c1 : ∀ {R : Type}, Nat → Int → (List Int) → (Int → Option R) → Option R) (impl_diagramOf : ∀ {R : Type}, Nat → Int → (Int → Bool → (List (Int × Int × Int)) → Option R) → Option R) (slices_Equal_impl_Choice : ∀ {R : Type}, Nat → (List (Int × Int × Int)) → (List (Int × Int × Int)) → (Bool → Option R) → Option R) (impl_truthOf_l6 : ∀ {R : Type}, Nat → (List (Int × Int × Int)) → Int → Int → (List (Int × Int × Int)) → Int → (List Int) → (Int → Bool → Option R) → ((List (Int × Int × Int)) → Int → (List Int) → Option R) → Option R) {R : Type} (n : Nat) (x0 : List (Int × Int × Int)) (x1 : Int) (k : Pk → Option R) : evF tt sig (mkK [(45, Kimpl_in @impl_in n), (61, Kimpl_varTruth @impl_varTruth n), (60, Kimpl_truthOf_c1 @impl_truthOf_c1 n), (49, Kimpl_diagramOf @impl_diagramOf n), (62, Kslices_Equal_impl_Choice @slices_Equal_impl_Choice n)] R) (mkL (mkK [(45, Kimpl_in @impl_in n), (61, Kimpl_varTruth @impl_varTruth n), (60, Kimpl_truthOf_c1 @impl_truthOf_c1 n), (49, Kimpl_diagramOf @impl_diagramOf n), (62, Kslices_Equal_impl_Choice @slices_Equal_impl_Choice n)]) [(6, Dimpl_truthOf_l6, Pimpl_truthOf_l6 @impl_truthOf_l6 n)] R) Try.f42 Himpl_truthOf (PkS.pack Simpl_truthOf (x0, x1, ())) k = (fun (k : Int → Bool → Option R) => (bif (decide ((x0.length : Int) > 70)) then k 0 false else (impl_in n x1 (-2) (IntKind.wrap .i64 ((x0.length : Int) - 1)) fun r1 => (bif (!r1) then k 0 false else (impl_truthOf_l6 n x0 (x0.length : Int) 0 x0 x1 ([] : List Int) (fun r8 r9 => k r8 r9) (fun r10 r11 r12 => (impl_truthOf_c1 n r11 r12 fun r13 => (impl_diagramOf n r13 fun r14 r15 r16 => (bif r15 then (bif (r14 == r11) then (slices_Equal_impl_Choice n r16 r10 fun r17 => k r13 r17) else k r13 false) else k r13 false))))))))) (fun r0 r1 => k (PkS.pack Timpl_truthOf (r0, r1, ()))) := by kernel_rfl
theorem okimpl_truthOf (n : Nat) : FnOk Try.prog 42 (Kimpl_truthOf @impl_truthOf n) := by
  refine fn_ok (sig := sig) mixed ttok (mkK_nat (cimpl_truthOf n)) (mkK_ok (cimpl_truthOf n)) (mkL_nat (mkK_nat (cimpl_truthOf n)) (l := [(6, Dimpl_truthOf_l6, Pimpl_truthOf_l6 @impl_truthOf_l6 n)]) ⟨nlimpl_truthOf_l6 n, trivial⟩) (fn := Try.f42) (c := bodyOf Try.f42) (by kernel_rfl) (by kernel_rfl) (by kernel_rfl) (.eq (l := [.lo (loopIn 6 (bodyOf Try.f42))]) (by kernel_rfl) ⟨(lkimpl_truthOf_l6 n _ _ (at_id (i := 6) (by kernel_rfl) rfl)), trivial⟩) (shs := Himpl_truthOf) (S := Simpl_truthOf) (h1 := by kernel_rfl) fun R p k => ?_
  unfold Kimpl_truthOf
  cases h : (PkS.un Simpl_truthOf p) with
  | none => rfl
  | some d =>
    obtain ⟨x0, x1, u⟩ := (d : (List (Int × Int × Int)) × Int × Unit)
    have hp := PkS.un_pack h
    subst hp
    exact (eimpl_truthOf @impl_in @impl_varTruth @impl_truthOf_c1 @impl_diagramOf @slices_Equal_impl_Choice @impl_truthOf_l6 n x0 x1 k).symm

/-! ### math/bits.OnesCount64 -/
theorem cbits_OnesCount64 (n : Nat) : AllOk Try.prog [] := trivial
@[reducible] def Sbits_OnesCount64 : PkS := ⟨[.one (.int .u64)], []⟩
@[reducible] def Tbits_OnesCount64 : PkS := ⟨[.one (.int .i64), .one (.dead)], []⟩
def Hbits_OnesCount64 : List Sh := [.one .any, .skip]
def Kbits_OnesCount64 (g : ∀ {R : Type}, Nat → Int → (Int → Option R) → Option R) (n : Nat) : KPs := fun R p k => match (PkS.un Sbits_OnesCount64 p : Option (Int × Unit)) with
  | some (x0, _) => g n x0 (fun r0 => k (PkS.pack Tbits_OnesCount64 (r0, ())))
  | none => none
theorem ebits_OnesCount64  {R : Type} (n : Nat) (x0 : Int) (k : Pk → Option R) : evF tt sig (mkK [] R) (mkL (mkK []) [] R) Try.f52 Hbits_OnesCount64 (PkS.pack Sbits_OnesCount64 (x0, ())) k = (fun (k : Int → Option R) => k (IntKind.wrap .i64 (Int.ofNat (BitVec.toNat (BitVec.ofInt (IntKind.bits .i64) (IntKind.wrap .i64 ((IntKind.wrap .u64 ((IntKind.wrap .u64 ((IntKind.wrap .u64 ((IntKind.wrap .u64 (Int.ofNat (BitVec.toNat (BitVec.ofInt (IntKind.bits .u64) (IntKind.wrap .u64 ((Int.fdiv (IntKind.wrap .u64 ((IntKind.wrap .u64 (Int.ofNat (BitVec.toNat (BitVec.ofInt (IntKind.bits .u64) (Int.fdiv (IntKind.wrap .u64 ((IntKind.wrap .u64 (Int.ofNat (BitVec.toNat (BitVec.ofInt (IntKind.bits .u64) (Int.fdiv x0 (2 ^ (min (Int.toNat 1) (IntKind.bits .u64)))) &&& BitVec.ofInt (IntKind.bits .u64) 6148914691236517205)))) + (IntKind.wrap .u64 (Int.ofNat (BitVec.toNat (BitVec.ofInt (IntKind.bits .u64) x0 &&& BitVec.ofInt (IntKind.bits .u64) 6148914691236517205)))))) (2 ^ (min (Int.toNat 2) (IntKind.bits .u64)))) &&& BitVec.ofInt (IntKind.bits .u64) 3689348814741910323)))) + (IntKind.wrap .u64 (Int.ofNat (BitVec.toNat (BitVec.ofInt (IntKind.bits .u64) (IntKind.wrap .u64 ((IntKind.wrap .u64 (Int.ofNat (BitVec.toNat (BitVec.ofInt (IntKind.bits .u64) (Int.fdiv x0 (2 ^ (min (Int.toNat 1) (IntKind.bits .u64)))) &&& BitVec.ofInt (IntKind.bits .u64) 6148914691236517205)))) + (IntKind.wrap .u64 (Int.ofNat (BitVec.toNat (BitVec.ofInt (IntKind.bits .u64) x0 &&& BitVec.ofInt (IntKind.bits .u64) 6148914691236517205)))))) &&& BitVec.ofInt (IntKind.bits .u64) 3689348814741910323)))))) (2 ^ (min (Int.toNat 4) (IntKind.bits .u64)))) + (IntKind.wrap .u64 ((IntKind.wrap .u64 (Int.ofNat (BitVec.toNat (BitVec.ofInt (IntKind.bits .u64) (Int.fdiv (IntKind.wrap .u64 ((IntKind.wrap .u64 (Int.ofNat (BitVec.toNat (BitVec.ofInt (IntKind.bits .u64) (Int.fdiv x0 (2 ^ (min (Int.toNat 1) (IntKind.bits .u64)))) &&& BitVec.ofInt (IntKind.bits .u64) 6148914691236517205)))) + (IntKind.wrap .u64 (Int.ofNat (BitVec.toNat (BitVec.ofInt (IntKind.bits .u64) x0 &&& BitVec.ofInt (IntKind.bits .u64) 6148914691236517205)))))) (2 ^ (min (Int.toNat 2) (IntKind.bits .u64)))) &&& BitVec.ofInt (IntKind.bits .u64) 3689348814741910323)))) + (IntKind.wrap .u64 (Int.ofNat (BitVec.toNat (BitVec.ofInt (IntKind.bits .u64) (IntKind.wrap .u64 ((IntKind.wrap .u64 (Int.ofNat (BitVec.toNat (BitVec.ofInt (IntKind.bits .u64) (Int.fdiv x0 (2 ^ (min (Int.toNat 1) (IntKind.bits .u64)))) &&& BitVec.ofInt (IntKind.bits .u64) 6148914691236517205)))) + (IntKind.wrap .u64 (Int.ofNat (BitVec.toNat (BitVec.ofInt (IntKind.bits .u64) x0 &&& BitVec.ofInt (IntKind.bits .u64) 6148914691236517205)))))) &&& BitVec.ofInt (IntKind.bits .u64) 3689348814741910323)))))))) &&& BitVec.ofInt (IntKind.bits .u64) 1085102592571150095)))) + (Int.fdiv (IntKind.wrap .u64 (Int.ofNat (BitVec.toNat (BitVec.ofInt (IntKind.bits .u64) (IntKind.wrap .u64 ((Int.fdiv (IntKind.wrap .u64 ((IntKind.wrap .u64 (Int.ofNat (BitVec.toNat (BitVec.ofInt (IntKind.bits .u64) (Int.fdiv (IntKind.wrap .u64 ((IntKind.wrap .u64 (Int.ofNat (BitVec.toNat (BitVec.ofInt (IntKind.bits .u64) (Int.fdiv x0 (2 ^ (min (Int.toNat 1) (IntKind.bits .u64)))) &&& BitVec.ofInt (IntKind.bits .u64) 6148914691236517205)))) + (IntKind.wrap .u64 (Int.ofNat (BitVec.toNat (BitVec.ofInt (IntKind.bits .u64) x0 &&& BitVec.ofInt (IntKind.bits .u64) 6148914691236517205)))))) (2 ^ (min (Int.toNat 2) (IntKind.bits .u64)))) &&& BitVec.ofInt (IntKind.bits .u64) 3689348814741910323)))) + (IntKind.wrap .u64 (Int.ofNat (BitVec.toNat (BitVec.ofInt (IntKind.bits .u64) (IntKind.wrap .u64 ((IntKind.wrap .u64 (Int.ofNat (BitVec.toNat (BitVec.ofInt (IntKind.bits .u64) (Int.fdiv x0 (2 ^ (min (Int.toNat 1) (IntKind.bits .u64)))) &&& BitVec.ofInt (IntKind.bits .u64) 6148914691236517205)))) + (IntKind.wrap .u64 (Int.ofNat (BitVec.toNat (BitVec.ofInt (IntKind.bits .u64) x0 &&& BitVec.ofInt (IntKind.bits .u64) 6148914691236517205)))))) &&& BitVec.ofInt (IntKind.bits .u64) 3689348814741910323)))))) (2 ^ (min (Int.toNat 4) (IntKind.bits .u64)))) + (IntKind.wrap .u64 ((IntKind.wrap .u64 (Int.ofNat (BitVec.toNat (BitVec.ofInt (IntKind.bits .u64) (Int.fdiv (IntKind.wrap .u64 ((IntKind.wrap .u64 (Int.ofNat (BitVec.toNat (BitVec.ofInt (IntKind.bits .u64) (Int.fdiv x0 (2 ^ (min (Int.toNat 1) (IntKind.bits .u64)))) &&& BitVec.ofInt (IntKind.bits .u64) 6148914691236517205)))) + (IntKind.wrap .u64 (Int.ofNat (BitVec.toNat (BitVec.ofInt (IntKind.bits .u64) x0 &&& BitVec.ofInt (IntKind.bits .u64) 6148914691236517205)))))) (2 ^ (min (Int.toNat 2) (IntKind.bits .u64)))) &&& BitVec.ofInt (IntKind.bits .u64) 3689348814741910323)))) + (IntKind.wrap .u64 (Int.ofNat (BitVec.toNat (BitVec.ofInt (IntKind.bits .u64) (IntKind.wrap .u64 ((IntKind.wrap .u64 (Int.ofNat (BitVec.toNat (BitVec.ofInt (IntKind.bits .u64) (Int.fdiv x0 (2 ^ (min (Int.toNat 1) (IntKind.bits .u64)))) &&& BitVec.ofInt (IntKind.bits .u64) 6148914691236517205)))) + (IntKind.wrap .u64 (Int.ofNat (BitVec.toNat (BitVec.ofInt (IntKind.bits .u64) x0 &&& BitVec.ofInt (IntKind.bits .u64) 6148914691236517205)))))) &&& BitVec.ofInt (IntKind.bits .u64) 3689348814741910323)))))))) &&& BitVec.ofInt (IntKind.bits .u64) 1085102592571150095)))) (2 ^ (min (Int.toNat 8) (IntKind.bits .u64)))))) + (Int.fdiv (IntKind.wrap .u64 ((IntKind.wrap .u64 (Int.ofNat (BitVec.toNat (BitVec.ofInt (IntKind.bits .u64) (IntKind.wrap .u64 ((Int.fdiv (IntKind.wrap .u64 ((IntKind.wrap .u64 (Int.ofNat (BitVec.toNat (BitVec.ofInt (IntKind.bits .u64) (Int.fdiv (IntKind.wrap .u64 ((IntKind.wrap .u64 (Int.ofNat (BitVec.toNat (BitVec.ofInt (IntKind.bits .u64) (Int.fdiv x0 (2 ^ (min (Int.toNat 1) (IntKind.bits .u64)))) &&& BitVec.ofInt (IntKind.bits .u64) 6148914691236517205)))) + (IntKind.wrap .u64 (Int.ofNat (BitVec.toNat (BitVec.ofInt (IntKind.bits .u64) x0 &&& BitVec.ofInt (IntKind.bits .u64) 6148914691236517205)))))) (2 ^ (min (Int.toNat 2) (IntKind.bits .u64)))) &&& BitVec.ofInt (IntKind.bits .u64) 3689348814741910323)))) + (IntKind.wrap .u64 (Int.ofNat (BitVec.toNat (BitVec.ofInt (IntKind.bits .u64) (IntKind.wrap .u64 ((IntKind.wrap .u64 (Int.ofNat (BitVec.toNat (BitVec.ofInt (IntKind.bits .u64) (Int.fdiv x0 (2 ^ (min (Int.toNat 1) (IntKind.bits .u64)))) &&& BitVec.ofInt (IntKind.bits .u64) 6148914691236517205)))) + (IntKind.wrap .u64 (Int.ofNat (BitVec.toNat (BitVec.ofInt (IntKind.bits .u64) x0 &&& BitVec.ofInt (IntKind.bits .u64) 6148914691236517205)))))) &&& BitVec.ofInt (IntKind.bits .u64) 3689348814741910323)))))) (2 ^ (min (Int.toNat 4) (IntKind.bits .u64)))) + (IntKind.wrap .u64 ((IntKind.wrap .u64 (Int.ofNat (BitVec.toNat (BitVec.ofInt (IntKind.bits .u64) (Int.fdiv (IntKind.wrap .u64 ((IntKind.wrap .u64 (Int.ofNat (BitVec.toNat (BitVec.ofInt (IntKind.bits .u64) (Int.fdiv x0 (2 ^ (min (Int.toNat 1) (IntKind.bits .u64)))) &&& BitVec.ofInt (IntKind.bits .u64) 6148914691236517205)))) + (IntKind.wrap .u64 (Int.ofNat (BitVec.toNat (BitVec.ofInt (IntKind.bits .u64) x0 &&& BitVec.ofInt (IntKind.bits .u64) 6148914691236517205)))))) (2 ^ (min (Int.toNat 2) (IntKind.bits .u64)))) &&& BitVec.ofInt (IntKind.bits .u64) 3689348814741910323)))) + (IntKind.wrap .u64 (Int.ofNat (BitVec.toNat (BitVec.ofInt (IntKind.bits .u64) (IntKind.wrap .u64 ((IntKind.wrap .u64 (Int.ofNat (BitVec.toNat (BitVec.ofInt (IntKind.bits .u64) (Int.fdiv x0 (2 ^ (min (Int.toNat 1) (IntKind.bits .u64)))) &&& BitVec.ofInt (IntKind.bits .u64) 6148914691236517205)))) + (IntKind.wrap .u64 (Int.ofNat (BitVec.toNat (BitVec.ofInt (IntKind.bits .u64) x0 &&& BitVec.ofInt (IntKind.bits .u64) 6148914691236517205)))))) &&& BitVec.ofInt (IntKind.bits .u64) 3689348814741910323)))))))) &&& BitVec.ofInt (IntKind.bits .u64) 1085102592571150095)))) + (Int.fdiv (IntKind.wrap .u64 (Int.ofNat (BitVec.toNat (BitVec.ofInt (IntKind.bits .u64) (IntKind.wrap .u64 ((Int.fdiv (IntKind.wrap .u64 ((IntKind.wrap .u64 (Int.ofNat (BitVec.toNat (BitVec.ofInt (IntKind.bits .u64) (Int.fdiv (IntKind.wrap .u64 ((IntKind.wrap .u64 (Int.ofNat (BitVec.toNat (BitVec.ofInt (IntKind.bits .u64) (Int.fdiv x0 (2 ^ (min (Int.toNat 1) (IntKind.bits .u64)))) &&& BitVec.ofInt (IntKind.bits .u64) 6148914691236517205)))) + (IntKind.wrap .u64 (Int.ofNat (BitVec.toNat (BitVec.ofInt (IntKind.bits .u64) x0 &&& BitVec.ofInt (IntKind.bits .u64) 6148914691236517205)))))) (2 ^ (min (Int.toNat 2) (IntKind.bits .u64)))) &&& BitVec.ofInt (IntKind.bits .u64) 3689348814741910323)))) + (IntKind.wrap .u64 (Int.ofNat (BitVec.toNat (BitVec.ofInt (IntKind.bits .u64) (IntKind.wrap .u64 ((IntKind.wrap .u64 (Int.ofNat (BitVec.toNat (BitVec.ofInt (IntKind.bits .u64) (Int.fdiv x0 (2 ^ (min (Int.toNat 1) (IntKind.bits .u64)))) &&& BitVec.ofInt (IntKind.bits .u64) 6148914691236517205)))) + (IntKind.wrap .u64 (Int.ofNat (BitVec.toNat (BitVec.ofInt (IntKind.bits .u64) x0 &&& BitVec.ofInt (IntKind.bits .u64) 6148914691236517205)))))) &&& BitVec.ofInt (IntKind.bits .u64) 3689348814741910323)))))) (2 ^ (min (Int.toNat 4) (IntKind.bits .u64)))) + (IntKind.wrap .u64 ((IntKind.wrap .u64 (Int.ofNat (BitVec.toNat (BitVec.ofInt (IntKind.bits .u64) (Int.fdiv (IntKind.wrap .u64 ((IntKind.wrap .u64 (Int.ofNat (BitVec.toNat (BitVec.ofInt (IntKind.bits .u64) (Int.fdiv x0 (2 ^ (min (Int.toNat 1) (IntKind.bits .u64)))) &&& BitVec.ofInt (IntKind.bits .u64) 6148914691236517205)))) + (IntKind.wrap .u64 (Int.ofNat (BitVec.toNat (BitVec.ofInt (IntKind.bits .u64) x0 &&& BitVec.ofInt (IntKind.bits .u64) 6148914691236517205)))))) (2 ^ (min (Int.toNat 2) (IntKind.bits .u64)))) &&& BitVec.ofInt (IntKind.bits .u64) 3689348814741910323)))) + (IntKind.wrap .u64 (Int.ofNat (BitVec.toNat (BitVec.ofInt (IntKind.bits .u64) (IntKind.wrap .u64 ((IntKind.wrap .u64 (Int.ofNat (BitVec.toNat (BitVec.ofInt (IntKind.bits .u64) (Int.fdiv x0 (2 ^ (min (Int.toNat 1) (IntKind.bits .u64)))) &&& BitVec.ofInt (IntKind.bits .u64) 6148914691236517205)))) + (IntKind.wrap .u64 (Int.ofNat (BitVec.toNat (BitVec.ofInt (IntKind.bits .u64) x0 &&& BitVec.ofInt (IntKind.bits .u64) 6148914691236517205)))))) &&& BitVec.ofInt (IntKind.bits .u64) 3689348814741910323)))))))) &&& BitVec.ofInt (IntKind.bits .u64) 1085102592571150095)))) (2 ^ (min (Int.toNat 8) (IntKind.bits .u64)))))) (2 ^ (min (Int.toNat 16) (IntKind.bits .u64)))))) + (Int.fdiv (IntKind.wrap .u64 ((IntKind.wrap .u64 ((IntKind.wrap .u64 (Int.ofNat (BitVec.toNat (BitVec.ofInt (IntKind.bits .u64) (IntKind.wrap .u64 ((Int.fdiv (IntKind.wrap .u64 ((IntKind.wrap .u64 (Int.ofNat (BitVec.toNat (BitVec.ofInt (IntKind.bits .u64) (Int.fdiv (IntKind.wrap .u64 ((IntKind.wrap .u64 (Int.ofNat (BitVec.toNat (BitVec.ofInt (IntKind.bits .u64) (Int.fdiv x0 (2 ^ (min (Int.toNat 1) (IntKind.bits .u64)))) &&& BitVec.ofInt (IntKind.bits .u64) 6148914691236517205)))) + (IntKind.wrap .u64 (Int.ofNat (BitVec.toNat (BitVec.ofInt (IntKind.bits .u64) x0 &&& BitVec.ofInt (IntKind.bits .u64) 6148914691236517205)))))) (2 ^ (min (Int.toNat 2) (IntKind.bits .u64)))) &&& BitVec.ofInt (IntKind.bits .u64) 3689348814741910323)))) + (IntKind.wrap .u64 (Int.ofNat (BitVec.toNat (BitVec.ofInt (IntKind.bits .u64) (IntKind.wrap .u64 ((IntKind.wrap .u64 (Int.ofNat (BitVec.toNat (BitVec.ofInt (IntKind.bits .u64) (Int.fdiv x0 (2 ^ (min (Int.toNat 1) (IntKind.bits .u64)))) &&& BitVec.ofInt (IntKind.bits .u64) 6148914691236517205)))) + (IntKind.wrap .u64 (Int.ofNat (BitVec.toNat (BitVec.ofInt (IntKind.bits .u64) x0 &&& BitVec.ofInt (IntKind.bits .u64) 6148914691236517205)))))) &&& BitVec.ofInt (IntKind.bits .u64) 3689348814741910323)))))) (2 ^ (min (Int.toNat 4) (IntKind.bits .u64)))) + (IntKind.wrap .u64 ((IntKind.wrap .u64 (Int.ofNat (BitVec.toNat (BitVec.ofInt (IntKind.bits .u64) (Int.fdiv (IntKind.wrap .u64 ((IntKind.wrap .u64 (Int.ofNat (BitVec.toNat (BitVec.ofInt (IntKind.bits .u64) (Int.fdiv x0 (2 ^ (min (Int.toNat 1) (IntKind.bits .u64)))) &&& BitVec.ofInt (IntKind.bits .u64) 6148914691236517205)))) + (IntKind.wrap .u64 (Int.ofNat (BitVec.toNat (BitVec.ofInt (IntKind.bits .u64) x0 &&& BitVec.ofInt (IntKind.bits .u64) 6148914691236517205)))))) (2 ^ (min (Int.toNat 2) (IntKind.bits .u64)))) &&& BitVec.ofInt (IntKind.bits .u64) 3689348814741910323)))) + (IntKind.wrap .u64 (Int.ofNat (BitVec.toNat (BitVec.ofInt (IntKind.bits .u64) (IntKind.wrap .u64 ((IntKind.wrap .u64 (Int.ofNat (BitVec.toNat (BitVec.ofInt (IntKind.bits .u64) (Int.fdiv x0 (2 ^ (min (Int.toNat 1) (IntKind.bits .u64)))) &&& BitVec.ofInt (IntKind.bits .u64) 6148914691236517205)))) + (IntKind.wrap .u64 (Int.ofNat (BitVec.toNat (BitVec.ofInt (IntKind.bits .u64) x0 &&& BitVec.ofInt (IntKind.bits .u64) 6148914691236517205)))))) &&& BitVec.ofInt (IntKind.bits .u64) 3689348814741910323)))))))) &&& BitVec.ofInt (IntKind.bits .u64) 1085102592571150095)))) + (Int.fdiv (IntKind.wrap .u64 (Int.ofNat (BitVec.toNat (BitVec.ofInt (IntKind.bits .u64) (IntKind.wrap .u64 ((Int.fdiv (IntKind.wrap .u64 ((IntKind.wrap .u64 (Int.ofNat (BitVec.toNat (BitVec.ofInt (IntKind.bits .u64) (Int.fdiv (IntKind.wrap .u64 ((IntKind.wrap .u64 (Int.ofNat (BitVec.toNat (BitVec.ofInt (IntKind.bits .u64) (Int.fdiv x0 (2 ^ (min (Int.toNat 1) (IntKind.bits .u64)))) &&& BitVec.ofInt (IntKind.bits .u64) 6148914691236517205)))) + (IntKind.wrap .u64 (Int.ofNat (BitVec.toNat (BitVec.ofInt (IntKind.bits .u64) x0 &&& BitVec.ofInt (IntKind.bits .u64) 6148914691236517205)))))) (2 ^ (min (Int.toNat 2) (IntKind.bits .u64)))) &&& BitVec.ofInt (IntKind.bits .u64) 3689348814741910323)))) + (IntKind.wrap .u64 (Int.ofNat (BitVec.toNat (BitVec.ofInt (IntKind.bits .u64) (IntKind.wrap .u64 ((IntKind.wrap .u64 (Int.ofNat (BitVec.toNat (BitVec.ofInt (IntKind.bits .u64) (Int.fdiv x0 (2 ^ (min (Int.toNat 1) (IntKind.bits .u64)))) &&& BitVec.ofInt (IntKind.bits .u64) 6148914691236517205)))) + (IntKind.wrap .u64 (Int.ofNat (BitVec.toNat (BitVec.ofInt (IntKind.bits .u64) x0 &&& BitVec.ofInt (IntKind.bits .u64) 6148914691236517205)))))) &&& BitVec.ofInt (IntKind.bits .u64) 3689348814741910323)))))) (2 ^ (min (Int.toNat 4) (IntKind.bits .u64)))) + (IntKind.wrap .u64 ((IntKind.wrap .u64 (Int.ofNat (BitVec.toNat (BitVec.ofInt (IntKind.bits .u64) (Int.fdiv (IntKind.wrap .u64 ((IntKind.wrap .u64 (Int.ofNat (BitVec.toNat (BitVec.ofInt (IntKind.bits .u64) (Int.fdiv x0 (2 ^ (min (Int.toNat 1) (IntKind.bits .u64)))) &&& BitVec.ofInt (IntKind.bits .u64) 6148914691236517205)))) + (IntKind.wrap .u64 (Int.ofNat (BitVec.toNat (BitVec.ofInt (IntKind.bits .u64) x0 &&& BitVec.ofInt (IntKind.bits .u64) 6148914691236517205)))))) (2 ^ (min (Int.toNat 2) (IntKind.bits .u64)))) &&& BitVec.ofInt (IntKind.bits .u64) 3689348814741910323)))) + (IntKind.wrap .u64 (Int.ofNat (BitVec.toNat (BitVec.ofInt (IntKind.bits .u64) (IntKind.wrap .u64 ((IntKind.wrap .u64 (Int.ofNat (BitVec.toNat (BitVec.ofInt (IntKind.bits .u64) (Int.fdiv x0 (2 ^ (min (Int.toNat 1) (IntKind.bits .u64)))) &&& BitVec.ofInt (IntKind.bits .u64) 6148914691236517205)))) + (IntKind.wrap .u64 (Int.ofNat (BitVec.toNat (BitVec.ofInt (IntKind.bits .u64) x0 &&& BitVec.ofInt (IntKind.bits .u64) 6148914691236517205)))))) &&& BitVec.ofInt (IntKind.bits .u64) 3689348814741910323)))))))) &&& BitVec.ofInt (IntKind.bits .u64) 1085102592571150095)))) (2 ^ (min (Int.toNat 8) (IntKind.bits .u64)))))) + (Int.fdiv (IntKind.wrap .u64 ((IntKind.wrap .u64 (Int.ofNat (BitVec.toNat (BitVec.ofInt (IntKind.bits .u64) (IntKind.wrap .u64 ((Int.fdiv (IntKind.wrap .u64 ((IntKind.wrap .u64 (Int.ofNat (BitVec.toNat (BitVec.ofInt (IntKind.bits .u64) (Int.fdiv (IntKind.wrap .u64 ((IntKind.wrap .u64 (Int.ofNat (BitVec.toNat (BitVec.ofInt (IntKind.bits .u64) (Int.fdiv x0 (2 ^ (min (Int.toNat 1) (IntKind.bits .u64)))) &&& BitVec.ofInt (IntKind.bits .u64) 6148914691236517205)))) + (IntKind.wrap .u64 (Int.ofNat (BitVec.toNat (BitVec.ofInt (IntKind.bits .u64) x0 &&& BitVec.ofInt (IntKind.bits .u64) 6148914691236517205)))))) (2 ^ (min (Int.toNat 2) (IntKind.bits .u64)))) &&& BitVec.ofInt (IntKind.bits .u64) 3689348814741910323)))) + (IntKind.wrap .u64 (Int.ofNat (BitVec.toNat (BitVec.ofInt (IntKind.bits .u64) (IntKind.wrap .u64 ((IntKind.wrap .u64 (Int.ofNat (BitVec.toNat (BitVec.ofInt (IntKind.bits .u64) (Int.fdiv x0 (2 ^ (min (Int.toNat 1) (IntKind.bits .u64)))) &&& BitVec.ofInt (IntKind.bits .u64) 6148914691236517205)))) + (IntKind.wrap .u64 (Int.ofNat (BitVec.toNat (BitVec.ofInt (IntKind.bits .u64) x0 &&& BitVec.ofInt (IntKind.bits .u64) 6148914691236517205)))))) &&& BitVec.ofInt (IntKind.bits .u64) 3689348814741910323)))))) (2 ^ (min (Int.toNat 4) (IntKind.bits .u64)))) + (IntKind.wrap .u64 ((IntKind.wrap .u64 (Int.ofNat (BitVec.toNat (BitVec.ofInt (IntKind.bits .u64) (Int.fdiv (IntKind.wrap .u64 ((IntKind.wrap .u64 (Int.ofNat (BitVec.toNat (BitVec.ofInt (IntKind.bits .u64) (Int.fdiv x0 (2 ^ (min (Int.toNat 1) (IntKind.bits .u64)))) &&& BitVec.ofInt (IntKind.bits .u64) 6148914691236517205)))) + (IntKind.wrap .u64 (Int.ofNat (BitVec.toNat (BitVec.ofInt (IntKind.bits .u64) x0 &&& BitVec.ofInt (IntKind.bits .u64) 6148914691236517205)))))) (2 ^ (min (Int.toNat 2) (IntKind.bits .u64)))) &&& BitVec.ofInt (IntKind.bits .u64) 3689348814741910323)))) + (IntKind.wrap .u64 (Int.ofNat (BitVec.toNat (BitVec.ofInt (IntKind.bits .u64) (IntKind.wrap .u64 ((IntKind.wrap .u64 (Int.ofNat (BitVec.toNat (BitVec.ofInt (IntKind.bits .u64) (Int.fdiv x0 (2 ^ (min (Int.toNat 1) (IntKind.bits .u64)))) &&& BitVec.ofInt (IntKind.bits .u64) 6148914691236517205)))) + (IntKind.wrap .u64 (Int.ofNat (BitVec.toNat (BitVec.ofInt (IntKind.bits .u64) x0 &&& BitVec.ofInt (IntKind.bits .u64) 6148914691236517205)))))) &&& BitVec.ofInt (IntKind.bits .u64) 3689348814741910323)))))))) &&& BitVec.ofInt (IntKind.bits .u64) 1085102592571150095)))) + (Int.fdiv (IntKind.wrap .u64 (Int.ofNat (BitVec.toNat (BitVec.ofInt (IntKind.bits .u64) (IntKind.wrap .u64 ((Int.fdiv (IntKind.wrap .u64 ((IntKind.wrap .u64 (Int.ofNat (BitVec.toNat (BitVec.ofInt (IntKind.bits .u64) (Int.fdiv (IntKind.wrap .u64 ((IntKind.wrap .u64 (Int.ofNat (BitVec.toNat (BitVec.ofInt (IntKind.bits .u64) (Int.fdiv x0 (2 ^ (min (Int.toNat 1) (IntKind.bits .u64)))) &&& BitVec.ofInt (IntKind.bits .u64) 6148914691236517205)))) + (IntKind.wrap .u64 (Int.ofNat (BitVec.toNat (BitVec.ofInt (IntKind.bits .u64) x0 &&& BitVec.ofInt (IntKind.bits .u64) 6148914691236517205)))))) (2 ^ (min (Int.toNat 2) (IntKind.bits .u64)))) &&& BitVec.ofInt (IntKind.bits .u64) 3689348814741910323)))) + (IntKind.wrap .u64 (Int.ofNat (BitVec.toNat (BitVec.ofInt (IntKind.bits .u64) (IntKind.wrap .u64 ((IntKind.wrap .u64 (Int.ofNat (BitVec.toNat (BitVec.ofInt (IntKind.bits .u64) (Int.fdiv x0 (2 ^ (min (Int.toNat 1) (IntKind.bits .u64)))) &&& BitVec.ofInt (IntKind.bits .u64) 6148914691236517205)))) + (IntKind.wrap .u64 (Int.ofNat (BitVec.toNat (BitVec.ofInt (IntKind.bits .u64) x0 &&& BitVec.ofInt (IntKind.bits .u64) 6148914691236517205)))))) &&& BitVec.ofInt (IntKind.bits .u64) 3689348814741910323)))))) (2 ^ (min (Int.toNat 4) (IntKind.bits .u64)))) + (IntKind.wrap .u64 ((IntKind.wrap .u64 (Int.ofNat (BitVec.toNat (BitVec.ofInt (IntKind.bits .u64) (Int.fdiv (IntKind.wrap .u64 ((IntKind.wrap .u64 (Int.ofNat (BitVec.toNat (BitVec.ofInt (IntKind.bits .u64) (Int.fdiv x0 (2 ^ (min (Int.toNat 1) (IntKind.bits .u64)))) &&& BitVec.ofInt (IntKind.bits .u64) 6148914691236517205)))) + (IntKind.wrap .u64 (Int.ofNat (BitVec.toNat (BitVec.ofInt (IntKind.bits .u64) x0 &&& BitVec.ofInt (IntKind.bits .u64) 6148914691236517205)))))) (2 ^ (min (Int.toNat 2) (IntKind.bits .u64)))) &&& BitVec.ofInt (IntKind.bits .u64) 3689348814741910323)))) + (IntKind.wrap .u64 (Int.ofNat (BitVec.toNat (BitVec.ofInt (IntKind.bits .u64) (IntKind.wrap .u64 ((IntKind.wrap .u64 (Int.ofNat (BitVec.toNat (BitVec.ofInt (IntKind.bits .u64) (Int.fdiv x0 (2 ^ (min (Int.toNat 1) (IntKind.bits .u64)))) &&& BitVec.ofInt (IntKind.bits .u64) 6148914691236517205)))) + (IntKind.wrap .u64 (Int.ofNat (BitVec.toNat (BitVec.ofInt (IntKind.bits .u64) x0 &&& BitVec.ofInt (IntKind.bits .u64) 6148914691236517205)))))) &&& BitVec.ofInt (IntKind.bits .u64) 3689348814741910323)))))))) &&& BitVec.ofInt (IntKind.bits .u64) 1085102592571150095)))) (2 ^ (min (Int.toNat 8) (IntKind.bits .u64)))))) (2 ^ (min (Int.toNat 16) (IntKind.bits .u64)))))) (2 ^ (min (Int.toNat 32) (IntKind.bits .u64)))))))) &&& BitVec.ofInt (IntKind.bits .i64) 127))))) (fun r0 => k (PkS.pack Tbits_OnesCount64 (r0, ()))) := by kernel_rfl
theorem okbits_OnesCount64 (n : Nat) : FnOk Try.prog 52 (Kbits_OnesCount64 @bits_OnesCount64 n) := by
  refine fn_ok (sig := sig) mixed ttok (mkK_nat (cbits_OnesCount64 n)) (mkK_ok (cbits_OnesCount64 n)) (mkL_nat (mkK_nat (cbits_OnesCount64 n)) (l := []) trivial) (fn := Try.f52) (c := bodyOf Try.f52) (by kernel_rfl) (by kernel_rfl) (by kernel_rfl) (.eq (l := []) (by kernel_rfl) trivial) (shs := Hbits_OnesCount64) (S := Sbits_OnesCount64) (h1 := by kernel_rfl) fun R p k => ?_
  unfold Kbits_OnesCount64
  cases h : (PkS.un Sbits_OnesCount64 p) with
  | none => rfl
  | some d =>
    obtain ⟨x0, u⟩ := (d : Int × Unit)
    have hp := PkS.un_pack h
    subst hp
    exact (ebits_OnesCount64  n x0 k).symm

/-! ### loop.example/g00269/impl.CountYes -/
theorem cimpl_CountYes (n : Nat) : AllOk Try.prog [(42, Kimpl_truthOf @impl_truthOf n), (52, Kbits_OnesCount64 @bits_OnesCount64 n)] := ⟨okimpl_truthOf n, ⟨okbits_OnesCount64 n, trivial⟩⟩
@[reducible] def Simpl_CountYes : PkS := ⟨[.agg [.ro (.pr (.int .i64) (.pr (.int .i64) (.int .i64))), .int .i64]], []⟩
@[reducible] def Timpl_CountYes : PkS := ⟨[.tup [(false, [.int .i64]), (false, [.bool])], .one (.dead)], []⟩
def Himpl_CountYes : List Sh := [.tup [(false, [.any]), (false, [.any])], .skip]
def Kimpl_CountYes (g : ∀ {R : Type}, Nat → (List (Int × Int × Int)) → Int → (Int → Bool → Option R) → Option R) (n : Nat) : KPs := fun R p k => match (PkS.un Simpl_CountYes p : Option ((List (Int × Int × Int)) × Int × Unit)) with
  | some (x0, x1, _) => g n x0 x1 (fun r0 r1 => k (PkS.pack Timpl_CountYes (r0, r1, ())))
  | none => none
theorem eimpl_CountYes (impl_truthOf : ∀ {R : Type}, Nat → (List (Int × Int × Int)) → Int → (Int → Bool → Option R) → Option R) (bits_OnesCount64 : ∀ {R : Type}, Nat → Int → (Int → Option R) → Option R) {R : Type} (n : Nat) (x0 : List (Int × Int × Int)) (x1 : Int) (k : Pk → Option R) : evF tt sig (mkK [(42, Kimpl_truthOf @impl_truthOf n), (52, Kbits_OnesCount64 @bits_OnesCount64 n)] R) (mkL (mkK [(42, Kimpl_truthOf @impl_truthOf n), (52, Kbits_OnesCount64 @bits_OnesCount64 n)]) [] R) Try.f24 Himpl_CountYes (PkS.pack Simpl_CountYes (x0, x1, ())) k = (fun (k : Int → Bool → Option R) => (impl_truthOf n x0 x1 fun r1 r2 => (bif (!r2) then k 0 false else (bits_OnesCount64 n r1 fun r3 => k r3 true)))) (fun r0 r1 => k (PkS.pack Timpl_CountYes (r0, r1, ()))) := by kernel_rfl
theorem okimpl_CountYes (n : Nat) : FnOk Try.prog 24 (Kimpl_CountYes @impl_CountYes n) := by
  refine fn_ok (sig := sig) mixed ttok (mkK_nat (cimpl_CountYes n)) (mkK_ok (cimpl_CountYes n)) (mkL_nat (mkK_nat (cimpl_CountYes n)) (l := []) trivial) (fn := Try.f24) (c := bodyOf Try.f24) (by kernel_rfl) (by kernel_rfl) (by kernel_rfl) (.eq (l := []) (by kernel_rfl) trivial) (shs := Himpl_CountYes) (S := Simpl_CountYes) (h1 := by kernel_rfl) fun R p k => ?_
  unfold Kimpl_CountYes
  cases h : (PkS.un Simpl_CountYes p) with
  | none => rfl
  | some d =>
    obtain ⟨x0, x1, u⟩ := (d : (List (Int × Int × Int)) × Int × Unit)
    have hp := PkS.un_pack h
    subst hp
    exact (eimpl_CountYes @impl_truthOf @bits_OnesCount64 n x0 x1 k).symm

/-! ### loop.example/g00269/laws.eqChoice -/
theorem claws_eqChoice (n : Nat) : AllOk Try.prog [] := trivial
@[reducible] def Slaws_eqChoice : PkS := ⟨[.agg [.int .i64, .int .i64, .int .i64], .agg [.int .i64, .int .i64, .int .i64]], []⟩
@[reducible] def Tlaws_eqChoice : PkS := ⟨[.one (.bool), .one (.dead), .one (.dead)], []⟩
def Hlaws_eqChoice : List Sh := [.one .any, .skip, .skip]
def Klaws_eqChoice (g : ∀ {R : Type}, Nat → Int → Int → Int → Int → Int → Int → (Bool → Option R) → Option R) (n : Nat) : KPs := fun R p k => match (PkS.un Slaws_eqChoice p : Option (Int × Int × Int × Int × Int × Int × Unit)) with
  | some (x0, x1, x2, x3, x4, x5, _) => g n x0 x1 x2 x3 x4 x5 (fun r0 => k (PkS.pack Tlaws_eqChoice (r0, ())))
  | none => none
theorem elaws_eqChoice  {R : Type} (n : Nat) (x0 : Int) (x1 : Int) (x2 : Int) (x3 : Int) (x4 : Int) (x5 : Int) (k : Pk → Option R) : evF tt sig (mkK [] R) (mkL (mkK []) [] R) Try.f63 Hlaws_eqChoice (PkS.pack Slaws_eqChoice (x0, x1, x2, x3, x4, x5, ())) k = (fun (k : Bool → Option R) => (bif (x0 != x3) then k false else (bif (x1 != x4) then k false else (bif (x2 != x5) then k false else k true)))) (fun r0 => k (PkS.pack Tlaws_eqChoice (r0, ()))) := by kernel_rfl
theorem oklaws_eqChoice (n : Nat) : FnOk Try.prog 63 (Klaws_eqChoice @laws_eqChoice n) := by
  refine fn_ok (sig := sig) mixed ttok (mkK_nat (claws_eqChoice n)) (mkK_ok (claws_eqChoice n)) (mkL_nat (mkK_nat (claws_eqChoice n)) (l := []) trivial) (fn := Try.f63) (c := bodyOf Try.f63) (by kernel_rfl) (by kernel_rfl) (by kernel_rfl) (.eq (l := []) (by kernel_rfl) trivial) (shs := Hlaws_eqChoice) (S := Slaws_eqChoice) (h1 := by kernel_rfl) fun R p k => ?_
  unfold Klaws_eqChoice
  cases h : (PkS.un Slaws_eqChoice p) with
  | none => rfl
  | some d =>
    obtain ⟨x0, x1, x2, x3, x4, x5, u⟩ := (d : Int × Int × Int × Int × Int × Int × Unit)
    have hp := PkS.un_pack h
    subst hp
    exact (elaws_eqChoice  n x0 x1 x2 x3 x4 x5 k).symm

/-! ### loop.example/g00269/laws.eqChoiceS -/
theorem claws_eqChoiceS (n : Nat) : AllOk Try.prog [(63, Klaws_eqChoice @laws_eqChoice n)] := ⟨oklaws_eqChoice n, trivial⟩
@[reducible] def Slaws_eqChoiceS_l4 : PkS := ⟨[.one (.ro (.pr (.int .i64) (.pr (.int .i64) (.int .i64)))), .one (.ro (.pr (.int .i64) (.pr (.int .i64) (.int .i64)))), .one (.int .i64), .one (.dead), .one (.dead)], []⟩
@[reducible] def Tlaws_eqChoiceS_l4_0 : PkS := ⟨[.one (.bool), .one (.dead), .one (.dead)], []⟩
@[reducible] def Tlaws_eqChoiceS_l4_1 : PkS := ⟨[.one (.dead), .one (.dead)], []⟩
def Dlaws_eqChoiceS_l4 : LoopD := ⟨27, [0, 1, 5], [.one (.ro (.pr (.int .i64) (.pr (.int .i64) (.int .i64)))), .one (.ro (.pr (.int .i64) (.pr (.int .i64) (.int .i64)))), .one .any, .skip, .skip], fun x => match x with
  | .ret => some ([4], [.one .any, .skip, .skip])
  | .exit 0 => some ([], [.skip, .skip])
  | _ => none⟩
def Plaws_eqChoiceS_l4 (g : ∀ {R : Type}, Nat → (List (Int × Int × Int)) → (List (Int × Int × Int)) → Int → (Bool → Option R) → (Option R) → Option R) (n : Nat) : LPs := fun R q kk => match (PkS.un Slaws_eqChoiceS_l4 q : Option ((List (Int × Int × Int)) × (List (Int × Int × Int)) × Int × Unit)) with
  | some (y4_0, y4_1, y4_2, _) => g n y4_0 y4_1 y4_2 (fun r0 => kk .ret (PkS.pack Tlaws_eqChoiceS_l4_0 (r0, ()))) (kk (.exit 0) (PkS.pack Tlaws_eqChoiceS_l4_1 ()))
  | none => none
theorem elaws_eqChoiceS_l4 (laws_eqChoice : ∀ {R : Type}, Nat → Int → Int → Int → Int → Int → Int → (Bool → Option R) → Option R) (laws_eqChoiceS_l4 : ∀ {R : Type}, Nat → (List (Int × Int × Int)) → (List (Int × Int × Int)) → Int → (Bool → Option R) → (Option R) → Option R) {R : Type} (n : Nat) (y4_0 : List (Int × Int × Int)) (y4_1 : List (Int × Int × Int)) (y4_2 : Int) (kk : Ex → Pk → Option R) : Dlaws_eqChoiceS_l4.step tt sig (mkK [(63, Klaws_eqChoice @laws_eqChoice n)] R) (mkL (mkK [(63, Klaws_eqChoice @laws_eqChoice n)]) [] R) (loopIn 4 (bodyOf Try.f43)) (fun q' => Plaws_eqChoiceS_l4 @laws_eqChoiceS_l4 n R q' kk) (PkS.pack Slaws_eqChoiceS_l4 (y4_0, y4_1, y4_2, ())) kk = (fun (kret : Bool → Option R) (kexit0 : Option R) => (bif (decide (y4_2 < (y4_0.length : Int))) then (bif decide (0 ≤ y4_2) then (bif decide (y4_2 < (y4_0.length : Int)) then (bif decide (0 ≤ y4_2) then (bif decide (y4_2 < (y4_1.length : Int)) then (laws_eqChoice n ((y4_0.getD (Int.toNat y4_2) (0, (0, 0))).1) ((y4_0.getD (Int.toNat y4_2) (0, (0, 0))).2.1) ((y4_0.getD (Int.toNat y4_2) (0, (0, 0))).2.2) ((y4_1.getD (Int.toNat y4_2) (0, (0, 0))).1) ((y4_1.getD (Int.toNat y4_2) (0, (0, 0))).2.1) ((y4_1.getD (Int.toNat y4_2) (0, (0, 0))).2.2) fun r1 => (bif (!r1) then kret false else laws_eqChoiceS_l4 n y4_0 y4_1 (IntKind.wrap .i64 (y4_2 + 1)) kret kexit0)) else none) else none) else none) else none) else kexit0)) (fun r0 => kk .ret (PkS.pack Tlaws_eqChoiceS_l4_0 (r0, ()))) (kk (.exit 0) (PkS.pack Tlaws_eqChoiceS_l4_1 ())) := by kernel_rfl
theorem lelaws_eqChoiceS_l4 : LoopEq tt sig (fun n => mkK [(63, Klaws_eqChoice @laws_eqChoice n)]) (fun n => mkL (mkK [(63, Klaws_eqChoice @laws_eqChoice n)]) []) Dlaws_eqChoiceS_l4 Slaws_eqChoiceS_l4 (loopIn 4 (bodyOf Try.f43)) (Plaws_eqChoiceS_l4 @laws_eqChoiceS_l4) where
  zero R q kk := by unfold Plaws_eqChoiceS_l4; cases (PkS.un Slaws_eqChoiceS_l4 q) <;> rfl
  succ n R q kk := by
    unfold Plaws_eqChoiceS_l4
    cases h : (PkS.un Slaws_eqChoiceS_l4 q) with
    | none => rfl
    | some d =>
      obtain ⟨y4_0, y4_1, y4_2, u⟩ := (d : (List (Int × Int × Int)) × (List (Int × Int × Int)) × Int × Unit)
      have hp := PkS.un_pack h
      subst hp
      exact (elaws_eqChoiceS_l4 @laws_eqChoice @laws_eqChoiceS_l4 n y4_0 y4_1 y4_2 kk).symm
theorem nllaws_eqChoiceS_l4 : ∀ n, NatLP (Plaws_eqChoiceS_l4 @laws_eqChoiceS_l4 n) := lelaws_eqChoiceS_l4.nat (fun n => mkK_nat (claws_eqChoiceS n)) fun n => mkL_nat (mkK_nat (claws_eqChoiceS n)) (l := []) trivial
theorem inlaws_eqChoiceS_l4 (n : Nat) (R : Type) : LoopsOk Try.prog (mkL (mkK [(63, Klaws_eqChoice @laws_eqChoice n)]) [] R) (loopIn 4 (bodyOf Try.f43)) := .eq (l := []) (by kernel_rfl) trivial
theorem lklaws_eqChoiceS_l4 (n : Nat) (R : Type) (L0 : LK R) (h0 : ∀ id, firstRegion (loopIn 4 (bodyOf Try.f43)) = some id → L0 id = Dlaws_eqChoiceS_l4.oracle (mkK [(63, Klaws_eqChoice @laws_eqChoice n)] R) (Plaws_eqChoiceS_l4 @laws_eqChoiceS_l4 n R)) : LoopOk Try.prog L0 (loopIn 4 (bodyOf Try.f43)) :=
  lelaws_eqChoiceS_l4.ok mixed ttok (fun n => mkK_nat (claws_eqChoiceS n)) (fun n => mkK_ok (claws_eqChoiceS n)) (fun n => inlaws_eqChoiceS_l4 n R) (mkK_nat (claws_eqChoiceS n)) h0
@[reducible] def Slaws_eqChoiceS : PkS := ⟨[.one (.ro (.pr (.int .i64) (.pr (.int .i64) (.int .i64)))), .one (.ro (.pr (.int .i64) (.pr (.int .i64) (.int .i64))))], []⟩
@[reducible] def Tlaws_eqChoiceS : PkS := ⟨[.one (.bool), .one (.dead), .one (.dead)], []⟩
def Hlaws_eqChoiceS : List Sh := [.one .any, .skip, .skip]
def Klaws_eqChoiceS (g : ∀ {R : Type}, Nat → (List (Int × Int × Int)) → (List (Int × Int × Int)) → (Bool → Option R) → Option R) (n : Nat) : KPs := fun R p k => match (PkS.un Slaws_eqChoiceS p : Option ((List (Int × Int × Int)) × (List (Int × Int × Int)) × Unit)) with
  | some (x0, x1, _) => g n x0 x1 (fun r0 => k (PkS.pack Tlaws_eqChoiceS (r0, ())))
  | none => none
theorem elaws_eqChoiceS (laws_eqChoice : ∀ {R : Type}, Nat → Int → Int → Int → Int → Int → Int → (Bool → Option R) → Option R) (laws_eqChoiceS_l4 : ∀ {R : Type}, Nat → (List (Int × Int × Int)) → (List (Int × Int × Int)) → Int → (Bool → Option R) → (Option R) → Option R) {R : Type} (n : Nat) (x0 : List (Int × Int × Int)) (x1 : List (Int × Int × Int)) (k : Pk → Option R) : evF tt sig (mkK [(63, Klaws_eqChoice @laws_eqChoice n)] R) (mkL (mkK [(63, Klaws_eqChoice @laws_eqChoice n)]) [(4, Dlaws_eqChoiceS_l4, Plaws_eqChoiceS_l4 @laws_eqChoiceS_l4 n)] R) Try.f43 Hlaws_eqChoiceS (PkS.pack Slaws_eqChoiceS (x0, x1, ())) k = (fun (k : Bool → Option R) => (bif ((x0.length : Int) != (x1.length : Int)) then k false else (laws_eqChoiceS_l4 n x0 x1 0 (fun r2 => k r2) (k true)))) (fun r0 => k (PkS.pack Tlaws_eqChoiceS (r0, ()))) := by kernel_rfl
theorem oklaws_eqChoiceS (n : Nat) : FnOk Try.prog 43 (Klaws_eqChoiceS @laws_eqChoiceS n) := by
  refine fn_ok (sig := sig) mixed ttok (mkK_nat (claws_eqChoiceS n)) (mkK_ok (claws_eqChoiceS n)) (mkL_nat (mkK_nat (claws_eqChoiceS n)) (l := [(4, Dlaws_eqChoiceS_l4, Plaws_eqChoiceS_l4 @laws_eqChoiceS_l4 n)]) ⟨nllaws_eqChoiceS_l4 n, trivial⟩) (fn := Try.f43) (c := bodyOf Try.f43) (by kernel_rfl) (by kernel_rfl) (by kernel_rfl) (.eq (l := [.lo (loopIn 4 (bodyOf Try.f43))]) (by kernel_rfl) ⟨(lklaws_eqChoiceS_l4 n _ _ (at_id (i := 4) (by kernel_rfl) rfl)), trivial⟩) (shs := Hlaws_eqChoiceS) (S := Slaws_eqChoiceS) (h1 := by kernel_rfl) fun R p k => ?_
  unfold Klaws_eqChoiceS
  cases h : (PkS.un Slaws_eqChoiceS p) with
  | none => rfl
  | some d =>
    obtain ⟨x0, x1, u⟩ := (d : (List (Int × Int × Int)) × (List (Int × Int × Int)) × Unit)
    have hp := PkS.un_pack h
    subst hp
    exact (elaws_eqChoiceS @laws_eqChoice @laws_eqChoiceS_l4 n x0 x1 k).symm

/-! ### loop.example/g00269/laws.eqDiagram -/
theorem claws_eqDiagram (n : Nat) : AllOk Try.prog [(43, Klaws_eqChoiceS @laws_eqChoiceS n)] := ⟨oklaws_eqChoiceS n, trivial⟩
@[reducible] def Slaws_eqDiagram : PkS := ⟨[.agg [.ro (.pr (.int .i64) (.pr (.int .i64) (.int .i64))), .int .i64], .agg [.ro (.pr (.int .i64) (.pr (.int .i64) (.int .i64))), .int .i64]], []⟩
@[reducible] def Tlaws_eqDiagram : PkS := ⟨[.one (.bool), .one (.dead), .one (.dead)], []⟩
def Hlaws_eqDiagram : List Sh := [.one .any, .skip, .skip]
def Klaws_eqDiagram (g : ∀ {R : Type}, Nat → (List (Int × Int × Int)) → Int → (List (Int × Int × Int)) → Int → (Bool → Option R) → Option R) (n : Nat) : KPs := fun R p k => match (PkS.un Slaws_eqDiagram p : Option ((List (Int × Int × Int)) × Int × (List (Int × Int × Int)) × Int × Unit)) with
  | some (x0, x1, x2, x3, _) => g n x0 x1 x2 x3 (fun r0 => k (PkS.pack Tlaws_eqDiagram (r0, ())))
  | none => none
theorem elaws_eqDiagram (laws_eqChoiceS : ∀ {R : Type}, Nat → (List (Int × Int × Int)) → (List (Int × Int × Int)) → (Bool → Option R) → Option R) {R : Type} (n : Nat) (x0 : List (Int × Int × Int)) (x1 : Int) (x2 : List (Int × Int × Int)) (x3 : Int) (k : Pk → Option R) : evF tt sig (mkK [(43, Klaws_eqChoiceS @laws_eqChoiceS n)] R) (mkL (mkK [(43, Klaws_eqChoiceS @laws_eqChoiceS n)]) [] R) Try.f16 Hlaws_eqDiagram (PkS.pack Slaws_eqDiagram (x0, x1, x2, x3, ())) k = (fun (k : Bool → Option R) => (laws_eqChoiceS n x0 x2 fun r1 => (bif (!r1) then k false else (bif (x1 != x3) then k false else k true)))) (fun r0 => k (PkS.pack Tlaws_eqDiagram (r0, ()))) := by kernel_rfl
theorem oklaws_eqDiagram (n : Nat) : FnOk Try.prog 16 (Klaws_eqDiagram @laws_eqDiagram n) := by
  refine fn_ok (sig := sig) mixed ttok (mkK_nat (claws_eqDiagram n)) (mkK_ok (claws_eqDiagram n)) (mkL_nat (mkK_nat (claws_eqDiagram n)) (l := []) trivial) (fn := Try.f16) (c := bodyOf Try.f16) (by kernel_rfl) (by kernel_rfl) (by kernel_rfl) (.eq (l := []) (by kernel_rfl) trivial) (shs := Hlaws_eqDiagram) (S := Slaws_eqDiagram) (h1 := by kernel_rfl) fun R p k => ?_
  unfold Klaws_eqDiagram
  cases h : (PkS.un Slaws_eqDiagram p) with
  | none => rfl
  | some d =>
    obtain ⟨x0, x1, x2, x3, u⟩ := (d : (List (Int × Int × Int)) × Int × (List (Int × Int × Int)) × Int × Unit)
    have hp := PkS.un_pack h
    subst hp
    exact (elaws_eqDiagram @laws_eqChoiceS n x0 x1 x2 x3 k).symm

/-! ### loop.example/g00269/laws.FnExactCountYes -/
theorem claws_FnExactCountYes (n : Nat) : AllOk Try.prog [(12, Klaws_szDiagram @laws_szDiagram n), (14, Klaws_toDiagram @laws_toDiagram n), (23, Kspec_CountYes @spec_CountYes n), (24, Kimpl_CountYes @impl_CountYes n), (16, Klaws_eqDiagram @laws_eqDiagram n)] := ⟨oklaws_szDiagram n, ⟨oklaws_toDiagram n, ⟨okspec_CountYes n, ⟨okimpl_CountYes n, ⟨oklaws_eqDiagram n, trivial⟩⟩⟩⟩⟩
@[reducible] def Slaws_FnExactCountYes : PkS := ⟨[.agg [.ro (.pr (.int .i64) (.pr (.int .i64) (.int .i64))), .int .i64]], []⟩
@[reducible] def Tlaws_FnExactCountYes : PkS := ⟨[.one (.bool), .one (.dead)], []⟩
def Hlaws_FnExactCountYes : List Sh := [.one .any, .skip]
def Klaws_FnExactCountYes (g : ∀ {R : Type}, Nat → (List (Int × Int × Int)) → Int → (Bool → Option R) → Option R) (n : Nat) : KPs := fun R p k => match (PkS.un Slaws_FnExactCountYes p : Option ((List (Int × Int × Int)) × Int × Unit)) with
  | some (x0, x1, _) => g n x0 x1 (fun r0 => k (PkS.pack Tlaws_FnExactCountYes (r0, ())))
  | none => none
theorem elaws_FnExactCountYes (laws_szDiagram : ∀ {R : Type}, Nat → (List (Int × Int × Int)) → Int → Int → (Int → Option R) → Option R) (laws_toDiagram : ∀ {R : Type}, Nat → (List (Int × Int × Int)) → Int → (Int → (List (Int × Int × Int)) → Option R) → Option R) (spec_CountYes : ∀ {R : Type}, Nat → (List (Int × Int × Int)) → Int → (Int → Bool → Option R) → Option R) (impl_CountYes : ∀ {R : Type}, Nat → (List (Int × Int × Int)) → Int → (Int → Bool → Option R) → Option R) (laws_eqDiagram : ∀ {R : Type}, Nat → (List (Int × Int × Int)) → Int → (List (Int × Int × Int)) → Int → (Bool → Option R) → Option R) {R : Type} (n : Nat) (x0 : List (Int × Int × Int)) (x1 : Int) (k : Pk → Option R) : evF tt sig (mkK [(12, Klaws_szDiagram @laws_szDiagram n), (14, Klaws_toDiagram @laws_toDiagram n), (23, Kspec_CountYes @spec_CountYes n), (24, Kimpl_CountYes @impl_CountYes n), (16, Klaws_eqDiagram @laws_eqDiagram n)] R) (mkL (mkK [(12, Klaws_szDiagram @laws_szDiagram n), (14, Klaws_toDiagram @laws_toDiagram n), (23, Kspec_CountYes @spec_CountYes n), (24, Kimpl_CountYes @impl_CountYes n), (16, Klaws_eqDiagram @laws_eqDiagram n)]) [] R) Try.f6 Hlaws_FnExactCountYes (PkS.pack Slaws_FnExactCountYes (x0, x1, ())) k = (fun (k : Bool → Option R) => (laws_szDiagram n x0 x1 1048576 fun r1 => (bif (decide (r1 < 0)) then k true else (laws_toDiagram n x0 x1 fun r2 r3 => (spec_CountYes n r3 r2 fun r4 r5 => (laws_toDiagram n x0 x1 fun r6 r7 => (impl_CountYes n r7 r6 fun r8 r9 => (bif (r8 != r4) then k false else (bif (!(r9 == r5)) then k false else (laws_toDiagram n x0 x1 fun r10 r11 => (laws_eqDiagram n r7 r6 r11 r10 fun r12 => (bif (!r12) then k false else k true)))))))))))) (fun r0 => k (PkS.pack Tlaws_FnExactCountYes (r0, ()))) := by kernel_rfl
theorem oklaws_FnExactCountYes (n : Nat) : FnOk Try.prog 6 (Klaws_FnExactCountYes @laws_FnExactCountYes n) := by
  refine fn_ok (sig := sig) mixed ttok (mkK_nat (claws_FnExactCountYes n)) (mkK_ok (claws_FnExactCountYes n)) (mkL_nat (mkK_nat (claws_FnExactCountYes n)) (l := []) trivial) (fn := Try.f6) (c := bodyOf Try.f6) (by kernel_rfl) (by kernel_rfl) (by kernel_rfl) (.eq (l := []) (by kernel_rfl) trivial) (shs := Hlaws_FnExactCountYes) (S := Slaws_FnExactCountYes) (h1 := by kernel_rfl) fun R p k => ?_
  unfold Klaws_FnExactCountYes
  cases h : (PkS.un Slaws_FnExactCountYes p) with
  | none => rfl
  | some d =>
    obtain ⟨x0, x1, u⟩ := (d : (List (Int × Int × Int)) × Int × Unit)
    have hp := PkS.un_pack h
    subst hp
    exact (elaws_FnExactCountYes @laws_szDiagram @laws_toDiagram @spec_CountYes @impl_CountYes @laws_eqDiagram n x0 x1 k).symm
end Go.Am.G
