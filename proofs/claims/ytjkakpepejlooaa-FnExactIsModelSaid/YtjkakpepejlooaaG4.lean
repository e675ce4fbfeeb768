/- The code of the functions that the law reaches does what the plain functions say. -/
import Derived.Test.YtjkakpepejlooaaF4
import Derived.Test.YtjkakpepejlooaaAmB
import Derived.KernelRfl
import Derived.Test.YtjkakpepejlooaaProg
set_option linter.unusedVariables false
set_option maxRecDepth 100000
namespace Go.Am.G
open Go Go.Am
open Go.Proofs
def tt : TT := [(3, ⟨1, false, (.int .i64), 0, [], [.int .i64 0], 8, true, false, []⟩), (4, ⟨1, false, .bool, 0, [], [.bool false], 1, true, false, []⟩), (22, ⟨1, false, (.sl (.pr (.int .i64) (.sl (.int .i64)))), 55, [], [.nil], 24, true, true, []⟩), (25, ⟨1, false, (.sl (.pr (.int .i64) (.sl (.int .i64)))), 48, [], [.nil], 24, true, true, []⟩), (29, ⟨1, false, (.sl (.int .i64)), 3, [], [.nil], 24, true, true, []⟩), (48, ⟨2, true, (.pr (.int .i64) (.sl (.int .i64))), 0, [(0, 1, false), (1, 1, false)], [.int .i64 0, .nil], 32, true, false, []⟩), (55, ⟨2, true, (.pr (.int .i64) (.sl (.int .i64))), 0, [(0, 1, false), (1, 1, false)], [.int .i64 0, .nil], 32, true, false, []⟩), (63, ⟨1, false, (.sl .bool), 4, [], [.nil], 24, true, true, []⟩)]
def sig : Sig := sigOf [(4, [.one (.ro (.pr (.int .i64) (.sl (.int .i64)))), .one (.ro (.int .i64))]), (12, [.one (.ro (.pr (.int .i64) (.sl (.int .i64)))), .one .any]), (13, [.one (.ro (.pr (.int .i64) (.sl (.int .i64))))]), (14, [.one (.ro (.pr (.int .i64) (.sl (.int .i64))))]), (15, [.one (.ro (.pr (.int .i64) (.sl (.int .i64))))]), (16, [.one (.ro (.pr (.int .i64) (.sl (.int .i64)))), .one (.ro (.pr (.int .i64) (.sl (.int .i64))))]), (17, [.one (.ro (.pr (.int .i64) (.sl (.int .i64)))), .one (.ro (.int .i64))]), (18, [.one (.ro (.int .i64))]), (19, [.one (.ro (.pr (.int .i64) (.sl (.int .i64)))), .one (.ro (.int .i64))]), (20, [.one (.ro (.int .i64)), .one (.ro (.int .i64))]), (39, [.agg [.any, (.ro (.int .i64))], .one .any]), (40, [.one .any, .one .any, .one .any]), (41, [.one (.ro (.int .i64))]), (42, [.agg [.any, (.ro (.int .i64))]]), (43, [.one (.ro (.pr (.int .i64) (.sl (.int .i64)))), .fn 44 []]), (43, [.one (.ro (.pr (.int .i64) (.sl (.int .i64)))), .fn 51 [[(.ro (.int .i64))]]]), (44, [.agg [.any, (.ro (.int .i64))]]), (45, [.one .any]), (46, [.one (.ro (.int .i64))]), (47, [.agg [.any, (.ro (.int .i64))], .agg [.any, (.ro (.int .i64))]]), (48, [.one (.ro (.int .i64))]), (49, [.agg [.any, (.ro (.int .i64))], .one (.ro .bool)]), (50, [.one (.ro (.pr (.int .i64) (.sl (.int .i64)))), .one (.ro (.int .i64))]), (51, [.agg [.any, (.ro (.int .i64))], .box [(.ro (.int .i64))]]), (52, [.one (.ro (.int .i64)), .one (.ro (.int .i64))]), (53, [.one (.ro (.int .i64)), .one .any]), (64, [.one (.ro (.int .i64)), .one .any]), (65, [.one (.ro (.pr (.int .i64) (.sl (.int .i64)))), .fn 44 []]), (65, [.one (.ro (.pr (.int .i64) (.sl (.int .i64)))), .fn 51 [[(.ro (.int .i64))]]]), (66, [.one .any, .one .any, .one .any]), (67, [.one (.ro (.int .i64)), .one .any]), (68, [.one (.ro (.int .i64)), .fn 69 [[(.ro (.int .i64))]]]), (69, [.one .any, .box [(.ro (.int .i64))]]), (70, [.one (.ro (.int .i64)), .one .any]), (79, [.one (.ro (.int .i64)), .fn 69 [[(.ro (.int .i64))]]])]
theorem ttok : TTok Try.prog tt := .of_chk (by kernel_rfl)
theorem mixed : Try.prog.follows .mixedOrders = true := by kernel_rfl

/-! ### loop.example/g00269/laws.szIntS -/
theorem claws_szIntS (n : Nat) : AllOk Try.prog [] := trivial
@[reducible] def Slaws_szIntS : PkS := ⟨[.one (.ro (.int .i64)), .one (.int .i64)], []⟩
@[reducible] def Tlaws_szIntS : PkS := ⟨[.one (.int .i64), .one (.dead), .one (.dead)], []⟩
def Hlaws_szIntS : List Sh := [.one .any, .skip, .skip]
def Klaws_szIntS (g : ∀ {R : Type}, Nat → (List Int) → Int → (Int → Option R) → Option R) (n : Nat) : KPs := fun R p k => match (PkS.un Slaws_szIntS p : Option ((List Int) × Int × Unit)) with
  | some (x0, x1, _) => g n x0 x1 (fun r0 => k (PkS.pack Tlaws_szIntS (r0, ())))
  | none => none
theorem elaws_szIntS  {R : Type} (n : Nat) (x0 : List Int) (x1 : Int) (k : Pk → Option R) : evF tt sig (mkK [] R) (mkL (mkK []) [] R) Try.f64 Hlaws_szIntS (PkS.pack Slaws_szIntS (x0, x1, ())) k = (fun (k : Int → Option R) => (bif (decide ((IntKind.wrap .i64 (x1 - (x0.length : Int))) < 0)) then k (-1) else k (IntKind.wrap .i64 (x1 - (x0.length : Int))))) (fun r0 => k (PkS.pack Tlaws_szIntS (r0, ()))) := by kernel_rfl
theorem oklaws_szIntS (n : Nat) : FnOk Try.prog 64 (Klaws_szIntS @laws_szIntS n) := by
  refine fn_ok (sig := sig) mixed ttok (mkK_nat (claws_szIntS n)) (mkK_ok (claws_szIntS n)) (mkL_nat (mkK_nat (claws_szIntS n)) (l := []) trivial) (fn := Try.f64) (c := bodyOf Try.f64) (by kernel_rfl) (by kernel_rfl) (by kernel_rfl) (.eq (l := []) (by kernel_rfl) trivial) (shs := Hlaws_szIntS) (S := Slaws_szIntS) fun R p k => ?_
  unfold Klaws_szIntS
  cases h : (PkS.un Slaws_szIntS p) with
  | none => rfl
  | some d =>
    obtain ⟨x0, x1, u⟩ := (d : (List Int) × Int × Unit)
    have hp := PkS.un_pack h
    subst hp
    exact (elaws_szIntS  n x0 x1 k).symm

/-! ### loop.example/g00269/laws.szRule -/
theorem claws_szRule (n : Nat) : AllOk Try.prog [(64, Klaws_szIntS @laws_szIntS n)] := ⟨oklaws_szIntS n, trivial⟩
@[reducible] def Slaws_szRule : PkS := ⟨[.agg [.int .i64, .ro (.int .i64)], .one (.int .i64)], []⟩
@[reducible] def Tlaws_szRule : PkS := ⟨[.one (.int .i64), .one (.dead), .one (.dead)], []⟩
def Hlaws_szRule : List Sh := [.one .any, .skip, .skip]
def Klaws_szRule (g : ∀ {R : Type}, Nat → Int → (List Int) → Int → (Int → Option R) → Option R) (n : Nat) : KPs := fun R p k => match (PkS.un Slaws_szRule p : Option (Int × (List Int) × Int × Unit)) with
  | some (x0, x1, x2, _) => g n x0 x1 x2 (fun r0 => k (PkS.pack Tlaws_szRule (r0, ())))
  | none => none
theorem elaws_szRule (laws_szIntS : ∀ {R : Type}, Nat → (List Int) → Int → (Int → Option R) → Option R) {R : Type} (n : Nat) (x0 : Int) (x1 : List Int) (x2 : Int) (k : Pk → Option R) : evF tt sig (mkK [(64, Klaws_szIntS @laws_szIntS n)] R) (mkL (mkK [(64, Klaws_szIntS @laws_szIntS n)]) [] R) Try.f39 Hlaws_szRule (PkS.pack Slaws_szRule (x0, x1, x2, ())) k = (fun (k : Int → Option R) => (laws_szIntS n x1 x2 fun r1 => (bif (decide (r1 < 0)) then k (-1) else k r1))) (fun r0 => k (PkS.pack Tlaws_szRule (r0, ()))) := by kernel_rfl
theorem oklaws_szRule (n : Nat) : FnOk Try.prog 39 (Klaws_szRule @laws_szRule n) := by
  refine fn_ok (sig := sig) mixed ttok (mkK_nat (claws_szRule n)) (mkK_ok (claws_szRule n)) (mkL_nat (mkK_nat (claws_szRule n)) (l := []) trivial) (fn := Try.f39) (c := bodyOf Try.f39) (by kernel_rfl) (by kernel_rfl) (by kernel_rfl) (.eq (l := []) (by kernel_rfl) trivial) (shs := Hlaws_szRule) (S := Slaws_szRule) fun R p k => ?_
  unfold Klaws_szRule
  cases h : (PkS.un Slaws_szRule p) with
  | none => rfl
  | some d =>
    obtain ⟨x0, x1, x2, u⟩ := (d : Int × (List Int) × Int × Unit)
    have hp := PkS.un_pack h
    subst hp
    exact (elaws_szRule @laws_szIntS n x0 x1 x2 k).symm

/-! ### loop.example/g00269/laws.szRuleS -/
theorem claws_szRuleS (n : Nat) : AllOk Try.prog [(39, Klaws_szRule @laws_szRule n)] := ⟨oklaws_szRule n, trivial⟩
@[reducible] def Slaws_szRuleS_l5 : PkS := ⟨[.one (.ro (.pr (.int .i64) (.sl (.int .i64)))), .one (.int .i64), .one (.int .i64), .one (.dead), .one (.dead)], []⟩
@[reducible] def Tlaws_szRuleS_l5_0 : PkS := ⟨[.one (.int .i64), .one (.dead), .one (.dead)], []⟩
@[reducible] def Tlaws_szRuleS_l5_1 : PkS := ⟨[.one (.int .i64), .one (.dead), .one (.dead)], []⟩
def Dlaws_szRuleS_l5 : LoopD := ⟨27, [0, 1, 5], [.one (.ro (.pr (.int .i64) (.sl (.int .i64)))), .one .any, .one .any, .skip, .skip], fun x => match x with
  | .ret => some ([4], [.one .any, .skip, .skip])
  | .exit 0 => some ([1], [.one .any, .skip, .skip])
  | _ => none⟩
def Plaws_szRuleS_l5 (g : ∀ {R : Type}, Nat → (List (Int × List Int)) → Int → Int → (Int → Option R) → (Int → Option R) → Option R) (n : Nat) : LPs := fun R q kk => match (PkS.un Slaws_szRuleS_l5 q : Option ((List (Int × List Int)) × Int × Int × Unit)) with
  | some (y5_0, y5_1, y5_2, _) => g n y5_0 y5_1 y5_2 (fun r0 => kk .ret (PkS.pack Tlaws_szRuleS_l5_0 (r0, ()))) (fun r0 => kk (.exit 0) (PkS.pack Tlaws_szRuleS_l5_1 (r0, ())))
  | none => none
theorem elaws_szRuleS_l5 (laws_szRule : ∀ {R : Type}, Nat → Int → (List Int) → Int → (Int → Option R) → Option R) (laws_szRuleS_l5 : ∀ {R : Type}, Nat → (List (Int × List Int)) → Int → Int → (Int → Option R) → (Int → Option R) → Option R) {R : Type} (n : Nat) (y5_0 : List (Int × List Int)) (y5_1 : Int) (y5_2 : Int) (kk : Ex → Pk → Option R) : Dlaws_szRuleS_l5.step tt sig (mkK [(39, Klaws_szRule @laws_szRule n)] R) (mkL (mkK [(39, Klaws_szRule @laws_szRule n)]) [] R) (loopIn 5 (bodyOf Try.f12)) (fun q' => Plaws_szRuleS_l5 @laws_szRuleS_l5 n R q' kk) (PkS.pack Slaws_szRuleS_l5 (y5_0, y5_1, y5_2, ())) kk = (fun (kret : Int → Option R) (kexit0 : Int → Option R) => (bif (decide (y5_2 < (y5_0.length : Int))) then (bif decide (0 ≤ y5_2) then (bif decide (y5_2 < (y5_0.length : Int)) then (laws_szRule n ((y5_0.getD (Int.toNat y5_2) (0, [])).1) ((y5_0.getD (Int.toNat y5_2) (0, [])).2) y5_1 fun r1 => (bif (decide (r1 < 0)) then kret (-1) else laws_szRuleS_l5 n y5_0 r1 (IntKind.wrap .i64 (y5_2 + 1)) kret kexit0)) else none) else none) else kexit0 y5_1)) (fun r0 => kk .ret (PkS.pack Tlaws_szRuleS_l5_0 (r0, ()))) (fun r0 => kk (.exit 0) (PkS.pack Tlaws_szRuleS_l5_1 (r0, ()))) := by kernel_rfl
theorem lelaws_szRuleS_l5 : LoopEq tt sig (fun n => mkK [(39, Klaws_szRule @laws_szRule n)]) (fun n => mkL (mkK [(39, Klaws_szRule @laws_szRule n)]) []) Dlaws_szRuleS_l5 Slaws_szRuleS_l5 (loopIn 5 (bodyOf Try.f12)) (Plaws_szRuleS_l5 @laws_szRuleS_l5) where
  zero R q kk := by unfold Plaws_szRuleS_l5; cases (PkS.un Slaws_szRuleS_l5 q) <;> rfl
  succ n R q kk := by
    unfold Plaws_szRuleS_l5
    cases h : (PkS.un Slaws_szRuleS_l5 q) with
    | none => rfl
    | some d =>
      obtain ⟨y5_0, y5_1, y5_2, u⟩ := (d : (List (Int × List Int)) × Int × Int × Unit)
      have hp := PkS.un_pack h
      subst hp
      exact (elaws_szRuleS_l5 @laws_szRule @laws_szRuleS_l5 n y5_0 y5_1 y5_2 kk).symm
theorem nllaws_szRuleS_l5 : ∀ n, NatLP (Plaws_szRuleS_l5 @laws_szRuleS_l5 n) := lelaws_szRuleS_l5.nat (fun n => mkK_nat (claws_szRuleS n)) fun n => mkL_nat (mkK_nat (claws_szRuleS n)) (l := []) trivial
theorem inlaws_szRuleS_l5 (n : Nat) (R : Type) : LoopsOk Try.prog (mkL (mkK [(39, Klaws_szRule @laws_szRule n)]) [] R) (loopIn 5 (bodyOf Try.f12)) := .eq (l := []) (by kernel_rfl) trivial
theorem lklaws_szRuleS_l5 (n : Nat) (R : Type) (L0 : LK R) (h0 : ∀ id, firstRegion (loopIn 5 (bodyOf Try.f12)) = some id → L0 id = Dlaws_szRuleS_l5.oracle (mkK [(39, Klaws_szRule @laws_szRule n)] R) (Plaws_szRuleS_l5 @laws_szRuleS_l5 n R)) : LoopOk Try.prog L0 (loopIn 5 (bodyOf Try.f12)) :=
  lelaws_szRuleS_l5.ok mixed ttok (fun n => mkK_nat (claws_szRuleS n)) (fun n => mkK_ok (claws_szRuleS n)) (fun n => inlaws_szRuleS_l5 n R) (mkK_nat (claws_szRuleS n)) h0
@[reducible] def Slaws_szRuleS : PkS := ⟨[.one (.ro (.pr (.int .i64) (.sl (.int .i64)))), .one (.int .i64)], []⟩
@[reducible] def Tlaws_szRuleS : PkS := ⟨[.one (.int .i64), .one (.dead), .one (.dead)], []⟩
def Hlaws_szRuleS : List Sh := [.one .any, .skip, .skip]
def Klaws_szRuleS (g : ∀ {R : Type}, Nat → (List (Int × List Int)) → Int → (Int → Option R) → Option R) (n : Nat) : KPs := fun R p k => match (PkS.un Slaws_szRuleS p : Option ((List (Int × List Int)) × Int × Unit)) with
  | some (x0, x1, _) => g n x0 x1 (fun r0 => k (PkS.pack Tlaws_szRuleS (r0, ())))
  | none => none
theorem elaws_szRuleS (laws_szRule : ∀ {R : Type}, Nat → Int → (List Int) → Int → (Int → Option R) → Option R) (laws_szRuleS_l5 : ∀ {R : Type}, Nat → (List (Int × List Int)) → Int → Int → (Int → Option R) → (Int → Option R) → Option R) {R : Type} (n : Nat) (x0 : List (Int × List Int)) (x1 : Int) (k : Pk → Option R) : evF tt sig (mkK [(39, Klaws_szRule @laws_szRule n)] R) (mkL (mkK [(39, Klaws_szRule @laws_szRule n)]) [(5, Dlaws_szRuleS_l5, Plaws_szRuleS_l5 @laws_szRuleS_l5 n)] R) Try.f12 Hlaws_szRuleS (PkS.pack Slaws_szRuleS (x0, x1, ())) k = (fun (k : Int → Option R) => (bif (decide ((IntKind.wrap .i64 (x1 - (x0.length : Int))) < 0)) then k (-1) else (laws_szRuleS_l5 n x0 (IntKind.wrap .i64 (x1 - (x0.length : Int))) 0 (fun r2 => k r2) (fun r3 => k r3)))) (fun r0 => k (PkS.pack Tlaws_szRuleS (r0, ()))) := by kernel_rfl
theorem oklaws_szRuleS (n : Nat) : FnOk Try.prog 12 (Klaws_szRuleS @laws_szRuleS n) := by
  refine fn_ok (sig := sig) mixed ttok (mkK_nat (claws_szRuleS n)) (mkK_ok (claws_szRuleS n)) (mkL_nat (mkK_nat (claws_szRuleS n)) (l := [(5, Dlaws_szRuleS_l5, Plaws_szRuleS_l5 @laws_szRuleS_l5 n)]) ⟨nllaws_szRuleS_l5 n, trivial⟩) (fn := Try.f12) (c := bodyOf Try.f12) (by kernel_rfl) (by kernel_rfl) (by kernel_rfl) (.eq (l := [loopIn 5 (bodyOf Try.f12)]) (by kernel_rfl) ⟨(lklaws_szRuleS_l5 n _ _ (at_id (i := 5) (by kernel_rfl) rfl)), trivial⟩) (shs := Hlaws_szRuleS) (S := Slaws_szRuleS) fun R p k => ?_
  unfold Klaws_szRuleS
  cases h : (PkS.un Slaws_szRuleS p) with
  | none => rfl
  | some d =>
    obtain ⟨x0, x1, u⟩ := (d : (List (Int × List Int)) × Int × Unit)
    have hp := PkS.un_pack h
    subst hp
    exact (elaws_szRuleS @laws_szRule @laws_szRuleS_l5 n x0 x1 k).symm

/-! ### loop.example/g00269/laws.toIntS -/
theorem claws_toIntS (n : Nat) : AllOk Try.prog [] := trivial
@[reducible] def Slaws_toIntS_l3 : PkS := ⟨[.one (.ro (.int .i64)), .one (.whole (100000, 0)), .one (.int .i64), .one (.dead)], [((100000, 0), .arr (.int .i64))]⟩
@[reducible] def Tlaws_toIntS_l3_0 : PkS := ⟨[.one (.whole (100000, 0)), .one (.dead)], [((100000, 0), .arr (.int .i64))]⟩
def Dlaws_toIntS_l3 : LoopD := ⟨22, [0, 3, 4], [.one (.ro (.int .i64)), .one (.own (.int .i64)), .one .any, .skip], fun x => match x with
  | .exit 0 => some ([3], [.one (.own (.int .i64)), .skip])
  | _ => none⟩
def Plaws_toIntS_l3 (g : ∀ {R : Type}, Nat → (List Int) → Int → (List Int) → ((List Int) → Option R) → Option R) (n : Nat) : LPs := fun R q kk => match (PkS.un Slaws_toIntS_l3 q : Option ((List Int) × Int × (List Int) × Unit)) with
  | some (y3_0, y3_1, y3_2, _) => g n y3_0 y3_1 y3_2 (fun r0 => kk (.exit 0) (PkS.pack Tlaws_toIntS_l3_0 (r0, ())))
  | none => none
theorem elaws_toIntS_l3 (laws_toIntS_l3 : ∀ {R : Type}, Nat → (List Int) → Int → (List Int) → ((List Int) → Option R) → Option R) {R : Type} (n : Nat) (y3_0 : List Int) (y3_1 : Int) (y3_2 : List Int) (kk : Ex → Pk → Option R) : Dlaws_toIntS_l3.step tt sig (mkK [] R) (mkL (mkK []) [] R) (loopIn 3 (bodyOf Try.f18)) (fun q' => Plaws_toIntS_l3 @laws_toIntS_l3 n R q' kk) (PkS.pack Slaws_toIntS_l3 (y3_0, y3_1, y3_2, ())) kk = (fun (kexit0 : (List Int) → Option R) => (bif (decide (y3_1 < (y3_0.length : Int))) then (bif decide (0 ≤ y3_1) then (bif decide (y3_1 < (y3_0.length : Int)) then (bif decide (0 ≤ y3_1) then (bif decide (y3_1 < (y3_2.length : Int)) then laws_toIntS_l3 n y3_0 (IntKind.wrap .i64 (y3_1 + 1)) (y3_2.set (Int.toNat y3_1) (y3_0.getD (Int.toNat y3_1) 0)) kexit0 else none) else none) else none) else none) else kexit0 y3_2)) (fun r0 => kk (.exit 0) (PkS.pack Tlaws_toIntS_l3_0 (r0, ()))) := by kernel_rfl
theorem lelaws_toIntS_l3 : LoopEq tt sig (fun n => mkK []) (fun n => mkL (mkK []) []) Dlaws_toIntS_l3 Slaws_toIntS_l3 (loopIn 3 (bodyOf Try.f18)) (Plaws_toIntS_l3 @laws_toIntS_l3) where
  zero R q kk := by unfold Plaws_toIntS_l3; cases (PkS.un Slaws_toIntS_l3 q) <;> rfl
  succ n R q kk := by
    unfold Plaws_toIntS_l3
    cases h : (PkS.un Slaws_toIntS_l3 q) with
    | none => rfl
    | some d =>
      obtain ⟨y3_0, y3_1, y3_2, u⟩ := (d : (List Int) × Int × (List Int) × Unit)
      have hp := PkS.un_pack h
      subst hp
      exact (elaws_toIntS_l3 @laws_toIntS_l3 n y3_0 y3_1 y3_2 kk).symm
theorem nllaws_toIntS_l3 : ∀ n, NatLP (Plaws_toIntS_l3 @laws_toIntS_l3 n) := lelaws_toIntS_l3.nat (fun n => mkK_nat (claws_toIntS n)) fun n => mkL_nat (mkK_nat (claws_toIntS n)) (l := []) trivial
theorem inlaws_toIntS_l3 (n : Nat) (R : Type) : LoopsOk Try.prog (mkL (mkK []) [] R) (loopIn 3 (bodyOf Try.f18)) := .eq (l := []) (by kernel_rfl) trivial
theorem lklaws_toIntS_l3 (n : Nat) (R : Type) (L0 : LK R) (h0 : ∀ id, firstRegion (loopIn 3 (bodyOf Try.f18)) = some id → L0 id = Dlaws_toIntS_l3.oracle (mkK [] R) (Plaws_toIntS_l3 @laws_toIntS_l3 n R)) : LoopOk Try.prog L0 (loopIn 3 (bodyOf Try.f18)) :=
  lelaws_toIntS_l3.ok mixed ttok (fun n => mkK_nat (claws_toIntS n)) (fun n => mkK_ok (claws_toIntS n)) (fun n => inlaws_toIntS_l3 n R) (mkK_nat (claws_toIntS n)) h0
@[reducible] def Slaws_toIntS : PkS := ⟨[.one (.ro (.int .i64))], []⟩
@[reducible] def Tlaws_toIntS : PkS := ⟨[.one (.whole (300000, 0)), .one (.dead)], [((300000, 0), .arr (.int .i64))]⟩
def Hlaws_toIntS : List Sh := [.one (.own (.int .i64)), .skip]
def Klaws_toIntS (g : ∀ {R : Type}, Nat → (List Int) → ((List Int) → Option R) → Option R) (n : Nat) : KPs := fun R p k => match (PkS.un Slaws_toIntS p : Option ((List Int) × Unit)) with
  | some (x0, _) => g n x0 (fun r0 => k (PkS.pack Tlaws_toIntS (r0, ())))
  | none => none
theorem elaws_toIntS (laws_toIntS_l3 : ∀ {R : Type}, Nat → (List Int) → Int → (List Int) → ((List Int) → Option R) → Option R) {R : Type} (n : Nat) (x0 : List Int) (k : Pk → Option R) : evF tt sig (mkK [] R) (mkL (mkK []) [(3, Dlaws_toIntS_l3, Plaws_toIntS_l3 @laws_toIntS_l3 n)] R) Try.f18 Hlaws_toIntS (PkS.pack Slaws_toIntS (x0, ())) k = (fun (k : (List Int) → Option R) => (bif decide (0 ≤ (x0.length : Int)) then (bif decide ((x0.length : Int) ≤ (x0.length : Int)) then (bif decide ((x0.length : Int) ≤ 1099511627776) then (laws_toIntS_l3 n x0 0 (List.replicate (Int.toNat (x0.length : Int)) 0) (fun r1 => k r1)) else none) else none) else none)) (fun r0 => k (PkS.pack Tlaws_toIntS (r0, ()))) := by kernel_rfl
theorem oklaws_toIntS (n : Nat) : FnOk Try.prog 18 (Klaws_toIntS @laws_toIntS n) := by
  refine fn_ok (sig := sig) mixed ttok (mkK_nat (claws_toIntS n)) (mkK_ok (claws_toIntS n)) (mkL_nat (mkK_nat (claws_toIntS n)) (l := [(3, Dlaws_toIntS_l3, Plaws_toIntS_l3 @laws_toIntS_l3 n)]) ⟨nllaws_toIntS_l3 n, trivial⟩) (fn := Try.f18) (c := bodyOf Try.f18) (by kernel_rfl) (by kernel_rfl) (by kernel_rfl) (.eq (l := [loopIn 3 (bodyOf Try.f18)]) (by kernel_rfl) ⟨(lklaws_toIntS_l3 n _ _ (at_id (i := 3) (by kernel_rfl) rfl)), trivial⟩) (shs := Hlaws_toIntS) (S := Slaws_toIntS) fun R p k => ?_
  unfold Klaws_toIntS
  cases h : (PkS.un Slaws_toIntS p) with
  | none => rfl
  | some d =>
    obtain ⟨x0, u⟩ := (d : (List Int) × Unit)
    have hp := PkS.un_pack h
    subst hp
    exact (elaws_toIntS @laws_toIntS_l3 n x0 k).symm

/-! ### loop.example/g00269/laws.toRule -/
theorem claws_toRule (n : Nat) : AllOk Try.prog [(18, Klaws_toIntS @laws_toIntS n)] := ⟨oklaws_toIntS n, trivial⟩
@[reducible] def Slaws_toRule : PkS := ⟨[.agg [.int .i64, .ro (.int .i64)]], []⟩
@[reducible] def Tlaws_toRule : PkS := ⟨[.agg [.int .i64, .whole (300000, 0)], .one (.dead)], [((300000, 0), .arr (.int .i64))]⟩
def Hlaws_toRule : List Sh := [.agg [.any, (.own (.int .i64))], .skip]
def Klaws_toRule (g : ∀ {R : Type}, Nat → Int → (List Int) → (Int → (List Int) → Option R) → Option R) (n : Nat) : KPs := fun R p k => match (PkS.un Slaws_toRule p : Option (Int × (List Int) × Unit)) with
  | some (x0, x1, _) => g n x0 x1 (fun r0 r1 => k (PkS.pack Tlaws_toRule (r0, r1, ())))
  | none => none
theorem elaws_toRule (laws_toIntS : ∀ {R : Type}, Nat → (List Int) → ((List Int) → Option R) → Option R) {R : Type} (n : Nat) (x0 : Int) (x1 : List Int) (k : Pk → Option R) : evF tt sig (mkK [(18, Klaws_toIntS @laws_toIntS n)] R) (mkL (mkK [(18, Klaws_toIntS @laws_toIntS n)]) [] R) Try.f42 Hlaws_toRule (PkS.pack Slaws_toRule (x0, x1, ())) k = (fun (k : Int → (List Int) → Option R) => (laws_toIntS n x1 fun r1 => k x0 r1)) (fun r0 r1 => k (PkS.pack Tlaws_toRule (r0, r1, ()))) := by kernel_rfl
theorem oklaws_toRule (n : Nat) : FnOk Try.prog 42 (Klaws_toRule @laws_toRule n) := by
  refine fn_ok (sig := sig) mixed ttok (mkK_nat (claws_toRule n)) (mkK_ok (claws_toRule n)) (mkL_nat (mkK_nat (claws_toRule n)) (l := []) trivial) (fn := Try.f42) (c := bodyOf Try.f42) (by kernel_rfl) (by kernel_rfl) (by kernel_rfl) (.eq (l := []) (by kernel_rfl) trivial) (shs := Hlaws_toRule) (S := Slaws_toRule) fun R p k => ?_
  unfold Klaws_toRule
  cases h : (PkS.un Slaws_toRule p) with
  | none => rfl
  | some d =>
    obtain ⟨x0, x1, u⟩ := (d : Int × (List Int) × Unit)
    have hp := PkS.un_pack h
    subst hp
    exact (elaws_toRule @laws_toIntS n x0 x1 k).symm

/-! ### loop.example/g00269/laws.toRuleS -/
theorem claws_toRuleS (n : Nat) : AllOk Try.prog [(42, Klaws_toRule @laws_toRule n)] := ⟨oklaws_toRule n, trivial⟩
@[reducible] def Slaws_toRuleS_l3 : PkS := ⟨[.one (.ro (.pr (.int .i64) (.sl (.int .i64)))), .one (.whole (100000, 0)), .one (.int .i64), .one (.dead)], [((100000, 0), .arr (.pr (.int .i64) (.sl (.int .i64))))]⟩
@[reducible] def Tlaws_toRuleS_l3_0 : PkS := ⟨[.one (.whole (100000, 0)), .one (.dead)], [((100000, 0), .arr (.pr (.int .i64) (.sl (.int .i64))))]⟩
def Dlaws_toRuleS_l3 : LoopD := ⟨23, [0, 3, 4], [.one (.ro (.pr (.int .i64) (.sl (.int .i64)))), .one (.own (.pr (.int .i64) (.sl (.int .i64)))), .one .any, .skip], fun x => match x with
  | .exit 0 => some ([3], [.one (.own (.pr (.int .i64) (.sl (.int .i64)))), .skip])
  | _ => none⟩
def Plaws_toRuleS_l3 (g : ∀ {R : Type}, Nat → (List (Int × List Int)) → Int → (List (Int × List Int)) → ((List (Int × List Int)) → Option R) → Option R) (n : Nat) : LPs := fun R q kk => match (PkS.un Slaws_toRuleS_l3 q : Option ((List (Int × List Int)) × Int × (List (Int × List Int)) × Unit)) with
  | some (y3_0, y3_1, y3_2, _) => g n y3_0 y3_1 y3_2 (fun r0 => kk (.exit 0) (PkS.pack Tlaws_toRuleS_l3_0 (r0, ())))
  | none => none
theorem elaws_toRuleS_l3 (laws_toRule : ∀ {R : Type}, Nat → Int → (List Int) → (Int → (List Int) → Option R) → Option R) (laws_toRuleS_l3 : ∀ {R : Type}, Nat → (List (Int × List Int)) → Int → (List (Int × List Int)) → ((List (Int × List Int)) → Option R) → Option R) {R : Type} (n : Nat) (y3_0 : List (Int × List Int)) (y3_1 : Int) (y3_2 : List (Int × List Int)) (kk : Ex → Pk → Option R) : Dlaws_toRuleS_l3.step tt sig (mkK [(42, Klaws_toRule @laws_toRule n)] R) (mkL (mkK [(42, Klaws_toRule @laws_toRule n)]) [] R) (loopIn 3 (bodyOf Try.f14)) (fun q' => Plaws_toRuleS_l3 @laws_toRuleS_l3 n R q' kk) (PkS.pack Slaws_toRuleS_l3 (y3_0, y3_1, y3_2, ())) kk = (fun (kexit0 : (List (Int × List Int)) → Option R) => (bif (decide (y3_1 < (y3_0.length : Int))) then (bif decide (0 ≤ y3_1) then (bif decide (y3_1 < (y3_0.length : Int)) then (laws_toRule n ((y3_0.getD (Int.toNat y3_1) (0, [])).1) ((y3_0.getD (Int.toNat y3_1) (0, [])).2) fun r1 r2 => (bif decide (0 ≤ y3_1) then (bif decide (y3_1 < (y3_2.length : Int)) then laws_toRuleS_l3 n y3_0 (IntKind.wrap .i64 (y3_1 + 1)) (y3_2.set (Int.toNat y3_1) (r1, r2)) kexit0 else none) else none)) else none) else none) else kexit0 y3_2)) (fun r0 => kk (.exit 0) (PkS.pack Tlaws_toRuleS_l3_0 (r0, ()))) := by kernel_rfl
theorem lelaws_toRuleS_l3 : LoopEq tt sig (fun n => mkK [(42, Klaws_toRule @laws_toRule n)]) (fun n => mkL (mkK [(42, Klaws_toRule @laws_toRule n)]) []) Dlaws_toRuleS_l3 Slaws_toRuleS_l3 (loopIn 3 (bodyOf Try.f14)) (Plaws_toRuleS_l3 @laws_toRuleS_l3) where
  zero R q kk := by unfold Plaws_toRuleS_l3; cases (PkS.un Slaws_toRuleS_l3 q) <;> rfl
  succ n R q kk := by
    unfold Plaws_toRuleS_l3
    cases h : (PkS.un Slaws_toRuleS_l3 q) with
    | none => rfl
    | some d =>
      obtain ⟨y3_0, y3_1, y3_2, u⟩ := (d : (List (Int × List Int)) × Int × (List (Int × List Int)) × Unit)
      have hp := PkS.un_pack h
      subst hp
      exact (elaws_toRuleS_l3 @laws_toRule @laws_toRuleS_l3 n y3_0 y3_1 y3_2 kk).symm
theorem nllaws_toRuleS_l3 : ∀ n, NatLP (Plaws_toRuleS_l3 @laws_toRuleS_l3 n) := lelaws_toRuleS_l3.nat (fun n => mkK_nat (claws_toRuleS n)) fun n => mkL_nat (mkK_nat (claws_toRuleS n)) (l := []) trivial
theorem inlaws_toRuleS_l3 (n : Nat) (R : Type) : LoopsOk Try.prog (mkL (mkK [(42, Klaws_toRule @laws_toRule n)]) [] R) (loopIn 3 (bodyOf Try.f14)) := .eq (l := []) (by kernel_rfl) trivial
theorem lklaws_toRuleS_l3 (n : Nat) (R : Type) (L0 : LK R) (h0 : ∀ id, firstRegion (loopIn 3 (bodyOf Try.f14)) = some id → L0 id = Dlaws_toRuleS_l3.oracle (mkK [(42, Klaws_toRule @laws_toRule n)] R) (Plaws_toRuleS_l3 @laws_toRuleS_l3 n R)) : LoopOk Try.prog L0 (loopIn 3 (bodyOf Try.f14)) :=
  lelaws_toRuleS_l3.ok mixed ttok (fun n => mkK_nat (claws_toRuleS n)) (fun n => mkK_ok (claws_toRuleS n)) (fun n => inlaws_toRuleS_l3 n R) (mkK_nat (claws_toRuleS n)) h0
@[reducible] def Slaws_toRuleS : PkS := ⟨[.one (.ro (.pr (.int .i64) (.sl (.int .i64))))], []⟩
@[reducible] def Tlaws_toRuleS : PkS := ⟨[.one (.whole (300000, 0)), .one (.dead)], [((300000, 0), .arr (.pr (.int .i64) (.sl (.int .i64))))]⟩
def Hlaws_toRuleS : List Sh := [.one (.own (.pr (.int .i64) (.sl (.int .i64)))), .skip]
def Klaws_toRuleS (g : ∀ {R : Type}, Nat → (List (Int × List Int)) → ((List (Int × List Int)) → Option R) → Option R) (n : Nat) : KPs := fun R p k => match (PkS.un Slaws_toRuleS p : Option ((List (Int × List Int)) × Unit)) with
  | some (x0, _) => g n x0 (fun r0 => k (PkS.pack Tlaws_toRuleS (r0, ())))
  | none => none
theorem elaws_toRuleS (laws_toRule : ∀ {R : Type}, Nat → Int → (List Int) → (Int → (List Int) → Option R) → Option R) (laws_toRuleS_l3 : ∀ {R : Type}, Nat → (List (Int × List Int)) → Int → (List (Int × List Int)) → ((List (Int × List Int)) → Option R) → Option R) {R : Type} (n : Nat) (x0 : List (Int × List Int)) (k : Pk → Option R) : evF tt sig (mkK [(42, Klaws_toRule @laws_toRule n)] R) (mkL (mkK [(42, Klaws_toRule @laws_toRule n)]) [(3, Dlaws_toRuleS_l3, Plaws_toRuleS_l3 @laws_toRuleS_l3 n)] R) Try.f14 Hlaws_toRuleS (PkS.pack Slaws_toRuleS (x0, ())) k = (fun (k : (List (Int × List Int)) → Option R) => (bif decide (0 ≤ (x0.length : Int)) then (bif decide ((x0.length : Int) ≤ (x0.length : Int)) then (bif decide ((x0.length : Int) ≤ 1099511627776) then (laws_toRuleS_l3 n x0 0 (List.replicate (Int.toNat (x0.length : Int)) (0, [])) (fun r3 => k r3)) else none) else none) else none)) (fun r0 => k (PkS.pack Tlaws_toRuleS (r0, ()))) := by kernel_rfl
theorem oklaws_toRuleS (n : Nat) : FnOk Try.prog 14 (Klaws_toRuleS @laws_toRuleS n) := by
  refine fn_ok (sig := sig) mixed ttok (mkK_nat (claws_toRuleS n)) (mkK_ok (claws_toRuleS n)) (mkL_nat (mkK_nat (claws_toRuleS n)) (l := [(3, Dlaws_toRuleS_l3, Plaws_toRuleS_l3 @laws_toRuleS_l3 n)]) ⟨nllaws_toRuleS_l3 n, trivial⟩) (fn := Try.f14) (c := bodyOf Try.f14) (by kernel_rfl) (by kernel_rfl) (by kernel_rfl) (.eq (l := [loopIn 3 (bodyOf Try.f14)]) (by kernel_rfl) ⟨(lklaws_toRuleS_l3 n _ _ (at_id (i := 3) (by kernel_rfl) rfl)), trivial⟩) (shs := Hlaws_toRuleS) (S := Slaws_toRuleS) fun R p k => ?_
  unfold Klaws_toRuleS
  cases h : (PkS.un Slaws_toRuleS p) with
  | none => rfl
  | some d =>
    obtain ⟨x0, u⟩ := (d : (List (Int × List Int)) × Unit)
    have hp := PkS.un_pack h
    subst hp
    exact (elaws_toRuleS @laws_toRule @laws_toRuleS_l3 n x0 k).symm

/-! ### loop.example/g00269/spec.l1In -/
theorem cspec_l1In (n : Nat) : AllOk Try.prog [] := trivial
@[reducible] def Sspec_l1In : PkS := ⟨[.one (.int .i64), .one (.int .i64), .one (.int .i64)], []⟩
@[reducible] def Tspec_l1In : PkS := ⟨[.one (.bool), .one (.dead), .one (.dead), .one (.dead)], []⟩
def Hspec_l1In : List Sh := [.one .any, .skip, .skip, .skip]
def Kspec_l1In (g : ∀ {R : Type}, Nat → Int → Int → Int → (Bool → Option R) → Option R) (n : Nat) : KPs := fun R p k => match (PkS.un Sspec_l1In p : Option (Int × Int × Int × Unit)) with
  | some (x0, x1, x2, _) => g n x0 x1 x2 (fun r0 => k (PkS.pack Tspec_l1In (r0, ())))
  | none => none
theorem espec_l1In  {R : Type} (n : Nat) (x0 : Int) (x1 : Int) (x2 : Int) (k : Pk → Option R) : evF tt sig (mkK [] R) (mkL (mkK []) [] R) Try.f40 Hspec_l1In (PkS.pack Sspec_l1In (x0, x1, x2, ())) k = (fun (k : Bool → Option R) => (bif (decide (x0 ≥ x1)) then k (decide (x0 ≤ x2)) else k false)) (fun r0 => k (PkS.pack Tspec_l1In (r0, ()))) := by kernel_rfl
theorem okspec_l1In (n : Nat) : FnOk Try.prog 40 (Kspec_l1In @spec_l1In n) := by
  refine fn_ok (sig := sig) mixed ttok (mkK_nat (cspec_l1In n)) (mkK_ok (cspec_l1In n)) (mkL_nat (mkK_nat (cspec_l1In n)) (l := []) trivial) (fn := Try.f40) (c := bodyOf Try.f40) (by kernel_rfl) (by kernel_rfl) (by kernel_rfl) (.eq (l := []) (by kernel_rfl) trivial) (shs := Hspec_l1In) (S := Sspec_l1In) fun R p k => ?_
  unfold Kspec_l1In
  cases h : (PkS.un Sspec_l1In p) with
  | none => rfl
  | some d =>
    obtain ⟨x0, x1, x2, u⟩ := (d : Int × Int × Int × Unit)
    have hp := PkS.un_pack h
    subst hp
    exact (espec_l1In  n x0 x1 x2 k).symm

/-! ### loop.example/g00269/spec.l8Set -/
theorem cspec_l8Set (n : Nat) : AllOk Try.prog [(40, Kspec_l1In @spec_l1In n)] := ⟨okspec_l1In n, trivial⟩
@[reducible] def Sspec_l8Set_l2 : PkS := ⟨[.one (.ro (.int .i64)), .one (.ro (.int .i64)), .one (.int .i64), .one (.int .i64), .one (.dead)], []⟩
@[reducible] def Tspec_l8Set_l2_0 : PkS := ⟨[.one (.bool), .one (.dead)], []⟩
@[reducible] def Tspec_l8Set_l2_1 : PkS := ⟨[.one (.dead)], []⟩
def Dspec_l8Set_l2 : LoopD := ⟨29, [0, 5, 6, 7], [.one (.ro (.int .i64)), .one (.ro (.int .i64)), .one .any, .one .any, .skip], fun x => match x with
  | .ret => some ([2], [.one .any, .skip])
  | .exit 0 => some ([], [.skip])
  | _ => none⟩
def Pspec_l8Set_l2 (g : ∀ {R : Type}, Nat → (List Int) → (List Int) → Int → Int → (Bool → Option R) → (Option R) → Option R) (n : Nat) : LPs := fun R q kk => match (PkS.un Sspec_l8Set_l2 q : Option ((List Int) × (List Int) × Int × Int × Unit)) with
  | some (y2_0, y2_1, y2_2, y2_3, _) => g n y2_0 y2_1 y2_2 y2_3 (fun r0 => kk .ret (PkS.pack Tspec_l8Set_l2_0 (r0, ()))) (kk (.exit 0) (PkS.pack Tspec_l8Set_l2_1 ()))
  | none => none
theorem espec_l8Set_l2 (spec_l1In : ∀ {R : Type}, Nat → Int → Int → Int → (Bool → Option R) → Option R) (spec_l8Set_l2 : ∀ {R : Type}, Nat → (List Int) → (List Int) → Int → Int → (Bool → Option R) → (Option R) → Option R) {R : Type} (n : Nat) (y2_0 : List Int) (y2_1 : List Int) (y2_2 : Int) (y2_3 : Int) (kk : Ex → Pk → Option R) : Dspec_l8Set_l2.step tt sig (mkK [(40, Kspec_l1In @spec_l1In n)] R) (mkL (mkK [(40, Kspec_l1In @spec_l1In n)]) [] R) (loopIn 2 (bodyOf Try.f41)) (fun q' => Pspec_l8Set_l2 @spec_l8Set_l2 n R q' kk) (PkS.pack Sspec_l8Set_l2 (y2_0, y2_1, y2_2, y2_3, ())) kk = (fun (kret : Bool → Option R) (kexit0 : Option R) => (bif (decide (y2_3 < y2_2)) then (bif decide (0 ≤ y2_3) then (bif decide (y2_3 < (y2_1.length : Int)) then (spec_l1In n (y2_1.getD (Int.toNat y2_3) 0) 0 39 fun r1 => (bif (!r1) then kret false else (bif (decide (y2_3 > 0)) then (bif decide (0 ≤ (IntKind.wrap .i64 (y2_3 - 1))) then (bif decide ((IntKind.wrap .i64 (y2_3 - 1)) < (y2_0.length : Int)) then (bif (decide ((y2_0.getD (Int.toNat (IntKind.wrap .i64 (y2_3 - 1))) 0) ≥ (y2_1.getD (Int.toNat y2_3) 0))) then kret false else spec_l8Set_l2 n y2_0 y2_1 y2_2 (IntKind.wrap .i64 (y2_3 + 1)) kret kexit0) else none) else none) else spec_l8Set_l2 n y2_0 y2_1 y2_2 (IntKind.wrap .i64 (y2_3 + 1)) kret kexit0))) else none) else none) else kexit0)) (fun r0 => kk .ret (PkS.pack Tspec_l8Set_l2_0 (r0, ()))) (kk (.exit 0) (PkS.pack Tspec_l8Set_l2_1 ())) := by kernel_rfl
theorem lespec_l8Set_l2 : LoopEq tt sig (fun n => mkK [(40, Kspec_l1In @spec_l1In n)]) (fun n => mkL (mkK [(40, Kspec_l1In @spec_l1In n)]) []) Dspec_l8Set_l2 Sspec_l8Set_l2 (loopIn 2 (bodyOf Try.f41)) (Pspec_l8Set_l2 @spec_l8Set_l2) where
  zero R q kk := by unfold Pspec_l8Set_l2; cases (PkS.un Sspec_l8Set_l2 q) <;> rfl
  succ n R q kk := by
    unfold Pspec_l8Set_l2
    cases h : (PkS.un Sspec_l8Set_l2 q) with
    | none => rfl
    | some d =>
      obtain ⟨y2_0, y2_1, y2_2, y2_3, u⟩ := (d : (List Int) × (List Int) × Int × Int × Unit)
      have hp := PkS.un_pack h
      subst hp
      exact (espec_l8Set_l2 @spec_l1In @spec_l8Set_l2 n y2_0 y2_1 y2_2 y2_3 kk).symm
theorem nlspec_l8Set_l2 : ∀ n, NatLP (Pspec_l8Set_l2 @spec_l8Set_l2 n) := lespec_l8Set_l2.nat (fun n => mkK_nat (cspec_l8Set n)) fun n => mkL_nat (mkK_nat (cspec_l8Set n)) (l := []) trivial
theorem inspec_l8Set_l2 (n : Nat) (R : Type) : LoopsOk Try.prog (mkL (mkK [(40, Kspec_l1In @spec_l1In n)]) [] R) (loopIn 2 (bodyOf Try.f41)) := .eq (l := []) (by kernel_rfl) trivial
theorem lkspec_l8Set_l2 (n : Nat) (R : Type) (L0 : LK R) (h0 : ∀ id, firstRegion (loopIn 2 (bodyOf Try.f41)) = some id → L0 id = Dspec_l8Set_l2.oracle (mkK [(40, Kspec_l1In @spec_l1In n)] R) (Pspec_l8Set_l2 @spec_l8Set_l2 n R)) : LoopOk Try.prog L0 (loopIn 2 (bodyOf Try.f41)) :=
  lespec_l8Set_l2.ok mixed ttok (fun n => mkK_nat (cspec_l8Set n)) (fun n => mkK_ok (cspec_l8Set n)) (fun n => inspec_l8Set_l2 n R) (mkK_nat (cspec_l8Set n)) h0
@[reducible] def Sspec_l8Set : PkS := ⟨[.one (.ro (.int .i64))], []⟩
@[reducible] def Tspec_l8Set : PkS := ⟨[.one (.bool), .one (.dead)], []⟩
def Hspec_l8Set : List Sh := [.one .any, .skip]
def Kspec_l8Set (g : ∀ {R : Type}, Nat → (List Int) → (Bool → Option R) → Option R) (n : Nat) : KPs := fun R p k => match (PkS.un Sspec_l8Set p : Option ((List Int) × Unit)) with
  | some (x0, _) => g n x0 (fun r0 => k (PkS.pack Tspec_l8Set (r0, ())))
  | none => none
theorem espec_l8Set (spec_l1In : ∀ {R : Type}, Nat → Int → Int → Int → (Bool → Option R) → Option R) (spec_l8Set_l2 : ∀ {R : Type}, Nat → (List Int) → (List Int) → Int → Int → (Bool → Option R) → (Option R) → Option R) {R : Type} (n : Nat) (x0 : List Int) (k : Pk → Option R) : evF tt sig (mkK [(40, Kspec_l1In @spec_l1In n)] R) (mkL (mkK [(40, Kspec_l1In @spec_l1In n)]) [(2, Dspec_l8Set_l2, Pspec_l8Set_l2 @spec_l8Set_l2 n)] R) Try.f41 Hspec_l8Set (PkS.pack Sspec_l8Set (x0, ())) k = (fun (k : Bool → Option R) => (spec_l8Set_l2 n x0 x0 (x0.length : Int) 0 (fun r2 => k r2) (k true))) (fun r0 => k (PkS.pack Tspec_l8Set (r0, ()))) := by kernel_rfl
theorem okspec_l8Set (n : Nat) : FnOk Try.prog 41 (Kspec_l8Set @spec_l8Set n) := by
  refine fn_ok (sig := sig) mixed ttok (mkK_nat (cspec_l8Set n)) (mkK_ok (cspec_l8Set n)) (mkL_nat (mkK_nat (cspec_l8Set n)) (l := [(2, Dspec_l8Set_l2, Pspec_l8Set_l2 @spec_l8Set_l2 n)]) ⟨nlspec_l8Set_l2 n, trivial⟩) (fn := Try.f41) (c := bodyOf Try.f41) (by kernel_rfl) (by kernel_rfl) (by kernel_rfl) (.eq (l := [loopIn 2 (bodyOf Try.f41)]) (by kernel_rfl) ⟨(lkspec_l8Set_l2 n _ _ (at_id (i := 2) (by kernel_rfl) rfl)), trivial⟩) (shs := Hspec_l8Set) (S := Sspec_l8Set) fun R p k => ?_
  unfold Kspec_l8Set
  cases h : (PkS.un Sspec_l8Set p) with
  | none => rfl
  | some d =>
    obtain ⟨x0, u⟩ := (d : (List Int) × Unit)
    have hp := PkS.un_pack h
    subst hp
    exact (espec_l8Set @spec_l1In @spec_l8Set_l2 n x0 k).symm

/-! ### loop.example/g00269/spec.GoodRules -/
theorem cspec_GoodRules (n : Nat) : AllOk Try.prog [(40, Kspec_l1In @spec_l1In n), (41, Kspec_l8Set @spec_l8Set n)] := ⟨okspec_l1In n, ⟨okspec_l8Set n, trivial⟩⟩
@[reducible] def Sspec_GoodRules_l2 : PkS := ⟨[.one (.ro (.pr (.int .i64) (.sl (.int .i64)))), .one (.ro (.pr (.int .i64) (.sl (.int .i64)))), .one (.int .i64), .one (.int .i64), .one (.dead)], []⟩
@[reducible] def Tspec_GoodRules_l2_0 : PkS := ⟨[.one (.bool), .one (.dead)], []⟩
@[reducible] def Tspec_GoodRules_l2_1 : PkS := ⟨[.one (.ro (.pr (.int .i64) (.sl (.int .i64)))), .one (.dead)], []⟩
def Dspec_GoodRules_l2 : LoopD := ⟨25, [0, 5, 6, 7], [.one (.ro (.pr (.int .i64) (.sl (.int .i64)))), .one (.ro (.pr (.int .i64) (.sl (.int .i64)))), .one .any, .one .any, .skip], fun x => match x with
  | .ret => some ([2], [.one .any, .skip])
  | .exit 0 => some ([0], [.one (.ro (.pr (.int .i64) (.sl (.int .i64)))), .skip])
  | _ => none⟩
def Pspec_GoodRules_l2 (g : ∀ {R : Type}, Nat → (List (Int × List Int)) → (List (Int × List Int)) → Int → Int → (Bool → Option R) → ((List (Int × List Int)) → Option R) → Option R) (n : Nat) : LPs := fun R q kk => match (PkS.un Sspec_GoodRules_l2 q : Option ((List (Int × List Int)) × (List (Int × List Int)) × Int × Int × Unit)) with
  | some (y2_0, y2_1, y2_2, y2_3, _) => g n y2_0 y2_1 y2_2 y2_3 (fun r0 => kk .ret (PkS.pack Tspec_GoodRules_l2_0 (r0, ()))) (fun r0 => kk (.exit 0) (PkS.pack Tspec_GoodRules_l2_1 (r0, ())))
  | none => none
theorem espec_GoodRules_l2 (spec_l1In : ∀ {R : Type}, Nat → Int → Int → Int → (Bool → Option R) → Option R) (spec_l8Set : ∀ {R : Type}, Nat → (List Int) → (Bool → Option R) → Option R) (spec_GoodRules_l2 : ∀ {R : Type}, Nat → (List (Int × List Int)) → (List (Int × List Int)) → Int → Int → (Bool → Option R) → ((List (Int × List Int)) → Option R) → Option R) {R : Type} (n : Nat) (y2_0 : List (Int × List Int)) (y2_1 : List (Int × List Int)) (y2_2 : Int) (y2_3 : Int) (kk : Ex → Pk → Option R) : Dspec_GoodRules_l2.step tt sig (mkK [(40, Kspec_l1In @spec_l1In n), (41, Kspec_l8Set @spec_l8Set n)] R) (mkL (mkK [(40, Kspec_l1In @spec_l1In n), (41, Kspec_l8Set @spec_l8Set n)]) [] R) (loopIn 2 (bodyOf Try.f13)) (fun q' => Pspec_GoodRules_l2 @spec_GoodRules_l2 n R q' kk) (PkS.pack Sspec_GoodRules_l2 (y2_0, y2_1, y2_2, y2_3, ())) kk = (fun (kret : Bool → Option R) (kexit0 : (List (Int × List Int)) → Option R) => (bif (decide (y2_3 < y2_2)) then (bif decide (0 ≤ y2_3) then (bif decide (y2_3 < (y2_1.length : Int)) then (spec_l1In n ((y2_1.getD (Int.toNat y2_3) (0, [])).1) 0 39 fun r1 => (bif (!r1) then kret false else (spec_l8Set n ((y2_1.getD (Int.toNat y2_3) (0, [])).2) fun r2 => (bif (!r2) then kret false else spec_GoodRules_l2 n y2_0 y2_1 y2_2 (IntKind.wrap .i64 (y2_3 + 1)) kret kexit0)))) else none) else none) else kexit0 y2_0)) (fun r0 => kk .ret (PkS.pack Tspec_GoodRules_l2_0 (r0, ()))) (fun r0 => kk (.exit 0) (PkS.pack Tspec_GoodRules_l2_1 (r0, ()))) := by kernel_rfl
theorem lespec_GoodRules_l2 : LoopEq tt sig (fun n => mkK [(40, Kspec_l1In @spec_l1In n), (41, Kspec_l8Set @spec_l8Set n)]) (fun n => mkL (mkK [(40, Kspec_l1In @spec_l1In n), (41, Kspec_l8Set @spec_l8Set n)]) []) Dspec_GoodRules_l2 Sspec_GoodRules_l2 (loopIn 2 (bodyOf Try.f13)) (Pspec_GoodRules_l2 @spec_GoodRules_l2) where
  zero R q kk := by unfold Pspec_GoodRules_l2; cases (PkS.un Sspec_GoodRules_l2 q) <;> rfl
  succ n R q kk := by
    unfold Pspec_GoodRules_l2
    cases h : (PkS.un Sspec_GoodRules_l2 q) with
    | none => rfl
    | some d =>
      obtain ⟨y2_0, y2_1, y2_2, y2_3, u⟩ := (d : (List (Int × List Int)) × (List (Int × List Int)) × Int × Int × Unit)
      have hp := PkS.un_pack h
      subst hp
      exact (espec_GoodRules_l2 @spec_l1In @spec_l8Set @spec_GoodRules_l2 n y2_0 y2_1 y2_2 y2_3 kk).symm
theorem nlspec_GoodRules_l2 : ∀ n, NatLP (Pspec_GoodRules_l2 @spec_GoodRules_l2 n) := lespec_GoodRules_l2.nat (fun n => mkK_nat (cspec_GoodRules n)) fun n => mkL_nat (mkK_nat (cspec_GoodRules n)) (l := []) trivial
theorem inspec_GoodRules_l2 (n : Nat) (R : Type) : LoopsOk Try.prog (mkL (mkK [(40, Kspec_l1In @spec_l1In n), (41, Kspec_l8Set @spec_l8Set n)]) [] R) (loopIn 2 (bodyOf Try.f13)) := .eq (l := []) (by kernel_rfl) trivial
theorem lkspec_GoodRules_l2 (n : Nat) (R : Type) (L0 : LK R) (h0 : ∀ id, firstRegion (loopIn 2 (bodyOf Try.f13)) = some id → L0 id = Dspec_GoodRules_l2.oracle (mkK [(40, Kspec_l1In @spec_l1In n), (41, Kspec_l8Set @spec_l8Set n)] R) (Pspec_GoodRules_l2 @spec_GoodRules_l2 n R)) : LoopOk Try.prog L0 (loopIn 2 (bodyOf Try.f13)) :=
  lespec_GoodRules_l2.ok mixed ttok (fun n => mkK_nat (cspec_GoodRules n)) (fun n => mkK_ok (cspec_GoodRules n)) (fun n => inspec_GoodRules_l2 n R) (mkK_nat (cspec_GoodRules n)) h0
@[reducible] def Sspec_GoodRules : PkS := ⟨[.one (.ro (.pr (.int .i64) (.sl (.int .i64))))], []⟩
@[reducible] def Tspec_GoodRules : PkS := ⟨[.one (.bool), .one (.dead)], []⟩
def Hspec_GoodRules : List Sh := [.one .any, .skip]
def Kspec_GoodRules (g : ∀ {R : Type}, Nat → (List (Int × List Int)) → (Bool → Option R) → Option R) (n : Nat) : KPs := fun R p k => match (PkS.un Sspec_GoodRules p : Option ((List (Int × List Int)) × Unit)) with
  | some (x0, _) => g n x0 (fun r0 => k (PkS.pack Tspec_GoodRules (r0, ())))
  | none => none
theorem espec_GoodRules (spec_l1In : ∀ {R : Type}, Nat → Int → Int → Int → (Bool → Option R) → Option R) (spec_l8Set : ∀ {R : Type}, Nat → (List Int) → (Bool → Option R) → Option R) (spec_GoodRules_l2 : ∀ {R : Type}, Nat → (List (Int × List Int)) → (List (Int × List Int)) → Int → Int → (Bool → Option R) → ((List (Int × List Int)) → Option R) → Option R) {R : Type} (n : Nat) (x0 : List (Int × List Int)) (k : Pk → Option R) : evF tt sig (mkK [(40, Kspec_l1In @spec_l1In n), (41, Kspec_l8Set @spec_l8Set n)] R) (mkL (mkK [(40, Kspec_l1In @spec_l1In n), (41, Kspec_l8Set @spec_l8Set n)]) [(2, Dspec_GoodRules_l2, Pspec_GoodRules_l2 @spec_GoodRules_l2 n)] R) Try.f13 Hspec_GoodRules (PkS.pack Sspec_GoodRules (x0, ())) k = (fun (k : Bool → Option R) => (spec_GoodRules_l2 n x0 x0 (x0.length : Int) 0 (fun r3 => k r3) (fun r4 => k (decide ((r4.length : Int) ≤ 60))))) (fun r0 => k (PkS.pack Tspec_GoodRules (r0, ()))) := by kernel_rfl
theorem okspec_GoodRules (n : Nat) : FnOk Try.prog 13 (Kspec_GoodRules @spec_GoodRules n) := by
  refine fn_ok (sig := sig) mixed ttok (mkK_nat (cspec_GoodRules n)) (mkK_ok (cspec_GoodRules n)) (mkL_nat (mkK_nat (cspec_GoodRules n)) (l := [(2, Dspec_GoodRules_l2, Pspec_GoodRules_l2 @spec_GoodRules_l2 n)]) ⟨nlspec_GoodRules_l2 n, trivial⟩) (fn := Try.f13) (c := bodyOf Try.f13) (by kernel_rfl) (by kernel_rfl) (by kernel_rfl) (.eq (l := [loopIn 2 (bodyOf Try.f13)]) (by kernel_rfl) ⟨(lkspec_GoodRules_l2 n _ _ (at_id (i := 2) (by kernel_rfl) rfl)), trivial⟩) (shs := Hspec_GoodRules) (S := Sspec_GoodRules) fun R p k => ?_
  unfold Kspec_GoodRules
  cases h : (PkS.un Sspec_GoodRules p) with
  | none => rfl
  | some d =>
    obtain ⟨x0, u⟩ := (d : (List (Int × List Int)) × Unit)
    have hp := PkS.un_pack h
    subst hp
    exact (espec_GoodRules @spec_l1In @spec_l8Set @spec_GoodRules_l2 n x0 k).symm

/-! ### loop.example/g00269/spec.l8In -/
theorem cspec_l8In (n : Nat) : AllOk Try.prog [] := trivial
@[reducible] def Sspec_l8In_l3 : PkS := ⟨[.one (.whole (100000, 0)), .one (.ro (.int .i64)), .one (.int .i64), .one (.int .i64), .one (.dead)], [((100000, 0), .arr .bool)]⟩
@[reducible] def Tspec_l8In_l3_0 : PkS := ⟨[.one (.whole (100000, 0)), .one (.dead)], [((100000, 0), .arr .bool)]⟩
def Dspec_l8In_l3 : LoopD := ⟨18, [3, 7, 8, 9], [.one (.own .bool), .one (.ro (.int .i64)), .one .any, .one .any, .skip], fun x => match x with
  | .exit 0 => some ([3], [.one (.own .bool), .skip])
  | _ => none⟩
def Pspec_l8In_l3 (g : ∀ {R : Type}, Nat → (List Int) → Int → Int → (List Bool) → ((List Bool) → Option R) → Option R) (n : Nat) : LPs := fun R q kk => match (PkS.un Sspec_l8In_l3 q : Option ((List Int) × Int × Int × (List Bool) × Unit)) with
  | some (y3_0, y3_1, y3_2, y3_3, _) => g n y3_0 y3_1 y3_2 y3_3 (fun r0 => kk (.exit 0) (PkS.pack Tspec_l8In_l3_0 (r0, ())))
  | none => none
theorem espec_l8In_l3 (spec_l8In_l3 : ∀ {R : Type}, Nat → (List Int) → Int → Int → (List Bool) → ((List Bool) → Option R) → Option R) {R : Type} (n : Nat) (y3_0 : List Int) (y3_1 : Int) (y3_2 : Int) (y3_3 : List Bool) (kk : Ex → Pk → Option R) : Dspec_l8In_l3.step tt sig (mkK [] R) (mkL (mkK []) [] R) (loopIn 3 (bodyOf Try.f48)) (fun q' => Pspec_l8In_l3 @spec_l8In_l3 n R q' kk) (PkS.pack Sspec_l8In_l3 (y3_0, y3_1, y3_2, y3_3, ())) kk = (fun (kexit0 : (List Bool) → Option R) => (bif (decide (y3_2 < y3_1)) then (bif decide (0 ≤ y3_2) then (bif decide (y3_2 < (y3_0.length : Int)) then (bif decide (0 ≤ (y3_0.getD (Int.toNat y3_2) 0)) then (bif decide ((y3_0.getD (Int.toNat y3_2) 0) < (y3_3.length : Int)) then spec_l8In_l3 n y3_0 y3_1 (IntKind.wrap .i64 (y3_2 + 1)) (y3_3.set (Int.toNat (y3_0.getD (Int.toNat y3_2) 0)) true) kexit0 else none) else none) else none) else none) else kexit0 y3_3)) (fun r0 => kk (.exit 0) (PkS.pack Tspec_l8In_l3_0 (r0, ()))) := by kernel_rfl
theorem lespec_l8In_l3 : LoopEq tt sig (fun n => mkK []) (fun n => mkL (mkK []) []) Dspec_l8In_l3 Sspec_l8In_l3 (loopIn 3 (bodyOf Try.f48)) (Pspec_l8In_l3 @spec_l8In_l3) where
  zero R q kk := by unfold Pspec_l8In_l3; cases (PkS.un Sspec_l8In_l3 q) <;> rfl
  succ n R q kk := by
    unfold Pspec_l8In_l3
    cases h : (PkS.un Sspec_l8In_l3 q) with
    | none => rfl
    | some d =>
      obtain ⟨y3_0, y3_1, y3_2, y3_3, u⟩ := (d : (List Int) × Int × Int × (List Bool) × Unit)
      have hp := PkS.un_pack h
      subst hp
      exact (espec_l8In_l3 @spec_l8In_l3 n y3_0 y3_1 y3_2 y3_3 kk).symm
theorem nlspec_l8In_l3 : ∀ n, NatLP (Pspec_l8In_l3 @spec_l8In_l3 n) := lespec_l8In_l3.nat (fun n => mkK_nat (cspec_l8In n)) fun n => mkL_nat (mkK_nat (cspec_l8In n)) (l := []) trivial
theorem inspec_l8In_l3 (n : Nat) (R : Type) : LoopsOk Try.prog (mkL (mkK []) [] R) (loopIn 3 (bodyOf Try.f48)) := .eq (l := []) (by kernel_rfl) trivial
theorem lkspec_l8In_l3 (n : Nat) (R : Type) (L0 : LK R) (h0 : ∀ id, firstRegion (loopIn 3 (bodyOf Try.f48)) = some id → L0 id = Dspec_l8In_l3.oracle (mkK [] R) (Pspec_l8In_l3 @spec_l8In_l3 n R)) : LoopOk Try.prog L0 (loopIn 3 (bodyOf Try.f48)) :=
  lespec_l8In_l3.ok mixed ttok (fun n => mkK_nat (cspec_l8In n)) (fun n => mkK_ok (cspec_l8In n)) (fun n => inspec_l8In_l3 n R) (mkK_nat (cspec_l8In n)) h0
@[reducible] def Sspec_l8In : PkS := ⟨[.one (.ro (.int .i64))], []⟩
@[reducible] def Tspec_l8In : PkS := ⟨[.one (.whole (300000, 0)), .one (.dead)], [((300000, 0), .arr .bool)]⟩
def Hspec_l8In : List Sh := [.one (.own .bool), .skip]
def Kspec_l8In (g : ∀ {R : Type}, Nat → (List Int) → ((List Bool) → Option R) → Option R) (n : Nat) : KPs := fun R p k => match (PkS.un Sspec_l8In p : Option ((List Int) × Unit)) with
  | some (x0, _) => g n x0 (fun r0 => k (PkS.pack Tspec_l8In (r0, ())))
  | none => none
theorem espec_l8In (spec_l8In_l3 : ∀ {R : Type}, Nat → (List Int) → Int → Int → (List Bool) → ((List Bool) → Option R) → Option R) {R : Type} (n : Nat) (x0 : List Int) (k : Pk → Option R) : evF tt sig (mkK [] R) (mkL (mkK []) [(3, Dspec_l8In_l3, Pspec_l8In_l3 @spec_l8In_l3 n)] R) Try.f48 Hspec_l8In (PkS.pack Sspec_l8In (x0, ())) k = (fun (k : (List Bool) → Option R) => (spec_l8In_l3 n x0 (x0.length : Int) 0 (List.replicate 40 false) (fun r1 => k r1))) (fun r0 => k (PkS.pack Tspec_l8In (r0, ()))) := by kernel_rfl
theorem okspec_l8In (n : Nat) : FnOk Try.prog 48 (Kspec_l8In @spec_l8In n) := by
  refine fn_ok (sig := sig) mixed ttok (mkK_nat (cspec_l8In n)) (mkK_ok (cspec_l8In n)) (mkL_nat (mkK_nat (cspec_l8In n)) (l := [(3, Dspec_l8In_l3, Pspec_l8In_l3 @spec_l8In_l3 n)]) ⟨nlspec_l8In_l3 n, trivial⟩) (fn := Try.f48) (c := bodyOf Try.f48) (by kernel_rfl) (by kernel_rfl) (by kernel_rfl) (.eq (l := [loopIn 3 (bodyOf Try.f48)]) (by kernel_rfl) ⟨(lkspec_l8In_l3 n _ _ (at_id (i := 3) (by kernel_rfl) rfl)), trivial⟩) (shs := Hspec_l8In) (S := Sspec_l8In) fun R p k => ?_
  unfold Kspec_l8In
  cases h : (PkS.un Sspec_l8In p) with
  | none => rfl
  | some d =>
    obtain ⟨x0, u⟩ := (d : (List Int) × Unit)
    have hp := PkS.un_pack h
    subst hp
    exact (espec_l8In @spec_l8In_l3 n x0 k).symm

/-! ### loop.example/g00269/spec.l8Holds -/
theorem cspec_l8Holds (n : Nat) : AllOk Try.prog [] := trivial
@[reducible] def Sspec_l8Holds_l2 : PkS := ⟨[.one (.ro .bool), .one (.ro (.int .i64)), .one (.int .i64), .one (.int .i64), .one (.dead), .one (.dead)], []⟩
@[reducible] def Tspec_l8Holds_l2_0 : PkS := ⟨[.one (.bool), .one (.dead), .one (.dead)], []⟩
@[reducible] def Tspec_l8Holds_l2_1 : PkS := ⟨[.one (.dead), .one (.dead)], []⟩
def Dspec_l8Holds_l2 : LoopD := ⟨20, [1, 8, 9, 10], [.one (.ro .bool), .one (.ro (.int .i64)), .one .any, .one .any, .skip, .skip], fun x => match x with
  | .ret => some ([4], [.one .any, .skip, .skip])
  | .exit 0 => some ([], [.skip, .skip])
  | _ => none⟩
def Pspec_l8Holds_l2 (g : ∀ {R : Type}, Nat → (List Bool) → (List Int) → Int → Int → (Bool → Option R) → (Option R) → Option R) (n : Nat) : LPs := fun R q kk => match (PkS.un Sspec_l8Holds_l2 q : Option ((List Bool) × (List Int) × Int × Int × Unit)) with
  | some (y2_0, y2_1, y2_2, y2_3, _) => g n y2_0 y2_1 y2_2 y2_3 (fun r0 => kk .ret (PkS.pack Tspec_l8Holds_l2_0 (r0, ()))) (kk (.exit 0) (PkS.pack Tspec_l8Holds_l2_1 ()))
  | none => none
theorem espec_l8Holds_l2 (spec_l8Holds_l2 : ∀ {R : Type}, Nat → (List Bool) → (List Int) → Int → Int → (Bool → Option R) → (Option R) → Option R) {R : Type} (n : Nat) (y2_0 : List Bool) (y2_1 : List Int) (y2_2 : Int) (y2_3 : Int) (kk : Ex → Pk → Option R) : Dspec_l8Holds_l2.step tt sig (mkK [] R) (mkL (mkK []) [] R) (loopIn 2 (bodyOf Try.f49)) (fun q' => Pspec_l8Holds_l2 @spec_l8Holds_l2 n R q' kk) (PkS.pack Sspec_l8Holds_l2 (y2_0, y2_1, y2_2, y2_3, ())) kk = (fun (kret : Bool → Option R) (kexit0 : Option R) => (bif (decide (y2_3 < y2_2)) then (bif decide (0 ≤ y2_3) then (bif decide (y2_3 < (y2_1.length : Int)) then (bif decide (0 ≤ (y2_1.getD (Int.toNat y2_3) 0)) then (bif decide ((y2_1.getD (Int.toNat y2_3) 0) < (y2_0.length : Int)) then (bif (!(y2_0.getD (Int.toNat (y2_1.getD (Int.toNat y2_3) 0)) false)) then kret false else spec_l8Holds_l2 n y2_0 y2_1 y2_2 (IntKind.wrap .i64 (y2_3 + 1)) kret kexit0) else none) else none) else none) else none) else kexit0)) (fun r0 => kk .ret (PkS.pack Tspec_l8Holds_l2_0 (r0, ()))) (kk (.exit 0) (PkS.pack Tspec_l8Holds_l2_1 ())) := by kernel_rfl
theorem lespec_l8Holds_l2 : LoopEq tt sig (fun n => mkK []) (fun n => mkL (mkK []) []) Dspec_l8Holds_l2 Sspec_l8Holds_l2 (loopIn 2 (bodyOf Try.f49)) (Pspec_l8Holds_l2 @spec_l8Holds_l2) where
  zero R q kk := by unfold Pspec_l8Holds_l2; cases (PkS.un Sspec_l8Holds_l2 q) <;> rfl
  succ n R q kk := by
    unfold Pspec_l8Holds_l2
    cases h : (PkS.un Sspec_l8Holds_l2 q) with
    | none => rfl
    | some d =>
      obtain ⟨y2_0, y2_1, y2_2, y2_3, u⟩ := (d : (List Bool) × (List Int) × Int × Int × Unit)
      have hp := PkS.un_pack h
      subst hp
      exact (espec_l8Holds_l2 @spec_l8Holds_l2 n y2_0 y2_1 y2_2 y2_3 kk).symm
theorem nlspec_l8Holds_l2 : ∀ n, NatLP (Pspec_l8Holds_l2 @spec_l8Holds_l2 n) := lespec_l8Holds_l2.nat (fun n => mkK_nat (cspec_l8Holds n)) fun n => mkL_nat (mkK_nat (cspec_l8Holds n)) (l := []) trivial
theorem inspec_l8Holds_l2 (n : Nat) (R : Type) : LoopsOk Try.prog (mkL (mkK []) [] R) (loopIn 2 (bodyOf Try.f49)) := .eq (l := []) (by kernel_rfl) trivial
theorem lkspec_l8Holds_l2 (n : Nat) (R : Type) (L0 : LK R) (h0 : ∀ id, firstRegion (loopIn 2 (bodyOf Try.f49)) = some id → L0 id = Dspec_l8Holds_l2.oracle (mkK [] R) (Pspec_l8Holds_l2 @spec_l8Holds_l2 n R)) : LoopOk Try.prog L0 (loopIn 2 (bodyOf Try.f49)) :=
  lespec_l8Holds_l2.ok mixed ttok (fun n => mkK_nat (cspec_l8Holds n)) (fun n => mkK_ok (cspec_l8Holds n)) (fun n => inspec_l8Holds_l2 n R) (mkK_nat (cspec_l8Holds n)) h0
@[reducible] def Sspec_l8Holds : PkS := ⟨[.agg [.int .i64, .ro (.int .i64)], .one (.ro .bool)], []⟩
@[reducible] def Tspec_l8Holds : PkS := ⟨[.one (.bool), .one (.dead), .one (.dead)], []⟩
def Hspec_l8Holds : List Sh := [.one .any, .skip, .skip]
def Kspec_l8Holds (g : ∀ {R : Type}, Nat → Int → (List Int) → (List Bool) → (Bool → Option R) → Option R) (n : Nat) : KPs := fun R p k => match (PkS.un Sspec_l8Holds p : Option (Int × (List Int) × (List Bool) × Unit)) with
  | some (x0, x1, x2, _) => g n x0 x1 x2 (fun r0 => k (PkS.pack Tspec_l8Holds (r0, ())))
  | none => none
theorem espec_l8Holds (spec_l8Holds_l2 : ∀ {R : Type}, Nat → (List Bool) → (List Int) → Int → Int → (Bool → Option R) → (Option R) → Option R) {R : Type} (n : Nat) (x0 : Int) (x1 : List Int) (x2 : List Bool) (k : Pk → Option R) : evF tt sig (mkK [] R) (mkL (mkK []) [(2, Dspec_l8Holds_l2, Pspec_l8Holds_l2 @spec_l8Holds_l2 n)] R) Try.f49 Hspec_l8Holds (PkS.pack Sspec_l8Holds (x0, x1, x2, ())) k = (fun (k : Bool → Option R) => (spec_l8Holds_l2 n x2 x1 (x1.length : Int) 0 (fun r1 => k r1) (k true))) (fun r0 => k (PkS.pack Tspec_l8Holds (r0, ()))) := by kernel_rfl
theorem okspec_l8Holds (n : Nat) : FnOk Try.prog 49 (Kspec_l8Holds @spec_l8Holds n) := by
  refine fn_ok (sig := sig) mixed ttok (mkK_nat (cspec_l8Holds n)) (mkK_ok (cspec_l8Holds n)) (mkL_nat (mkK_nat (cspec_l8Holds n)) (l := [(2, Dspec_l8Holds_l2, Pspec_l8Holds_l2 @spec_l8Holds_l2 n)]) ⟨nlspec_l8Holds_l2 n, trivial⟩) (fn := Try.f49) (c := bodyOf Try.f49) (by kernel_rfl) (by kernel_rfl) (by kernel_rfl) (.eq (l := [loopIn 2 (bodyOf Try.f49)]) (by kernel_rfl) ⟨(lkspec_l8Holds_l2 n _ _ (at_id (i := 2) (by kernel_rfl) rfl)), trivial⟩) (shs := Hspec_l8Holds) (S := Sspec_l8Holds) fun R p k => ?_
  unfold Kspec_l8Holds
  cases h : (PkS.un Sspec_l8Holds p) with
  | none => rfl
  | some d =>
    obtain ⟨x0, x1, x2, u⟩ := (d : Int × (List Int) × (List Bool) × Unit)
    have hp := PkS.un_pack h
    subst hp
    exact (espec_l8Holds @spec_l8Holds_l2 n x0 x1 x2 k).symm

/-! ### loop.example/g00269/spec.IsModel -/
theorem cspec_IsModel (n : Nat) : AllOk Try.prog [(13, Kspec_GoodRules @spec_GoodRules n), (41, Kspec_l8Set @spec_l8Set n), (48, Kspec_l8In @spec_l8In n), (49, Kspec_l8Holds @spec_l8Holds n)] := ⟨okspec_GoodRules n, ⟨okspec_l8Set n, ⟨okspec_l8In n, ⟨okspec_l8Holds n, trivial⟩⟩⟩⟩
@[reducible] def Sspec_IsModel_l5 : PkS := ⟨[.one (.whole (100000, 0)), .one (.ro (.pr (.int .i64) (.sl (.int .i64)))), .one (.int .i64), .one (.int .i64), .one (.dead), .one (.dead)], [((100000, 0), .arr .bool)]⟩
@[reducible] def Tspec_IsModel_l5_0 : PkS := ⟨[.one (.bool), .one (.bool), .one (.dead), .one (.dead)], []⟩
@[reducible] def Tspec_IsModel_l5_1 : PkS := ⟨[.one (.dead), .one (.dead)], []⟩
def Dspec_IsModel_l5 : LoopD := ⟨37, [6, 19, 20, 21], [.one (.own .bool), .one (.ro (.pr (.int .i64) (.sl (.int .i64)))), .one .any, .one .any, .skip, .skip], fun x => match x with
  | .ret => some ([4, 5], [.one .any, .one .any, .skip, .skip])
  | .exit 0 => some ([], [.skip, .skip])
  | _ => none⟩
def Pspec_IsModel_l5 (g : ∀ {R : Type}, Nat → (List (Int × List Int)) → Int → Int → (List Bool) → (Bool → Bool → Option R) → (Option R) → Option R) (n : Nat) : LPs := fun R q kk => match (PkS.un Sspec_IsModel_l5 q : Option ((List (Int × List Int)) × Int × Int × (List Bool) × Unit)) with
  | some (y5_0, y5_1, y5_2, y5_3, _) => g n y5_0 y5_1 y5_2 y5_3 (fun r0 r1 => kk .ret (PkS.pack Tspec_IsModel_l5_0 (r0, r1, ()))) (kk (.exit 0) (PkS.pack Tspec_IsModel_l5_1 ()))
  | none => none
theorem espec_IsModel_l5 (spec_GoodRules : ∀ {R : Type}, Nat → (List (Int × List Int)) → (Bool → Option R) → Option R) (spec_l8Set : ∀ {R : Type}, Nat → (List Int) → (Bool → Option R) → Option R) (spec_l8In : ∀ {R : Type}, Nat → (List Int) → ((List Bool) → Option R) → Option R) (spec_l8Holds : ∀ {R : Type}, Nat → Int → (List Int) → (List Bool) → (Bool → Option R) → Option R) (spec_IsModel_l5 : ∀ {R : Type}, Nat → (List (Int × List Int)) → Int → Int → (List Bool) → (Bool → Bool → Option R) → (Option R) → Option R) {R : Type} (n : Nat) (y5_0 : List (Int × List Int)) (y5_1 : Int) (y5_2 : Int) (y5_3 : List Bool) (kk : Ex → Pk → Option R) : Dspec_IsModel_l5.step tt sig (mkK [(13, Kspec_GoodRules @spec_GoodRules n), (41, Kspec_l8Set @spec_l8Set n), (48, Kspec_l8In @spec_l8In n), (49, Kspec_l8Holds @spec_l8Holds n)] R) (mkL (mkK [(13, Kspec_GoodRules @spec_GoodRules n), (41, Kspec_l8Set @spec_l8Set n), (48, Kspec_l8In @spec_l8In n), (49, Kspec_l8Holds @spec_l8Holds n)]) [] R) (loopIn 5 (bodyOf Try.f17)) (fun q' => Pspec_IsModel_l5 @spec_IsModel_l5 n R q' kk) (PkS.pack Sspec_IsModel_l5 (y5_0, y5_1, y5_2, y5_3, ())) kk = (fun (kret : Bool → Bool → Option R) (kexit0 : Option R) => (bif (decide (y5_2 < y5_1)) then (bif decide (0 ≤ y5_2) then (bif decide (y5_2 < (y5_0.length : Int)) then (spec_l8Holds n ((y5_0.getD (Int.toNat y5_2) (0, [])).1) ((y5_0.getD (Int.toNat y5_2) (0, [])).2) y5_3 fun r4 => (bif r4 then (bif decide (0 ≤ (y5_0.getD (Int.toNat y5_2) (0, [])).1) then (bif decide ((y5_0.getD (Int.toNat y5_2) (0, [])).1 < (y5_3.length : Int)) then (bif (!(y5_3.getD (Int.toNat ((y5_0.getD (Int.toNat y5_2) (0, [])).1)) false)) then kret false true else spec_IsModel_l5 n y5_0 y5_1 (IntKind.wrap .i64 (y5_2 + 1)) y5_3 kret kexit0) else none) else none) else spec_IsModel_l5 n y5_0 y5_1 (IntKind.wrap .i64 (y5_2 + 1)) y5_3 kret kexit0)) else none) else none) else kexit0)) (fun r0 r1 => kk .ret (PkS.pack Tspec_IsModel_l5_0 (r0, r1, ()))) (kk (.exit 0) (PkS.pack Tspec_IsModel_l5_1 ())) := by kernel_rfl
theorem lespec_IsModel_l5 : LoopEq tt sig (fun n => mkK [(13, Kspec_GoodRules @spec_GoodRules n), (41, Kspec_l8Set @spec_l8Set n), (48, Kspec_l8In @spec_l8In n), (49, Kspec_l8Holds @spec_l8Holds n)]) (fun n => mkL (mkK [(13, Kspec_GoodRules @spec_GoodRules n), (41, Kspec_l8Set @spec_l8Set n), (48, Kspec_l8In @spec_l8In n), (49, Kspec_l8Holds @spec_l8Holds n)]) []) Dspec_IsModel_l5 Sspec_IsModel_l5 (loopIn 5 (bodyOf Try.f17)) (Pspec_IsModel_l5 @spec_IsModel_l5) where
  zero R q kk := by unfold Pspec_IsModel_l5; cases (PkS.un Sspec_IsModel_l5 q) <;> rfl
  succ n R q kk := by
    unfold Pspec_IsModel_l5
    cases h : (PkS.un Sspec_IsModel_l5 q) with
    | none => rfl
    | some d =>
      obtain ⟨y5_0, y5_1, y5_2, y5_3, u⟩ := (d : (List (Int × List Int)) × Int × Int × (List Bool) × Unit)
      have hp := PkS.un_pack h
      subst hp
      exact (espec_IsModel_l5 @spec_GoodRules @spec_l8Set @spec_l8In @spec_l8Holds @spec_IsModel_l5 n y5_0 y5_1 y5_2 y5_3 kk).symm
theorem nlspec_IsModel_l5 : ∀ n, NatLP (Pspec_IsModel_l5 @spec_IsModel_l5 n) := lespec_IsModel_l5.nat (fun n => mkK_nat (cspec_IsModel n)) fun n => mkL_nat (mkK_nat (cspec_IsModel n)) (l := []) trivial
theorem inspec_IsModel_l5 (n : Nat) (R : Type) : LoopsOk Try.prog (mkL (mkK [(13, Kspec_GoodRules @spec_GoodRules n), (41, Kspec_l8Set @spec_l8Set n), (48, Kspec_l8In @spec_l8In n), (49, Kspec_l8Holds @spec_l8Holds n)]) [] R) (loopIn 5 (bodyOf Try.f17)) := .eq (l := []) (by kernel_rfl) trivial
theorem lkspec_IsModel_l5 (n : Nat) (R : Type) (L0 : LK R) (h0 : ∀ id, firstRegion (loopIn 5 (bodyOf Try.f17)) = some id → L0 id = Dspec_IsModel_l5.oracle (mkK [(13, Kspec_GoodRules @spec_GoodRules n), (41, Kspec_l8Set @spec_l8Set n), (48, Kspec_l8In @spec_l8In n), (49, Kspec_l8Holds @spec_l8Holds n)] R) (Pspec_IsModel_l5 @spec_IsModel_l5 n R)) : LoopOk Try.prog L0 (loopIn 5 (bodyOf Try.f17)) :=
  lespec_IsModel_l5.ok mixed ttok (fun n => mkK_nat (cspec_IsModel n)) (fun n => mkK_ok (cspec_IsModel n)) (fun n => inspec_IsModel_l5 n R) (mkK_nat (cspec_IsModel n)) h0
@[reducible] def Sspec_IsModel : PkS := ⟨[.one (.ro (.pr (.int .i64) (.sl (.int .i64)))), .one (.ro (.int .i64))], []⟩
@[reducible] def Tspec_IsModel : PkS := ⟨[.tup [(false, [.bool]), (false, [.bool])], .one (.dead), .one (.dead)], []⟩
def Hspec_IsModel : List Sh := [.tup [(false, [.any]), (false, [.any])], .skip, .skip]
def Kspec_IsModel (g : ∀ {R : Type}, Nat → (List (Int × List Int)) → (List Int) → (Bool → Bool → Option R) → Option R) (n : Nat) : KPs := fun R p k => match (PkS.un Sspec_IsModel p : Option ((List (Int × List Int)) × (List Int) × Unit)) with
  | some (x0, x1, _) => g n x0 x1 (fun r0 r1 => k (PkS.pack Tspec_IsModel (r0, r1, ())))
  | none => none
theorem espec_IsModel (spec_GoodRules : ∀ {R : Type}, Nat → (List (Int × List Int)) → (Bool → Option R) → Option R) (spec_l8Set : ∀ {R : Type}, Nat → (List Int) → (Bool → Option R) → Option R) (spec_l8In : ∀ {R : Type}, Nat → (List Int) → ((List Bool) → Option R) → Option R) (spec_l8Holds : ∀ {R : Type}, Nat → Int → (List Int) → (List Bool) → (Bool → Option R) → Option R) (spec_IsModel_l5 : ∀ {R : Type}, Nat → (List (Int × List Int)) → Int → Int → (List Bool) → (Bool → Bool → Option R) → (Option R) → Option R) {R : Type} (n : Nat) (x0 : List (Int × List Int)) (x1 : List Int) (k : Pk → Option R) : evF tt sig (mkK [(13, Kspec_GoodRules @spec_GoodRules n), (41, Kspec_l8Set @spec_l8Set n), (48, Kspec_l8In @spec_l8In n), (49, Kspec_l8Holds @spec_l8Holds n)] R) (mkL (mkK [(13, Kspec_GoodRules @spec_GoodRules n), (41, Kspec_l8Set @spec_l8Set n), (48, Kspec_l8In @spec_l8In n), (49, Kspec_l8Holds @spec_l8Holds n)]) [(5, Dspec_IsModel_l5, Pspec_IsModel_l5 @spec_IsModel_l5 n)] R) Try.f17 Hspec_IsModel (PkS.pack Sspec_IsModel (x0, x1, ())) k = (fun (k : Bool → Bool → Option R) => (spec_GoodRules n x0 fun r1 => (bif (!r1) then k false false else (spec_l8Set n x1 fun r2 => (bif (!r2) then k false false else (spec_l8In n x1 fun r3 => (spec_IsModel_l5 n x0 (x0.length : Int) 0 r3 (fun r5 r6 => k r5 r6) (k true true)))))))) (fun r0 r1 => k (PkS.pack Tspec_IsModel (r0, r1, ()))) := by kernel_rfl
theorem okspec_IsModel (n : Nat) : FnOk Try.prog 17 (Kspec_IsModel @spec_IsModel n) := by
  refine fn_ok (sig := sig) mixed ttok (mkK_nat (cspec_IsModel n)) (mkK_ok (cspec_IsModel n)) (mkL_nat (mkK_nat (cspec_IsModel n)) (l := [(5, Dspec_IsModel_l5, Pspec_IsModel_l5 @spec_IsModel_l5 n)]) ⟨nlspec_IsModel_l5 n, trivial⟩) (fn := Try.f17) (c := bodyOf Try.f17) (by kernel_rfl) (by kernel_rfl) (by kernel_rfl) (.eq (l := [loopIn 5 (bodyOf Try.f17)]) (by kernel_rfl) ⟨(lkspec_IsModel_l5 n _ _ (at_id (i := 5) (by kernel_rfl) rfl)), trivial⟩) (shs := Hspec_IsModel) (S := Sspec_IsModel) fun R p k => ?_
  unfold Kspec_IsModel
  cases h : (PkS.un Sspec_IsModel p) with
  | none => rfl
  | some d =>
    obtain ⟨x0, x1, u⟩ := (d : (List (Int × List Int)) × (List Int) × Unit)
    have hp := PkS.un_pack h
    subst hp
    exact (espec_IsModel @spec_GoodRules @spec_l8Set @spec_l8In @spec_l8Holds @spec_IsModel_l5 n x0 x1 k).symm

/-! ### loop.example/g00269/impl.in -/
theorem cimpl_in (n : Nat) : AllOk Try.prog [] := trivial
@[reducible] def Simpl_in : PkS := ⟨[.one (.int .i64), .one (.int .i64), .one (.int .i64)], []⟩
@[reducible] def Timpl_in : PkS := ⟨[.one (.bool), .one (.dead), .one (.dead), .one (.dead)], []⟩
def Himpl_in : List Sh := [.one .any, .skip, .skip, .skip]
def Kimpl_in (g : ∀ {R : Type}, Nat → Int → Int → Int → (Bool → Option R) → Option R) (n : Nat) : KPs := fun R p k => match (PkS.un Simpl_in p : Option (Int × Int × Int × Unit)) with
  | some (x0, x1, x2, _) => g n x0 x1 x2 (fun r0 => k (PkS.pack Timpl_in (r0, ())))
  | none => none
theorem eimpl_in  {R : Type} (n : Nat) (x0 : Int) (x1 : Int) (x2 : Int) (k : Pk → Option R) : evF tt sig (mkK [] R) (mkL (mkK []) [] R) Try.f66 Himpl_in (PkS.pack Simpl_in (x0, x1, x2, ())) k = (fun (k : Bool → Option R) => (bif (decide (x0 ≥ x1)) then k (decide (x0 ≤ x2)) else k false)) (fun r0 => k (PkS.pack Timpl_in (r0, ()))) := by kernel_rfl
theorem okimpl_in (n : Nat) : FnOk Try.prog 66 (Kimpl_in @impl_in n) := by
  refine fn_ok (sig := sig) mixed ttok (mkK_nat (cimpl_in n)) (mkK_ok (cimpl_in n)) (mkL_nat (mkK_nat (cimpl_in n)) (l := []) trivial) (fn := Try.f66) (c := bodyOf Try.f66) (by kernel_rfl) (by kernel_rfl) (by kernel_rfl) (.eq (l := []) (by kernel_rfl) trivial) (shs := Himpl_in) (S := Simpl_in) fun R p k => ?_
  unfold Kimpl_in
  cases h : (PkS.un Simpl_in p) with
  | none => rfl
  | some d =>
    obtain ⟨x0, x1, x2, u⟩ := (d : Int × Int × Int × Unit)
    have hp := PkS.un_pack h
    subst hp
    exact (eimpl_in  n x0 x1 x2 k).symm

/-! ### loop.example/g00269/impl.isFact -/
theorem cimpl_isFact (n : Nat) : AllOk Try.prog [(66, Kimpl_in @impl_in n)] := ⟨okimpl_in n, trivial⟩
@[reducible] def Simpl_isFact : PkS := ⟨[.one (.int .i64)], []⟩
@[reducible] def Timpl_isFact : PkS := ⟨[.one (.bool), .one (.dead)], []⟩
def Himpl_isFact : List Sh := [.one .any, .skip]
def Kimpl_isFact (g : ∀ {R : Type}, Nat → Int → (Bool → Option R) → Option R) (n : Nat) : KPs := fun R p k => match (PkS.un Simpl_isFact p : Option (Int × Unit)) with
  | some (x0, _) => g n x0 (fun r0 => k (PkS.pack Timpl_isFact (r0, ())))
  | none => none
theorem eimpl_isFact (impl_in : ∀ {R : Type}, Nat → Int → Int → Int → (Bool → Option R) → Option R) {R : Type} (n : Nat) (x0 : Int) (k : Pk → Option R) : evF tt sig (mkK [(66, Kimpl_in @impl_in n)] R) (mkL (mkK [(66, Kimpl_in @impl_in n)]) [] R) Try.f45 Himpl_isFact (PkS.pack Simpl_isFact (x0, ())) k = (fun (k : Bool → Option R) => (impl_in n x0 0 39 fun r1 => k r1)) (fun r0 => k (PkS.pack Timpl_isFact (r0, ()))) := by kernel_rfl
theorem okimpl_isFact (n : Nat) : FnOk Try.prog 45 (Kimpl_isFact @impl_isFact n) := by
  refine fn_ok (sig := sig) mixed ttok (mkK_nat (cimpl_isFact n)) (mkK_ok (cimpl_isFact n)) (mkL_nat (mkK_nat (cimpl_isFact n)) (l := []) trivial) (fn := Try.f45) (c := bodyOf Try.f45) (by kernel_rfl) (by kernel_rfl) (by kernel_rfl) (.eq (l := []) (by kernel_rfl) trivial) (shs := Himpl_isFact) (S := Simpl_isFact) fun R p k => ?_
  unfold Kimpl_isFact
  cases h : (PkS.un Simpl_isFact p) with
  | none => rfl
  | some d =>
    obtain ⟨x0, u⟩ := (d : Int × Unit)
    have hp := PkS.un_pack h
    subst hp
    exact (eimpl_isFact @impl_in n x0 k).symm

/-! ### loop.example/g00269/impl.rising -/
theorem cimpl_rising (n : Nat) : AllOk Try.prog [(66, Kimpl_in @impl_in n)] := ⟨okimpl_in n, trivial⟩
@[reducible] def Simpl_rising_l2 : PkS := ⟨[.one (.ro (.int .i64)), .one (.int .i64), .one (.ro (.int .i64)), .one (.int .i64), .one (.int .i64), .one (.dead), .one (.dead)], []⟩
@[reducible] def Timpl_rising_l2_0 : PkS := ⟨[.one (.bool), .one (.dead), .one (.dead)], []⟩
@[reducible] def Timpl_rising_l2_1 : PkS := ⟨[.one (.dead), .one (.dead)], []⟩
def Dimpl_rising_l2 : LoopD := ⟨33, [0, 1, 7, 8, 9], [.one (.ro (.int .i64)), .one .any, .one (.ro (.int .i64)), .one .any, .one .any, .skip, .skip], fun x => match x with
  | .ret => some ([4], [.one .any, .skip, .skip])
  | .exit 0 => some ([], [.skip, .skip])
  | _ => none⟩
def Pimpl_rising_l2 (g : ∀ {R : Type}, Nat → (List Int) → Int → (List Int) → Int → Int → (Bool → Option R) → (Option R) → Option R) (n : Nat) : LPs := fun R q kk => match (PkS.un Simpl_rising_l2 q : Option ((List Int) × Int × (List Int) × Int × Int × Unit)) with
  | some (y2_0, y2_1, y2_2, y2_3, y2_4, _) => g n y2_0 y2_1 y2_2 y2_3 y2_4 (fun r0 => kk .ret (PkS.pack Timpl_rising_l2_0 (r0, ()))) (kk (.exit 0) (PkS.pack Timpl_rising_l2_1 ()))
  | none => none
theorem eimpl_rising_l2 (impl_in : ∀ {R : Type}, Nat → Int → Int → Int → (Bool → Option R) → Option R) (impl_rising_l2 : ∀ {R : Type}, Nat → (List Int) → Int → (List Int) → Int → Int → (Bool → Option R) → (Option R) → Option R) {R : Type} (n : Nat) (y2_0 : List Int) (y2_1 : Int) (y2_2 : List Int) (y2_3 : Int) (y2_4 : Int) (kk : Ex → Pk → Option R) : Dimpl_rising_l2.step tt sig (mkK [(66, Kimpl_in @impl_in n)] R) (mkL (mkK [(66, Kimpl_in @impl_in n)]) [] R) (loopIn 2 (bodyOf Try.f67)) (fun q' => Pimpl_rising_l2 @impl_rising_l2 n R q' kk) (PkS.pack Simpl_rising_l2 (y2_0, y2_1, y2_2, y2_3, y2_4, ())) kk = (fun (kret : Bool → Option R) (kexit0 : Option R) => (bif (decide (y2_4 < y2_3)) then (bif decide (0 ≤ y2_4) then (bif decide (y2_4 < (y2_2.length : Int)) then (impl_in n (y2_2.getD (Int.toNat y2_4) 0) 0 (IntKind.wrap .i64 (y2_1 - 1)) fun r1 => (bif (!r1) then kret false else (bif (decide (y2_4 > 0)) then (bif decide (0 ≤ (IntKind.wrap .i64 (y2_4 - 1))) then (bif decide ((IntKind.wrap .i64 (y2_4 - 1)) < (y2_0.length : Int)) then (bif (decide ((y2_0.getD (Int.toNat (IntKind.wrap .i64 (y2_4 - 1))) 0) ≥ (y2_2.getD (Int.toNat y2_4) 0))) then kret false else impl_rising_l2 n y2_0 y2_1 y2_2 y2_3 (IntKind.wrap .i64 (y2_4 + 1)) kret kexit0) else none) else none) else impl_rising_l2 n y2_0 y2_1 y2_2 y2_3 (IntKind.wrap .i64 (y2_4 + 1)) kret kexit0))) else none) else none) else kexit0)) (fun r0 => kk .ret (PkS.pack Timpl_rising_l2_0 (r0, ()))) (kk (.exit 0) (PkS.pack Timpl_rising_l2_1 ())) := by kernel_rfl
theorem leimpl_rising_l2 : LoopEq tt sig (fun n => mkK [(66, Kimpl_in @impl_in n)]) (fun n => mkL (mkK [(66, Kimpl_in @impl_in n)]) []) Dimpl_rising_l2 Simpl_rising_l2 (loopIn 2 (bodyOf Try.f67)) (Pimpl_rising_l2 @impl_rising_l2) where
  zero R q kk := by unfold Pimpl_rising_l2; cases (PkS.un Simpl_rising_l2 q) <;> rfl
  succ n R q kk := by
    unfold Pimpl_rising_l2
    cases h : (PkS.un Simpl_rising_l2 q) with
    | none => rfl
    | some d =>
      obtain ⟨y2_0, y2_1, y2_2, y2_3, y2_4, u⟩ := (d : (List Int) × Int × (List Int) × Int × Int × Unit)
      have hp := PkS.un_pack h
      subst hp
      exact (eimpl_rising_l2 @impl_in @impl_rising_l2 n y2_0 y2_1 y2_2 y2_3 y2_4 kk).symm
theorem nlimpl_rising_l2 : ∀ n, NatLP (Pimpl_rising_l2 @impl_rising_l2 n) := leimpl_rising_l2.nat (fun n => mkK_nat (cimpl_rising n)) fun n => mkL_nat (mkK_nat (cimpl_rising n)) (l := []) trivial
theorem inimpl_rising_l2 (n : Nat) (R : Type) : LoopsOk Try.prog (mkL (mkK [(66, Kimpl_in @impl_in n)]) [] R) (loopIn 2 (bodyOf Try.f67)) := .eq (l := []) (by kernel_rfl) trivial
theorem lkimpl_rising_l2 (n : Nat) (R : Type) (L0 : LK R) (h0 : ∀ id, firstRegion (loopIn 2 (bodyOf Try.f67)) = some id → L0 id = Dimpl_rising_l2.oracle (mkK [(66, Kimpl_in @impl_in n)] R) (Pimpl_rising_l2 @impl_rising_l2 n R)) : LoopOk Try.prog L0 (loopIn 2 (bodyOf Try.f67)) :=
  leimpl_rising_l2.ok mixed ttok (fun n => mkK_nat (cimpl_rising n)) (fun n => mkK_ok (cimpl_rising n)) (fun n => inimpl_rising_l2 n R) (mkK_nat (cimpl_rising n)) h0
@[reducible] def Simpl_rising : PkS := ⟨[.one (.ro (.int .i64)), .one (.int .i64)], []⟩
@[reducible] def Timpl_rising : PkS := ⟨[.one (.bool), .one (.dead), .one (.dead)], []⟩
def Himpl_rising : List Sh := [.one .any, .skip, .skip]
def Kimpl_rising (g : ∀ {R : Type}, Nat → (List Int) → Int → (Bool → Option R) → Option R) (n : Nat) : KPs := fun R p k => match (PkS.un Simpl_rising p : Option ((List Int) × Int × Unit)) with
  | some (x0, x1, _) => g n x0 x1 (fun r0 => k (PkS.pack Timpl_rising (r0, ())))
  | none => none
theorem eimpl_rising (impl_in : ∀ {R : Type}, Nat → Int → Int → Int → (Bool → Option R) → Option R) (impl_rising_l2 : ∀ {R : Type}, Nat → (List Int) → Int → (List Int) → Int → Int → (Bool → Option R) → (Option R) → Option R) {R : Type} (n : Nat) (x0 : List Int) (x1 : Int) (k : Pk → Option R) : evF tt sig (mkK [(66, Kimpl_in @impl_in n)] R) (mkL (mkK [(66, Kimpl_in @impl_in n)]) [(2, Dimpl_rising_l2, Pimpl_rising_l2 @impl_rising_l2 n)] R) Try.f67 Himpl_rising (PkS.pack Simpl_rising (x0, x1, ())) k = (fun (k : Bool → Option R) => (impl_rising_l2 n x0 x1 x0 (x0.length : Int) 0 (fun r2 => k r2) (k true))) (fun r0 => k (PkS.pack Timpl_rising (r0, ()))) := by kernel_rfl
theorem okimpl_rising (n : Nat) : FnOk Try.prog 67 (Kimpl_rising @impl_rising n) := by
  refine fn_ok (sig := sig) mixed ttok (mkK_nat (cimpl_rising n)) (mkK_ok (cimpl_rising n)) (mkL_nat (mkK_nat (cimpl_rising n)) (l := [(2, Dimpl_rising_l2, Pimpl_rising_l2 @impl_rising_l2 n)]) ⟨nlimpl_rising_l2 n, trivial⟩) (fn := Try.f67) (c := bodyOf Try.f67) (by kernel_rfl) (by kernel_rfl) (by kernel_rfl) (.eq (l := [loopIn 2 (bodyOf Try.f67)]) (by kernel_rfl) ⟨(lkimpl_rising_l2 n _ _ (at_id (i := 2) (by kernel_rfl) rfl)), trivial⟩) (shs := Himpl_rising) (S := Simpl_rising) fun R p k => ?_
  unfold Kimpl_rising
  cases h : (PkS.un Simpl_rising p) with
  | none => rfl
  | some d =>
    obtain ⟨x0, x1, u⟩ := (d : (List Int) × Int × Unit)
    have hp := PkS.un_pack h
    subst hp
    exact (eimpl_rising @impl_in @impl_rising_l2 n x0 x1 k).symm

/-! ### loop.example/g00269/impl.isSet -/
theorem cimpl_isSet (n : Nat) : AllOk Try.prog [(67, Kimpl_rising @impl_rising n)] := ⟨okimpl_rising n, trivial⟩
@[reducible] def Simpl_isSet : PkS := ⟨[.one (.ro (.int .i64))], []⟩
@[reducible] def Timpl_isSet : PkS := ⟨[.one (.bool), .one (.dead)], []⟩
def Himpl_isSet : List Sh := [.one .any, .skip]
def Kimpl_isSet (g : ∀ {R : Type}, Nat → (List Int) → (Bool → Option R) → Option R) (n : Nat) : KPs := fun R p k => match (PkS.un Simpl_isSet p : Option ((List Int) × Unit)) with
  | some (x0, _) => g n x0 (fun r0 => k (PkS.pack Timpl_isSet (r0, ())))
  | none => none
theorem eimpl_isSet (impl_rising : ∀ {R : Type}, Nat → (List Int) → Int → (Bool → Option R) → Option R) {R : Type} (n : Nat) (x0 : List Int) (k : Pk → Option R) : evF tt sig (mkK [(67, Kimpl_rising @impl_rising n)] R) (mkL (mkK [(67, Kimpl_rising @impl_rising n)]) [] R) Try.f46 Himpl_isSet (PkS.pack Simpl_isSet (x0, ())) k = (fun (k : Bool → Option R) => (impl_rising n x0 40 fun r1 => k r1)) (fun r0 => k (PkS.pack Timpl_isSet (r0, ()))) := by kernel_rfl
theorem okimpl_isSet (n : Nat) : FnOk Try.prog 46 (Kimpl_isSet @impl_isSet n) := by
  refine fn_ok (sig := sig) mixed ttok (mkK_nat (cimpl_isSet n)) (mkK_ok (cimpl_isSet n)) (mkL_nat (mkK_nat (cimpl_isSet n)) (l := []) trivial) (fn := Try.f46) (c := bodyOf Try.f46) (by kernel_rfl) (by kernel_rfl) (by kernel_rfl) (.eq (l := []) (by kernel_rfl) trivial) (shs := Himpl_isSet) (S := Simpl_isSet) fun R p k => ?_
  unfold Kimpl_isSet
  cases h : (PkS.un Simpl_isSet p) with
  | none => rfl
  | some d =>
    obtain ⟨x0, u⟩ := (d : (List Int) × Unit)
    have hp := PkS.un_pack h
    subst hp
    exact (eimpl_isSet @impl_rising n x0 k).symm

/-! ### loop.example/g00269/impl.GoodRules$1 -/
theorem cimpl_GoodRules_c1 (n : Nat) : AllOk Try.prog [(45, Kimpl_isFact @impl_isFact n), (46, Kimpl_isSet @impl_isSet n)] := ⟨okimpl_isFact n, ⟨okimpl_isSet n, trivial⟩⟩
@[reducible] def Simpl_GoodRules_c1 : PkS := ⟨[.agg [.int .i64, .ro (.int .i64)]], []⟩
@[reducible] def Timpl_GoodRules_c1 : PkS := ⟨[.one (.bool), .one (.dead)], []⟩
def Himpl_GoodRules_c1 : List Sh := [.one .any, .skip]
def Kimpl_GoodRules_c1 (g : ∀ {R : Type}, Nat → Int → (List Int) → (Bool → Option R) → Option R) (n : Nat) : KPs := fun R p k => match (PkS.un Simpl_GoodRules_c1 p : Option (Int × (List Int) × Unit)) with
  | some (x0, x1, _) => g n x0 x1 (fun r0 => k (PkS.pack Timpl_GoodRules_c1 (r0, ())))
  | none => none
theorem eimpl_GoodRules_c1 (impl_isFact : ∀ {R : Type}, Nat → Int → (Bool → Option R) → Option R) (impl_isSet : ∀ {R : Type}, Nat → (List Int) → (Bool → Option R) → Option R) {R : Type} (n : Nat) (x0 : Int) (x1 : List Int) (k : Pk → Option R) : evF tt sig (mkK [(45, Kimpl_isFact @impl_isFact n), (46, Kimpl_isSet @impl_isSet n)] R) (mkL (mkK [(45, Kimpl_isFact @impl_isFact n), (46, Kimpl_isSet @impl_isSet n)]) [] R) Try.f44 Himpl_GoodRules_c1 (PkS.pack Simpl_GoodRules_c1 (x0, x1, ())) k = (fun (k : Bool → Option R) => (impl_isFact n x0 fun r1 => (bif (!r1) then k true else (impl_isSet n x1 fun r2 => k (!r2))))) (fun r0 => k (PkS.pack Timpl_GoodRules_c1 (r0, ()))) := by kernel_rfl
theorem okimpl_GoodRules_c1 (n : Nat) : FnOk Try.prog 44 (Kimpl_GoodRules_c1 @impl_GoodRules_c1 n) := by
  refine fn_ok (sig := sig) mixed ttok (mkK_nat (cimpl_GoodRules_c1 n)) (mkK_ok (cimpl_GoodRules_c1 n)) (mkL_nat (mkK_nat (cimpl_GoodRules_c1 n)) (l := []) trivial) (fn := Try.f44) (c := bodyOf Try.f44) (by kernel_rfl) (by kernel_rfl) (by kernel_rfl) (.eq (l := []) (by kernel_rfl) trivial) (shs := Himpl_GoodRules_c1) (S := Simpl_GoodRules_c1) fun R p k => ?_
  unfold Kimpl_GoodRules_c1
  cases h : (PkS.un Simpl_GoodRules_c1 p) with
  | none => rfl
  | some d =>
    obtain ⟨x0, x1, u⟩ := (d : Int × (List Int) × Unit)
    have hp := PkS.un_pack h
    subst hp
    exact (eimpl_GoodRules_c1 @impl_isFact @impl_isSet n x0 x1 k).symm

/-! ### slices.IndexFunc[[]loop.example/g00269/impl.Rule,loop.example/g00269/impl.Rule] -/
theorem cslices_IndexFunc_impl_Rule_impl_GoodRules_c1 (n : Nat) : AllOk Try.prog [(44, Kimpl_GoodRules_c1 @impl_GoodRules_c1 n)] := ⟨okimpl_GoodRules_c1 n, trivial⟩
@[reducible] def Sslices_IndexFunc_impl_Rule_impl_GoodRules_c1_l2 : PkS := ⟨[.one (.ro (.pr (.int .i64) (.sl (.int .i64)))), .one (.fn 44 []), .one (.int .i64), .one (.int .i64), .one (.dead), .one (.fn 44 [])], []⟩
@[reducible] def Tslices_IndexFunc_impl_Rule_impl_GoodRules_c1_l2_0 : PkS := ⟨[.one (.int .i64), .one (.dead), .one (.fn 44 [])], []⟩
@[reducible] def Tslices_IndexFunc_impl_Rule_impl_GoodRules_c1_l2_1 : PkS := ⟨[.one (.dead), .one (.fn 44 [])], []⟩
def Dslices_IndexFunc_impl_Rule_impl_GoodRules_c1_l2 : LoopD := ⟨19, [0, 1, 7, 8], [.one (.ro (.pr (.int .i64) (.sl (.int .i64)))), .fn 44 [], .one .any, .one .any, .skip, .fn 44 []], fun x => match x with
  | .ret => some ([4], [.one .any, .skip, .fn 44 []])
  | .exit 0 => some ([], [.skip, .fn 44 []])
  | _ => none⟩
def Pslices_IndexFunc_impl_Rule_impl_GoodRules_c1_l2 (g : ∀ {R : Type}, Nat → (List (Int × List Int)) → Int → Int → (Int → Option R) → (Option R) → Option R) (n : Nat) : LPs := fun R q kk => match (PkS.un Sslices_IndexFunc_impl_Rule_impl_GoodRules_c1_l2 q : Option ((List (Int × List Int)) × Int × Int × Unit)) with
  | some (y2_0, y2_1, y2_2, _) => g n y2_0 y2_1 y2_2 (fun r0 => kk .ret (PkS.pack Tslices_IndexFunc_impl_Rule_impl_GoodRules_c1_l2_0 (r0, ()))) (kk (.exit 0) (PkS.pack Tslices_IndexFunc_impl_Rule_impl_GoodRules_c1_l2_1 ()))
  | none => none
theorem eslices_IndexFunc_impl_Rule_impl_GoodRules_c1_l2 (impl_GoodRules_c1 : ∀ {R : Type}, Nat → Int → (List Int) → (Bool → Option R) → Option R) (slices_IndexFunc_impl_Rule_impl_GoodRules_c1_l2 : ∀ {R : Type}, Nat → (List (Int × List Int)) → Int → Int → (Int → Option R) → (Option R) → Option R) {R : Type} (n : Nat) (y2_0 : List (Int × List Int)) (y2_1 : Int) (y2_2 : Int) (kk : Ex → Pk → Option R) : Dslices_IndexFunc_impl_Rule_impl_GoodRules_c1_l2.step tt sig (mkK [(44, Kimpl_GoodRules_c1 @impl_GoodRules_c1 n)] R) (mkL (mkK [(44, Kimpl_GoodRules_c1 @impl_GoodRules_c1 n)]) [] R) (loopIn 2 (bodyOf Try.f65)) (fun q' => Pslices_IndexFunc_impl_Rule_impl_GoodRules_c1_l2 @slices_IndexFunc_impl_Rule_impl_GoodRules_c1_l2 n R q' kk) (PkS.pack Sslices_IndexFunc_impl_Rule_impl_GoodRules_c1_l2 (y2_0, y2_1, y2_2, ())) kk = (fun (kret : Int → Option R) (kexit0 : Option R) => (bif (decide (y2_2 < y2_1)) then (bif decide (0 ≤ y2_2) then (bif decide (y2_2 < (y2_0.length : Int)) then (impl_GoodRules_c1 n ((y2_0.getD (Int.toNat y2_2) (0, [])).1) ((y2_0.getD (Int.toNat y2_2) (0, [])).2) fun r1 => (bif r1 then kret y2_2 else slices_IndexFunc_impl_Rule_impl_GoodRules_c1_l2 n y2_0 y2_1 (IntKind.wrap .i64 (y2_2 + 1)) kret kexit0)) else none) else none) else kexit0)) (fun r0 => kk .ret (PkS.pack Tslices_IndexFunc_impl_Rule_impl_GoodRules_c1_l2_0 (r0, ()))) (kk (.exit 0) (PkS.pack Tslices_IndexFunc_impl_Rule_impl_GoodRules_c1_l2_1 ())) := by kernel_rfl
theorem leslices_IndexFunc_impl_Rule_impl_GoodRules_c1_l2 : LoopEq tt sig (fun n => mkK [(44, Kimpl_GoodRules_c1 @impl_GoodRules_c1 n)]) (fun n => mkL (mkK [(44, Kimpl_GoodRules_c1 @impl_GoodRules_c1 n)]) []) Dslices_IndexFunc_impl_Rule_impl_GoodRules_c1_l2 Sslices_IndexFunc_impl_Rule_impl_GoodRules_c1_l2 (loopIn 2 (bodyOf Try.f65)) (Pslices_IndexFunc_impl_Rule_impl_GoodRules_c1_l2 @slices_IndexFunc_impl_Rule_impl_GoodRules_c1_l2) where
  zero R q kk := by unfold Pslices_IndexFunc_impl_Rule_impl_GoodRules_c1_l2; cases (PkS.un Sslices_IndexFunc_impl_Rule_impl_GoodRules_c1_l2 q) <;> rfl
  succ n R q kk := by
    unfold Pslices_IndexFunc_impl_Rule_impl_GoodRules_c1_l2
    cases h : (PkS.un Sslices_IndexFunc_impl_Rule_impl_GoodRules_c1_l2 q) with
    | none => rfl
    | some d =>
      obtain ⟨y2_0, y2_1, y2_2, u⟩ := (d : (List (Int × List Int)) × Int × Int × Unit)
      have hp := PkS.un_pack h
      subst hp
      exact (eslices_IndexFunc_impl_Rule_impl_GoodRules_c1_l2 @impl_GoodRules_c1 @slices_IndexFunc_impl_Rule_impl_GoodRules_c1_l2 n y2_0 y2_1 y2_2 kk).symm
theorem nlslices_IndexFunc_impl_Rule_impl_GoodRules_c1_l2 : ∀ n, NatLP (Pslices_IndexFunc_impl_Rule_impl_GoodRules_c1_l2 @slices_IndexFunc_impl_Rule_impl_GoodRules_c1_l2 n) := leslices_IndexFunc_impl_Rule_impl_GoodRules_c1_l2.nat (fun n => mkK_nat (cslices_IndexFunc_impl_Rule_impl_GoodRules_c1 n)) fun n => mkL_nat (mkK_nat (cslices_IndexFunc_impl_Rule_impl_GoodRules_c1 n)) (l := []) trivial
theorem inslices_IndexFunc_impl_Rule_impl_GoodRules_c1_l2 (n : Nat) (R : Type) : LoopsOk Try.prog (mkL (mkK [(44, Kimpl_GoodRules_c1 @impl_GoodRules_c1 n)]) [] R) (loopIn 2 (bodyOf Try.f65)) := .eq (l := []) (by kernel_rfl) trivial
theorem lkslices_IndexFunc_impl_Rule_impl_GoodRules_c1_l2 (n : Nat) (R : Type) (L0 : LK R) (h0 : ∀ id, firstRegion (loopIn 2 (bodyOf Try.f65)) = some id → L0 id = Dslices_IndexFunc_impl_Rule_impl_GoodRules_c1_l2.oracle (mkK [(44, Kimpl_GoodRules_c1 @impl_GoodRules_c1 n)] R) (Pslices_IndexFunc_impl_Rule_impl_GoodRules_c1_l2 @slices_IndexFunc_impl_Rule_impl_GoodRules_c1_l2 n R)) : LoopOk Try.prog L0 (loopIn 2 (bodyOf Try.f65)) :=
  leslices_IndexFunc_impl_Rule_impl_GoodRules_c1_l2.ok mixed ttok (fun n => mkK_nat (cslices_IndexFunc_impl_Rule_impl_GoodRules_c1 n)) (fun n => mkK_ok (cslices_IndexFunc_impl_Rule_impl_GoodRules_c1 n)) (fun n => inslices_IndexFunc_impl_Rule_impl_GoodRules_c1_l2 n R) (mkK_nat (cslices_IndexFunc_impl_Rule_impl_GoodRules_c1 n)) h0
@[reducible] def Sslices_IndexFunc_impl_Rule_impl_GoodRules_c1 : PkS := ⟨[.one (.ro (.pr (.int .i64) (.sl (.int .i64)))), .one (.fn 44 [])], []⟩
@[reducible] def Tslices_IndexFunc_impl_Rule_impl_GoodRules_c1 : PkS := ⟨[.one (.int .i64), .one (.dead), .one (.fn 44 [])], []⟩
def Hslices_IndexFunc_impl_Rule_impl_GoodRules_c1 : List Sh := [.one .any, .skip, .fn 44 []]
def Kslices_IndexFunc_impl_Rule_impl_GoodRules_c1 (g : ∀ {R : Type}, Nat → (List (Int × List Int)) → (Int → Option R) → Option R) (n : Nat) : KPs := fun R p k => match (PkS.un Sslices_IndexFunc_impl_Rule_impl_GoodRules_c1 p : Option ((List (Int × List Int)) × Unit)) with
  | some (x0, _) => g n x0 (fun r0 => k (PkS.pack Tslices_IndexFunc_impl_Rule_impl_GoodRules_c1 (r0, ())))
  | none => none
theorem eslices_IndexFunc_impl_Rule_impl_GoodRules_c1 (impl_GoodRules_c1 : ∀ {R : Type}, Nat → Int → (List Int) → (Bool → Option R) → Option R) (slices_IndexFunc_impl_Rule_impl_GoodRules_c1_l2 : ∀ {R : Type}, Nat → (List (Int × List Int)) → Int → Int → (Int → Option R) → (Option R) → Option R) {R : Type} (n : Nat) (x0 : List (Int × List Int)) (k : Pk → Option R) : evF tt sig (mkK [(44, Kimpl_GoodRules_c1 @impl_GoodRules_c1 n)] R) (mkL (mkK [(44, Kimpl_GoodRules_c1 @impl_GoodRules_c1 n)]) [(2, Dslices_IndexFunc_impl_Rule_impl_GoodRules_c1_l2, Pslices_IndexFunc_impl_Rule_impl_GoodRules_c1_l2 @slices_IndexFunc_impl_Rule_impl_GoodRules_c1_l2 n)] R) Try.f65 Hslices_IndexFunc_impl_Rule_impl_GoodRules_c1 (PkS.pack Sslices_IndexFunc_impl_Rule_impl_GoodRules_c1 (x0, ())) k = (fun (k : Int → Option R) => (slices_IndexFunc_impl_Rule_impl_GoodRules_c1_l2 n x0 (x0.length : Int) 0 (fun r2 => k r2) (k (-1)))) (fun r0 => k (PkS.pack Tslices_IndexFunc_impl_Rule_impl_GoodRules_c1 (r0, ()))) := by kernel_rfl
theorem okslices_IndexFunc_impl_Rule_impl_GoodRules_c1 (n : Nat) : FnOk Try.prog 65 (Kslices_IndexFunc_impl_Rule_impl_GoodRules_c1 @slices_IndexFunc_impl_Rule_impl_GoodRules_c1 n) := by
  refine fn_ok (sig := sig) mixed ttok (mkK_nat (cslices_IndexFunc_impl_Rule_impl_GoodRules_c1 n)) (mkK_ok (cslices_IndexFunc_impl_Rule_impl_GoodRules_c1 n)) (mkL_nat (mkK_nat (cslices_IndexFunc_impl_Rule_impl_GoodRules_c1 n)) (l := [(2, Dslices_IndexFunc_impl_Rule_impl_GoodRules_c1_l2, Pslices_IndexFunc_impl_Rule_impl_GoodRules_c1_l2 @slices_IndexFunc_impl_Rule_impl_GoodRules_c1_l2 n)]) ⟨nlslices_IndexFunc_impl_Rule_impl_GoodRules_c1_l2 n, trivial⟩) (fn := Try.f65) (c := bodyOf Try.f65) (by kernel_rfl) (by kernel_rfl) (by kernel_rfl) (.eq (l := [loopIn 2 (bodyOf Try.f65)]) (by kernel_rfl) ⟨(lkslices_IndexFunc_impl_Rule_impl_GoodRules_c1_l2 n _ _ (at_id (i := 2) (by kernel_rfl) rfl)), trivial⟩) (shs := Hslices_IndexFunc_impl_Rule_impl_GoodRules_c1) (S := Sslices_IndexFunc_impl_Rule_impl_GoodRules_c1) fun R p k => ?_
  unfold Kslices_IndexFunc_impl_Rule_impl_GoodRules_c1
  cases h : (PkS.un Sslices_IndexFunc_impl_Rule_impl_GoodRules_c1 p) with
  | none => rfl
  | some d =>
    obtain ⟨x0, u⟩ := (d : (List (Int × List Int)) × Unit)
    have hp := PkS.un_pack h
    subst hp
    exact (eslices_IndexFunc_impl_Rule_impl_GoodRules_c1 @impl_GoodRules_c1 @slices_IndexFunc_impl_Rule_impl_GoodRules_c1_l2 n x0 k).symm

/-! ### slices.ContainsFunc[[]loop.example/g00269/impl.Rule,loop.example/g00269/impl.Rule] -/
theorem cslices_ContainsFunc_impl_Rule_impl_GoodRules_c1 (n : Nat) : AllOk Try.prog [(65, Kslices_IndexFunc_impl_Rule_impl_GoodRules_c1 @slices_IndexFunc_impl_Rule_impl_GoodRules_c1 n)] := ⟨okslices_IndexFunc_impl_Rule_impl_GoodRules_c1 n, trivial⟩
@[reducible] def Sslices_ContainsFunc_impl_Rule_impl_GoodRules_c1 : PkS := ⟨[.one (.ro (.pr (.int .i64) (.sl (.int .i64)))), .one (.fn 44 [])], []⟩
@[reducible] def Tslices_ContainsFunc_impl_Rule_impl_GoodRules_c1 : PkS := ⟨[.one (.bool), .one (.dead), .one (.fn 44 [])], []⟩
def Hslices_ContainsFunc_impl_Rule_impl_GoodRules_c1 : List Sh := [.one .any, .skip, .fn 44 []]
def Kslices_ContainsFunc_impl_Rule_impl_GoodRules_c1 (g : ∀ {R : Type}, Nat → (List (Int × List Int)) → (Bool → Option R) → Option R) (n : Nat) : KPs := fun R p k => match (PkS.un Sslices_ContainsFunc_impl_Rule_impl_GoodRules_c1 p : Option ((List (Int × List Int)) × Unit)) with
  | some (x0, _) => g n x0 (fun r0 => k (PkS.pack Tslices_ContainsFunc_impl_Rule_impl_GoodRules_c1 (r0, ())))
  | none => none
theorem eslices_ContainsFunc_impl_Rule_impl_GoodRules_c1 (slices_IndexFunc_impl_Rule_impl_GoodRules_c1 : ∀ {R : Type}, Nat → (List (Int × List Int)) → (Int → Option R) → Option R) {R : Type} (n : Nat) (x0 : List (Int × List Int)) (k : Pk → Option R) : evF tt sig (mkK [(65, Kslices_IndexFunc_impl_Rule_impl_GoodRules_c1 @slices_IndexFunc_impl_Rule_impl_GoodRules_c1 n)] R) (mkL (mkK [(65, Kslices_IndexFunc_impl_Rule_impl_GoodRules_c1 @slices_IndexFunc_impl_Rule_impl_GoodRules_c1 n)]) [] R) Try.f43 Hslices_ContainsFunc_impl_Rule_impl_GoodRules_c1 (PkS.pack Sslices_ContainsFunc_impl_Rule_impl_GoodRules_c1 (x0, ())) k = (fun (k : Bool → Option R) => (slices_IndexFunc_impl_Rule_impl_GoodRules_c1 n x0 fun r1 => k (decide (r1 ≥ 0)))) (fun r0 => k (PkS.pack Tslices_ContainsFunc_impl_Rule_impl_GoodRules_c1 (r0, ()))) := by kernel_rfl
theorem okslices_ContainsFunc_impl_Rule_impl_GoodRules_c1 (n : Nat) : FnOk Try.prog 43 (Kslices_ContainsFunc_impl_Rule_impl_GoodRules_c1 @slices_ContainsFunc_impl_Rule_impl_GoodRules_c1 n) := by
  refine fn_ok (sig := sig) mixed ttok (mkK_nat (cslices_ContainsFunc_impl_Rule_impl_GoodRules_c1 n)) (mkK_ok (cslices_ContainsFunc_impl_Rule_impl_GoodRules_c1 n)) (mkL_nat (mkK_nat (cslices_ContainsFunc_impl_Rule_impl_GoodRules_c1 n)) (l := []) trivial) (fn := Try.f43) (c := bodyOf Try.f43) (by kernel_rfl) (by kernel_rfl) (by kernel_rfl) (.eq (l := []) (by kernel_rfl) trivial) (shs := Hslices_ContainsFunc_impl_Rule_impl_GoodRules_c1) (S := Sslices_ContainsFunc_impl_Rule_impl_GoodRules_c1) fun R p k => ?_
  unfold Kslices_ContainsFunc_impl_Rule_impl_GoodRules_c1
  cases h : (PkS.un Sslices_ContainsFunc_impl_Rule_impl_GoodRules_c1 p) with
  | none => rfl
  | some d =>
    obtain ⟨x0, u⟩ := (d : (List (Int × List Int)) × Unit)
    have hp := PkS.un_pack h
    subst hp
    exact (eslices_ContainsFunc_impl_Rule_impl_GoodRules_c1 @slices_IndexFunc_impl_Rule_impl_GoodRules_c1 n x0 k).symm

/-! ### loop.example/g00269/impl.GoodRules -/
theorem cimpl_GoodRules (n : Nat) : AllOk Try.prog [(43, Kslices_ContainsFunc_impl_Rule_impl_GoodRules_c1 @slices_ContainsFunc_impl_Rule_impl_GoodRules_c1 n)] := ⟨okslices_ContainsFunc_impl_Rule_impl_GoodRules_c1 n, trivial⟩
@[reducible] def Simpl_GoodRules : PkS := ⟨[.one (.ro (.pr (.int .i64) (.sl (.int .i64))))], []⟩
@[reducible] def Timpl_GoodRules : PkS := ⟨[.one (.bool), .one (.dead)], []⟩
def Himpl_GoodRules : List Sh := [.one .any, .skip]
def Kimpl_GoodRules (g : ∀ {R : Type}, Nat → (List (Int × List Int)) → (Bool → Option R) → Option R) (n : Nat) : KPs := fun R p k => match (PkS.un Simpl_GoodRules p : Option ((List (Int × List Int)) × Unit)) with
  | some (x0, _) => g n x0 (fun r0 => k (PkS.pack Timpl_GoodRules (r0, ())))
  | none => none
theorem eimpl_GoodRules (slices_ContainsFunc_impl_Rule_impl_GoodRules_c1 : ∀ {R : Type}, Nat → (List (Int × List Int)) → (Bool → Option R) → Option R) {R : Type} (n : Nat) (x0 : List (Int × List Int)) (k : Pk → Option R) : evF tt sig (mkK [(43, Kslices_ContainsFunc_impl_Rule_impl_GoodRules_c1 @slices_ContainsFunc_impl_Rule_impl_GoodRules_c1 n)] R) (mkL (mkK [(43, Kslices_ContainsFunc_impl_Rule_impl_GoodRules_c1 @slices_ContainsFunc_impl_Rule_impl_GoodRules_c1 n)]) [] R) Try.f15 Himpl_GoodRules (PkS.pack Simpl_GoodRules (x0, ())) k = (fun (k : Bool → Option R) => (bif (decide ((x0.length : Int) ≤ 60)) then (slices_ContainsFunc_impl_Rule_impl_GoodRules_c1 n x0 fun r1 => k (!r1)) else k false)) (fun r0 => k (PkS.pack Timpl_GoodRules (r0, ()))) := by kernel_rfl
theorem okimpl_GoodRules (n : Nat) : FnOk Try.prog 15 (Kimpl_GoodRules @impl_GoodRules n) := by
  refine fn_ok (sig := sig) mixed ttok (mkK_nat (cimpl_GoodRules n)) (mkK_ok (cimpl_GoodRules n)) (mkL_nat (mkK_nat (cimpl_GoodRules n)) (l := []) trivial) (fn := Try.f15) (c := bodyOf Try.f15) (by kernel_rfl) (by kernel_rfl) (by kernel_rfl) (.eq (l := []) (by kernel_rfl) trivial) (shs := Himpl_GoodRules) (S := Simpl_GoodRules) fun R p k => ?_
  unfold Kimpl_GoodRules
  cases h : (PkS.un Simpl_GoodRules p) with
  | none => rfl
  | some d =>
    obtain ⟨x0, u⟩ := (d : (List (Int × List Int)) × Unit)
    have hp := PkS.un_pack h
    subst hp
    exact (eimpl_GoodRules @slices_ContainsFunc_impl_Rule_impl_GoodRules_c1 n x0 k).symm

/-! ### loop.example/g00269/impl.rulesOk -/
theorem cimpl_rulesOk (n : Nat) : AllOk Try.prog [(15, Kimpl_GoodRules @impl_GoodRules n), (46, Kimpl_isSet @impl_isSet n)] := ⟨okimpl_GoodRules n, ⟨okimpl_isSet n, trivial⟩⟩
@[reducible] def Simpl_rulesOk : PkS := ⟨[.one (.ro (.pr (.int .i64) (.sl (.int .i64)))), .one (.ro (.int .i64))], []⟩
@[reducible] def Timpl_rulesOk : PkS := ⟨[.one (.bool), .one (.dead), .one (.dead)], []⟩
def Himpl_rulesOk : List Sh := [.one .any, .skip, .skip]
def Kimpl_rulesOk (g : ∀ {R : Type}, Nat → (List (Int × List Int)) → (List Int) → (Bool → Option R) → Option R) (n : Nat) : KPs := fun R p k => match (PkS.un Simpl_rulesOk p : Option ((List (Int × List Int)) × (List Int) × Unit)) with
  | some (x0, x1, _) => g n x0 x1 (fun r0 => k (PkS.pack Timpl_rulesOk (r0, ())))
  | none => none
theorem eimpl_rulesOk (impl_GoodRules : ∀ {R : Type}, Nat → (List (Int × List Int)) → (Bool → Option R) → Option R) (impl_isSet : ∀ {R : Type}, Nat → (List Int) → (Bool → Option R) → Option R) {R : Type} (n : Nat) (x0 : List (Int × List Int)) (x1 : List Int) (k : Pk → Option R) : evF tt sig (mkK [(15, Kimpl_GoodRules @impl_GoodRules n), (46, Kimpl_isSet @impl_isSet n)] R) (mkL (mkK [(15, Kimpl_GoodRules @impl_GoodRules n), (46, Kimpl_isSet @impl_isSet n)]) [] R) Try.f50 Himpl_rulesOk (PkS.pack Simpl_rulesOk (x0, x1, ())) k = (fun (k : Bool → Option R) => (impl_GoodRules n x0 fun r1 => (bif r1 then (impl_isSet n x1 fun r2 => k r2) else k false))) (fun r0 => k (PkS.pack Timpl_rulesOk (r0, ()))) := by kernel_rfl
theorem okimpl_rulesOk (n : Nat) : FnOk Try.prog 50 (Kimpl_rulesOk @impl_rulesOk n) := by
  refine fn_ok (sig := sig) mixed ttok (mkK_nat (cimpl_rulesOk n)) (mkK_ok (cimpl_rulesOk n)) (mkL_nat (mkK_nat (cimpl_rulesOk n)) (l := []) trivial) (fn := Try.f50) (c := bodyOf Try.f50) (by kernel_rfl) (by kernel_rfl) (by kernel_rfl) (.eq (l := []) (by kernel_rfl) trivial) (shs := Himpl_rulesOk) (S := Simpl_rulesOk) fun R p k => ?_
  unfold Kimpl_rulesOk
  cases h : (PkS.un Simpl_rulesOk p) with
  | none => rfl
  | some d =>
    obtain ⟨x0, x1, u⟩ := (d : (List (Int × List Int)) × (List Int) × Unit)
    have hp := PkS.un_pack h
    subst hp
    exact (eimpl_rulesOk @impl_GoodRules @impl_isSet n x0 x1 k).symm

/-! ### slices.Index[[]int,int] -/
theorem cslices_Index_int (n : Nat) : AllOk Try.prog [] := trivial
@[reducible] def Sslices_Index_int_l2 : PkS := ⟨[.one (.ro (.int .i64)), .one (.int .i64), .one (.int .i64), .one (.int .i64), .one (.dead), .one (.dead)], []⟩
@[reducible] def Tslices_Index_int_l2_0 : PkS := ⟨[.one (.int .i64), .one (.dead), .one (.dead)], []⟩
@[reducible] def Tslices_Index_int_l2_1 : PkS := ⟨[.one (.dead), .one (.dead)], []⟩
def Dslices_Index_int_l2 : LoopD := ⟨19, [0, 1, 7, 8], [.one (.ro (.int .i64)), .one .any, .one .any, .one .any, .skip, .skip], fun x => match x with
  | .ret => some ([4], [.one .any, .skip, .skip])
  | .exit 0 => some ([], [.skip, .skip])
  | _ => none⟩
def Pslices_Index_int_l2 (g : ∀ {R : Type}, Nat → (List Int) → Int → Int → Int → (Int → Option R) → (Option R) → Option R) (n : Nat) : LPs := fun R q kk => match (PkS.un Sslices_Index_int_l2 q : Option ((List Int) × Int × Int × Int × Unit)) with
  | some (y2_0, y2_1, y2_2, y2_3, _) => g n y2_0 y2_1 y2_2 y2_3 (fun r0 => kk .ret (PkS.pack Tslices_Index_int_l2_0 (r0, ()))) (kk (.exit 0) (PkS.pack Tslices_Index_int_l2_1 ()))
  | none => none
theorem eslices_Index_int_l2 (slices_Index_int_l2 : ∀ {R : Type}, Nat → (List Int) → Int → Int → Int → (Int → Option R) → (Option R) → Option R) {R : Type} (n : Nat) (y2_0 : List Int) (y2_1 : Int) (y2_2 : Int) (y2_3 : Int) (kk : Ex → Pk → Option R) : Dslices_Index_int_l2.step tt sig (mkK [] R) (mkL (mkK []) [] R) (loopIn 2 (bodyOf Try.f70)) (fun q' => Pslices_Index_int_l2 @slices_Index_int_l2 n R q' kk) (PkS.pack Sslices_Index_int_l2 (y2_0, y2_1, y2_2, y2_3, ())) kk = (fun (kret : Int → Option R) (kexit0 : Option R) => (bif (decide (y2_3 < y2_2)) then (bif decide (0 ≤ y2_3) then (bif decide (y2_3 < (y2_0.length : Int)) then (bif (y2_1 == (y2_0.getD (Int.toNat y2_3) 0)) then kret y2_3 else slices_Index_int_l2 n y2_0 y2_1 y2_2 (IntKind.wrap .i64 (y2_3 + 1)) kret kexit0) else none) else none) else kexit0)) (fun r0 => kk .ret (PkS.pack Tslices_Index_int_l2_0 (r0, ()))) (kk (.exit 0) (PkS.pack Tslices_Index_int_l2_1 ())) := by kernel_rfl
theorem leslices_Index_int_l2 : LoopEq tt sig (fun n => mkK []) (fun n => mkL (mkK []) []) Dslices_Index_int_l2 Sslices_Index_int_l2 (loopIn 2 (bodyOf Try.f70)) (Pslices_Index_int_l2 @slices_Index_int_l2) where
  zero R q kk := by unfold Pslices_Index_int_l2; cases (PkS.un Sslices_Index_int_l2 q) <;> rfl
  succ n R q kk := by
    unfold Pslices_Index_int_l2
    cases h : (PkS.un Sslices_Index_int_l2 q) with
    | none => rfl
    | some d =>
      obtain ⟨y2_0, y2_1, y2_2, y2_3, u⟩ := (d : (List Int) × Int × Int × Int × Unit)
      have hp := PkS.un_pack h
      subst hp
      exact (eslices_Index_int_l2 @slices_Index_int_l2 n y2_0 y2_1 y2_2 y2_3 kk).symm
theorem nlslices_Index_int_l2 : ∀ n, NatLP (Pslices_Index_int_l2 @slices_Index_int_l2 n) := leslices_Index_int_l2.nat (fun n => mkK_nat (cslices_Index_int n)) fun n => mkL_nat (mkK_nat (cslices_Index_int n)) (l := []) trivial
theorem inslices_Index_int_l2 (n : Nat) (R : Type) : LoopsOk Try.prog (mkL (mkK []) [] R) (loopIn 2 (bodyOf Try.f70)) := .eq (l := []) (by kernel_rfl) trivial
theorem lkslices_Index_int_l2 (n : Nat) (R : Type) (L0 : LK R) (h0 : ∀ id, firstRegion (loopIn 2 (bodyOf Try.f70)) = some id → L0 id = Dslices_Index_int_l2.oracle (mkK [] R) (Pslices_Index_int_l2 @slices_Index_int_l2 n R)) : LoopOk Try.prog L0 (loopIn 2 (bodyOf Try.f70)) :=
  leslices_Index_int_l2.ok mixed ttok (fun n => mkK_nat (cslices_Index_int n)) (fun n => mkK_ok (cslices_Index_int n)) (fun n => inslices_Index_int_l2 n R) (mkK_nat (cslices_Index_int n)) h0
@[reducible] def Sslices_Index_int : PkS := ⟨[.one (.ro (.int .i64)), .one (.int .i64)], []⟩
@[reducible] def Tslices_Index_int : PkS := ⟨[.one (.int .i64), .one (.dead), .one (.dead)], []⟩
def Hslices_Index_int : List Sh := [.one .any, .skip, .skip]
def Kslices_Index_int (g : ∀ {R : Type}, Nat → (List Int) → Int → (Int → Option R) → Option R) (n : Nat) : KPs := fun R p k => match (PkS.un Sslices_Index_int p : Option ((List Int) × Int × Unit)) with
  | some (x0, x1, _) => g n x0 x1 (fun r0 => k (PkS.pack Tslices_Index_int (r0, ())))
  | none => none
theorem eslices_Index_int (slices_Index_int_l2 : ∀ {R : Type}, Nat → (List Int) → Int → Int → Int → (Int → Option R) → (Option R) → Option R) {R : Type} (n : Nat) (x0 : List Int) (x1 : Int) (k : Pk → Option R) : evF tt sig (mkK [] R) (mkL (mkK []) [(2, Dslices_Index_int_l2, Pslices_Index_int_l2 @slices_Index_int_l2 n)] R) Try.f70 Hslices_Index_int (PkS.pack Sslices_Index_int (x0, x1, ())) k = (fun (k : Int → Option R) => (slices_Index_int_l2 n x0 x1 (x0.length : Int) 0 (fun r1 => k r1) (k (-1)))) (fun r0 => k (PkS.pack Tslices_Index_int (r0, ()))) := by kernel_rfl
theorem okslices_Index_int (n : Nat) : FnOk Try.prog 70 (Kslices_Index_int @slices_Index_int n) := by
  refine fn_ok (sig := sig) mixed ttok (mkK_nat (cslices_Index_int n)) (mkK_ok (cslices_Index_int n)) (mkL_nat (mkK_nat (cslices_Index_int n)) (l := [(2, Dslices_Index_int_l2, Pslices_Index_int_l2 @slices_Index_int_l2 n)]) ⟨nlslices_Index_int_l2 n, trivial⟩) (fn := Try.f70) (c := bodyOf Try.f70) (by kernel_rfl) (by kernel_rfl) (by kernel_rfl) (.eq (l := [loopIn 2 (bodyOf Try.f70)]) (by kernel_rfl) ⟨(lkslices_Index_int_l2 n _ _ (at_id (i := 2) (by kernel_rfl) rfl)), trivial⟩) (shs := Hslices_Index_int) (S := Sslices_Index_int) fun R p k => ?_
  unfold Kslices_Index_int
  cases h : (PkS.un Sslices_Index_int p) with
  | none => rfl
  | some d =>
    obtain ⟨x0, x1, u⟩ := (d : (List Int) × Int × Unit)
    have hp := PkS.un_pack h
    subst hp
    exact (eslices_Index_int @slices_Index_int_l2 n x0 x1 k).symm

/-! ### slices.Contains[[]int,int] -/
theorem cslices_Contains_int (n : Nat) : AllOk Try.prog [(70, Kslices_Index_int @slices_Index_int n)] := ⟨okslices_Index_int n, trivial⟩
@[reducible] def Sslices_Contains_int : PkS := ⟨[.one (.ro (.int .i64)), .one (.int .i64)], []⟩
@[reducible] def Tslices_Contains_int : PkS := ⟨[.one (.bool), .one (.dead), .one (.dead)], []⟩
def Hslices_Contains_int : List Sh := [.one .any, .skip, .skip]
def Kslices_Contains_int (g : ∀ {R : Type}, Nat → (List Int) → Int → (Bool → Option R) → Option R) (n : Nat) : KPs := fun R p k => match (PkS.un Sslices_Contains_int p : Option ((List Int) × Int × Unit)) with
  | some (x0, x1, _) => g n x0 x1 (fun r0 => k (PkS.pack Tslices_Contains_int (r0, ())))
  | none => none
theorem eslices_Contains_int (slices_Index_int : ∀ {R : Type}, Nat → (List Int) → Int → (Int → Option R) → Option R) {R : Type} (n : Nat) (x0 : List Int) (x1 : Int) (k : Pk → Option R) : evF tt sig (mkK [(70, Kslices_Index_int @slices_Index_int n)] R) (mkL (mkK [(70, Kslices_Index_int @slices_Index_int n)]) [] R) Try.f53 Hslices_Contains_int (PkS.pack Sslices_Contains_int (x0, x1, ())) k = (fun (k : Bool → Option R) => (slices_Index_int n x0 x1 fun r1 => k (decide (r1 ≥ 0)))) (fun r0 => k (PkS.pack Tslices_Contains_int (r0, ()))) := by kernel_rfl
theorem okslices_Contains_int (n : Nat) : FnOk Try.prog 53 (Kslices_Contains_int @slices_Contains_int n) := by
  refine fn_ok (sig := sig) mixed ttok (mkK_nat (cslices_Contains_int n)) (mkK_ok (cslices_Contains_int n)) (mkL_nat (mkK_nat (cslices_Contains_int n)) (l := []) trivial) (fn := Try.f53) (c := bodyOf Try.f53) (by kernel_rfl) (by kernel_rfl) (by kernel_rfl) (.eq (l := []) (by kernel_rfl) trivial) (shs := Hslices_Contains_int) (S := Sslices_Contains_int) fun R p k => ?_
  unfold Kslices_Contains_int
  cases h : (PkS.un Sslices_Contains_int p) with
  | none => rfl
  | some d =>
    obtain ⟨x0, x1, u⟩ := (d : (List Int) × Int × Unit)
    have hp := PkS.un_pack h
    subst hp
    exact (eslices_Contains_int @slices_Index_int n x0 x1 k).symm

/-! ### loop.example/g00269/impl.contains$1 -/
theorem cimpl_contains_c1 (n : Nat) : AllOk Try.prog [(53, Kslices_Contains_int @slices_Contains_int n)] := ⟨okslices_Contains_int n, trivial⟩
@[reducible] def Simpl_contains_c1 : PkS := ⟨[.one (.int .i64), .one (.box (200000, 0) 0)], [((200000, 0), .box [.ro (.int .i64)])]⟩
@[reducible] def Timpl_contains_c1 : PkS := ⟨[.one (.bool), .one (.dead), .one (.box (300000, 0) 0)], [((300000, 0), .box [.ro (.int .i64)])]⟩
def Himpl_contains_c1 : List Sh := [.one .any, .skip, .box [(.ro (.int .i64))]]
def Kimpl_contains_c1 (g : ∀ {R : Type}, Nat → Int → (List Int) → (Bool → (List Int) → Option R) → Option R) (n : Nat) : KPs := fun R p k => match (PkS.un Simpl_contains_c1 p : Option (Int × (List Int) × Unit)) with
  | some (x0, x1, _) => g n x0 x1 (fun r0 r1 => k (PkS.pack Timpl_contains_c1 (r0, r1, ())))
  | none => none
theorem eimpl_contains_c1 (slices_Contains_int : ∀ {R : Type}, Nat → (List Int) → Int → (Bool → Option R) → Option R) {R : Type} (n : Nat) (x0 : Int) (x1 : List Int) (k : Pk → Option R) : evF tt sig (mkK [(53, Kslices_Contains_int @slices_Contains_int n)] R) (mkL (mkK [(53, Kslices_Contains_int @slices_Contains_int n)]) [] R) Try.f69 Himpl_contains_c1 (PkS.pack Simpl_contains_c1 (x0, x1, ())) k = (fun (k : Bool → (List Int) → Option R) => (slices_Contains_int n x1 x0 fun r1 => k (!r1) x1)) (fun r0 r1 => k (PkS.pack Timpl_contains_c1 (r0, r1, ()))) := by kernel_rfl
theorem okimpl_contains_c1 (n : Nat) : FnOk Try.prog 69 (Kimpl_contains_c1 @impl_contains_c1 n) := by
  refine fn_ok (sig := sig) mixed ttok (mkK_nat (cimpl_contains_c1 n)) (mkK_ok (cimpl_contains_c1 n)) (mkL_nat (mkK_nat (cimpl_contains_c1 n)) (l := []) trivial) (fn := Try.f69) (c := bodyOf Try.f69) (by kernel_rfl) (by kernel_rfl) (by kernel_rfl) (.eq (l := []) (by kernel_rfl) trivial) (shs := Himpl_contains_c1) (S := Simpl_contains_c1) fun R p k => ?_
  unfold Kimpl_contains_c1
  cases h : (PkS.un Simpl_contains_c1 p) with
  | none => rfl
  | some d =>
    obtain ⟨x0, x1, u⟩ := (d : Int × (List Int) × Unit)
    have hp := PkS.un_pack h
    subst hp
    exact (eimpl_contains_c1 @slices_Contains_int n x0 x1 k).symm

/-! ### slices.IndexFunc[[]int,int] -/
theorem cslices_IndexFunc_int_impl_contains_c1 (n : Nat) : AllOk Try.prog [(69, Kimpl_contains_c1 @impl_contains_c1 n)] := ⟨okimpl_contains_c1 n, trivial⟩
@[reducible] def Sslices_IndexFunc_int_impl_contains_c1_l2 : PkS := ⟨[.one (.ro (.int .i64)), .one (.fn 69 [((100000, 0), 0)]), .one (.int .i64), .one (.int .i64), .one (.dead), .one (.fn 69 [((100000, 0), 0)])], [((100000, 0), .box [.ro (.int .i64)])]⟩
@[reducible] def Tslices_IndexFunc_int_impl_contains_c1_l2_0 : PkS := ⟨[.one (.int .i64), .one (.dead), .one (.fn 69 [((100000, 0), 0)])], [((100000, 0), .box [.ro (.int .i64)])]⟩
@[reducible] def Tslices_IndexFunc_int_impl_contains_c1_l2_1 : PkS := ⟨[.one (.dead), .one (.fn 69 [((100000, 0), 0)])], [((100000, 0), .box [.ro (.int .i64)])]⟩
def Dslices_IndexFunc_int_impl_contains_c1_l2 : LoopD := ⟨19, [0, 1, 7, 8], [.one (.ro (.int .i64)), .fn 69 [[(.ro (.int .i64))]], .one .any, .one .any, .skip, .fn 69 [[(.ro (.int .i64))]]], fun x => match x with
  | .ret => some ([4], [.one .any, .skip, .fn 69 [[(.ro (.int .i64))]]])
  | .exit 0 => some ([], [.skip, .fn 69 [[(.ro (.int .i64))]]])
  | _ => none⟩
def Pslices_IndexFunc_int_impl_contains_c1_l2 (g : ∀ {R : Type}, Nat → (List Int) → Int → Int → (List Int) → (Int → (List Int) → Option R) → ((List Int) → Option R) → Option R) (n : Nat) : LPs := fun R q kk => match (PkS.un Sslices_IndexFunc_int_impl_contains_c1_l2 q : Option ((List Int) × Int × Int × (List Int) × Unit)) with
  | some (y2_0, y2_1, y2_2, y2_3, _) => g n y2_0 y2_1 y2_2 y2_3 (fun r0 r1 => kk .ret (PkS.pack Tslices_IndexFunc_int_impl_contains_c1_l2_0 (r0, r1, ()))) (fun r0 => kk (.exit 0) (PkS.pack Tslices_IndexFunc_int_impl_contains_c1_l2_1 (r0, ())))
  | none => none
theorem eslices_IndexFunc_int_impl_contains_c1_l2 (impl_contains_c1 : ∀ {R : Type}, Nat → Int → (List Int) → (Bool → (List Int) → Option R) → Option R) (slices_IndexFunc_int_impl_contains_c1_l2 : ∀ {R : Type}, Nat → (List Int) → Int → Int → (List Int) → (Int → (List Int) → Option R) → ((List Int) → Option R) → Option R) {R : Type} (n : Nat) (y2_0 : List Int) (y2_1 : Int) (y2_2 : Int) (y2_3 : List Int) (kk : Ex → Pk → Option R) : Dslices_IndexFunc_int_impl_contains_c1_l2.step tt sig (mkK [(69, Kimpl_contains_c1 @impl_contains_c1 n)] R) (mkL (mkK [(69, Kimpl_contains_c1 @impl_contains_c1 n)]) [] R) (loopIn 2 (bodyOf Try.f79)) (fun q' => Pslices_IndexFunc_int_impl_contains_c1_l2 @slices_IndexFunc_int_impl_contains_c1_l2 n R q' kk) (PkS.pack Sslices_IndexFunc_int_impl_contains_c1_l2 (y2_0, y2_1, y2_2, y2_3, ())) kk = (fun (kret : Int → (List Int) → Option R) (kexit0 : (List Int) → Option R) => (bif (decide (y2_2 < y2_1)) then (bif decide (0 ≤ y2_2) then (bif decide (y2_2 < (y2_0.length : Int)) then (impl_contains_c1 n (y2_0.getD (Int.toNat y2_2) 0) y2_3 fun r1 r2 => (bif r1 then kret y2_2 r2 else slices_IndexFunc_int_impl_contains_c1_l2 n y2_0 y2_1 (IntKind.wrap .i64 (y2_2 + 1)) r2 kret kexit0)) else none) else none) else kexit0 y2_3)) (fun r0 r1 => kk .ret (PkS.pack Tslices_IndexFunc_int_impl_contains_c1_l2_0 (r0, r1, ()))) (fun r0 => kk (.exit 0) (PkS.pack Tslices_IndexFunc_int_impl_contains_c1_l2_1 (r0, ()))) := by kernel_rfl
theorem leslices_IndexFunc_int_impl_contains_c1_l2 : LoopEq tt sig (fun n => mkK [(69, Kimpl_contains_c1 @impl_contains_c1 n)]) (fun n => mkL (mkK [(69, Kimpl_contains_c1 @impl_contains_c1 n)]) []) Dslices_IndexFunc_int_impl_contains_c1_l2 Sslices_IndexFunc_int_impl_contains_c1_l2 (loopIn 2 (bodyOf Try.f79)) (Pslices_IndexFunc_int_impl_contains_c1_l2 @slices_IndexFunc_int_impl_contains_c1_l2) where
  zero R q kk := by unfold Pslices_IndexFunc_int_impl_contains_c1_l2; cases (PkS.un Sslices_IndexFunc_int_impl_contains_c1_l2 q) <;> rfl
  succ n R q kk := by
    unfold Pslices_IndexFunc_int_impl_contains_c1_l2
    cases h : (PkS.un Sslices_IndexFunc_int_impl_contains_c1_l2 q) with
    | none => rfl
    | some d =>
      obtain ⟨y2_0, y2_1, y2_2, y2_3, u⟩ := (d : (List Int) × Int × Int × (List Int) × Unit)
      have hp := PkS.un_pack h
      subst hp
      exact (eslices_IndexFunc_int_impl_contains_c1_l2 @impl_contains_c1 @slices_IndexFunc_int_impl_contains_c1_l2 n y2_0 y2_1 y2_2 y2_3 kk).symm
theorem nlslices_IndexFunc_int_impl_contains_c1_l2 : ∀ n, NatLP (Pslices_IndexFunc_int_impl_contains_c1_l2 @slices_IndexFunc_int_impl_contains_c1_l2 n) := leslices_IndexFunc_int_impl_contains_c1_l2.nat (fun n => mkK_nat (cslices_IndexFunc_int_impl_contains_c1 n)) fun n => mkL_nat (mkK_nat (cslices_IndexFunc_int_impl_contains_c1 n)) (l := []) trivial
theorem inslices_IndexFunc_int_impl_contains_c1_l2 (n : Nat) (R : Type) : LoopsOk Try.prog (mkL (mkK [(69, Kimpl_contains_c1 @impl_contains_c1 n)]) [] R) (loopIn 2 (bodyOf Try.f79)) := .eq (l := []) (by kernel_rfl) trivial
theorem lkslices_IndexFunc_int_impl_contains_c1_l2 (n : Nat) (R : Type) (L0 : LK R) (h0 : ∀ id, firstRegion (loopIn 2 (bodyOf Try.f79)) = some id → L0 id = Dslices_IndexFunc_int_impl_contains_c1_l2.oracle (mkK [(69, Kimpl_contains_c1 @impl_contains_c1 n)] R) (Pslices_IndexFunc_int_impl_contains_c1_l2 @slices_IndexFunc_int_impl_contains_c1_l2 n R)) : LoopOk Try.prog L0 (loopIn 2 (bodyOf Try.f79)) :=
  leslices_IndexFunc_int_impl_contains_c1_l2.ok mixed ttok (fun n => mkK_nat (cslices_IndexFunc_int_impl_contains_c1 n)) (fun n => mkK_ok (cslices_IndexFunc_int_impl_contains_c1 n)) (fun n => inslices_IndexFunc_int_impl_contains_c1_l2 n R) (mkK_nat (cslices_IndexFunc_int_impl_contains_c1 n)) h0
@[reducible] def Sslices_IndexFunc_int_impl_contains_c1 : PkS := ⟨[.one (.ro (.int .i64)), .one (.fn 69 [((200000, 0), 0)])], [((200000, 0), .box [.ro (.int .i64)])]⟩
@[reducible] def Tslices_IndexFunc_int_impl_contains_c1 : PkS := ⟨[.one (.int .i64), .one (.dead), .one (.fn 69 [((300000, 0), 0)])], [((300000, 0), .box [.ro (.int .i64)])]⟩
def Hslices_IndexFunc_int_impl_contains_c1 : List Sh := [.one .any, .skip, .fn 69 [[(.ro (.int .i64))]]]
def Kslices_IndexFunc_int_impl_contains_c1 (g : ∀ {R : Type}, Nat → (List Int) → (List Int) → (Int → (List Int) → Option R) → Option R) (n : Nat) : KPs := fun R p k => match (PkS.un Sslices_IndexFunc_int_impl_contains_c1 p : Option ((List Int) × (List Int) × Unit)) with
  | some (x0, x1, _) => g n x0 x1 (fun r0 r1 => k (PkS.pack Tslices_IndexFunc_int_impl_contains_c1 (r0, r1, ())))
  | none => none
theorem eslices_IndexFunc_int_impl_contains_c1 (impl_contains_c1 : ∀ {R : Type}, Nat → Int → (List Int) → (Bool → (List Int) → Option R) → Option R) (slices_IndexFunc_int_impl_contains_c1_l2 : ∀ {R : Type}, Nat → (List Int) → Int → Int → (List Int) → (Int → (List Int) → Option R) → ((List Int) → Option R) → Option R) {R : Type} (n : Nat) (x0 : List Int) (x1 : List Int) (k : Pk → Option R) : evF tt sig (mkK [(69, Kimpl_contains_c1 @impl_contains_c1 n)] R) (mkL (mkK [(69, Kimpl_contains_c1 @impl_contains_c1 n)]) [(2, Dslices_IndexFunc_int_impl_contains_c1_l2, Pslices_IndexFunc_int_impl_contains_c1_l2 @slices_IndexFunc_int_impl_contains_c1_l2 n)] R) Try.f79 Hslices_IndexFunc_int_impl_contains_c1 (PkS.pack Sslices_IndexFunc_int_impl_contains_c1 (x0, x1, ())) k = (fun (k : Int → (List Int) → Option R) => (slices_IndexFunc_int_impl_contains_c1_l2 n x0 (x0.length : Int) 0 x1 (fun r3 r4 => k r3 r4) (fun r5 => k (-1) r5))) (fun r0 r1 => k (PkS.pack Tslices_IndexFunc_int_impl_contains_c1 (r0, r1, ()))) := by kernel_rfl
theorem okslices_IndexFunc_int_impl_contains_c1 (n : Nat) : FnOk Try.prog 79 (Kslices_IndexFunc_int_impl_contains_c1 @slices_IndexFunc_int_impl_contains_c1 n) := by
  refine fn_ok (sig := sig) mixed ttok (mkK_nat (cslices_IndexFunc_int_impl_contains_c1 n)) (mkK_ok (cslices_IndexFunc_int_impl_contains_c1 n)) (mkL_nat (mkK_nat (cslices_IndexFunc_int_impl_contains_c1 n)) (l := [(2, Dslices_IndexFunc_int_impl_contains_c1_l2, Pslices_IndexFunc_int_impl_contains_c1_l2 @slices_IndexFunc_int_impl_contains_c1_l2 n)]) ⟨nlslices_IndexFunc_int_impl_contains_c1_l2 n, trivial⟩) (fn := Try.f79) (c := bodyOf Try.f79) (by kernel_rfl) (by kernel_rfl) (by kernel_rfl) (.eq (l := [loopIn 2 (bodyOf Try.f79)]) (by kernel_rfl) ⟨(lkslices_IndexFunc_int_impl_contains_c1_l2 n _ _ (at_id (i := 2) (by kernel_rfl) rfl)), trivial⟩) (shs := Hslices_IndexFunc_int_impl_contains_c1) (S := Sslices_IndexFunc_int_impl_contains_c1) fun R p k => ?_
  unfold Kslices_IndexFunc_int_impl_contains_c1
  cases h : (PkS.un Sslices_IndexFunc_int_impl_contains_c1 p) with
  | none => rfl
  | some d =>
    obtain ⟨x0, x1, u⟩ := (d : (List Int) × (List Int) × Unit)
    have hp := PkS.un_pack h
    subst hp
    exact (eslices_IndexFunc_int_impl_contains_c1 @impl_contains_c1 @slices_IndexFunc_int_impl_contains_c1_l2 n x0 x1 k).symm

/-! ### slices.ContainsFunc[[]int,int] -/
theorem cslices_ContainsFunc_int_impl_contains_c1 (n : Nat) : AllOk Try.prog [(79, Kslices_IndexFunc_int_impl_contains_c1 @slices_IndexFunc_int_impl_contains_c1 n)] := ⟨okslices_IndexFunc_int_impl_contains_c1 n, trivial⟩
@[reducible] def Sslices_ContainsFunc_int_impl_contains_c1 : PkS := ⟨[.one (.ro (.int .i64)), .one (.fn 69 [((200000, 0), 0)])], [((200000, 0), .box [.ro (.int .i64)])]⟩
@[reducible] def Tslices_ContainsFunc_int_impl_contains_c1 : PkS := ⟨[.one (.bool), .one (.dead), .one (.fn 69 [((300000, 0), 0)])], [((300000, 0), .box [.ro (.int .i64)])]⟩
def Hslices_ContainsFunc_int_impl_contains_c1 : List Sh := [.one .any, .skip, .fn 69 [[(.ro (.int .i64))]]]
def Kslices_ContainsFunc_int_impl_contains_c1 (g : ∀ {R : Type}, Nat → (List Int) → (List Int) → (Bool → (List Int) → Option R) → Option R) (n : Nat) : KPs := fun R p k => match (PkS.un Sslices_ContainsFunc_int_impl_contains_c1 p : Option ((List Int) × (List Int) × Unit)) with
  | some (x0, x1, _) => g n x0 x1 (fun r0 r1 => k (PkS.pack Tslices_ContainsFunc_int_impl_contains_c1 (r0, r1, ())))
  | none => none
theorem eslices_ContainsFunc_int_impl_contains_c1 (slices_IndexFunc_int_impl_contains_c1 : ∀ {R : Type}, Nat → (List Int) → (List Int) → (Int → (List Int) → Option R) → Option R) {R : Type} (n : Nat) (x0 : List Int) (x1 : List Int) (k : Pk → Option R) : evF tt sig (mkK [(79, Kslices_IndexFunc_int_impl_contains_c1 @slices_IndexFunc_int_impl_contains_c1 n)] R) (mkL (mkK [(79, Kslices_IndexFunc_int_impl_contains_c1 @slices_IndexFunc_int_impl_contains_c1 n)]) [] R) Try.f68 Hslices_ContainsFunc_int_impl_contains_c1 (PkS.pack Sslices_ContainsFunc_int_impl_contains_c1 (x0, x1, ())) k = (fun (k : Bool → (List Int) → Option R) => (slices_IndexFunc_int_impl_contains_c1 n x0 x1 fun r1 r2 => k (decide (r1 ≥ 0)) r2)) (fun r0 r1 => k (PkS.pack Tslices_ContainsFunc_int_impl_contains_c1 (r0, r1, ()))) := by kernel_rfl
theorem okslices_ContainsFunc_int_impl_contains_c1 (n : Nat) : FnOk Try.prog 68 (Kslices_ContainsFunc_int_impl_contains_c1 @slices_ContainsFunc_int_impl_contains_c1 n) := by
  refine fn_ok (sig := sig) mixed ttok (mkK_nat (cslices_ContainsFunc_int_impl_contains_c1 n)) (mkK_ok (cslices_ContainsFunc_int_impl_contains_c1 n)) (mkL_nat (mkK_nat (cslices_ContainsFunc_int_impl_contains_c1 n)) (l := []) trivial) (fn := Try.f68) (c := bodyOf Try.f68) (by kernel_rfl) (by kernel_rfl) (by kernel_rfl) (.eq (l := []) (by kernel_rfl) trivial) (shs := Hslices_ContainsFunc_int_impl_contains_c1) (S := Sslices_ContainsFunc_int_impl_contains_c1) fun R p k => ?_
  unfold Kslices_ContainsFunc_int_impl_contains_c1
  cases h : (PkS.un Sslices_ContainsFunc_int_impl_contains_c1 p) with
  | none => rfl
  | some d =>
    obtain ⟨x0, x1, u⟩ := (d : (List Int) × (List Int) × Unit)
    have hp := PkS.un_pack h
    subst hp
    exact (eslices_ContainsFunc_int_impl_contains_c1 @slices_IndexFunc_int_impl_contains_c1 n x0 x1 k).symm

/-! ### loop.example/g00269/impl.contains -/
theorem cimpl_contains (n : Nat) : AllOk Try.prog [(68, Kslices_ContainsFunc_int_impl_contains_c1 @slices_ContainsFunc_int_impl_contains_c1 n)] := ⟨okslices_ContainsFunc_int_impl_contains_c1 n, trivial⟩
@[reducible] def Simpl_contains : PkS := ⟨[.one (.ro (.int .i64)), .one (.ro (.int .i64))], []⟩
@[reducible] def Timpl_contains : PkS := ⟨[.one (.bool), .one (.dead), .one (.dead)], []⟩
def Himpl_contains : List Sh := [.one .any, .skip, .skip]
def Kimpl_contains (g : ∀ {R : Type}, Nat → (List Int) → (List Int) → (Bool → Option R) → Option R) (n : Nat) : KPs := fun R p k => match (PkS.un Simpl_contains p : Option ((List Int) × (List Int) × Unit)) with
  | some (x0, x1, _) => g n x0 x1 (fun r0 => k (PkS.pack Timpl_contains (r0, ())))
  | none => none
theorem eimpl_contains (slices_ContainsFunc_int_impl_contains_c1 : ∀ {R : Type}, Nat → (List Int) → (List Int) → (Bool → (List Int) → Option R) → Option R) {R : Type} (n : Nat) (x0 : List Int) (x1 : List Int) (k : Pk → Option R) : evF tt sig (mkK [(68, Kslices_ContainsFunc_int_impl_contains_c1 @slices_ContainsFunc_int_impl_contains_c1 n)] R) (mkL (mkK [(68, Kslices_ContainsFunc_int_impl_contains_c1 @slices_ContainsFunc_int_impl_contains_c1 n)]) [] R) Try.f52 Himpl_contains (PkS.pack Simpl_contains (x0, x1, ())) k = (fun (k : Bool → Option R) => (slices_ContainsFunc_int_impl_contains_c1 n x1 x0 fun r1 r2 => k (!r1))) (fun r0 => k (PkS.pack Timpl_contains (r0, ()))) := by kernel_rfl
theorem okimpl_contains (n : Nat) : FnOk Try.prog 52 (Kimpl_contains @impl_contains n) := by
  refine fn_ok (sig := sig) mixed ttok (mkK_nat (cimpl_contains n)) (mkK_ok (cimpl_contains n)) (mkL_nat (mkK_nat (cimpl_contains n)) (l := []) trivial) (fn := Try.f52) (c := bodyOf Try.f52) (by kernel_rfl) (by kernel_rfl) (by kernel_rfl) (.eq (l := []) (by kernel_rfl) trivial) (shs := Himpl_contains) (S := Simpl_contains) fun R p k => ?_
  unfold Kimpl_contains
  cases h : (PkS.un Simpl_contains p) with
  | none => rfl
  | some d =>
    obtain ⟨x0, x1, u⟩ := (d : (List Int) × (List Int) × Unit)
    have hp := PkS.un_pack h
    subst hp
    exact (eimpl_contains @slices_ContainsFunc_int_impl_contains_c1 n x0 x1 k).symm

/-! ### loop.example/g00269/impl.IsModel$1 -/
theorem cimpl_IsModel_c1 (n : Nat) : AllOk Try.prog [(52, Kimpl_contains @impl_contains n), (53, Kslices_Contains_int @slices_Contains_int n)] := ⟨okimpl_contains n, ⟨okslices_Contains_int n, trivial⟩⟩
@[reducible] def Simpl_IsModel_c1 : PkS := ⟨[.agg [.int .i64, .ro (.int .i64)], .one (.box (200000, 0) 0)], [((200000, 0), .box [.ro (.int .i64)])]⟩
@[reducible] def Timpl_IsModel_c1 : PkS := ⟨[.one (.bool), .one (.dead), .one (.box (300000, 0) 0)], [((300000, 0), .box [.ro (.int .i64)])]⟩
def Himpl_IsModel_c1 : List Sh := [.one .any, .skip, .box [(.ro (.int .i64))]]
def Kimpl_IsModel_c1 (g : ∀ {R : Type}, Nat → Int → (List Int) → (List Int) → (Bool → (List Int) → Option R) → Option R) (n : Nat) : KPs := fun R p k => match (PkS.un Simpl_IsModel_c1 p : Option (Int × (List Int) × (List Int) × Unit)) with
  | some (x0, x1, x2, _) => g n x0 x1 x2 (fun r0 r1 => k (PkS.pack Timpl_IsModel_c1 (r0, r1, ())))
  | none => none
theorem eimpl_IsModel_c1 (impl_contains : ∀ {R : Type}, Nat → (List Int) → (List Int) → (Bool → Option R) → Option R) (slices_Contains_int : ∀ {R : Type}, Nat → (List Int) → Int → (Bool → Option R) → Option R) {R : Type} (n : Nat) (x0 : Int) (x1 : List Int) (x2 : List Int) (k : Pk → Option R) : evF tt sig (mkK [(52, Kimpl_contains @impl_contains n), (53, Kslices_Contains_int @slices_Contains_int n)] R) (mkL (mkK [(52, Kimpl_contains @impl_contains n), (53, Kslices_Contains_int @slices_Contains_int n)]) [] R) Try.f51 Himpl_IsModel_c1 (PkS.pack Simpl_IsModel_c1 (x0, x1, x2, ())) k = (fun (k : Bool → (List Int) → Option R) => (impl_contains n x2 x1 fun r1 => (bif r1 then (slices_Contains_int n x2 x0 fun r2 => k (!r2) x2) else k false x2))) (fun r0 r1 => k (PkS.pack Timpl_IsModel_c1 (r0, r1, ()))) := by kernel_rfl
theorem okimpl_IsModel_c1 (n : Nat) : FnOk Try.prog 51 (Kimpl_IsModel_c1 @impl_IsModel_c1 n) := by
  refine fn_ok (sig := sig) mixed ttok (mkK_nat (cimpl_IsModel_c1 n)) (mkK_ok (cimpl_IsModel_c1 n)) (mkL_nat (mkK_nat (cimpl_IsModel_c1 n)) (l := []) trivial) (fn := Try.f51) (c := bodyOf Try.f51) (by kernel_rfl) (by kernel_rfl) (by kernel_rfl) (.eq (l := []) (by kernel_rfl) trivial) (shs := Himpl_IsModel_c1) (S := Simpl_IsModel_c1) fun R p k => ?_
  unfold Kimpl_IsModel_c1
  cases h : (PkS.un Simpl_IsModel_c1 p) with
  | none => rfl
  | some d =>
    obtain ⟨x0, x1, x2, u⟩ := (d : Int × (List Int) × (List Int) × Unit)
    have hp := PkS.un_pack h
    subst hp
    exact (eimpl_IsModel_c1 @impl_contains @slices_Contains_int n x0 x1 x2 k).symm

/-! ### slices.IndexFunc[[]loop.example/g00269/impl.Rule,loop.example/g00269/impl.Rule] -/
theorem cslices_IndexFunc_impl_Rule_impl_IsModel_c1 (n : Nat) : AllOk Try.prog [(51, Kimpl_IsModel_c1 @impl_IsModel_c1 n)] := ⟨okimpl_IsModel_c1 n, trivial⟩
@[reducible] def Sslices_IndexFunc_impl_Rule_impl_IsModel_c1_l2 : PkS := ⟨[.one (.ro (.pr (.int .i64) (.sl (.int .i64)))), .one (.fn 51 [((100000, 0), 0)]), .one (.int .i64), .one (.int .i64), .one (.dead), .one (.fn 51 [((100000, 0), 0)])], [((100000, 0), .box [.ro (.int .i64)])]⟩
@[reducible] def Tslices_IndexFunc_impl_Rule_impl_IsModel_c1_l2_0 : PkS := ⟨[.one (.int .i64), .one (.dead), .one (.fn 51 [((100000, 0), 0)])], [((100000, 0), .box [.ro (.int .i64)])]⟩
@[reducible] def Tslices_IndexFunc_impl_Rule_impl_IsModel_c1_l2_1 : PkS := ⟨[.one (.dead), .one (.fn 51 [((100000, 0), 0)])], [((100000, 0), .box [.ro (.int .i64)])]⟩
def Dslices_IndexFunc_impl_Rule_impl_IsModel_c1_l2 : LoopD := ⟨19, [0, 1, 7, 8], [.one (.ro (.pr (.int .i64) (.sl (.int .i64)))), .fn 51 [[(.ro (.int .i64))]], .one .any, .one .any, .skip, .fn 51 [[(.ro (.int .i64))]]], fun x => match x with
  | .ret => some ([4], [.one .any, .skip, .fn 51 [[(.ro (.int .i64))]]])
  | .exit 0 => some ([], [.skip, .fn 51 [[(.ro (.int .i64))]]])
  | _ => none⟩
def Pslices_IndexFunc_impl_Rule_impl_IsModel_c1_l2 (g : ∀ {R : Type}, Nat → (List (Int × List Int)) → Int → Int → (List Int) → (Int → (List Int) → Option R) → ((List Int) → Option R) → Option R) (n : Nat) : LPs := fun R q kk => match (PkS.un Sslices_IndexFunc_impl_Rule_impl_IsModel_c1_l2 q : Option ((List (Int × List Int)) × Int × Int × (List Int) × Unit)) with
  | some (y2_0, y2_1, y2_2, y2_3, _) => g n y2_0 y2_1 y2_2 y2_3 (fun r0 r1 => kk .ret (PkS.pack Tslices_IndexFunc_impl_Rule_impl_IsModel_c1_l2_0 (r0, r1, ()))) (fun r0 => kk (.exit 0) (PkS.pack Tslices_IndexFunc_impl_Rule_impl_IsModel_c1_l2_1 (r0, ())))
  | none => none
theorem eslices_IndexFunc_impl_Rule_impl_IsModel_c1_l2 (impl_IsModel_c1 : ∀ {R : Type}, Nat → Int → (List Int) → (List Int) → (Bool → (List Int) → Option R) → Option R) (slices_IndexFunc_impl_Rule_impl_IsModel_c1_l2 : ∀ {R : Type}, Nat → (List (Int × List Int)) → Int → Int → (List Int) → (Int → (List Int) → Option R) → ((List Int) → Option R) → Option R) {R : Type} (n : Nat) (y2_0 : List (Int × List Int)) (y2_1 : Int) (y2_2 : Int) (y2_3 : List Int) (kk : Ex → Pk → Option R) : Dslices_IndexFunc_impl_Rule_impl_IsModel_c1_l2.step tt sig (mkK [(51, Kimpl_IsModel_c1 @impl_IsModel_c1 n)] R) (mkL (mkK [(51, Kimpl_IsModel_c1 @impl_IsModel_c1 n)]) [] R) (loopIn 2 (bodyOf Try.f65)) (fun q' => Pslices_IndexFunc_impl_Rule_impl_IsModel_c1_l2 @slices_IndexFunc_impl_Rule_impl_IsModel_c1_l2 n R q' kk) (PkS.pack Sslices_IndexFunc_impl_Rule_impl_IsModel_c1_l2 (y2_0, y2_1, y2_2, y2_3, ())) kk = (fun (kret : Int → (List Int) → Option R) (kexit0 : (List Int) → Option R) => (bif (decide (y2_2 < y2_1)) then (bif decide (0 ≤ y2_2) then (bif decide (y2_2 < (y2_0.length : Int)) then (impl_IsModel_c1 n ((y2_0.getD (Int.toNat y2_2) (0, [])).1) ((y2_0.getD (Int.toNat y2_2) (0, [])).2) y2_3 fun r1 r2 => (bif r1 then kret y2_2 r2 else slices_IndexFunc_impl_Rule_impl_IsModel_c1_l2 n y2_0 y2_1 (IntKind.wrap .i64 (y2_2 + 1)) r2 kret kexit0)) else none) else none) else kexit0 y2_3)) (fun r0 r1 => kk .ret (PkS.pack Tslices_IndexFunc_impl_Rule_impl_IsModel_c1_l2_0 (r0, r1, ()))) (fun r0 => kk (.exit 0) (PkS.pack Tslices_IndexFunc_impl_Rule_impl_IsModel_c1_l2_1 (r0, ()))) := by kernel_rfl
theorem leslices_IndexFunc_impl_Rule_impl_IsModel_c1_l2 : LoopEq tt sig (fun n => mkK [(51, Kimpl_IsModel_c1 @impl_IsModel_c1 n)]) (fun n => mkL (mkK [(51, Kimpl_IsModel_c1 @impl_IsModel_c1 n)]) []) Dslices_IndexFunc_impl_Rule_impl_IsModel_c1_l2 Sslices_IndexFunc_impl_Rule_impl_IsModel_c1_l2 (loopIn 2 (bodyOf Try.f65)) (Pslices_IndexFunc_impl_Rule_impl_IsModel_c1_l2 @slices_IndexFunc_impl_Rule_impl_IsModel_c1_l2) where
  zero R q kk := by unfold Pslices_IndexFunc_impl_Rule_impl_IsModel_c1_l2; cases (PkS.un Sslices_IndexFunc_impl_Rule_impl_IsModel_c1_l2 q) <;> rfl
  succ n R q kk := by
    unfold Pslices_IndexFunc_impl_Rule_impl_IsModel_c1_l2
    cases h : (PkS.un Sslices_IndexFunc_impl_Rule_impl_IsModel_c1_l2 q) with
    | none => rfl
    | some d =>
      obtain ⟨y2_0, y2_1, y2_2, y2_3, u⟩ := (d : (List (Int × List Int)) × Int × Int × (List Int) × Unit)
      have hp := PkS.un_pack h
      subst hp
      exact (eslices_IndexFunc_impl_Rule_impl_IsModel_c1_l2 @impl_IsModel_c1 @slices_IndexFunc_impl_Rule_impl_IsModel_c1_l2 n y2_0 y2_1 y2_2 y2_3 kk).symm
theorem nlslices_IndexFunc_impl_Rule_impl_IsModel_c1_l2 : ∀ n, NatLP (Pslices_IndexFunc_impl_Rule_impl_IsModel_c1_l2 @slices_IndexFunc_impl_Rule_impl_IsModel_c1_l2 n) := leslices_IndexFunc_impl_Rule_impl_IsModel_c1_l2.nat (fun n => mkK_nat (cslices_IndexFunc_impl_Rule_impl_IsModel_c1 n)) fun n => mkL_nat (mkK_nat (cslices_IndexFunc_impl_Rule_impl_IsModel_c1 n)) (l := []) trivial
theorem inslices_IndexFunc_impl_Rule_impl_IsModel_c1_l2 (n : Nat) (R : Type) : LoopsOk Try.prog (mkL (mkK [(51, Kimpl_IsModel_c1 @impl_IsModel_c1 n)]) [] R) (loopIn 2 (bodyOf Try.f65)) := .eq (l := []) (by kernel_rfl) trivial
theorem lkslices_IndexFunc_impl_Rule_impl_IsModel_c1_l2 (n : Nat) (R : Type) (L0 : LK R) (h0 : ∀ id, firstRegion (loopIn 2 (bodyOf Try.f65)) = some id → L0 id = Dslices_IndexFunc_impl_Rule_impl_IsModel_c1_l2.oracle (mkK [(51, Kimpl_IsModel_c1 @impl_IsModel_c1 n)] R) (Pslices_IndexFunc_impl_Rule_impl_IsModel_c1_l2 @slices_IndexFunc_impl_Rule_impl_IsModel_c1_l2 n R)) : LoopOk Try.prog L0 (loopIn 2 (bodyOf Try.f65)) :=
  leslices_IndexFunc_impl_Rule_impl_IsModel_c1_l2.ok mixed ttok (fun n => mkK_nat (cslices_IndexFunc_impl_Rule_impl_IsModel_c1 n)) (fun n => mkK_ok (cslices_IndexFunc_impl_Rule_impl_IsModel_c1 n)) (fun n => inslices_IndexFunc_impl_Rule_impl_IsModel_c1_l2 n R) (mkK_nat (cslices_IndexFunc_impl_Rule_impl_IsModel_c1 n)) h0
@[reducible] def Sslices_IndexFunc_impl_Rule_impl_IsModel_c1 : PkS := ⟨[.one (.ro (.pr (.int .i64) (.sl (.int .i64)))), .one (.fn 51 [((200000, 0), 0)])], [((200000, 0), .box [.ro (.int .i64)])]⟩
@[reducible] def Tslices_IndexFunc_impl_Rule_impl_IsModel_c1 : PkS := ⟨[.one (.int .i64), .one (.dead), .one (.fn 51 [((300000, 0), 0)])], [((300000, 0), .box [.ro (.int .i64)])]⟩
def Hslices_IndexFunc_impl_Rule_impl_IsModel_c1 : List Sh := [.one .any, .skip, .fn 51 [[(.ro (.int .i64))]]]
def Kslices_IndexFunc_impl_Rule_impl_IsModel_c1 (g : ∀ {R : Type}, Nat → (List (Int × List Int)) → (List Int) → (Int → (List Int) → Option R) → Option R) (n : Nat) : KPs := fun R p k => match (PkS.un Sslices_IndexFunc_impl_Rule_impl_IsModel_c1 p : Option ((List (Int × List Int)) × (List Int) × Unit)) with
  | some (x0, x1, _) => g n x0 x1 (fun r0 r1 => k (PkS.pack Tslices_IndexFunc_impl_Rule_impl_IsModel_c1 (r0, r1, ())))
  | none => none
theorem eslices_IndexFunc_impl_Rule_impl_IsModel_c1 (impl_IsModel_c1 : ∀ {R : Type}, Nat → Int → (List Int) → (List Int) → (Bool → (List Int) → Option R) → Option R) (slices_IndexFunc_impl_Rule_impl_IsModel_c1_l2 : ∀ {R : Type}, Nat → (List (Int × List Int)) → Int → Int → (List Int) → (Int → (List Int) → Option R) → ((List Int) → Option R) → Option R) {R : Type} (n : Nat) (x0 : List (Int × List Int)) (x1 : List Int) (k : Pk → Option R) : evF tt sig (mkK [(51, Kimpl_IsModel_c1 @impl_IsModel_c1 n)] R) (mkL (mkK [(51, Kimpl_IsModel_c1 @impl_IsModel_c1 n)]) [(2, Dslices_IndexFunc_impl_Rule_impl_IsModel_c1_l2, Pslices_IndexFunc_impl_Rule_impl_IsModel_c1_l2 @slices_IndexFunc_impl_Rule_impl_IsModel_c1_l2 n)] R) Try.f65 Hslices_IndexFunc_impl_Rule_impl_IsModel_c1 (PkS.pack Sslices_IndexFunc_impl_Rule_impl_IsModel_c1 (x0, x1, ())) k = (fun (k : Int → (List Int) → Option R) => (slices_IndexFunc_impl_Rule_impl_IsModel_c1_l2 n x0 (x0.length : Int) 0 x1 (fun r3 r4 => k r3 r4) (fun r5 => k (-1) r5))) (fun r0 r1 => k (PkS.pack Tslices_IndexFunc_impl_Rule_impl_IsModel_c1 (r0, r1, ()))) := by kernel_rfl
theorem okslices_IndexFunc_impl_Rule_impl_IsModel_c1 (n : Nat) : FnOk Try.prog 65 (Kslices_IndexFunc_impl_Rule_impl_IsModel_c1 @slices_IndexFunc_impl_Rule_impl_IsModel_c1 n) := by
  refine fn_ok (sig := sig) mixed ttok (mkK_nat (cslices_IndexFunc_impl_Rule_impl_IsModel_c1 n)) (mkK_ok (cslices_IndexFunc_impl_Rule_impl_IsModel_c1 n)) (mkL_nat (mkK_nat (cslices_IndexFunc_impl_Rule_impl_IsModel_c1 n)) (l := [(2, Dslices_IndexFunc_impl_Rule_impl_IsModel_c1_l2, Pslices_IndexFunc_impl_Rule_impl_IsModel_c1_l2 @slices_IndexFunc_impl_Rule_impl_IsModel_c1_l2 n)]) ⟨nlslices_IndexFunc_impl_Rule_impl_IsModel_c1_l2 n, trivial⟩) (fn := Try.f65) (c := bodyOf Try.f65) (by kernel_rfl) (by kernel_rfl) (by kernel_rfl) (.eq (l := [loopIn 2 (bodyOf Try.f65)]) (by kernel_rfl) ⟨(lkslices_IndexFunc_impl_Rule_impl_IsModel_c1_l2 n _ _ (at_id (i := 2) (by kernel_rfl) rfl)), trivial⟩) (shs := Hslices_IndexFunc_impl_Rule_impl_IsModel_c1) (S := Sslices_IndexFunc_impl_Rule_impl_IsModel_c1) fun R p k => ?_
  unfold Kslices_IndexFunc_impl_Rule_impl_IsModel_c1
  cases h : (PkS.un Sslices_IndexFunc_impl_Rule_impl_IsModel_c1 p) with
  | none => rfl
  | some d =>
    obtain ⟨x0, x1, u⟩ := (d : (List (Int × List Int)) × (List Int) × Unit)
    have hp := PkS.un_pack h
    subst hp
    exact (eslices_IndexFunc_impl_Rule_impl_IsModel_c1 @impl_IsModel_c1 @slices_IndexFunc_impl_Rule_impl_IsModel_c1_l2 n x0 x1 k).symm

/-! ### slices.ContainsFunc[[]loop.example/g00269/impl.Rule,loop.example/g00269/impl.Rule] -/
theorem cslices_ContainsFunc_impl_Rule_impl_IsModel_c1 (n : Nat) : AllOk Try.prog [(65, Kslices_IndexFunc_impl_Rule_impl_IsModel_c1 @slices_IndexFunc_impl_Rule_impl_IsModel_c1 n)] := ⟨okslices_IndexFunc_impl_Rule_impl_IsModel_c1 n, trivial⟩
@[reducible] def Sslices_ContainsFunc_impl_Rule_impl_IsModel_c1 : PkS := ⟨[.one (.ro (.pr (.int .i64) (.sl (.int .i64)))), .one (.fn 51 [((200000, 0), 0)])], [((200000, 0), .box [.ro (.int .i64)])]⟩
@[reducible] def Tslices_ContainsFunc_impl_Rule_impl_IsModel_c1 : PkS := ⟨[.one (.bool), .one (.dead), .one (.fn 51 [((300000, 0), 0)])], [((300000, 0), .box [.ro (.int .i64)])]⟩
def Hslices_ContainsFunc_impl_Rule_impl_IsModel_c1 : List Sh := [.one .any, .skip, .fn 51 [[(.ro (.int .i64))]]]
def Kslices_ContainsFunc_impl_Rule_impl_IsModel_c1 (g : ∀ {R : Type}, Nat → (List (Int × List Int)) → (List Int) → (Bool → (List Int) → Option R) → Option R) (n : Nat) : KPs := fun R p k => match (PkS.un Sslices_ContainsFunc_impl_Rule_impl_IsModel_c1 p : Option ((List (Int × List Int)) × (List Int) × Unit)) with
  | some (x0, x1, _) => g n x0 x1 (fun r0 r1 => k (PkS.pack Tslices_ContainsFunc_impl_Rule_impl_IsModel_c1 (r0, r1, ())))
  | none => none
theorem eslices_ContainsFunc_impl_Rule_impl_IsModel_c1 (slices_IndexFunc_impl_Rule_impl_IsModel_c1 : ∀ {R : Type}, Nat → (List (Int × List Int)) → (List Int) → (Int → (List Int) → Option R) → Option R) {R : Type} (n : Nat) (x0 : List (Int × List Int)) (x1 : List Int) (k : Pk → Option R) : evF tt sig (mkK [(65, Kslices_IndexFunc_impl_Rule_impl_IsModel_c1 @slices_IndexFunc_impl_Rule_impl_IsModel_c1 n)] R) (mkL (mkK [(65, Kslices_IndexFunc_impl_Rule_impl_IsModel_c1 @slices_IndexFunc_impl_Rule_impl_IsModel_c1 n)]) [] R) Try.f43 Hslices_ContainsFunc_impl_Rule_impl_IsModel_c1 (PkS.pack Sslices_ContainsFunc_impl_Rule_impl_IsModel_c1 (x0, x1, ())) k = (fun (k : Bool → (List Int) → Option R) => (slices_IndexFunc_impl_Rule_impl_IsModel_c1 n x0 x1 fun r1 r2 => k (decide (r1 ≥ 0)) r2)) (fun r0 r1 => k (PkS.pack Tslices_ContainsFunc_impl_Rule_impl_IsModel_c1 (r0, r1, ()))) := by kernel_rfl
theorem okslices_ContainsFunc_impl_Rule_impl_IsModel_c1 (n : Nat) : FnOk Try.prog 43 (Kslices_ContainsFunc_impl_Rule_impl_IsModel_c1 @slices_ContainsFunc_impl_Rule_impl_IsModel_c1 n) := by
  refine fn_ok (sig := sig) mixed ttok (mkK_nat (cslices_ContainsFunc_impl_Rule_impl_IsModel_c1 n)) (mkK_ok (cslices_ContainsFunc_impl_Rule_impl_IsModel_c1 n)) (mkL_nat (mkK_nat (cslices_ContainsFunc_impl_Rule_impl_IsModel_c1 n)) (l := []) trivial) (fn := Try.f43) (c := bodyOf Try.f43) (by kernel_rfl) (by kernel_rfl) (by kernel_rfl) (.eq (l := []) (by kernel_rfl) trivial) (shs := Hslices_ContainsFunc_impl_Rule_impl_IsModel_c1) (S := Sslices_ContainsFunc_impl_Rule_impl_IsModel_c1) fun R p k => ?_
  unfold Kslices_ContainsFunc_impl_Rule_impl_IsModel_c1
  cases h : (PkS.un Sslices_ContainsFunc_impl_Rule_impl_IsModel_c1 p) with
  | none => rfl
  | some d =>
    obtain ⟨x0, x1, u⟩ := (d : (List (Int × List Int)) × (List Int) × Unit)
    have hp := PkS.un_pack h
    subst hp
    exact (eslices_ContainsFunc_impl_Rule_impl_IsModel_c1 @slices_IndexFunc_impl_Rule_impl_IsModel_c1 n x0 x1 k).symm

/-! ### loop.example/g00269/impl.IsModel -/
theorem cimpl_IsModel (n : Nat) : AllOk Try.prog [(50, Kimpl_rulesOk @impl_rulesOk n), (43, Kslices_ContainsFunc_impl_Rule_impl_IsModel_c1 @slices_ContainsFunc_impl_Rule_impl_IsModel_c1 n)] := ⟨okimpl_rulesOk n, ⟨okslices_ContainsFunc_impl_Rule_impl_IsModel_c1 n, trivial⟩⟩
@[reducible] def Simpl_IsModel : PkS := ⟨[.one (.ro (.pr (.int .i64) (.sl (.int .i64)))), .one (.ro (.int .i64))], []⟩
@[reducible] def Timpl_IsModel : PkS := ⟨[.tup [(false, [.bool]), (false, [.bool])], .one (.dead), .one (.dead)], []⟩
def Himpl_IsModel : List Sh := [.tup [(false, [.any]), (false, [.any])], .skip, .skip]
def Kimpl_IsModel (g : ∀ {R : Type}, Nat → (List (Int × List Int)) → (List Int) → (Bool → Bool → Option R) → Option R) (n : Nat) : KPs := fun R p k => match (PkS.un Simpl_IsModel p : Option ((List (Int × List Int)) × (List Int) × Unit)) with
  | some (x0, x1, _) => g n x0 x1 (fun r0 r1 => k (PkS.pack Timpl_IsModel (r0, r1, ())))
  | none => none
theorem eimpl_IsModel (impl_rulesOk : ∀ {R : Type}, Nat → (List (Int × List Int)) → (List Int) → (Bool → Option R) → Option R) (slices_ContainsFunc_impl_Rule_impl_IsModel_c1 : ∀ {R : Type}, Nat → (List (Int × List Int)) → (List Int) → (Bool → (List Int) → Option R) → Option R) {R : Type} (n : Nat) (x0 : List (Int × List Int)) (x1 : List Int) (k : Pk → Option R) : evF tt sig (mkK [(50, Kimpl_rulesOk @impl_rulesOk n), (43, Kslices_ContainsFunc_impl_Rule_impl_IsModel_c1 @slices_ContainsFunc_impl_Rule_impl_IsModel_c1 n)] R) (mkL (mkK [(50, Kimpl_rulesOk @impl_rulesOk n), (43, Kslices_ContainsFunc_impl_Rule_impl_IsModel_c1 @slices_ContainsFunc_impl_Rule_impl_IsModel_c1 n)]) [] R) Try.f19 Himpl_IsModel (PkS.pack Simpl_IsModel (x0, x1, ())) k = (fun (k : Bool → Bool → Option R) => (impl_rulesOk n x0 x1 fun r1 => (bif (!r1) then k false false else (slices_ContainsFunc_impl_Rule_impl_IsModel_c1 n x0 x1 fun r2 r3 => k (!r2) true)))) (fun r0 r1 => k (PkS.pack Timpl_IsModel (r0, r1, ()))) := by kernel_rfl
theorem okimpl_IsModel (n : Nat) : FnOk Try.prog 19 (Kimpl_IsModel @impl_IsModel n) := by
  refine fn_ok (sig := sig) mixed ttok (mkK_nat (cimpl_IsModel n)) (mkK_ok (cimpl_IsModel n)) (mkL_nat (mkK_nat (cimpl_IsModel n)) (l := []) trivial) (fn := Try.f19) (c := bodyOf Try.f19) (by kernel_rfl) (by kernel_rfl) (by kernel_rfl) (.eq (l := []) (by kernel_rfl) trivial) (shs := Himpl_IsModel) (S := Simpl_IsModel) fun R p k => ?_
  unfold Kimpl_IsModel
  cases h : (PkS.un Simpl_IsModel p) with
  | none => rfl
  | some d =>
    obtain ⟨x0, x1, u⟩ := (d : (List (Int × List Int)) × (List Int) × Unit)
    have hp := PkS.un_pack h
    subst hp
    exact (eimpl_IsModel @impl_rulesOk @slices_ContainsFunc_impl_Rule_impl_IsModel_c1 n x0 x1 k).symm

/-! ### loop.example/g00269/laws.eqIntS -/
theorem claws_eqIntS (n : Nat) : AllOk Try.prog [] := trivial
@[reducible] def Slaws_eqIntS_l4 : PkS := ⟨[.one (.ro (.int .i64)), .one (.ro (.int .i64)), .one (.int .i64), .one (.dead), .one (.dead)], []⟩
@[reducible] def Tlaws_eqIntS_l4_0 : PkS := ⟨[.one (.bool), .one (.dead), .one (.dead)], []⟩
@[reducible] def Tlaws_eqIntS_l4_1 : PkS := ⟨[.one (.dead), .one (.dead)], []⟩
def Dlaws_eqIntS_l4 : LoopD := ⟨26, [0, 1, 5], [.one (.ro (.int .i64)), .one (.ro (.int .i64)), .one .any, .skip, .skip], fun x => match x with
  | .ret => some ([4], [.one .any, .skip, .skip])
  | .exit 0 => some ([], [.skip, .skip])
  | _ => none⟩
def Plaws_eqIntS_l4 (g : ∀ {R : Type}, Nat → (List Int) → (List Int) → Int → (Bool → Option R) → (Option R) → Option R) (n : Nat) : LPs := fun R q kk => match (PkS.un Slaws_eqIntS_l4 q : Option ((List Int) × (List Int) × Int × Unit)) with
  | some (y4_0, y4_1, y4_2, _) => g n y4_0 y4_1 y4_2 (fun r0 => kk .ret (PkS.pack Tlaws_eqIntS_l4_0 (r0, ()))) (kk (.exit 0) (PkS.pack Tlaws_eqIntS_l4_1 ()))
  | none => none
theorem elaws_eqIntS_l4 (laws_eqIntS_l4 : ∀ {R : Type}, Nat → (List Int) → (List Int) → Int → (Bool → Option R) → (Option R) → Option R) {R : Type} (n : Nat) (y4_0 : List Int) (y4_1 : List Int) (y4_2 : Int) (kk : Ex → Pk → Option R) : Dlaws_eqIntS_l4.step tt sig (mkK [] R) (mkL (mkK []) [] R) (loopIn 4 (bodyOf Try.f20)) (fun q' => Plaws_eqIntS_l4 @laws_eqIntS_l4 n R q' kk) (PkS.pack Slaws_eqIntS_l4 (y4_0, y4_1, y4_2, ())) kk = (fun (kret : Bool → Option R) (kexit0 : Option R) => (bif (decide (y4_2 < (y4_0.length : Int))) then (bif decide (0 ≤ y4_2) then (bif decide (y4_2 < (y4_0.length : Int)) then (bif decide (0 ≤ y4_2) then (bif decide (y4_2 < (y4_1.length : Int)) then (bif ((y4_0.getD (Int.toNat y4_2) 0) != (y4_1.getD (Int.toNat y4_2) 0)) then kret false else laws_eqIntS_l4 n y4_0 y4_1 (IntKind.wrap .i64 (y4_2 + 1)) kret kexit0) else none) else none) else none) else none) else kexit0)) (fun r0 => kk .ret (PkS.pack Tlaws_eqIntS_l4_0 (r0, ()))) (kk (.exit 0) (PkS.pack Tlaws_eqIntS_l4_1 ())) := by kernel_rfl
theorem lelaws_eqIntS_l4 : LoopEq tt sig (fun n => mkK []) (fun n => mkL (mkK []) []) Dlaws_eqIntS_l4 Slaws_eqIntS_l4 (loopIn 4 (bodyOf Try.f20)) (Plaws_eqIntS_l4 @laws_eqIntS_l4) where
  zero R q kk := by unfold Plaws_eqIntS_l4; cases (PkS.un Slaws_eqIntS_l4 q) <;> rfl
  succ n R q kk := by
    unfold Plaws_eqIntS_l4
    cases h : (PkS.un Slaws_eqIntS_l4 q) with
    | none => rfl
    | some d =>
      obtain ⟨y4_0, y4_1, y4_2, u⟩ := (d : (List Int) × (List Int) × Int × Unit)
      have hp := PkS.un_pack h
      subst hp
      exact (elaws_eqIntS_l4 @laws_eqIntS_l4 n y4_0 y4_1 y4_2 kk).symm
theorem nllaws_eqIntS_l4 : ∀ n, NatLP (Plaws_eqIntS_l4 @laws_eqIntS_l4 n) := lelaws_eqIntS_l4.nat (fun n => mkK_nat (claws_eqIntS n)) fun n => mkL_nat (mkK_nat (claws_eqIntS n)) (l := []) trivial
theorem inlaws_eqIntS_l4 (n : Nat) (R : Type) : LoopsOk Try.prog (mkL (mkK []) [] R) (loopIn 4 (bodyOf Try.f20)) := .eq (l := []) (by kernel_rfl) trivial
theorem lklaws_eqIntS_l4 (n : Nat) (R : Type) (L0 : LK R) (h0 : ∀ id, firstRegion (loopIn 4 (bodyOf Try.f20)) = some id → L0 id = Dlaws_eqIntS_l4.oracle (mkK [] R) (Plaws_eqIntS_l4 @laws_eqIntS_l4 n R)) : LoopOk Try.prog L0 (loopIn 4 (bodyOf Try.f20)) :=
  lelaws_eqIntS_l4.ok mixed ttok (fun n => mkK_nat (claws_eqIntS n)) (fun n => mkK_ok (claws_eqIntS n)) (fun n => inlaws_eqIntS_l4 n R) (mkK_nat (claws_eqIntS n)) h0
@[reducible] def Slaws_eqIntS : PkS := ⟨[.one (.ro (.int .i64)), .one (.ro (.int .i64))], []⟩
@[reducible] def Tlaws_eqIntS : PkS := ⟨[.one (.bool), .one (.dead), .one (.dead)], []⟩
def Hlaws_eqIntS : List Sh := [.one .any, .skip, .skip]
def Klaws_eqIntS (g : ∀ {R : Type}, Nat → (List Int) → (List Int) → (Bool → Option R) → Option R) (n : Nat) : KPs := fun R p k => match (PkS.un Slaws_eqIntS p : Option ((List Int) × (List Int) × Unit)) with
  | some (x0, x1, _) => g n x0 x1 (fun r0 => k (PkS.pack Tlaws_eqIntS (r0, ())))
  | none => none
theorem elaws_eqIntS (laws_eqIntS_l4 : ∀ {R : Type}, Nat → (List Int) → (List Int) → Int → (Bool → Option R) → (Option R) → Option R) {R : Type} (n : Nat) (x0 : List Int) (x1 : List Int) (k : Pk → Option R) : evF tt sig (mkK [] R) (mkL (mkK []) [(4, Dlaws_eqIntS_l4, Plaws_eqIntS_l4 @laws_eqIntS_l4 n)] R) Try.f20 Hlaws_eqIntS (PkS.pack Slaws_eqIntS (x0, x1, ())) k = (fun (k : Bool → Option R) => (bif ((x0.length : Int) != (x1.length : Int)) then k false else (laws_eqIntS_l4 n x0 x1 0 (fun r1 => k r1) (k true)))) (fun r0 => k (PkS.pack Tlaws_eqIntS (r0, ()))) := by kernel_rfl
theorem oklaws_eqIntS (n : Nat) : FnOk Try.prog 20 (Klaws_eqIntS @laws_eqIntS n) := by
  refine fn_ok (sig := sig) mixed ttok (mkK_nat (claws_eqIntS n)) (mkK_ok (claws_eqIntS n)) (mkL_nat (mkK_nat (claws_eqIntS n)) (l := [(4, Dlaws_eqIntS_l4, Plaws_eqIntS_l4 @laws_eqIntS_l4 n)]) ⟨nllaws_eqIntS_l4 n, trivial⟩) (fn := Try.f20) (c := bodyOf Try.f20) (by kernel_rfl) (by kernel_rfl) (by kernel_rfl) (.eq (l := [loopIn 4 (bodyOf Try.f20)]) (by kernel_rfl) ⟨(lklaws_eqIntS_l4 n _ _ (at_id (i := 4) (by kernel_rfl) rfl)), trivial⟩) (shs := Hlaws_eqIntS) (S := Slaws_eqIntS) fun R p k => ?_
  unfold Klaws_eqIntS
  cases h : (PkS.un Slaws_eqIntS p) with
  | none => rfl
  | some d =>
    obtain ⟨x0, x1, u⟩ := (d : (List Int) × (List Int) × Unit)
    have hp := PkS.un_pack h
    subst hp
    exact (elaws_eqIntS @laws_eqIntS_l4 n x0 x1 k).symm

/-! ### loop.example/g00269/laws.eqRule -/
theorem claws_eqRule (n : Nat) : AllOk Try.prog [(20, Klaws_eqIntS @laws_eqIntS n)] := ⟨oklaws_eqIntS n, trivial⟩
@[reducible] def Slaws_eqRule : PkS := ⟨[.agg [.int .i64, .ro (.int .i64)], .agg [.int .i64, .ro (.int .i64)]], []⟩
@[reducible] def Tlaws_eqRule : PkS := ⟨[.one (.bool), .one (.dead), .one (.dead)], []⟩
def Hlaws_eqRule : List Sh := [.one .any, .skip, .skip]
def Klaws_eqRule (g : ∀ {R : Type}, Nat → Int → (List Int) → Int → (List Int) → (Bool → Option R) → Option R) (n : Nat) : KPs := fun R p k => match (PkS.un Slaws_eqRule p : Option (Int × (List Int) × Int × (List Int) × Unit)) with
  | some (x0, x1, x2, x3, _) => g n x0 x1 x2 x3 (fun r0 => k (PkS.pack Tlaws_eqRule (r0, ())))
  | none => none
theorem elaws_eqRule (laws_eqIntS : ∀ {R : Type}, Nat → (List Int) → (List Int) → (Bool → Option R) → Option R) {R : Type} (n : Nat) (x0 : Int) (x1 : List Int) (x2 : Int) (x3 : List Int) (k : Pk → Option R) : evF tt sig (mkK [(20, Klaws_eqIntS @laws_eqIntS n)] R) (mkL (mkK [(20, Klaws_eqIntS @laws_eqIntS n)]) [] R) Try.f47 Hlaws_eqRule (PkS.pack Slaws_eqRule (x0, x1, x2, x3, ())) k = (fun (k : Bool → Option R) => (bif (x0 != x2) then k false else (laws_eqIntS n x1 x3 fun r1 => (bif (!r1) then k false else k true)))) (fun r0 => k (PkS.pack Tlaws_eqRule (r0, ()))) := by kernel_rfl
theorem oklaws_eqRule (n : Nat) : FnOk Try.prog 47 (Klaws_eqRule @laws_eqRule n) := by
  refine fn_ok (sig := sig) mixed ttok (mkK_nat (claws_eqRule n)) (mkK_ok (claws_eqRule n)) (mkL_nat (mkK_nat (claws_eqRule n)) (l := []) trivial) (fn := Try.f47) (c := bodyOf Try.f47) (by kernel_rfl) (by kernel_rfl) (by kernel_rfl) (.eq (l := []) (by kernel_rfl) trivial) (shs := Hlaws_eqRule) (S := Slaws_eqRule) fun R p k => ?_
  unfold Klaws_eqRule
  cases h : (PkS.un Slaws_eqRule p) with
  | none => rfl
  | some d =>
    obtain ⟨x0, x1, x2, x3, u⟩ := (d : Int × (List Int) × Int × (List Int) × Unit)
    have hp := PkS.un_pack h
    subst hp
    exact (elaws_eqRule @laws_eqIntS n x0 x1 x2 x3 k).symm

/-! ### loop.example/g00269/laws.eqRuleS -/
theorem claws_eqRuleS (n : Nat) : AllOk Try.prog [(47, Klaws_eqRule @laws_eqRule n)] := ⟨oklaws_eqRule n, trivial⟩
@[reducible] def Slaws_eqRuleS_l4 : PkS := ⟨[.one (.ro (.pr (.int .i64) (.sl (.int .i64)))), .one (.ro (.pr (.int .i64) (.sl (.int .i64)))), .one (.int .i64), .one (.dead), .one (.dead)], []⟩
@[reducible] def Tlaws_eqRuleS_l4_0 : PkS := ⟨[.one (.bool), .one (.dead), .one (.dead)], []⟩
@[reducible] def Tlaws_eqRuleS_l4_1 : PkS := ⟨[.one (.dead), .one (.dead)], []⟩
def Dlaws_eqRuleS_l4 : LoopD := ⟨27, [0, 1, 5], [.one (.ro (.pr (.int .i64) (.sl (.int .i64)))), .one (.ro (.pr (.int .i64) (.sl (.int .i64)))), .one .any, .skip, .skip], fun x => match x with
  | .ret => some ([4], [.one .any, .skip, .skip])
  | .exit 0 => some ([], [.skip, .skip])
  | _ => none⟩
def Plaws_eqRuleS_l4 (g : ∀ {R : Type}, Nat → (List (Int × List Int)) → (List (Int × List Int)) → Int → (Bool → Option R) → (Option R) → Option R) (n : Nat) : LPs := fun R q kk => match (PkS.un Slaws_eqRuleS_l4 q : Option ((List (Int × List Int)) × (List (Int × List Int)) × Int × Unit)) with
  | some (y4_0, y4_1, y4_2, _) => g n y4_0 y4_1 y4_2 (fun r0 => kk .ret (PkS.pack Tlaws_eqRuleS_l4_0 (r0, ()))) (kk (.exit 0) (PkS.pack Tlaws_eqRuleS_l4_1 ()))
  | none => none
theorem elaws_eqRuleS_l4 (laws_eqRule : ∀ {R : Type}, Nat → Int → (List Int) → Int → (List Int) → (Bool → Option R) → Option R) (laws_eqRuleS_l4 : ∀ {R : Type}, Nat → (List (Int × List Int)) → (List (Int × List Int)) → Int → (Bool → Option R) → (Option R) → Option R) {R : Type} (n : Nat) (y4_0 : List (Int × List Int)) (y4_1 : List (Int × List Int)) (y4_2 : Int) (kk : Ex → Pk → Option R) : Dlaws_eqRuleS_l4.step tt sig (mkK [(47, Klaws_eqRule @laws_eqRule n)] R) (mkL (mkK [(47, Klaws_eqRule @laws_eqRule n)]) [] R) (loopIn 4 (bodyOf Try.f16)) (fun q' => Plaws_eqRuleS_l4 @laws_eqRuleS_l4 n R q' kk) (PkS.pack Slaws_eqRuleS_l4 (y4_0, y4_1, y4_2, ())) kk = (fun (kret : Bool → Option R) (kexit0 : Option R) => (bif (decide (y4_2 < (y4_0.length : Int))) then (bif decide (0 ≤ y4_2) then (bif decide (y4_2 < (y4_0.length : Int)) then (bif decide (0 ≤ y4_2) then (bif decide (y4_2 < (y4_1.length : Int)) then (laws_eqRule n ((y4_0.getD (Int.toNat y4_2) (0, [])).1) ((y4_0.getD (Int.toNat y4_2) (0, [])).2) ((y4_1.getD (Int.toNat y4_2) (0, [])).1) ((y4_1.getD (Int.toNat y4_2) (0, [])).2) fun r1 => (bif (!r1) then kret false else laws_eqRuleS_l4 n y4_0 y4_1 (IntKind.wrap .i64 (y4_2 + 1)) kret kexit0)) else none) else none) else none) else none) else kexit0)) (fun r0 => kk .ret (PkS.pack Tlaws_eqRuleS_l4_0 (r0, ()))) (kk (.exit 0) (PkS.pack Tlaws_eqRuleS_l4_1 ())) := by kernel_rfl
theorem lelaws_eqRuleS_l4 : LoopEq tt sig (fun n => mkK [(47, Klaws_eqRule @laws_eqRule n)]) (fun n => mkL (mkK [(47, Klaws_eqRule @laws_eqRule n)]) []) Dlaws_eqRuleS_l4 Slaws_eqRuleS_l4 (loopIn 4 (bodyOf Try.f16)) (Plaws_eqRuleS_l4 @laws_eqRuleS_l4) where
  zero R q kk := by unfold Plaws_eqRuleS_l4; cases (PkS.un Slaws_eqRuleS_l4 q) <;> rfl
  succ n R q kk := by
    unfold Plaws_eqRuleS_l4
    cases h : (PkS.un Slaws_eqRuleS_l4 q) with
    | none => rfl
    | some d =>
      obtain ⟨y4_0, y4_1, y4_2, u⟩ := (d : (List (Int × List Int)) × (List (Int × List Int)) × Int × Unit)
      have hp := PkS.un_pack h
      subst hp
      exact (elaws_eqRuleS_l4 @laws_eqRule @laws_eqRuleS_l4 n y4_0 y4_1 y4_2 kk).symm
theorem nllaws_eqRuleS_l4 : ∀ n, NatLP (Plaws_eqRuleS_l4 @laws_eqRuleS_l4 n) := lelaws_eqRuleS_l4.nat (fun n => mkK_nat (claws_eqRuleS n)) fun n => mkL_nat (mkK_nat (claws_eqRuleS n)) (l := []) trivial
theorem inlaws_eqRuleS_l4 (n : Nat) (R : Type) : LoopsOk Try.prog (mkL (mkK [(47, Klaws_eqRule @laws_eqRule n)]) [] R) (loopIn 4 (bodyOf Try.f16)) := .eq (l := []) (by kernel_rfl) trivial
theorem lklaws_eqRuleS_l4 (n : Nat) (R : Type) (L0 : LK R) (h0 : ∀ id, firstRegion (loopIn 4 (bodyOf Try.f16)) = some id → L0 id = Dlaws_eqRuleS_l4.oracle (mkK [(47, Klaws_eqRule @laws_eqRule n)] R) (Plaws_eqRuleS_l4 @laws_eqRuleS_l4 n R)) : LoopOk Try.prog L0 (loopIn 4 (bodyOf Try.f16)) :=
  lelaws_eqRuleS_l4.ok mixed ttok (fun n => mkK_nat (claws_eqRuleS n)) (fun n => mkK_ok (claws_eqRuleS n)) (fun n => inlaws_eqRuleS_l4 n R) (mkK_nat (claws_eqRuleS n)) h0
@[reducible] def Slaws_eqRuleS : PkS := ⟨[.one (.ro (.pr (.int .i64) (.sl (.int .i64)))), .one (.ro (.pr (.int .i64) (.sl (.int .i64))))], []⟩
@[reducible] def Tlaws_eqRuleS : PkS := ⟨[.one (.bool), .one (.dead), .one (.dead)], []⟩
def Hlaws_eqRuleS : List Sh := [.one .any, .skip, .skip]
def Klaws_eqRuleS (g : ∀ {R : Type}, Nat → (List (Int × List Int)) → (List (Int × List Int)) → (Bool → Option R) → Option R) (n : Nat) : KPs := fun R p k => match (PkS.un Slaws_eqRuleS p : Option ((List (Int × List Int)) × (List (Int × List Int)) × Unit)) with
  | some (x0, x1, _) => g n x0 x1 (fun r0 => k (PkS.pack Tlaws_eqRuleS (r0, ())))
  | none => none
theorem elaws_eqRuleS (laws_eqRule : ∀ {R : Type}, Nat → Int → (List Int) → Int → (List Int) → (Bool → Option R) → Option R) (laws_eqRuleS_l4 : ∀ {R : Type}, Nat → (List (Int × List Int)) → (List (Int × List Int)) → Int → (Bool → Option R) → (Option R) → Option R) {R : Type} (n : Nat) (x0 : List (Int × List Int)) (x1 : List (Int × List Int)) (k : Pk → Option R) : evF tt sig (mkK [(47, Klaws_eqRule @laws_eqRule n)] R) (mkL (mkK [(47, Klaws_eqRule @laws_eqRule n)]) [(4, Dlaws_eqRuleS_l4, Plaws_eqRuleS_l4 @laws_eqRuleS_l4 n)] R) Try.f16 Hlaws_eqRuleS (PkS.pack Slaws_eqRuleS (x0, x1, ())) k = (fun (k : Bool → Option R) => (bif ((x0.length : Int) != (x1.length : Int)) then k false else (laws_eqRuleS_l4 n x0 x1 0 (fun r2 => k r2) (k true)))) (fun r0 => k (PkS.pack Tlaws_eqRuleS (r0, ()))) := by kernel_rfl
theorem oklaws_eqRuleS (n : Nat) : FnOk Try.prog 16 (Klaws_eqRuleS @laws_eqRuleS n) := by
  refine fn_ok (sig := sig) mixed ttok (mkK_nat (claws_eqRuleS n)) (mkK_ok (claws_eqRuleS n)) (mkL_nat (mkK_nat (claws_eqRuleS n)) (l := [(4, Dlaws_eqRuleS_l4, Plaws_eqRuleS_l4 @laws_eqRuleS_l4 n)]) ⟨nllaws_eqRuleS_l4 n, trivial⟩) (fn := Try.f16) (c := bodyOf Try.f16) (by kernel_rfl) (by kernel_rfl) (by kernel_rfl) (.eq (l := [loopIn 4 (bodyOf Try.f16)]) (by kernel_rfl) ⟨(lklaws_eqRuleS_l4 n _ _ (at_id (i := 4) (by kernel_rfl) rfl)), trivial⟩) (shs := Hlaws_eqRuleS) (S := Slaws_eqRuleS) fun R p k => ?_
  unfold Klaws_eqRuleS
  cases h : (PkS.un Slaws_eqRuleS p) with
  | none => rfl
  | some d =>
    obtain ⟨x0, x1, u⟩ := (d : (List (Int × List Int)) × (List (Int × List Int)) × Unit)
    have hp := PkS.un_pack h
    subst hp
    exact (elaws_eqRuleS @laws_eqRule @laws_eqRuleS_l4 n x0 x1 k).symm

/-! ### loop.example/g00269/laws.FnExactIsModel -/
theorem claws_FnExactIsModel (n : Nat) : AllOk Try.prog [(12, Klaws_szRuleS @laws_szRuleS n), (14, Klaws_toRuleS @laws_toRuleS n), (18, Klaws_toIntS @laws_toIntS n), (17, Kspec_IsModel @spec_IsModel n), (19, Kimpl_IsModel @impl_IsModel n), (16, Klaws_eqRuleS @laws_eqRuleS n), (20, Klaws_eqIntS @laws_eqIntS n)] := ⟨oklaws_szRuleS n, ⟨oklaws_toRuleS n, ⟨oklaws_toIntS n, ⟨okspec_IsModel n, ⟨okimpl_IsModel n, ⟨oklaws_eqRuleS n, ⟨oklaws_eqIntS n, trivial⟩⟩⟩⟩⟩⟩⟩
@[reducible] def Slaws_FnExactIsModel : PkS := ⟨[.one (.ro (.pr (.int .i64) (.sl (.int .i64)))), .one (.ro (.int .i64))], []⟩
@[reducible] def Tlaws_FnExactIsModel : PkS := ⟨[.one (.bool), .one (.dead), .one (.dead)], []⟩
def Hlaws_FnExactIsModel : List Sh := [.one .any, .skip, .skip]
def Klaws_FnExactIsModel (g : ∀ {R : Type}, Nat → (List (Int × List Int)) → (List Int) → (Bool → Option R) → Option R) (n : Nat) : KPs := fun R p k => match (PkS.un Slaws_FnExactIsModel p : Option ((List (Int × List Int)) × (List Int) × Unit)) with
  | some (x0, x1, _) => g n x0 x1 (fun r0 => k (PkS.pack Tlaws_FnExactIsModel (r0, ())))
  | none => none
theorem elaws_FnExactIsModel (laws_szRuleS : ∀ {R : Type}, Nat → (List (Int × List Int)) → Int → (Int → Option R) → Option R) (laws_toRuleS : ∀ {R : Type}, Nat → (List (Int × List Int)) → ((List (Int × List Int)) → Option R) → Option R) (laws_toIntS : ∀ {R : Type}, Nat → (List Int) → ((List Int) → Option R) → Option R) (spec_IsModel : ∀ {R : Type}, Nat → (List (Int × List Int)) → (List Int) → (Bool → Bool → Option R) → Option R) (impl_IsModel : ∀ {R : Type}, Nat → (List (Int × List Int)) → (List Int) → (Bool → Bool → Option R) → Option R) (laws_eqRuleS : ∀ {R : Type}, Nat → (List (Int × List Int)) → (List (Int × List Int)) → (Bool → Option R) → Option R) (laws_eqIntS : ∀ {R : Type}, Nat → (List Int) → (List Int) → (Bool → Option R) → Option R) {R : Type} (n : Nat) (x0 : List (Int × List Int)) (x1 : List Int) (k : Pk → Option R) : evF tt sig (mkK [(12, Klaws_szRuleS @laws_szRuleS n), (14, Klaws_toRuleS @laws_toRuleS n), (18, Klaws_toIntS @laws_toIntS n), (17, Kspec_IsModel @spec_IsModel n), (19, Kimpl_IsModel @impl_IsModel n), (16, Klaws_eqRuleS @laws_eqRuleS n), (20, Klaws_eqIntS @laws_eqIntS n)] R) (mkL (mkK [(12, Klaws_szRuleS @laws_szRuleS n), (14, Klaws_toRuleS @laws_toRuleS n), (18, Klaws_toIntS @laws_toIntS n), (17, Kspec_IsModel @spec_IsModel n), (19, Kimpl_IsModel @impl_IsModel n), (16, Klaws_eqRuleS @laws_eqRuleS n), (20, Klaws_eqIntS @laws_eqIntS n)]) [] R) Try.f4 Hlaws_FnExactIsModel (PkS.pack Slaws_FnExactIsModel (x0, x1, ())) k = (fun (k : Bool → Option R) => (bif (decide ((x1.length : Int) > 1048576)) then k true else (laws_szRuleS n x0 1048576 fun r1 => (bif (decide (r1 < 0)) then k true else (laws_toRuleS n x0 fun r2 => (laws_toIntS n x1 fun r3 => (spec_IsModel n r2 r3 fun r4 r5 => (laws_toRuleS n x0 fun r6 => (laws_toIntS n x1 fun r7 => (impl_IsModel n r6 r7 fun r8 r9 => (bif (!(r8 == r4)) then k false else (bif (!(r9 == r5)) then k false else (laws_toRuleS n x0 fun r10 => (laws_eqRuleS n r6 r10 fun r11 => (bif (!r11) then k false else (laws_toIntS n x1 fun r12 => (laws_eqIntS n r7 r12 fun r13 => (bif (!r13) then k false else k true)))))))))))))))))) (fun r0 => k (PkS.pack Tlaws_FnExactIsModel (r0, ()))) := by kernel_rfl
theorem oklaws_FnExactIsModel (n : Nat) : FnOk Try.prog 4 (Klaws_FnExactIsModel @laws_FnExactIsModel n) := by
  refine fn_ok (sig := sig) mixed ttok (mkK_nat (claws_FnExactIsModel n)) (mkK_ok (claws_FnExactIsModel n)) (mkL_nat (mkK_nat (claws_FnExactIsModel n)) (l := []) trivial) (fn := Try.f4) (c := bodyOf Try.f4) (by kernel_rfl) (by kernel_rfl) (by kernel_rfl) (.eq (l := []) (by kernel_rfl) trivial) (shs := Hlaws_FnExactIsModel) (S := Slaws_FnExactIsModel) fun R p k => ?_
  unfold Klaws_FnExactIsModel
  cases h : (PkS.un Slaws_FnExactIsModel p) with
  | none => rfl
  | some d =>
    obtain ⟨x0, x1, u⟩ := (d : (List (Int × List Int)) × (List Int) × Unit)
    have hp := PkS.un_pack h
    subst hp
    exact (elaws_FnExactIsModel @laws_szRuleS @laws_toRuleS @laws_toIntS @spec_IsModel @impl_IsModel @laws_eqRuleS @laws_eqIntS n x0 x1 k).symm
end Go.Am.G
