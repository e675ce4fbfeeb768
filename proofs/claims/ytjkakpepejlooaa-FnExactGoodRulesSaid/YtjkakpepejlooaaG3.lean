/- The code of the functions that the law reaches does what the plain functions say. -/
import Derived.Test.YtjkakpepejlooaaF3
import Derived.Test.YtjkakpepejlooaaAmB
import Derived.KernelRfl
import Derived.Test.YtjkakpepejlooaaProg
set_option linter.unusedVariables false
set_option maxRecDepth 100000
namespace Go.Am.G
open Go Go.Am
open Go.Proofs
def tt : TT := [(3, ⟨1, false, (.int .i64), 0, [], [.int .i64 0], 8, true, false, []⟩), (4, ⟨1, false, .bool, 0, [], [.bool false], 1, true, false, []⟩), (22, ⟨1, false, (.sl (.pr (.int .i64) (.sl (.int .i64)))), 55, [], [.nil], 24, true, true, []⟩), (25, ⟨1, false, (.sl (.pr (.int .i64) (.sl (.int .i64)))), 48, [], [.nil], 24, true, true, []⟩), (29, ⟨1, false, (.sl (.int .i64)), 3, [], [.nil], 24, true, true, []⟩), (48, ⟨2, true, (.pr (.int .i64) (.sl (.int .i64))), 0, [(0, 1, false), (1, 1, false)], [.int .i64 0, .nil], 32, true, false, []⟩), (55, ⟨2, true, (.pr (.int .i64) (.sl (.int .i64))), 0, [(0, 1, false), (1, 1, false)], [.int .i64 0, .nil], 32, true, false, []⟩)]
def sig : Sig := sigOf [(3, [.one (.ro (.pr (.int .i64) (.sl (.int .i64))))]), (12, [.one (.ro (.pr (.int .i64) (.sl (.int .i64)))), .one .any]), (13, [.one (.ro (.pr (.int .i64) (.sl (.int .i64))))]), (14, [.one (.ro (.pr (.int .i64) (.sl (.int .i64))))]), (15, [.one (.ro (.pr (.int .i64) (.sl (.int .i64))))]), (16, [.one (.ro (.pr (.int .i64) (.sl (.int .i64)))), .one (.ro (.pr (.int .i64) (.sl (.int .i64))))]), (18, [.one (.ro (.int .i64))]), (20, [.one (.ro (.int .i64)), .one (.ro (.int .i64))]), (39, [.agg [.any, (.ro (.int .i64))], .one .any]), (40, [.one .any, .one .any, .one .any]), (41, [.one (.ro (.int .i64))]), (42, [.agg [.any, (.ro (.int .i64))]]), (43, [.one (.ro (.pr (.int .i64) (.sl (.int .i64)))), .fn 44 []]), (44, [.agg [.any, (.ro (.int .i64))]]), (45, [.one .any]), (46, [.one (.ro (.int .i64))]), (47, [.agg [.any, (.ro (.int .i64))], .agg [.any, (.ro (.int .i64))]]), (64, [.one (.ro (.int .i64)), .one .any]), (65, [.one (.ro (.pr (.int .i64) (.sl (.int .i64)))), .fn 44 []]), (66, [.one .any, .one .any, .one .any]), (67, [.one (.ro (.int .i64)), .one .any])]
theorem ttok : TTok Try.prog tt := .of_chk (by kernel_rfl)
theorem mixed : Try.prog.follows .mixedOrders = true := by kernel_rfl

/-! ### loop.example/g00269/laws.szIntS -/
theorem claws_szIntS (n : Nat) : AllOk Try.prog [] := trivial
@[reducible] def Slaws_szIntS : PkS := ⟨[.one (.ro (.int .i64)), .one (.int .i64)], []⟩
@[reducible] def Tlaws_szIntS : PkS := ⟨[.one (.int .i64), .one (.dead), .one (.dead)], []⟩
def Hlaws_szIntS : List Sh := [.one .any, .skip, .skip]
def Klaws_szIntS (g : ∀ {R : Type}, Nat → (List Int) → Int → (Int → Option R) → Option R) (n : Nat) : KPs := fun R p k => match (PkS.un Slaws_szIntS p : Option ((List Int) × Int × Unit)) with
  | some (x0, x1, _) => g n x0 x1 (fun r0 => k (PkS.pack Tlaws_szIntS (r0, ())))
  | none => none
theorem elaws_szIntS  {R : Type} (n : Nat) (x0 : List Int) (x1 : Int) (k : Pk → Option R) : evF tt sig (mkK [] R) (mkL (mkK []) [] R) Try.f64 Hlaws_szIntS (PkS.pack Slaws_szIntS (x0, x1, ())) k = (fun (k : Int → Option R) => (bif (decide ((IntKind.wrap .i64 (x1 - (x0.length : Int))) < 0)) then k (-1) else k (IntKind.wrap .i64 (x1 - (x0.length : Int))))) (fun r0 => k (PkS.pack Tlaws_szIntS (r0, ()))) := by kernel_rfl
theorem oklaws_szIntS (n : Nat) : FnOk Try.prog 64 (Klaws_szIntS @laws_szIntS n) := by
  refine fn_ok (sig := sig) mixed ttok (mkK_nat (claws_szIntS n)) (mkK_ok (claws_szIntS n)) (mkL_nat (mkK_nat (claws_szIntS n)) (l := []) trivial) (fn := Try.f64) (c := bodyOf Try.f64) (by kernel_rfl) (by kernel_rfl) (by kernel_rfl) (.eq (l := []) (by kernel_rfl) trivial) (shs := Hlaws_szIntS) (S := Slaws_szIntS) fun R p k => ?_
  unfold Klaws_szIntS
  cases h : (PkS.un Slaws_szIntS p) with
  | none => rfl
  | some d =>
    obtain ⟨x0, x1, u⟩ := (d : (List Int) × Int × Unit)
    have hp := PkS.un_pack h
    subst hp
    exact (elaws_szIntS  n x0 x1 k).symm

/-! ### loop.example/g00269/laws.szRule -/
theorem claws_szRule (n : Nat) : AllOk Try.prog [(64, Klaws_szIntS @laws_szIntS n)] := ⟨oklaws_szIntS n, trivial⟩
@[reducible] def Slaws_szRule : PkS := ⟨[.agg [.int .i64, .ro (.int .i64)], .one (.int .i64)], []⟩
@[reducible] def Tlaws_szRule : PkS := ⟨[.one (.int .i64), .one (.dead), .one (.dead)], []⟩
def Hlaws_szRule : List Sh := [.one .any, .skip, .skip]
def Klaws_szRule (g : ∀ {R : Type}, Nat → Int → (List Int) → Int → (Int → Option R) → Option R) (n : Nat) : KPs := fun R p k => match (PkS.un Slaws_szRule p : Option (Int × (List Int) × Int × Unit)) with
  | some (x0, x1, x2, _) => g n x0 x1 x2 (fun r0 => k (PkS.pack Tlaws_szRule (r0, ())))
  | none => none
theorem elaws_szRule (laws_szIntS : ∀ {R : Type}, Nat → (List Int) → Int → (Int → Option R) → Option R) {R : Type} (n : Nat) (x0 : Int) (x1 : List Int) (x2 : Int) (k : Pk → Option R) : evF tt sig (mkK [(64, Klaws_szIntS @laws_szIntS n)] R) (mkL (mkK [(64, Klaws_szIntS @laws_szIntS n)]) [] R) Try.f39 Hlaws_szRule (PkS.pack Slaws_szRule (x0, x1, x2, ())) k = (fun (k : Int → Option R) => (laws_szIntS n x1 x2 fun r1 => (bif (decide (r1 < 0)) then k (-1) else k r1))) (fun r0 => k (PkS.pack Tlaws_szRule (r0, ()))) := by kernel_rfl
theorem oklaws_szRule (n : Nat) : FnOk Try.prog 39 (Klaws_szRule @laws_szRule n) := by
  refine fn_ok (sig := sig) mixed ttok (mkK_nat (claws_szRule n)) (mkK_ok (claws_szRule n)) (mkL_nat (mkK_nat (claws_szRule n)) (l := []) trivial) (fn := Try.f39) (c := bodyOf Try.f39) (by kernel_rfl) (by kernel_rfl) (by kernel_rfl) (.eq (l := []) (by kernel_rfl) trivial) (shs := Hlaws_szRule) (S := Slaws_szRule) fun R p k => ?_
  unfold Klaws_szRule
  cases h : (PkS.un Slaws_szRule p) with
  | none => rfl
  | some d =>
    obtain ⟨x0, x1, x2, u⟩ := (d : Int × (List Int) × Int × Unit)
    have hp := PkS.un_pack h
    subst hp
    exact (elaws_szRule @laws_szIntS n x0 x1 x2 k).symm

/-! ### loop.example/g00269/laws.szRuleS -/
theorem claws_szRuleS (n : Nat) : AllOk Try.prog [(39, Klaws_szRule @laws_szRule n)] := ⟨oklaws_szRule n, trivial⟩
@[reducible] def Slaws_szRuleS_l5 : PkS := ⟨[.one (.ro (.pr (.int .i64) (.sl (.int .i64)))), .one (.int .i64), .one (.int .i64), .one (.dead), .one (.dead)], []⟩
@[reducible] def Tlaws_szRuleS_l5_0 : PkS := ⟨[.one (.int .i64), .one (.dead), .one (.dead)], []⟩
@[reducible] def Tlaws_szRuleS_l5_1 : PkS := ⟨[.one (.int .i64), .one (.dead), .one (.dead)], []⟩
def Dlaws_szRuleS_l5 : LoopD := ⟨27, [0, 1, 5], [.one (.ro (.pr (.int .i64) (.sl (.int .i64)))), .one .any, .one .any, .skip, .skip], fun x => match x with
  | .ret => some ([4], [.one .any, .skip, .skip])
  | .exit 0 => some ([1], [.one .any, .skip, .skip])
  | _ => none⟩
def Plaws_szRuleS_l5 (g : ∀ {R : Type}, Nat → (List (Int × List Int)) → Int → Int → (Int → Option R) → (Int → Option R) → Option R) (n : Nat) : LPs := fun R q kk => match (PkS.un Slaws_szRuleS_l5 q : Option ((List (Int × List Int)) × Int × Int × Unit)) with
  | some (y5_0, y5_1, y5_2, _) => g n y5_0 y5_1 y5_2 (fun r0 => kk .ret (PkS.pack Tlaws_szRuleS_l5_0 (r0, ()))) (fun r0 => kk (.exit 0) (PkS.pack Tlaws_szRuleS_l5_1 (r0, ())))
  | none => none
theorem elaws_szRuleS_l5 (laws_szRule : ∀ {R : Type}, Nat → Int → (List Int) → Int → (Int → Option R) → Option R) (laws_szRuleS_l5 : ∀ {R : Type}, Nat → (List (Int × List Int)) → Int → Int → (Int → Option R) → (Int → Option R) → Option R) {R : Type} (n : Nat) (y5_0 : List (Int × List Int)) (y5_1 : Int) (y5_2 : Int) (kk : Ex → Pk → Option R) : Dlaws_szRuleS_l5.step tt sig (mkK [(39, Klaws_szRule @laws_szRule n)] R) (mkL (mkK [(39, Klaws_szRule @laws_szRule n)]) [] R) (loopIn 5 (bodyOf Try.f12)) (fun q' => Plaws_szRuleS_l5 @laws_szRuleS_l5 n R q' kk) (PkS.pack Slaws_szRuleS_l5 (y5_0, y5_1, y5_2, ())) kk = (fun (kret : Int → Option R) (kexit0 : Int → Option R) => (bif (decide (y5_2 < (y5_0.length : Int))) then (bif decide (0 ≤ y5_2) then (bif decide (y5_2 < (y5_0.length : Int)) then (laws_szRule n ((y5_0.getD (Int.toNat y5_2) (0, [])).1) ((y5_0.getD (Int.toNat y5_2) (0, [])).2) y5_1 fun r1 => (bif (decide (r1 < 0)) then kret (-1) else laws_szRuleS_l5 n y5_0 r1 (IntKind.wrap .i64 (y5_2 + 1)) kret kexit0)) else none) else none) else kexit0 y5_1)) (fun r0 => kk .ret (PkS.pack Tlaws_szRuleS_l5_0 (r0, ()))) (fun r0 => kk (.exit 0) (PkS.pack Tlaws_szRuleS_l5_1 (r0, ()))) := by kernel_rfl
theorem lelaws_szRuleS_l5 : LoopEq tt sig (fun n => mkK [(39, Klaws_szRule @laws_szRule n)]) (fun n => mkL (mkK [(39, Klaws_szRule @laws_szRule n)]) []) Dlaws_szRuleS_l5 Slaws_szRuleS_l5 (loopIn 5 (bodyOf Try.f12)) (Plaws_szRuleS_l5 @laws_szRuleS_l5) where
  zero R q kk := by unfold Plaws_szRuleS_l5; cases (PkS.un Slaws_szRuleS_l5 q) <;> rfl
  succ n R q kk := by
    unfold Plaws_szRuleS_l5
    cases h : (PkS.un Slaws_szRuleS_l5 q) with
    | none => rfl
    | some d =>
      obtain ⟨y5_0, y5_1, y5_2, u⟩ := (d : (List (Int × List Int)) × Int × Int × Unit)
      have hp := PkS.un_pack h
      subst hp
      exact (elaws_szRuleS_l5 @laws_szRule @laws_szRuleS_l5 n y5_0 y5_1 y5_2 kk).symm
theorem nllaws_szRuleS_l5 : ∀ n, NatLP (Plaws_szRuleS_l5 @laws_szRuleS_l5 n) := lelaws_szRuleS_l5.nat (fun n => mkK_nat (claws_szRuleS n)) fun n => mkL_nat (mkK_nat (claws_szRuleS n)) (l := []) trivial
theorem inlaws_szRuleS_l5 (n : Nat) (R : Type) : LoopsOk Try.prog (mkL (mkK [(39, Klaws_szRule @laws_szRule n)]) [] R) (loopIn 5 (bodyOf Try.f12)) := .eq (l := []) (by kernel_rfl) trivial
theorem lklaws_szRuleS_l5 (n : Nat) (R : Type) (L0 : LK R) (h0 : ∀ id, firstRegion (loopIn 5 (bodyOf Try.f12)) = some id → L0 id = Dlaws_szRuleS_l5.oracle (mkK [(39, Klaws_szRule @laws_szRule n)] R) (Plaws_szRuleS_l5 @laws_szRuleS_l5 n R)) : LoopOk Try.prog L0 (loopIn 5 (bodyOf Try.f12)) :=
  lelaws_szRuleS_l5.ok mixed ttok (fun n => mkK_nat (claws_szRuleS n)) (fun n => mkK_ok (claws_szRuleS n)) (fun n => inlaws_szRuleS_l5 n R) (mkK_nat (claws_szRuleS n)) h0
@[reducible] def Slaws_szRuleS : PkS := ⟨[.one (.ro (.pr (.int .i64) (.sl (.int .i64)))), .one (.int .i64)], []⟩
@[reducible] def Tlaws_szRuleS : PkS := ⟨[.one (.int .i64), .one (.dead), .one (.dead)], []⟩
def Hlaws_szRuleS : List Sh := [.one .any, .skip, .skip]
def Klaws_szRuleS (g : ∀ {R : Type}, Nat → (List (Int × List Int)) → Int → (Int → Option R) → Option R) (n : Nat) : KPs := fun R p k => match (PkS.un Slaws_szRuleS p : Option ((List (Int × List Int)) × Int × Unit)) with
  | some (x0, x1, _) => g n x0 x1 (fun r0 => k (PkS.pack Tlaws_szRuleS (r0, ())))
  | none => none
theorem elaws_szRuleS (laws_szRule : ∀ {R : Type}, Nat → Int → (List Int) → Int → (Int → Option R) → Option R) (laws_szRuleS_l5 : ∀ {R : Type}, Nat → (List (Int × List Int)) → Int → Int → (Int → Option R) → (Int → Option R) → Option R) {R : Type} (n : Nat) (x0 : List (Int × List Int)) (x1 : Int) (k : Pk → Option R) : evF tt sig (mkK [(39, Klaws_szRule @laws_szRule n)] R) (mkL (mkK [(39, Klaws_szRule @laws_szRule n)]) [(5, Dlaws_szRuleS_l5, Plaws_szRuleS_l5 @laws_szRuleS_l5 n)] R) Try.f12 Hlaws_szRuleS (PkS.pack Slaws_szRuleS (x0, x1, ())) k = (fun (k : Int → Option R) => (bif (decide ((IntKind.wrap .i64 (x1 - (x0.length : Int))) < 0)) then k (-1) else (laws_szRuleS_l5 n x0 (IntKind.wrap .i64 (x1 - (x0.length : Int))) 0 (fun r2 => k r2) (fun r3 => k r3)))) (fun r0 => k (PkS.pack Tlaws_szRuleS (r0, ()))) := by kernel_rfl
theorem oklaws_szRuleS (n : Nat) : FnOk Try.prog 12 (Klaws_szRuleS @laws_szRuleS n) := by
  refine fn_ok (sig := sig) mixed ttok (mkK_nat (claws_szRuleS n)) (mkK_ok (claws_szRuleS n)) (mkL_nat (mkK_nat (claws_szRuleS n)) (l := [(5, Dlaws_szRuleS_l5, Plaws_szRuleS_l5 @laws_szRuleS_l5 n)]) ⟨nllaws_szRuleS_l5 n, trivial⟩) (fn := Try.f12) (c := bodyOf Try.f12) (by kernel_rfl) (by kernel_rfl) (by kernel_rfl) (.eq (l := [loopIn 5 (bodyOf Try.f12)]) (by kernel_rfl) ⟨(lklaws_szRuleS_l5 n _ _ (at_id (i := 5) (by kernel_rfl) rfl)), trivial⟩) (shs := Hlaws_szRuleS) (S := Slaws_szRuleS) fun R p k => ?_
  unfold Klaws_szRuleS
  cases h : (PkS.un Slaws_szRuleS p) with
  | none => rfl
  | some d =>
    obtain ⟨x0, x1, u⟩ := (d : (List (Int × List Int)) × Int × Unit)
    have hp := PkS.un_pack h
    subst hp
    exact (elaws_szRuleS @laws_szRule @laws_szRuleS_l5 n x0 x1 k).symm

/-! ### loop.example/g00269/laws.toIntS -/
theorem claws_toIntS (n : Nat) : AllOk Try.prog [] := trivial
@[reducible] def Slaws_toIntS_l3 : PkS := ⟨[.one (.ro (.int .i64)), .one (.whole (100000, 0)), .one (.int .i64), .one (.dead)], [((100000, 0), .arr (.int .i64))]⟩
@[reducible] def Tlaws_toIntS_l3_0 : PkS := ⟨[.one (.whole (100000, 0)), .one (.dead)], [((100000, 0), .arr (.int .i64))]⟩
def Dlaws_toIntS_l3 : LoopD := ⟨22, [0, 3, 4], [.one (.ro (.int .i64)), .one (.own (.int .i64)), .one .any, .skip], fun x => match x with
  | .exit 0 => some ([3], [.one (.own (.int .i64)), .skip])
  | _ => none⟩
def Plaws_toIntS_l3 (g : ∀ {R : Type}, Nat → (List Int) → Int → (List Int) → ((List Int) → Option R) → Option R) (n : Nat) : LPs := fun R q kk => match (PkS.un Slaws_toIntS_l3 q : Option ((List Int) × Int × (List Int) × Unit)) with
  | some (y3_0, y3_1, y3_2, _) => g n y3_0 y3_1 y3_2 (fun r0 => kk (.exit 0) (PkS.pack Tlaws_toIntS_l3_0 (r0, ())))
  | none => none
theorem elaws_toIntS_l3 (laws_toIntS_l3 : ∀ {R : Type}, Nat → (List Int) → Int → (List Int) → ((List Int) → Option R) → Option R) {R : Type} (n : Nat) (y3_0 : List Int) (y3_1 : Int) (y3_2 : List Int) (kk : Ex → Pk → Option R) : Dlaws_toIntS_l3.step tt sig (mkK [] R) (mkL (mkK []) [] R) (loopIn 3 (bodyOf Try.f18)) (fun q' => Plaws_toIntS_l3 @laws_toIntS_l3 n R q' kk) (PkS.pack Slaws_toIntS_l3 (y3_0, y3_1, y3_2, ())) kk = (fun (kexit0 : (List Int) → Option R) => (bif (decide (y3_1 < (y3_0.length : Int))) then (bif decide (0 ≤ y3_1) then (bif decide (y3_1 < (y3_0.length : Int)) then (bif decide (0 ≤ y3_1) then (bif decide (y3_1 < (y3_2.length : Int)) then laws_toIntS_l3 n y3_0 (IntKind.wrap .i64 (y3_1 + 1)) (y3_2.set (Int.toNat y3_1) (y3_0.getD (Int.toNat y3_1) 0)) kexit0 else none) else none) else none) else none) else kexit0 y3_2)) (fun r0 => kk (.exit 0) (PkS.pack Tlaws_toIntS_l3_0 (r0, ()))) := by kernel_rfl
theorem lelaws_toIntS_l3 : LoopEq tt sig (fun n => mkK []) (fun n => mkL (mkK []) []) Dlaws_toIntS_l3 Slaws_toIntS_l3 (loopIn 3 (bodyOf Try.f18)) (Plaws_toIntS_l3 @laws_toIntS_l3) where
  zero R q kk := by unfold Plaws_toIntS_l3; cases (PkS.un Slaws_toIntS_l3 q) <;> rfl
  succ n R q kk := by
    unfold Plaws_toIntS_l3
    cases h : (PkS.un Slaws_toIntS_l3 q) with
    | none => rfl
    | some d =>
      obtain ⟨y3_0, y3_1, y3_2, u⟩ := (d : (List Int) × Int × (List Int) × Unit)
      have hp := PkS.un_pack h
      subst hp
      exact (elaws_toIntS_l3 @laws_toIntS_l3 n y3_0 y3_1 y3_2 kk).symm
theorem nllaws_toIntS_l3 : ∀ n, NatLP (Plaws_toIntS_l3 @laws_toIntS_l3 n) := lelaws_toIntS_l3.nat (fun n => mkK_nat (claws_toIntS n)) fun n => mkL_nat (mkK_nat (claws_toIntS n)) (l := []) trivial
theorem inlaws_toIntS_l3 (n : Nat) (R : Type) : LoopsOk Try.prog (mkL (mkK []) [] R) (loopIn 3 (bodyOf Try.f18)) := .eq (l := []) (by kernel_rfl) trivial
theorem lklaws_toIntS_l3 (n : Nat) (R : Type) (L0 : LK R) (h0 : ∀ id, firstRegion (loopIn 3 (bodyOf Try.f18)) = some id → L0 id = Dlaws_toIntS_l3.oracle (mkK [] R) (Plaws_toIntS_l3 @laws_toIntS_l3 n R)) : LoopOk Try.prog L0 (loopIn 3 (bodyOf Try.f18)) :=
  lelaws_toIntS_l3.ok mixed ttok (fun n => mkK_nat (claws_toIntS n)) (fun n => mkK_ok (claws_toIntS n)) (fun n => inlaws_toIntS_l3 n R) (mkK_nat (claws_toIntS n)) h0
@[reducible] def Slaws_toIntS : PkS := ⟨[.one (.ro (.int .i64))], []⟩
@[reducible] def Tlaws_toIntS : PkS := ⟨[.one (.whole (300000, 0)), .one (.dead)], [((300000, 0), .arr (.int .i64))]⟩
def Hlaws_toIntS : List Sh := [.one (.own (.int .i64)), .skip]
def Klaws_toIntS (g : ∀ {R : Type}, Nat → (List Int) → ((List Int) → Option R) → Option R) (n : Nat) : KPs := fun R p k => match (PkS.un Slaws_toIntS p : Option ((List Int) × Unit)) with
  | some (x0, _) => g n x0 (fun r0 => k (PkS.pack Tlaws_toIntS (r0, ())))
  | none => none
theorem elaws_toIntS (laws_toIntS_l3 : ∀ {R : Type}, Nat → (List Int) → Int → (List Int) → ((List Int) → Option R) → Option R) {R : Type} (n : Nat) (x0 : List Int) (k : Pk → Option R) : evF tt sig (mkK [] R) (mkL (mkK []) [(3, Dlaws_toIntS_l3, Plaws_toIntS_l3 @laws_toIntS_l3 n)] R) Try.f18 Hlaws_toIntS (PkS.pack Slaws_toIntS (x0, ())) k = (fun (k : (List Int) → Option R) => (bif decide (0 ≤ (x0.length : Int)) then (bif decide ((x0.length : Int) ≤ (x0.length : Int)) then (bif decide ((x0.length : Int) ≤ 1099511627776) then (laws_toIntS_l3 n x0 0 (List.replicate (Int.toNat (x0.length : Int)) 0) (fun r1 => k r1)) else none) else none) else none)) (fun r0 => k (PkS.pack Tlaws_toIntS (r0, ()))) := by kernel_rfl
theorem oklaws_toIntS (n : Nat) : FnOk Try.prog 18 (Klaws_toIntS @laws_toIntS n) := by
  refine fn_ok (sig := sig) mixed ttok (mkK_nat (claws_toIntS n)) (mkK_ok (claws_toIntS n)) (mkL_nat (mkK_nat (claws_toIntS n)) (l := [(3, Dlaws_toIntS_l3, Plaws_toIntS_l3 @laws_toIntS_l3 n)]) ⟨nllaws_toIntS_l3 n, trivial⟩) (fn := Try.f18) (c := bodyOf Try.f18) (by kernel_rfl) (by kernel_rfl) (by kernel_rfl) (.eq (l := [loopIn 3 (bodyOf Try.f18)]) (by kernel_rfl) ⟨(lklaws_toIntS_l3 n _ _ (at_id (i := 3) (by kernel_rfl) rfl)), trivial⟩) (shs := Hlaws_toIntS) (S := Slaws_toIntS) fun R p k => ?_
  unfold Klaws_toIntS
  cases h : (PkS.un Slaws_toIntS p) with
  | none => rfl
  | some d =>
    obtain ⟨x0, u⟩ := (d : (List Int) × Unit)
    have hp := PkS.un_pack h
    subst hp
    exact (elaws_toIntS @laws_toIntS_l3 n x0 k).symm

/-! ### loop.example/g00269/laws.toRule -/
theorem claws_toRule (n : Nat) : AllOk Try.prog [(18, Klaws_toIntS @laws_toIntS n)] := ⟨oklaws_toIntS n, trivial⟩
@[reducible] def Slaws_toRule : PkS := ⟨[.agg [.int .i64, .ro (.int .i64)]], []⟩
@[reducible] def Tlaws_toRule : PkS := ⟨[.agg [.int .i64, .whole (300000, 0)], .one (.dead)], [((300000, 0), .arr (.int .i64))]⟩
def Hlaws_toRule : List Sh := [.agg [.any, (.own (.int .i64))], .skip]
def Klaws_toRule (g : ∀ {R : Type}, Nat → Int → (List Int) → (Int → (List Int) → Option R) → Option R) (n : Nat) : KPs := fun R p k => match (PkS.un Slaws_toRule p : Option (Int × (List Int) × Unit)) with
  | some (x0, x1, _) => g n x0 x1 (fun r0 r1 => k (PkS.pack Tlaws_toRule (r0, r1, ())))
  | none => none
theorem elaws_toRule (laws_toIntS : ∀ {R : Type}, Nat → (List Int) → ((List Int) → Option R) → Option R) {R : Type} (n : Nat) (x0 : Int) (x1 : List Int) (k : Pk → Option R) : evF tt sig (mkK [(18, Klaws_toIntS @laws_toIntS n)] R) (mkL (mkK [(18, Klaws_toIntS @laws_toIntS n)]) [] R) Try.f42 Hlaws_toRule (PkS.pack Slaws_toRule (x0, x1, ())) k = (fun (k : Int → (List Int) → Option R) => (laws_toIntS n x1 fun r1 => k x0 r1)) (fun r0 r1 => k (PkS.pack Tlaws_toRule (r0, r1, ()))) := by kernel_rfl
theorem oklaws_toRule (n : Nat) : FnOk Try.prog 42 (Klaws_toRule @laws_toRule n) := by
  refine fn_ok (sig := sig) mixed ttok (mkK_nat (claws_toRule n)) (mkK_ok (claws_toRule n)) (mkL_nat (mkK_nat (claws_toRule n)) (l := []) trivial) (fn := Try.f42) (c := bodyOf Try.f42) (by kernel_rfl) (by kernel_rfl) (by kernel_rfl) (.eq (l := []) (by kernel_rfl) trivial) (shs := Hlaws_toRule) (S := Slaws_toRule) fun R p k => ?_
  unfold Klaws_toRule
  cases h : (PkS.un Slaws_toRule p) with
  | none => rfl
  | some d =>
    obtain ⟨x0, x1, u⟩ := (d : Int × (List Int) × Unit)
    have hp := PkS.un_pack h
    subst hp
    exact (elaws_toRule @laws_toIntS n x0 x1 k).symm

/-! ### loop.example/g00269/laws.toRuleS -/
theorem claws_toRuleS (n : Nat) : AllOk Try.prog [(42, Klaws_toRule @laws_toRule n)] := ⟨oklaws_toRule n, trivial⟩
@[reducible] def Slaws_toRuleS_l3 : PkS := ⟨[.one (.ro (.pr (.int .i64) (.sl (.int .i64)))), .one (.whole (100000, 0)), .one (.int .i64), .one (.dead)], [((100000, 0), .arr (.pr (.int .i64) (.sl (.int .i64))))]⟩
@[reducible] def Tlaws_toRuleS_l3_0 : PkS := ⟨[.one (.whole (100000, 0)), .one (.dead)], [((100000, 0), .arr (.pr (.int .i64) (.sl (.int .i64))))]⟩
def Dlaws_toRuleS_l3 : LoopD := ⟨23, [0, 3, 4], [.one (.ro (.pr (.int .i64) (.sl (.int .i64)))), .one (.own (.pr (.int .i64) (.sl (.int .i64)))), .one .any, .skip], fun x => match x with
  | .exit 0 => some ([3], [.one (.own (.pr (.int .i64) (.sl (.int .i64)))), .skip])
  | _ => none⟩
def Plaws_toRuleS_l3 (g : ∀ {R : Type}, Nat → (List (Int × List Int)) → Int → (List (Int × List Int)) → ((List (Int × List Int)) → Option R) → Option R) (n : Nat) : LPs := fun R q kk => match (PkS.un Slaws_toRuleS_l3 q : Option ((List (Int × List Int)) × Int × (List (Int × List Int)) × Unit)) with
  | some (y3_0, y3_1, y3_2, _) => g n y3_0 y3_1 y3_2 (fun r0 => kk (.exit 0) (PkS.pack Tlaws_toRuleS_l3_0 (r0, ())))
  | none => none
theorem elaws_toRuleS_l3 (laws_toRule : ∀ {R : Type}, Nat → Int → (List Int) → (Int → (List Int) → Option R) → Option R) (laws_toRuleS_l3 : ∀ {R : Type}, Nat → (List (Int × List Int)) → Int → (List (Int × List Int)) → ((List (Int × List Int)) → Option R) → Option R) {R : Type} (n : Nat) (y3_0 : List (Int × List Int)) (y3_1 : Int) (y3_2 : List (Int × List Int)) (kk : Ex → Pk → Option R) : Dlaws_toRuleS_l3.step tt sig (mkK [(42, Klaws_toRule @laws_toRule n)] R) (mkL (mkK [(42, Klaws_toRule @laws_toRule n)]) [] R) (loopIn 3 (bodyOf Try.f14)) (fun q' => Plaws_toRuleS_l3 @laws_toRuleS_l3 n R q' kk) (PkS.pack Slaws_toRuleS_l3 (y3_0, y3_1, y3_2, ())) kk = (fun (kexit0 : (List (Int × List Int)) → Option R) => (bif (decide (y3_1 < (y3_0.length : Int))) then (bif decide (0 ≤ y3_1) then (bif decide (y3_1 < (y3_0.length : Int)) then (laws_toRule n ((y3_0.getD (Int.toNat y3_1) (0, [])).1) ((y3_0.getD (Int.toNat y3_1) (0, [])).2) fun r1 r2 => (bif decide (0 ≤ y3_1) then (bif decide (y3_1 < (y3_2.length : Int)) then laws_toRuleS_l3 n y3_0 (IntKind.wrap .i64 (y3_1 + 1)) (y3_2.set (Int.toNat y3_1) (r1, r2)) kexit0 else none) else none)) else none) else none) else kexit0 y3_2)) (fun r0 => kk (.exit 0) (PkS.pack Tlaws_toRuleS_l3_0 (r0, ()))) := by kernel_rfl
theorem lelaws_toRuleS_l3 : LoopEq tt sig (fun n => mkK [(42, Klaws_toRule @laws_toRule n)]) (fun n => mkL (mkK [(42, Klaws_toRule @laws_toRule n)]) []) Dlaws_toRuleS_l3 Slaws_toRuleS_l3 (loopIn 3 (bodyOf Try.f14)) (Plaws_toRuleS_l3 @laws_toRuleS_l3) where
  zero R q kk := by unfold Plaws_toRuleS_l3; cases (PkS.un Slaws_toRuleS_l3 q) <;> rfl
  succ n R q kk := by
    unfold Plaws_toRuleS_l3
    cases h : (PkS.un Slaws_toRuleS_l3 q) with
    | none => rfl
    | some d =>
      obtain ⟨y3_0, y3_1, y3_2, u⟩ := (d : (List (Int × List Int)) × Int × (List (Int × List Int)) × Unit)
      have hp := PkS.un_pack h
      subst hp
      exact (elaws_toRuleS_l3 @laws_toRule @laws_toRuleS_l3 n y3_0 y3_1 y3_2 kk).symm
theorem nllaws_toRuleS_l3 : ∀ n, NatLP (Plaws_toRuleS_l3 @laws_toRuleS_l3 n) := lelaws_toRuleS_l3.nat (fun n => mkK_nat (claws_toRuleS n)) fun n => mkL_nat (mkK_nat (claws_toRuleS n)) (l := []) trivial
theorem inlaws_toRuleS_l3 (n : Nat) (R : Type) : LoopsOk Try.prog (mkL (mkK [(42, Klaws_toRule @laws_toRule n)]) [] R) (loopIn 3 (bodyOf Try.f14)) := .eq (l := []) (by kernel_rfl) trivial
theorem lklaws_toRuleS_l3 (n : Nat) (R : Type) (L0 : LK R) (h0 : ∀ id, firstRegion (loopIn 3 (bodyOf Try.f14)) = some id → L0 id = Dlaws_toRuleS_l3.oracle (mkK [(42, Klaws_toRule @laws_toRule n)] R) (Plaws_toRuleS_l3 @laws_toRuleS_l3 n R)) : LoopOk Try.prog L0 (loopIn 3 (bodyOf Try.f14)) :=
  lelaws_toRuleS_l3.ok mixed ttok (fun n => mkK_nat (claws_toRuleS n)) (fun n => mkK_ok (claws_toRuleS n)) (fun n => inlaws_toRuleS_l3 n R) (mkK_nat (claws_toRuleS n)) h0
@[reducible] def Slaws_toRuleS : PkS := ⟨[.one (.ro (.pr (.int .i64) (.sl (.int .i64))))], []⟩
@[reducible] def Tlaws_toRuleS : PkS := ⟨[.one (.whole (300000, 0)), .one (.dead)], [((300000, 0), .arr (.pr (.int .i64) (.sl (.int .i64))))]⟩
def Hlaws_toRuleS : List Sh := [.one (.own (.pr (.int .i64) (.sl (.int .i64)))), .skip]
def Klaws_toRuleS (g : ∀ {R : Type}, Nat → (List (Int × List Int)) → ((List (Int × List Int)) → Option R) → Option R) (n : Nat) : KPs := fun R p k => match (PkS.un Slaws_toRuleS p : Option ((List (Int × List Int)) × Unit)) with
  | some (x0, _) => g n x0 (fun r0 => k (PkS.pack Tlaws_toRuleS (r0, ())))
  | none => none
theorem elaws_toRuleS (laws_toRule : ∀ {R : Type}, Nat → Int → (List Int) → (Int → (List Int) → Option R) → Option R) (laws_toRuleS_l3 : ∀ {R : Type}, Nat → (List (Int × List Int)) → Int → (List (Int × List Int)) → ((List (Int × List Int)) → Option R) → Option R) {R : Type} (n : Nat) (x0 : List (Int × List Int)) (k : Pk → Option R) : evF tt sig (mkK [(42, Klaws_toRule @laws_toRule n)] R) (mkL (mkK [(42, Klaws_toRule @laws_toRule n)]) [(3, Dlaws_toRuleS_l3, Plaws_toRuleS_l3 @laws_toRuleS_l3 n)] R) Try.f14 Hlaws_toRuleS (PkS.pack Slaws_toRuleS (x0, ())) k = (fun (k : (List (Int × List Int)) → Option R) => (bif decide (0 ≤ (x0.length : Int)) then (bif decide ((x0.length : Int) ≤ (x0.length : Int)) then (bif decide ((x0.length : Int) ≤ 1099511627776) then (laws_toRuleS_l3 n x0 0 (List.replicate (Int.toNat (x0.length : Int)) (0, [])) (fun r3 => k r3)) else none) else none) else none)) (fun r0 => k (PkS.pack Tlaws_toRuleS (r0, ()))) := by kernel_rfl
theorem oklaws_toRuleS (n : Nat) : FnOk Try.prog 14 (Klaws_toRuleS @laws_toRuleS n) := by
  refine fn_ok (sig := sig) mixed ttok (mkK_nat (claws_toRuleS n)) (mkK_ok (claws_toRuleS n)) (mkL_nat (mkK_nat (claws_toRuleS n)) (l := [(3, Dlaws_toRuleS_l3, Plaws_toRuleS_l3 @laws_toRuleS_l3 n)]) ⟨nllaws_toRuleS_l3 n, trivial⟩) (fn := Try.f14) (c := bodyOf Try.f14) (by kernel_rfl) (by kernel_rfl) (by kernel_rfl) (.eq (l := [loopIn 3 (bodyOf Try.f14)]) (by kernel_rfl) ⟨(lklaws_toRuleS_l3 n _ _ (at_id (i := 3) (by kernel_rfl) rfl)), trivial⟩) (shs := Hlaws_toRuleS) (S := Slaws_toRuleS) fun R p k => ?_
  unfold Klaws_toRuleS
  cases h : (PkS.un Slaws_toRuleS p) with
  | none => rfl
  | some d =>
    obtain ⟨x0, u⟩ := (d : (List (Int × List Int)) × Unit)
    have hp := PkS.un_pack h
    subst hp
    exact (elaws_toRuleS @laws_toRule @laws_toRuleS_l3 n x0 k).symm

/-! ### loop.example/g00269/spec.l1In -/
theorem cspec_l1In (n : Nat) : AllOk Try.prog [] := trivial
@[reducible] def Sspec_l1In : PkS := ⟨[.one (.int .i64), .one (.int .i64), .one (.int .i64)], []⟩
@[reducible] def Tspec_l1In : PkS := ⟨[.one (.bool), .one (.dead), .one (.dead), .one (.dead)], []⟩
def Hspec_l1In : List Sh := [.one .any, .skip, .skip, .skip]
def Kspec_l1In (g : ∀ {R : Type}, Nat → Int → Int → Int → (Bool → Option R) → Option R) (n : Nat) : KPs := fun R p k => match (PkS.un Sspec_l1In p : Option (Int × Int × Int × Unit)) with
  | some (x0, x1, x2, _) => g n x0 x1 x2 (fun r0 => k (PkS.pack Tspec_l1In (r0, ())))
  | none => none
theorem espec_l1In  {R : Type} (n : Nat) (x0 : Int) (x1 : Int) (x2 : Int) (k : Pk → Option R) : evF tt sig (mkK [] R) (mkL (mkK []) [] R) Try.f40 Hspec_l1In (PkS.pack Sspec_l1In (x0, x1, x2, ())) k = (fun (k : Bool → Option R) => (bif (decide (x0 ≥ x1)) then k (decide (x0 ≤ x2)) else k false)) (fun r0 => k (PkS.pack Tspec_l1In (r0, ()))) := by kernel_rfl
theorem okspec_l1In (n : Nat) : FnOk Try.prog 40 (Kspec_l1In @spec_l1In n) := by
  refine fn_ok (sig := sig) mixed ttok (mkK_nat (cspec_l1In n)) (mkK_ok (cspec_l1In n)) (mkL_nat (mkK_nat (cspec_l1In n)) (l := []) trivial) (fn := Try.f40) (c := bodyOf Try.f40) (by kernel_rfl) (by kernel_rfl) (by kernel_rfl) (.eq (l := []) (by kernel_rfl) trivial) (shs := Hspec_l1In) (S := Sspec_l1In) fun R p k => ?_
  unfold Kspec_l1In
  cases h : (PkS.un Sspec_l1In p) with
  | none => rfl
  | some d =>
    obtain ⟨x0, x1, x2, u⟩ := (d : Int × Int × Int × Unit)
    have hp := PkS.un_pack h
    subst hp
    exact (espec_l1In  n x0 x1 x2 k).symm

/-! ### loop.example/g00269/spec.l8Set -/
theorem cspec_l8Set (n : Nat) : AllOk Try.prog [(40, Kspec_l1In @spec_l1In n)] := ⟨okspec_l1In n, trivial⟩
@[reducible] def Sspec_l8Set_l2 : PkS := ⟨[.one (.ro (.int .i64)), .one (.ro (.int .i64)), .one (.int .i64), .one (.int .i64), .one (.dead)], []⟩
@[reducible] def Tspec_l8Set_l2_0 : PkS := ⟨[.one (.bool), .one (.dead)], []⟩
@[reducible] def Tspec_l8Set_l2_1 : PkS := ⟨[.one (.dead)], []⟩
def Dspec_l8Set_l2 : LoopD := ⟨29, [0, 5, 6, 7], [.one (.ro (.int .i64)), .one (.ro (.int .i64)), .one .any, .one .any, .skip], fun x => match x with
  | .ret => some ([2], [.one .any, .skip])
  | .exit 0 => some ([], [.skip])
  | _ => none⟩
def Pspec_l8Set_l2 (g : ∀ {R : Type}, Nat → (List Int) → (List Int) → Int → Int → (Bool → Option R) → (Option R) → Option R) (n : Nat) : LPs := fun R q kk => match (PkS.un Sspec_l8Set_l2 q : Option ((List Int) × (List Int) × Int × Int × Unit)) with
  | some (y2_0, y2_1, y2_2, y2_3, _) => g n y2_0 y2_1 y2_2 y2_3 (fun r0 => kk .ret (PkS.pack Tspec_l8Set_l2_0 (r0, ()))) (kk (.exit 0) (PkS.pack Tspec_l8Set_l2_1 ()))
  | none => none
theorem espec_l8Set_l2 (spec_l1In : ∀ {R : Type}, Nat → Int → Int → Int → (Bool → Option R) → Option R) (spec_l8Set_l2 : ∀ {R : Type}, Nat → (List Int) → (List Int) → Int → Int → (Bool → Option R) → (Option R) → Option R) {R : Type} (n : Nat) (y2_0 : List Int) (y2_1 : List Int) (y2_2 : Int) (y2_3 : Int) (kk : Ex → Pk → Option R) : Dspec_l8Set_l2.step tt sig (mkK [(40, Kspec_l1In @spec_l1In n)] R) (mkL (mkK [(40, Kspec_l1In @spec_l1In n)]) [] R) (loopIn 2 (bodyOf Try.f41)) (fun q' => Pspec_l8Set_l2 @spec_l8Set_l2 n R q' kk) (PkS.pack Sspec_l8Set_l2 (y2_0, y2_1, y2_2, y2_3, ())) kk = (fun (kret : Bool → Option R) (kexit0 : Option R) => (bif (decide (y2_3 < y2_2)) then (bif decide (0 ≤ y2_3) then (bif decide (y2_3 < (y2_1.length : Int)) then (spec_l1In n (y2_1.getD (Int.toNat y2_3) 0) 0 39 fun r1 => (bif (!r1) then kret false else (bif (decide (y2_3 > 0)) then (bif decide (0 ≤ (IntKind.wrap .i64 (y2_3 - 1))) then (bif decide ((IntKind.wrap .i64 (y2_3 - 1)) < (y2_0.length : Int)) then (bif (decide ((y2_0.getD (Int.toNat (IntKind.wrap .i64 (y2_3 - 1))) 0) ≥ (y2_1.getD (Int.toNat y2_3) 0))) then kret false else spec_l8Set_l2 n y2_0 y2_1 y2_2 (IntKind.wrap .i64 (y2_3 + 1)) kret kexit0) else none) else none) else spec_l8Set_l2 n y2_0 y2_1 y2_2 (IntKind.wrap .i64 (y2_3 + 1)) kret kexit0))) else none) else none) else kexit0)) (fun r0 => kk .ret (PkS.pack Tspec_l8Set_l2_0 (r0, ()))) (kk (.exit 0) (PkS.pack Tspec_l8Set_l2_1 ())) := by kernel_rfl
theorem lespec_l8Set_l2 : LoopEq tt sig (fun n => mkK [(40, Kspec_l1In @spec_l1In n)]) (fun n => mkL (mkK [(40, Kspec_l1In @spec_l1In n)]) []) Dspec_l8Set_l2 Sspec_l8Set_l2 (loopIn 2 (bodyOf Try.f41)) (Pspec_l8Set_l2 @spec_l8Set_l2) where
  zero R q kk := by unfold Pspec_l8Set_l2; cases (PkS.un Sspec_l8Set_l2 q) <;> rfl
  succ n R q kk := by
    unfold Pspec_l8Set_l2
    cases h : (PkS.un Sspec_l8Set_l2 q) with
    | none => rfl
    | some d =>
      obtain ⟨y2_0, y2_1, y2_2, y2_3, u⟩ := (d : (List Int) × (List Int) × Int × Int × Unit)
      have hp := PkS.un_pack h
      subst hp
      exact (espec_l8Set_l2 @spec_l1In @spec_l8Set_l2 n y2_0 y2_1 y2_2 y2_3 kk).symm
theorem nlspec_l8Set_l2 : ∀ n, NatLP (Pspec_l8Set_l2 @spec_l8Set_l2 n) := lespec_l8Set_l2.nat (fun n => mkK_nat (cspec_l8Set n)) fun n => mkL_nat (mkK_nat (cspec_l8Set n)) (l := []) trivial
theorem inspec_l8Set_l2 (n : Nat) (R : Type) : LoopsOk Try.prog (mkL (mkK [(40, Kspec_l1In @spec_l1In n)]) [] R) (loopIn 2 (bodyOf Try.f41)) := .eq (l := []) (by kernel_rfl) trivial
theorem lkspec_l8Set_l2 (n : Nat) (R : Type) (L0 : LK R) (h0 : ∀ id, firstRegion (loopIn 2 (bodyOf Try.f41)) = some id → L0 id = Dspec_l8Set_l2.oracle (mkK [(40, Kspec_l1In @spec_l1In n)] R) (Pspec_l8Set_l2 @spec_l8Set_l2 n R)) : LoopOk Try.prog L0 (loopIn 2 (bodyOf Try.f41)) :=
  lespec_l8Set_l2.ok mixed ttok (fun n => mkK_nat (cspec_l8Set n)) (fun n => mkK_ok (cspec_l8Set n)) (fun n => inspec_l8Set_l2 n R) (mkK_nat (cspec_l8Set n)) h0
@[reducible] def Sspec_l8Set : PkS := ⟨[.one (.ro (.int .i64))], []⟩
@[reducible] def Tspec_l8Set : PkS := ⟨[.one (.bool), .one (.dead)], []⟩
def Hspec_l8Set : List Sh := [.one .any, .skip]
def Kspec_l8Set (g : ∀ {R : Type}, Nat → (List Int) → (Bool → Option R) → Option R) (n : Nat) : KPs := fun R p k => match (PkS.un Sspec_l8Set p : Option ((List Int) × Unit)) with
  | some (x0, _) => g n x0 (fun r0 => k (PkS.pack Tspec_l8Set (r0, ())))
  | none => none
theorem espec_l8Set (spec_l1In : ∀ {R : Type}, Nat → Int → Int → Int → (Bool → Option R) → Option R) (spec_l8Set_l2 : ∀ {R : Type}, Nat → (List Int) → (List Int) → Int → Int → (Bool → Option R) → (Option R) → Option R) {R : Type} (n : Nat) (x0 : List Int) (k : Pk → Option R) : evF tt sig (mkK [(40, Kspec_l1In @spec_l1In n)] R) (mkL (mkK [(40, Kspec_l1In @spec_l1In n)]) [(2, Dspec_l8Set_l2, Pspec_l8Set_l2 @spec_l8Set_l2 n)] R) Try.f41 Hspec_l8Set (PkS.pack Sspec_l8Set (x0, ())) k = (fun (k : Bool → Option R) => (spec_l8Set_l2 n x0 x0 (x0.length : Int) 0 (fun r2 => k r2) (k true))) (fun r0 => k (PkS.pack Tspec_l8Set (r0, ()))) := by kernel_rfl
theorem okspec_l8Set (n : Nat) : FnOk Try.prog 41 (Kspec_l8Set @spec_l8Set n) := by
  refine fn_ok (sig := sig) mixed ttok (mkK_nat (cspec_l8Set n)) (mkK_ok (cspec_l8Set n)) (mkL_nat (mkK_nat (cspec_l8Set n)) (l := [(2, Dspec_l8Set_l2, Pspec_l8Set_l2 @spec_l8Set_l2 n)]) ⟨nlspec_l8Set_l2 n, trivial⟩) (fn := Try.f41) (c := bodyOf Try.f41) (by kernel_rfl) (by kernel_rfl) (by kernel_rfl) (.eq (l := [loopIn 2 (bodyOf Try.f41)]) (by kernel_rfl) ⟨(lkspec_l8Set_l2 n _ _ (at_id (i := 2) (by kernel_rfl) rfl)), trivial⟩) (shs := Hspec_l8Set) (S := Sspec_l8Set) fun R p k => ?_
  unfold Kspec_l8Set
  cases h : (PkS.un Sspec_l8Set p) with
  | none => rfl
  | some d =>
    obtain ⟨x0, u⟩ := (d : (List Int) × Unit)
    have hp := PkS.un_pack h
    subst hp
    exact (espec_l8Set @spec_l1In @spec_l8Set_l2 n x0 k).symm

/-! ### loop.example/g00269/spec.GoodRules -/
theorem cspec_GoodRules (n : Nat) : AllOk Try.prog [(40, Kspec_l1In @spec_l1In n), (41, Kspec_l8Set @spec_l8Set n)] := ⟨okspec_l1In n, ⟨okspec_l8Set n, trivial⟩⟩
@[reducible] def Sspec_GoodRules_l2 : PkS := ⟨[.one (.ro (.pr (.int .i64) (.sl (.int .i64)))), .one (.ro (.pr (.int .i64) (.sl (.int .i64)))), .one (.int .i64), .one (.int .i64), .one (.dead)], []⟩
@[reducible] def Tspec_GoodRules_l2_0 : PkS := ⟨[.one (.bool), .one (.dead)], []⟩
@[reducible] def Tspec_GoodRules_l2_1 : PkS := ⟨[.one (.ro (.pr (.int .i64) (.sl (.int .i64)))), .one (.dead)], []⟩
def Dspec_GoodRules_l2 : LoopD := ⟨25, [0, 5, 6, 7], [.one (.ro (.pr (.int .i64) (.sl (.int .i64)))), .one (.ro (.pr (.int .i64) (.sl (.int .i64)))), .one .any, .one .any, .skip], fun x => match x with
  | .ret => some ([2], [.one .any, .skip])
  | .exit 0 => some ([0], [.one (.ro (.pr (.int .i64) (.sl (.int .i64)))), .skip])
  | _ => none⟩
def Pspec_GoodRules_l2 (g : ∀ {R : Type}, Nat → (List (Int × List Int)) → (List (Int × List Int)) → Int → Int → (Bool → Option R) → ((List (Int × List Int)) → Option R) → Option R) (n : Nat) : LPs := fun R q kk => match (PkS.un Sspec_GoodRules_l2 q : Option ((List (Int × List Int)) × (List (Int × List Int)) × Int × Int × Unit)) with
  | some (y2_0, y2_1, y2_2, y2_3, _) => g n y2_0 y2_1 y2_2 y2_3 (fun r0 => kk .ret (PkS.pack Tspec_GoodRules_l2_0 (r0, ()))) (fun r0 => kk (.exit 0) (PkS.pack Tspec_GoodRules_l2_1 (r0, ())))
  | none => none
theorem espec_GoodRules_l2 (spec_l1In : ∀ {R : Type}, Nat → Int → Int → Int → (Bool → Option R) → Option R) (spec_l8Set : ∀ {R : Type}, Nat → (List Int) → (Bool → Option R) → Option R) (spec_GoodRules_l2 : ∀ {R : Type}, Nat → (List (Int × List Int)) → (List (Int × List Int)) → Int → Int → (Bool → Option R) → ((List (Int × List Int)) → Option R) → Option R) {R : Type} (n : Nat) (y2_0 : List (Int × List Int)) (y2_1 : List (Int × List Int)) (y2_2 : Int) (y2_3 : Int) (kk : Ex → Pk → Option R) : Dspec_GoodRules_l2.step tt sig (mkK [(40, Kspec_l1In @spec_l1In n), (41, Kspec_l8Set @spec_l8Set n)] R) (mkL (mkK [(40, Kspec_l1In @spec_l1In n), (41, Kspec_l8Set @spec_l8Set n)]) [] R) (loopIn 2 (bodyOf Try.f13)) (fun q' => Pspec_GoodRules_l2 @spec_GoodRules_l2 n R q' kk) (PkS.pack Sspec_GoodRules_l2 (y2_0, y2_1, y2_2, y2_3, ())) kk = (fun (kret : Bool → Option R) (kexit0 : (List (Int × List Int)) → Option R) => (bif (decide (y2_3 < y2_2)) then (bif decide (0 ≤ y2_3) then (bif decide (y2_3 < (y2_1.length : Int)) then (spec_l1In n ((y2_1.getD (Int.toNat y2_3) (0, [])).1) 0 39 fun r1 => (bif (!r1) then kret false else (spec_l8Set n ((y2_1.getD (Int.toNat y2_3) (0, [])).2) fun r2 => (bif (!r2) then kret false else spec_GoodRules_l2 n y2_0 y2_1 y2_2 (IntKind.wrap .i64 (y2_3 + 1)) kret kexit0)))) else none) else none) else kexit0 y2_0)) (fun r0 => kk .ret (PkS.pack Tspec_GoodRules_l2_0 (r0, ()))) (fun r0 => kk (.exit 0) (PkS.pack Tspec_GoodRules_l2_1 (r0, ()))) := by kernel_rfl
theorem lespec_GoodRules_l2 : LoopEq tt sig (fun n => mkK [(40, Kspec_l1In @spec_l1In n), (41, Kspec_l8Set @spec_l8Set n)]) (fun n => mkL (mkK [(40, Kspec_l1In @spec_l1In n), (41, Kspec_l8Set @spec_l8Set n)]) []) Dspec_GoodRules_l2 Sspec_GoodRules_l2 (loopIn 2 (bodyOf Try.f13)) (Pspec_GoodRules_l2 @spec_GoodRules_l2) where
  zero R q kk := by unfold Pspec_GoodRules_l2; cases (PkS.un Sspec_GoodRules_l2 q) <;> rfl
  succ n R q kk := by
    unfold Pspec_GoodRules_l2
    cases h : (PkS.un Sspec_GoodRules_l2 q) with
    | none => rfl
    | some d =>
      obtain ⟨y2_0, y2_1, y2_2, y2_3, u⟩ := (d : (List (Int × List Int)) × (List (Int × List Int)) × Int × Int × Unit)
      have hp := PkS.un_pack h
      subst hp
      exact (espec_GoodRules_l2 @spec_l1In @spec_l8Set @spec_GoodRules_l2 n y2_0 y2_1 y2_2 y2_3 kk).symm
theorem nlspec_GoodRules_l2 : ∀ n, NatLP (Pspec_GoodRules_l2 @spec_GoodRules_l2 n) := lespec_GoodRules_l2.nat (fun n => mkK_nat (cspec_GoodRules n)) fun n => mkL_nat (mkK_nat (cspec_GoodRules n)) (l := []) trivial
theorem inspec_GoodRules_l2 (n : Nat) (R : Type) : LoopsOk Try.prog (mkL (mkK [(40, Kspec_l1In @spec_l1In n), (41, Kspec_l8Set @spec_l8Set n)]) [] R) (loopIn 2 (bodyOf Try.f13)) := .eq (l := []) (by kernel_rfl) trivial
theorem lkspec_GoodRules_l2 (n : Nat) (R : Type) (L0 : LK R) (h0 : ∀ id, firstRegion (loopIn 2 (bodyOf Try.f13)) = some id → L0 id = Dspec_GoodRules_l2.oracle (mkK [(40, Kspec_l1In @spec_l1In n), (41, Kspec_l8Set @spec_l8Set n)] R) (Pspec_GoodRules_l2 @spec_GoodRules_l2 n R)) : LoopOk Try.prog L0 (loopIn 2 (bodyOf Try.f13)) :=
  lespec_GoodRules_l2.ok mixed ttok (fun n => mkK_nat (cspec_GoodRules n)) (fun n => mkK_ok (cspec_GoodRules n)) (fun n => inspec_GoodRules_l2 n R) (mkK_nat (cspec_GoodRules n)) h0
@[reducible] def Sspec_GoodRules : PkS := ⟨[.one (.ro (.pr (.int .i64) (.sl (.int .i64))))], []⟩
@[reducible] def Tspec_GoodRules : PkS := ⟨[.one (.bool), .one (.dead)], []⟩
def Hspec_GoodRules : List Sh := [.one .any, .skip]
def Kspec_GoodRules (g : ∀ {R : Type}, Nat → (List (Int × List Int)) → (Bool → Option R) → Option R) (n : Nat) : KPs := fun R p k => match (PkS.un Sspec_GoodRules p : Option ((List (Int × List Int)) × Unit)) with
  | some (x0, _) => g n x0 (fun r0 => k (PkS.pack Tspec_GoodRules (r0, ())))
  | none => none
theorem espec_GoodRules (spec_l1In : ∀ {R : Type}, Nat → Int → Int → Int → (Bool → Option R) → Option R) (spec_l8Set : ∀ {R : Type}, Nat → (List Int) → (Bool → Option R) → Option R) (spec_GoodRules_l2 : ∀ {R : Type}, Nat → (List (Int × List Int)) → (List (Int × List Int)) → Int → Int → (Bool → Option R) → ((List (Int × List Int)) → Option R) → Option R) {R : Type} (n : Nat) (x0 : List (Int × List Int)) (k : Pk → Option R) : evF tt sig (mkK [(40, Kspec_l1In @spec_l1In n), (41, Kspec_l8Set @spec_l8Set n)] R) (mkL (mkK [(40, Kspec_l1In @spec_l1In n), (41, Kspec_l8Set @spec_l8Set n)]) [(2, Dspec_GoodRules_l2, Pspec_GoodRules_l2 @spec_GoodRules_l2 n)] R) Try.f13 Hspec_GoodRules (PkS.pack Sspec_GoodRules (x0, ())) k = (fun (k : Bool → Option R) => (spec_GoodRules_l2 n x0 x0 (x0.length : Int) 0 (fun r3 => k r3) (fun r4 => k (decide ((r4.length : Int) ≤ 60))))) (fun r0 => k (PkS.pack Tspec_GoodRules (r0, ()))) := by kernel_rfl
theorem okspec_GoodRules (n : Nat) : FnOk Try.prog 13 (Kspec_GoodRules @spec_GoodRules n) := by
  refine fn_ok (sig := sig) mixed ttok (mkK_nat (cspec_GoodRules n)) (mkK_ok (cspec_GoodRules n)) (mkL_nat (mkK_nat (cspec_GoodRules n)) (l := [(2, Dspec_GoodRules_l2, Pspec_GoodRules_l2 @spec_GoodRules_l2 n)]) ⟨nlspec_GoodRules_l2 n, trivial⟩) (fn := Try.f13) (c := bodyOf Try.f13) (by kernel_rfl) (by kernel_rfl) (by kernel_rfl) (.eq (l := [loopIn 2 (bodyOf Try.f13)]) (by kernel_rfl) ⟨(lkspec_GoodRules_l2 n _ _ (at_id (i := 2) (by kernel_rfl) rfl)), trivial⟩) (shs := Hspec_GoodRules) (S := Sspec_GoodRules) fun R p k => ?_
  unfold Kspec_GoodRules
  cases h : (PkS.un Sspec_GoodRules p) with
  | none => rfl
  | some d =>
    obtain ⟨x0, u⟩ := (d : (List (Int × List Int)) × Unit)
    have hp := PkS.un_pack h
    subst hp
    exact (espec_GoodRules @spec_l1In @spec_l8Set @spec_GoodRules_l2 n x0 k).symm

/-! ### loop.example/g00269/impl.in -/
theorem cimpl_in (n : Nat) : AllOk Try.prog [] := trivial
@[reducible] def Simpl_in : PkS := ⟨[.one (.int .i64), .one (.int .i64), .one (.int .i64)], []⟩
@[reducible] def Timpl_in : PkS := ⟨[.one (.bool), .one (.dead), .one (.dead), .one (.dead)], []⟩
def Himpl_in : List Sh := [.one .any, .skip, .skip, .skip]
def Kimpl_in (g : ∀ {R : Type}, Nat → Int → Int → Int → (Bool → Option R) → Option R) (n : Nat) : KPs := fun R p k => match (PkS.un Simpl_in p : Option (Int × Int × Int × Unit)) with
  | some (x0, x1, x2, _) => g n x0 x1 x2 (fun r0 => k (PkS.pack Timpl_in (r0, ())))
  | none => none
theorem eimpl_in  {R : Type} (n : Nat) (x0 : Int) (x1 : Int) (x2 : Int) (k : Pk → Option R) : evF tt sig (mkK [] R) (mkL (mkK []) [] R) Try.f66 Himpl_in (PkS.pack Simpl_in (x0, x1, x2, ())) k = (fun (k : Bool → Option R) => (bif (decide (x0 ≥ x1)) then k (decide (x0 ≤ x2)) else k false)) (fun r0 => k (PkS.pack Timpl_in (r0, ()))) := by kernel_rfl
theorem okimpl_in (n : Nat) : FnOk Try.prog 66 (Kimpl_in @impl_in n) := by
  refine fn_ok (sig := sig) mixed ttok (mkK_nat (cimpl_in n)) (mkK_ok (cimpl_in n)) (mkL_nat (mkK_nat (cimpl_in n)) (l := []) trivial) (fn := Try.f66) (c := bodyOf Try.f66) (by kernel_rfl) (by kernel_rfl) (by kernel_rfl) (.eq (l := []) (by kernel_rfl) trivial) (shs := Himpl_in) (S := Simpl_in) fun R p k => ?_
  unfold Kimpl_in
  cases h : (PkS.un Simpl_in p) with
  | none => rfl
  | some d =>
    obtain ⟨x0, x1, x2, u⟩ := (d : Int × Int × Int × Unit)
    have hp := PkS.un_pack h
    subst hp
    exact (eimpl_in  n x0 x1 x2 k).symm

/-! ### loop.example/g00269/impl.isFact -/
theorem cimpl_isFact (n : Nat) : AllOk Try.prog [(66, Kimpl_in @impl_in n)] := ⟨okimpl_in n, trivial⟩
@[reducible] def Simpl_isFact : PkS := ⟨[.one (.int .i64)], []⟩
@[reducible] def Timpl_isFact : PkS := ⟨[.one (.bool), .one (.dead)], []⟩
def Himpl_isFact : List Sh := [.one .any, .skip]
def Kimpl_isFact (g : ∀ {R : Type}, Nat → Int → (Bool → Option R) → Option R) (n : Nat) : KPs := fun R p k => match (PkS.un Simpl_isFact p : Option (Int × Unit)) with
  | some (x0, _) => g n x0 (fun r0 => k (PkS.pack Timpl_isFact (r0, ())))
  | none => none
theorem eimpl_isFact (impl_in : ∀ {R : Type}, Nat → Int → Int → Int → (Bool → Option R) → Option R) {R : Type} (n : Nat) (x0 : Int) (k : Pk → Option R) : evF tt sig (mkK [(66, Kimpl_in @impl_in n)] R) (mkL (mkK [(66, Kimpl_in @impl_in n)]) [] R) Try.f45 Himpl_isFact (PkS.pack Simpl_isFact (x0, ())) k = (fun (k : Bool → Option R) => (impl_in n x0 0 39 fun r1 => k r1)) (fun r0 => k (PkS.pack Timpl_isFact (r0, ()))) := by kernel_rfl
theorem okimpl_isFact (n : Nat) : FnOk Try.prog 45 (Kimpl_isFact @impl_isFact n) := by
  refine fn_ok (sig := sig) mixed ttok (mkK_nat (cimpl_isFact n)) (mkK_ok (cimpl_isFact n)) (mkL_nat (mkK_nat (cimpl_isFact n)) (l := []) trivial) (fn := Try.f45) (c := bodyOf Try.f45) (by kernel_rfl) (by kernel_rfl) (by kernel_rfl) (.eq (l := []) (by kernel_rfl) trivial) (shs := Himpl_isFact) (S := Simpl_isFact) fun R p k => ?_
  unfold Kimpl_isFact
  cases h : (PkS.un Simpl_isFact p) with
  | none => rfl
  | some d =>
    obtain ⟨x0, u⟩ := (d : Int × Unit)
    have hp := PkS.un_pack h
    subst hp
    exact (eimpl_isFact @impl_in n x0 k).symm

/-! ### loop.example/g00269/impl.rising -/
theorem cimpl_rising (n : Nat) : AllOk Try.prog [(66, Kimpl_in @impl_in n)] := ⟨okimpl_in n, trivial⟩
@[reducible] def Simpl_rising_l2 : PkS := ⟨[.one (.ro (.int .i64)), .one (.int .i64), .one (.ro (.int .i64)), .one (.int .i64), .one (.int .i64), .one (.dead), .one (.dead)], []⟩
@[reducible] def Timpl_rising_l2_0 : PkS := ⟨[.one (.bool), .one (.dead), .one (.dead)], []⟩
@[reducible] def Timpl_rising_l2_1 : PkS := ⟨[.one (.dead), .one (.dead)], []⟩
def Dimpl_rising_l2 : LoopD := ⟨33, [0, 1, 7, 8, 9], [.one (.ro (.int .i64)), .one .any, .one (.ro (.int .i64)), .one .any, .one .any, .skip, .skip], fun x => match x with
  | .ret => some ([4], [.one .any, .skip, .skip])
  | .exit 0 => some ([], [.skip, .skip])
  | _ => none⟩
def Pimpl_rising_l2 (g : ∀ {R : Type}, Nat → (List Int) → Int → (List Int) → Int → Int → (Bool → Option R) → (Option R) → Option R) (n : Nat) : LPs := fun R q kk => match (PkS.un Simpl_rising_l2 q : Option ((List Int) × Int × (List Int) × Int × Int × Unit)) with
  | some (y2_0, y2_1, y2_2, y2_3, y2_4, _) => g n y2_0 y2_1 y2_2 y2_3 y2_4 (fun r0 => kk .ret (PkS.pack Timpl_rising_l2_0 (r0, ()))) (kk (.exit 0) (PkS.pack Timpl_rising_l2_1 ()))
  | none => none
theorem eimpl_rising_l2 (impl_in : ∀ {R : Type}, Nat → Int → Int → Int → (Bool → Option R) → Option R) (impl_rising_l2 : ∀ {R : Type}, Nat → (List Int) → Int → (List Int) → Int → Int → (Bool → Option R) → (Option R) → Option R) {R : Type} (n : Nat) (y2_0 : List Int) (y2_1 : Int) (y2_2 : List Int) (y2_3 : Int) (y2_4 : Int) (kk : Ex → Pk → Option R) : Dimpl_rising_l2.step tt sig (mkK [(66, Kimpl_in @impl_in n)] R) (mkL (mkK [(66, Kimpl_in @impl_in n)]) [] R) (loopIn 2 (bodyOf Try.f67)) (fun q' => Pimpl_rising_l2 @impl_rising_l2 n R q' kk) (PkS.pack Simpl_rising_l2 (y2_0, y2_1, y2_2, y2_3, y2_4, ())) kk = (fun (kret : Bool → Option R) (kexit0 : Option R) => (bif (decide (y2_4 < y2_3)) then (bif decide (0 ≤ y2_4) then (bif decide (y2_4 < (y2_2.length : Int)) then (impl_in n (y2_2.getD (Int.toNat y2_4) 0) 0 (IntKind.wrap .i64 (y2_1 - 1)) fun r1 => (bif (!r1) then kret false else (bif (decide (y2_4 > 0)) then (bif decide (0 ≤ (IntKind.wrap .i64 (y2_4 - 1))) then (bif decide ((IntKind.wrap .i64 (y2_4 - 1)) < (y2_0.length : Int)) then (bif (decide ((y2_0.getD (Int.toNat (IntKind.wrap .i64 (y2_4 - 1))) 0) ≥ (y2_2.getD (Int.toNat y2_4) 0))) then kret false else impl_rising_l2 n y2_0 y2_1 y2_2 y2_3 (IntKind.wrap .i64 (y2_4 + 1)) kret kexit0) else none) else none) else impl_rising_l2 n y2_0 y2_1 y2_2 y2_3 (IntKind.wrap .i64 (y2_4 + 1)) kret kexit0))) else none) else none) else kexit0)) (fun r0 => kk .ret (PkS.pack Timpl_rising_l2_0 (r0, ()))) (kk (.exit 0) (PkS.pack Timpl_rising_l2_1 ())) := by kernel_rfl
theorem leimpl_rising_l2 : LoopEq tt sig (fun n => mkK [(66, Kimpl_in @impl_in n)]) (fun n => mkL (mkK [(66, Kimpl_in @impl_in n)]) []) Dimpl_rising_l2 Simpl_rising_l2 (loopIn 2 (bodyOf Try.f67)) (Pimpl_rising_l2 @impl_rising_l2) where
  zero R q kk := by unfold Pimpl_rising_l2; cases (PkS.un Simpl_rising_l2 q) <;> rfl
  succ n R q kk := by
    unfold Pimpl_rising_l2
    cases h : (PkS.un Simpl_rising_l2 q) with
    | none => rfl
    | some d =>
      obtain ⟨y2_0, y2_1, y2_2, y2_3, y2_4, u⟩ := (d : (List Int) × Int × (List Int) × Int × Int × Unit)
      have hp := PkS.un_pack h
      subst hp
      exact (eimpl_rising_l2 @impl_in @impl_rising_l2 n y2_0 y2_1 y2_2 y2_3 y2_4 kk).symm
theorem nlimpl_rising_l2 : ∀ n, NatLP (Pimpl_rising_l2 @impl_rising_l2 n) := leimpl_rising_l2.nat (fun n => mkK_nat (cimpl_rising n)) fun n => mkL_nat (mkK_nat (cimpl_rising n)) (l := []) trivial
theorem inimpl_rising_l2 (n : Nat) (R : Type) : LoopsOk Try.prog (mkL (mkK [(66, Kimpl_in @impl_in n)]) [] R) (loopIn 2 (bodyOf Try.f67)) := .eq (l := []) (by kernel_rfl) trivial
theorem lkimpl_rising_l2 (n : Nat) (R : Type) (L0 : LK R) (h0 : ∀ id, firstRegion (loopIn 2 (bodyOf Try.f67)) = some id → L0 id = Dimpl_rising_l2.oracle (mkK [(66, Kimpl_in @impl_in n)] R) (Pimpl_rising_l2 @impl_rising_l2 n R)) : LoopOk Try.prog L0 (loopIn 2 (bodyOf Try.f67)) :=
  leimpl_rising_l2.ok mixed ttok (fun n => mkK_nat (cimpl_rising n)) (fun n => mkK_ok (cimpl_rising n)) (fun n => inimpl_rising_l2 n R) (mkK_nat (cimpl_rising n)) h0
@[reducible] def Simpl_rising : PkS := ⟨[.one (.ro (.int .i64)), .one (.int .i64)], []⟩
@[reducible] def Timpl_rising : PkS := ⟨[.one (.bool), .one (.dead), .one (.dead)], []⟩
def Himpl_rising : List Sh := [.one .any, .skip, .skip]
def Kimpl_rising (g : ∀ {R : Type}, Nat → (List Int) → Int → (Bool → Option R) → Option R) (n : Nat) : KPs := fun R p k => match (PkS.un Simpl_rising p : Option ((List Int) × Int × Unit)) with
  | some (x0, x1, _) => g n x0 x1 (fun r0 => k (PkS.pack Timpl_rising (r0, ())))
  | none => none
theorem eimpl_rising (impl_in : ∀ {R : Type}, Nat → Int → Int → Int → (Bool → Option R) → Option R) (impl_rising_l2 : ∀ {R : Type}, Nat → (List Int) → Int → (List Int) → Int → Int → (Bool → Option R) → (Option R) → Option R) {R : Type} (n : Nat) (x0 : List Int) (x1 : Int) (k : Pk → Option R) : evF tt sig (mkK [(66, Kimpl_in @impl_in n)] R) (mkL (mkK [(66, Kimpl_in @impl_in n)]) [(2, Dimpl_rising_l2, Pimpl_rising_l2 @impl_rising_l2 n)] R) Try.f67 Himpl_rising (PkS.pack Simpl_rising (x0, x1, ())) k = (fun (k : Bool → Option R) => (impl_rising_l2 n x0 x1 x0 (x0.length : Int) 0 (fun r2 => k r2) (k true))) (fun r0 => k (PkS.pack Timpl_rising (r0, ()))) := by kernel_rfl
theorem okimpl_rising (n : Nat) : FnOk Try.prog 67 (Kimpl_rising @impl_rising n) := by
  refine fn_ok (sig := sig) mixed ttok (mkK_nat (cimpl_rising n)) (mkK_ok (cimpl_rising n)) (mkL_nat (mkK_nat (cimpl_rising n)) (l := [(2, Dimpl_rising_l2, Pimpl_rising_l2 @impl_rising_l2 n)]) ⟨nlimpl_rising_l2 n, trivial⟩) (fn := Try.f67) (c := bodyOf Try.f67) (by kernel_rfl) (by kernel_rfl) (by kernel_rfl) (.eq (l := [loopIn 2 (bodyOf Try.f67)]) (by kernel_rfl) ⟨(lkimpl_rising_l2 n _ _ (at_id (i := 2) (by kernel_rfl) rfl)), trivial⟩) (shs := Himpl_rising) (S := Simpl_rising) fun R p k => ?_
  unfold Kimpl_rising
  cases h : (PkS.un Simpl_rising p) with
  | none => rfl
  | some d =>
    obtain ⟨x0, x1, u⟩ := (d : (List Int) × Int × Unit)
    have hp := PkS.un_pack h
    subst hp
    exact (eimpl_rising @impl_in @impl_rising_l2 n x0 x1 k).symm

/-! ### loop.example/g00269/impl.isSet -/
theorem cimpl_isSet (n : Nat) : AllOk Try.prog [(67, Kimpl_rising @impl_rising n)] := ⟨okimpl_rising n, trivial⟩
@[reducible] def Simpl_isSet : PkS := ⟨[.one (.ro (.int .i64))], []⟩
@[reducible] def Timpl_isSet : PkS := ⟨[.one (.bool), .one (.dead)], []⟩
def Himpl_isSet : List Sh := [.one .any, .skip]
def Kimpl_isSet (g : ∀ {R : Type}, Nat → (List Int) → (Bool → Option R) → Option R) (n : Nat) : KPs := fun R p k => match (PkS.un Simpl_isSet p : Option ((List Int) × Unit)) with
  | some (x0, _) => g n x0 (fun r0 => k (PkS.pack Timpl_isSet (r0, ())))
  | none => none
theorem eimpl_isSet (impl_rising : ∀ {R : Type}, Nat → (List Int) → Int → (Bool → Option R) → Option R) {R : Type} (n : Nat) (x0 : List Int) (k : Pk → Option R) : evF tt sig (mkK [(67, Kimpl_rising @impl_rising n)] R) (mkL (mkK [(67, Kimpl_rising @impl_rising n)]) [] R) Try.f46 Himpl_isSet (PkS.pack Simpl_isSet (x0, ())) k = (fun (k : Bool → Option R) => (impl_rising n x0 40 fun r1 => k r1)) (fun r0 => k (PkS.pack Timpl_isSet (r0, ()))) := by kernel_rfl
theorem okimpl_isSet (n : Nat) : FnOk Try.prog 46 (Kimpl_isSet @impl_isSet n) := by
  refine fn_ok (sig := sig) mixed ttok (mkK_nat (cimpl_isSet n)) (mkK_ok (cimpl_isSet n)) (mkL_nat (mkK_nat (cimpl_isSet n)) (l := []) trivial) (fn := Try.f46) (c := bodyOf Try.f46) (by kernel_rfl) (by kernel_rfl) (by kernel_rfl) (.eq (l := []) (by kernel_rfl) trivial) (shs := Himpl_isSet) (S := Simpl_isSet) fun R p k => ?_
  unfold Kimpl_isSet
  cases h : (PkS.un Simpl_isSet p) with
  | none => rfl
  | some d =>
    obtain ⟨x0, u⟩ := (d : (List Int) × Unit)
    have hp := PkS.un_pack h
    subst hp
    exact (eimpl_isSet @impl_rising n x0 k).symm

/-! ### loop.example/g00269/impl.GoodRules$1 -/
theorem cimpl_GoodRules_c1 (n : Nat) : AllOk Try.prog [(45, Kimpl_isFact @impl_isFact n), (46, Kimpl_isSet @impl_isSet n)] := ⟨okimpl_isFact n, ⟨okimpl_isSet n, trivial⟩⟩
@[reducible] def Simpl_GoodRules_c1 : PkS := ⟨[.agg [.int .i64, .ro (.int .i64)]], []⟩
@[reducible] def Timpl_GoodRules_c1 : PkS := ⟨[.one (.bool), .one (.dead)], []⟩
def Himpl_GoodRules_c1 : List Sh := [.one .any, .skip]
def Kimpl_GoodRules_c1 (g : ∀ {R : Type}, Nat → Int → (List Int) → (Bool → Option R) → Option R) (n : Nat) : KPs := fun R p k => match (PkS.un Simpl_GoodRules_c1 p : Option (Int × (List Int) × Unit)) with
  | some (x0, x1, _) => g n x0 x1 (fun r0 => k (PkS.pack Timpl_GoodRules_c1 (r0, ())))
  | none => none
theorem eimpl_GoodRules_c1 (impl_isFact : ∀ {R : Type}, Nat → Int → (Bool → Option R) → Option R) (impl_isSet : ∀ {R : Type}, Nat → (List Int) → (Bool → Option R) → Option R) {R : Type} (n : Nat) (x0 : Int) (x1 : List Int) (k : Pk → Option R) : evF tt sig (mkK [(45, Kimpl_isFact @impl_isFact n), (46, Kimpl_isSet @impl_isSet n)] R) (mkL (mkK [(45, Kimpl_isFact @impl_isFact n), (46, Kimpl_isSet @impl_isSet n)]) [] R) Try.f44 Himpl_GoodRules_c1 (PkS.pack Simpl_GoodRules_c1 (x0, x1, ())) k = (fun (k : Bool → Option R) => (impl_isFact n x0 fun r1 => (bif (!r1) then k true else (impl_isSet n x1 fun r2 => k (!r2))))) (fun r0 => k (PkS.pack Timpl_GoodRules_c1 (r0, ()))) := by kernel_rfl
theorem okimpl_GoodRules_c1 (n : Nat) : FnOk Try.prog 44 (Kimpl_GoodRules_c1 @impl_GoodRules_c1 n) := by
  refine fn_ok (sig := sig) mixed ttok (mkK_nat (cimpl_GoodRules_c1 n)) (mkK_ok (cimpl_GoodRules_c1 n)) (mkL_nat (mkK_nat (cimpl_GoodRules_c1 n)) (l := []) trivial) (fn := Try.f44) (c := bodyOf Try.f44) (by kernel_rfl) (by kernel_rfl) (by kernel_rfl) (.eq (l := []) (by kernel_rfl) trivial) (shs := Himpl_GoodRules_c1) (S := Simpl_GoodRules_c1) fun R p k => ?_
  unfold Kimpl_GoodRules_c1
  cases h : (PkS.un Simpl_GoodRules_c1 p) with
  | none => rfl
  | some d =>
    obtain ⟨x0, x1, u⟩ := (d : Int × (List Int) × Unit)
    have hp := PkS.un_pack h
    subst hp
    exact (eimpl_GoodRules_c1 @impl_isFact @impl_isSet n x0 x1 k).symm

/-! ### slices.IndexFunc[[]loop.example/g00269/impl.Rule,loop.example/g00269/impl.Rule] -/
theorem cslices_IndexFunc_impl_Rule_impl_GoodRules_c1 (n : Nat) : AllOk Try.prog [(44, Kimpl_GoodRules_c1 @impl_GoodRules_c1 n)] := ⟨okimpl_GoodRules_c1 n, trivial⟩
@[reducible] def Sslices_IndexFunc_impl_Rule_impl_GoodRules_c1_l2 : PkS := ⟨[.one (.ro (.pr (.int .i64) (.sl (.int .i64)))), .one (.fn 44 []), .one (.int .i64), .one (.int .i64), .one (.dead), .one (.fn 44 [])], []⟩
@[reducible] def Tslices_IndexFunc_impl_Rule_impl_GoodRules_c1_l2_0 : PkS := ⟨[.one (.int .i64), .one (.dead), .one (.fn 44 [])], []⟩
@[reducible] def Tslices_IndexFunc_impl_Rule_impl_GoodRules_c1_l2_1 : PkS := ⟨[.one (.dead), .one (.fn 44 [])], []⟩
def Dslices_IndexFunc_impl_Rule_impl_GoodRules_c1_l2 : LoopD := ⟨19, [0, 1, 7, 8], [.one (.ro (.pr (.int .i64) (.sl (.int .i64)))), .fn 44 [], .one .any, .one .any, .skip, .fn 44 []], fun x => match x with
  | .ret => some ([4], [.one .any, .skip, .fn 44 []])
  | .exit 0 => some ([], [.skip, .fn 44 []])
  | _ => none⟩
def Pslices_IndexFunc_impl_Rule_impl_GoodRules_c1_l2 (g : ∀ {R : Type}, Nat → (List (Int × List Int)) → Int → Int → (Int → Option R) → (Option R) → Option R) (n : Nat) : LPs := fun R q kk => match (PkS.un Sslices_IndexFunc_impl_Rule_impl_GoodRules_c1_l2 q : Option ((List (Int × List Int)) × Int × Int × Unit)) with
  | some (y2_0, y2_1, y2_2, _) => g n y2_0 y2_1 y2_2 (fun r0 => kk .ret (PkS.pack Tslices_IndexFunc_impl_Rule_impl_GoodRules_c1_l2_0 (r0, ()))) (kk (.exit 0) (PkS.pack Tslices_IndexFunc_impl_Rule_impl_GoodRules_c1_l2_1 ()))
  | none => none
theorem eslices_IndexFunc_impl_Rule_impl_GoodRules_c1_l2 (impl_GoodRules_c1 : ∀ {R : Type}, Nat → Int → (List Int) → (Bool → Option R) → Option R) (slices_IndexFunc_impl_Rule_impl_GoodRules_c1_l2 : ∀ {R : Type}, Nat → (List (Int × List Int)) → Int → Int → (Int → Option R) → (Option R) → Option R) {R : Type} (n : Nat) (y2_0 : List (Int × List Int)) (y2_1 : Int) (y2_2 : Int) (kk : Ex → Pk → Option R) : Dslices_IndexFunc_impl_Rule_impl_GoodRules_c1_l2.step tt sig (mkK [(44, Kimpl_GoodRules_c1 @impl_GoodRules_c1 n)] R) (mkL (mkK [(44, Kimpl_GoodRules_c1 @impl_GoodRules_c1 n)]) [] R) (loopIn 2 (bodyOf Try.f65)) (fun q' => Pslices_IndexFunc_impl_Rule_impl_GoodRules_c1_l2 @slices_IndexFunc_impl_Rule_impl_GoodRules_c1_l2 n R q' kk) (PkS.pack Sslices_IndexFunc_impl_Rule_impl_GoodRules_c1_l2 (y2_0, y2_1, y2_2, ())) kk = (fun (kret : Int → Option R) (kexit0 : Option R) => (bif (decide (y2_2 < y2_1)) then (bif decide (0 ≤ y2_2) then (bif decide (y2_2 < (y2_0.length : Int)) then (impl_GoodRules_c1 n ((y2_0.getD (Int.toNat y2_2) (0, [])).1) ((y2_0.getD (Int.toNat y2_2) (0, [])).2) fun r1 => (bif r1 then kret y2_2 else slices_IndexFunc_impl_Rule_impl_GoodRules_c1_l2 n y2_0 y2_1 (IntKind.wrap .i64 (y2_2 + 1)) kret kexit0)) else none) else none) else kexit0)) (fun r0 => kk .ret (PkS.pack Tslices_IndexFunc_impl_Rule_impl_GoodRules_c1_l2_0 (r0, ()))) (kk (.exit 0) (PkS.pack Tslices_IndexFunc_impl_Rule_impl_GoodRules_c1_l2_1 ())) := by kernel_rfl
theorem leslices_IndexFunc_impl_Rule_impl_GoodRules_c1_l2 : LoopEq tt sig (fun n => mkK [(44, Kimpl_GoodRules_c1 @impl_GoodRules_c1 n)]) (fun n => mkL (mkK [(44, Kimpl_GoodRules_c1 @impl_GoodRules_c1 n)]) []) Dslices_IndexFunc_impl_Rule_impl_GoodRules_c1_l2 Sslices_IndexFunc_impl_Rule_impl_GoodRules_c1_l2 (loopIn 2 (bodyOf Try.f65)) (Pslices_IndexFunc_impl_Rule_impl_GoodRules_c1_l2 @slices_IndexFunc_impl_Rule_impl_GoodRules_c1_l2) where
  zero R q kk := by unfold Pslices_IndexFunc_impl_Rule_impl_GoodRules_c1_l2; cases (PkS.un Sslices_IndexFunc_impl_Rule_impl_GoodRules_c1_l2 q) <;> rfl
  succ n R q kk := by
    unfold Pslices_IndexFunc_impl_Rule_impl_GoodRules_c1_l2
    cases h : (PkS.un Sslices_IndexFunc_impl_Rule_impl_GoodRules_c1_l2 q) with
    | none => rfl
    | some d =>
      obtain ⟨y2_0, y2_1, y2_2, u⟩ := (d : (List (Int × List Int)) × Int × Int × Unit)
      have hp := PkS.un_pack h
      subst hp
      exact (eslices_IndexFunc_impl_Rule_impl_GoodRules_c1_l2 @impl_GoodRules_c1 @slices_IndexFunc_impl_Rule_impl_GoodRules_c1_l2 n y2_0 y2_1 y2_2 kk).symm
theorem nlslices_IndexFunc_impl_Rule_impl_GoodRules_c1_l2 : ∀ n, NatLP (Pslices_IndexFunc_impl_Rule_impl_GoodRules_c1_l2 @slices_IndexFunc_impl_Rule_impl_GoodRules_c1_l2 n) := leslices_IndexFunc_impl_Rule_impl_GoodRules_c1_l2.nat (fun n => mkK_nat (cslices_IndexFunc_impl_Rule_impl_GoodRules_c1 n)) fun n => mkL_nat (mkK_nat (cslices_IndexFunc_impl_Rule_impl_GoodRules_c1 n)) (l := []) trivial
theorem inslices_IndexFunc_impl_Rule_impl_GoodRules_c1_l2 (n : Nat) (R : Type) : LoopsOk Try.prog (mkL (mkK [(44, Kimpl_GoodRules_c1 @impl_GoodRules_c1 n)]) [] R) (loopIn 2 (bodyOf Try.f65)) := .eq (l := []) (by kernel_rfl) trivial
theorem lkslices_IndexFunc_impl_Rule_impl_GoodRules_c1_l2 (n : Nat) (R : Type) (L0 : LK R) (h0 : ∀ id, firstRegion (loopIn 2 (bodyOf Try.f65)) = some id → L0 id = Dslices_IndexFunc_impl_Rule_impl_GoodRules_c1_l2.oracle (mkK [(44, Kimpl_GoodRules_c1 @impl_GoodRules_c1 n)] R) (Pslices_IndexFunc_impl_Rule_impl_GoodRules_c1_l2 @slices_IndexFunc_impl_Rule_impl_GoodRules_c1_l2 n R)) : LoopOk Try.prog L0 (loopIn 2 (bodyOf Try.f65)) :=
  leslices_IndexFunc_impl_Rule_impl_GoodRules_c1_l2.ok mixed ttok (fun n => mkK_nat (cslices_IndexFunc_impl_Rule_impl_GoodRules_c1 n)) (fun n => mkK_ok (cslices_IndexFunc_impl_Rule_impl_GoodRules_c1 n)) (fun n => inslices_IndexFunc_impl_Rule_impl_GoodRules_c1_l2 n R) (mkK_nat (cslices_IndexFunc_impl_Rule_impl_GoodRules_c1 n)) h0
@[reducible] def Sslices_IndexFunc_impl_Rule_impl_GoodRules_c1 : PkS := ⟨[.one (.ro (.pr (.int .i64) (.sl (.int .i64)))), .one (.fn 44 [])], []⟩
@[reducible] def Tslices_IndexFunc_impl_Rule_impl_GoodRules_c1 : PkS := ⟨[.one (.int .i64), .one (.dead), .one (.fn 44 [])], []⟩
def Hslices_IndexFunc_impl_Rule_impl_GoodRules_c1 : List Sh := [.one .any, .skip, .fn 44 []]
def Kslices_IndexFunc_impl_Rule_impl_GoodRules_c1 (g : ∀ {R : Type}, Nat → (List (Int × List Int)) → (Int → Option R) → Option R) (n : Nat) : KPs := fun R p k => match (PkS.un Sslices_IndexFunc_impl_Rule_impl_GoodRules_c1 p : Option ((List (Int × List Int)) × Unit)) with
  | some (x0, _) => g n x0 (fun r0 => k (PkS.pack Tslices_IndexFunc_impl_Rule_impl_GoodRules_c1 (r0, ())))
  | none => none
theorem eslices_IndexFunc_impl_Rule_impl_GoodRules_c1 (impl_GoodRules_c1 : ∀ {R : Type}, Nat → Int → (List Int) → (Bool → Option R) → Option R) (slices_IndexFunc_impl_Rule_impl_GoodRules_c1_l2 : ∀ {R : Type}, Nat → (List (Int × List Int)) → Int → Int → (Int → Option R) → (Option R) → Option R) {R : Type} (n : Nat) (x0 : List (Int × List Int)) (k : Pk → Option R) : evF tt sig (mkK [(44, Kimpl_GoodRules_c1 @impl_GoodRules_c1 n)] R) (mkL (mkK [(44, Kimpl_GoodRules_c1 @impl_GoodRules_c1 n)]) [(2, Dslices_IndexFunc_impl_Rule_impl_GoodRules_c1_l2, Pslices_IndexFunc_impl_Rule_impl_GoodRules_c1_l2 @slices_IndexFunc_impl_Rule_impl_GoodRules_c1_l2 n)] R) Try.f65 Hslices_IndexFunc_impl_Rule_impl_GoodRules_c1 (PkS.pack Sslices_IndexFunc_impl_Rule_impl_GoodRules_c1 (x0, ())) k = (fun (k : Int → Option R) => (slices_IndexFunc_impl_Rule_impl_GoodRules_c1_l2 n x0 (x0.length : Int) 0 (fun r2 => k r2) (k (-1)))) (fun r0 => k (PkS.pack Tslices_IndexFunc_impl_Rule_impl_GoodRules_c1 (r0, ()))) := by kernel_rfl
theorem okslices_IndexFunc_impl_Rule_impl_GoodRules_c1 (n : Nat) : FnOk Try.prog 65 (Kslices_IndexFunc_impl_Rule_impl_GoodRules_c1 @slices_IndexFunc_impl_Rule_impl_GoodRules_c1 n) := by
  refine fn_ok (sig := sig) mixed ttok (mkK_nat (cslices_IndexFunc_impl_Rule_impl_GoodRules_c1 n)) (mkK_ok (cslices_IndexFunc_impl_Rule_impl_GoodRules_c1 n)) (mkL_nat (mkK_nat (cslices_IndexFunc_impl_Rule_impl_GoodRules_c1 n)) (l := [(2, Dslices_IndexFunc_impl_Rule_impl_GoodRules_c1_l2, Pslices_IndexFunc_impl_Rule_impl_GoodRules_c1_l2 @slices_IndexFunc_impl_Rule_impl_GoodRules_c1_l2 n)]) ⟨nlslices_IndexFunc_impl_Rule_impl_GoodRules_c1_l2 n, trivial⟩) (fn := Try.f65) (c := bodyOf Try.f65) (by kernel_rfl) (by kernel_rfl) (by kernel_rfl) (.eq (l := [loopIn 2 (bodyOf Try.f65)]) (by kernel_rfl) ⟨(lkslices_IndexFunc_impl_Rule_impl_GoodRules_c1_l2 n _ _ (at_id (i := 2) (by kernel_rfl) rfl)), trivial⟩) (shs := Hslices_IndexFunc_impl_Rule_impl_GoodRules_c1) (S := Sslices_IndexFunc_impl_Rule_impl_GoodRules_c1) fun R p k => ?_
  unfold Kslices_IndexFunc_impl_Rule_impl_GoodRules_c1
  cases h : (PkS.un Sslices_IndexFunc_impl_Rule_impl_GoodRules_c1 p) with
  | none => rfl
  | some d =>
    obtain ⟨x0, u⟩ := (d : (List (Int × List Int)) × Unit)
    have hp := PkS.un_pack h
    subst hp
    exact (eslices_IndexFunc_impl_Rule_impl_GoodRules_c1 @impl_GoodRules_c1 @slices_IndexFunc_impl_Rule_impl_GoodRules_c1_l2 n x0 k).symm

/-! ### slices.ContainsFunc[[]loop.example/g00269/impl.Rule,loop.example/g00269/impl.Rule] -/
theorem cslices_ContainsFunc_impl_Rule_impl_GoodRules_c1 (n : Nat) : AllOk Try.prog [(65, Kslices_IndexFunc_impl_Rule_impl_GoodRules_c1 @slices_IndexFunc_impl_Rule_impl_GoodRules_c1 n)] := ⟨okslices_IndexFunc_impl_Rule_impl_GoodRules_c1 n, trivial⟩
@[reducible] def Sslices_ContainsFunc_impl_Rule_impl_GoodRules_c1 : PkS := ⟨[.one (.ro (.pr (.int .i64) (.sl (.int .i64)))), .one (.fn 44 [])], []⟩
@[reducible] def Tslices_ContainsFunc_impl_Rule_impl_GoodRules_c1 : PkS := ⟨[.one (.bool), .one (.dead), .one (.fn 44 [])], []⟩
def Hslices_ContainsFunc_impl_Rule_impl_GoodRules_c1 : List Sh := [.one .any, .skip, .fn 44 []]
def Kslices_ContainsFunc_impl_Rule_impl_GoodRules_c1 (g : ∀ {R : Type}, Nat → (List (Int × List Int)) → (Bool → Option R) → Option R) (n : Nat) : KPs := fun R p k => match (PkS.un Sslices_ContainsFunc_impl_Rule_impl_GoodRules_c1 p : Option ((List (Int × List Int)) × Unit)) with
  | some (x0, _) => g n x0 (fun r0 => k (PkS.pack Tslices_ContainsFunc_impl_Rule_impl_GoodRules_c1 (r0, ())))
  | none => none
theorem eslices_ContainsFunc_impl_Rule_impl_GoodRules_c1 (slices_IndexFunc_impl_Rule_impl_GoodRules_c1 : ∀ {R : Type}, Nat → (List (Int × List Int)) → (Int → Option R) → Option R) {R : Type} (n : Nat) (x0 : List (Int × List Int)) (k : Pk → Option R) : evF tt sig (mkK [(65, Kslices_IndexFunc_impl_Rule_impl_GoodRules_c1 @slices_IndexFunc_impl_Rule_impl_GoodRules_c1 n)] R) (mkL (mkK [(65, Kslices_IndexFunc_impl_Rule_impl_GoodRules_c1 @slices_IndexFunc_impl_Rule_impl_GoodRules_c1 n)]) [] R) Try.f43 Hslices_ContainsFunc_impl_Rule_impl_GoodRules_c1 (PkS.pack Sslices_ContainsFunc_impl_Rule_impl_GoodRules_c1 (x0, ())) k = (fun (k : Bool → Option R) => (slices_IndexFunc_impl_Rule_impl_GoodRules_c1 n x0 fun r1 => k (decide (r1 ≥ 0)))) (fun r0 => k (PkS.pack Tslices_ContainsFunc_impl_Rule_impl_GoodRules_c1 (r0, ()))) := by kernel_rfl
theorem okslices_ContainsFunc_impl_Rule_impl_GoodRules_c1 (n : Nat) : FnOk Try.prog 43 (Kslices_ContainsFunc_impl_Rule_impl_GoodRules_c1 @slices_ContainsFunc_impl_Rule_impl_GoodRules_c1 n) := by
  refine fn_ok (sig := sig) mixed ttok (mkK_nat (cslices_ContainsFunc_impl_Rule_impl_GoodRules_c1 n)) (mkK_ok (cslices_ContainsFunc_impl_Rule_impl_GoodRules_c1 n)) (mkL_nat (mkK_nat (cslices_ContainsFunc_impl_Rule_impl_GoodRules_c1 n)) (l := []) trivial) (fn := Try.f43) (c := bodyOf Try.f43) (by kernel_rfl) (by kernel_rfl) (by kernel_rfl) (.eq (l := []) (by kernel_rfl) trivial) (shs := Hslices_ContainsFunc_impl_Rule_impl_GoodRules_c1) (S := Sslices_ContainsFunc_impl_Rule_impl_GoodRules_c1) fun R p k => ?_
  unfold Kslices_ContainsFunc_impl_Rule_impl_GoodRules_c1
  cases h : (PkS.un Sslices_ContainsFunc_impl_Rule_impl_GoodRules_c1 p) with
  | none => rfl
  | some d =>
    obtain ⟨x0, u⟩ := (d : (List (Int × List Int)) × Unit)
    have hp := PkS.un_pack h
    subst hp
    exact (eslices_ContainsFunc_impl_Rule_impl_GoodRules_c1 @slices_IndexFunc_impl_Rule_impl_GoodRules_c1 n x0 k).symm

/-! ### loop.example/g00269/impl.GoodRules -/
theorem cimpl_GoodRules (n : Nat) : AllOk Try.prog [(43, Kslices_ContainsFunc_impl_Rule_impl_GoodRules_c1 @slices_ContainsFunc_impl_Rule_impl_GoodRules_c1 n)] := ⟨okslices_ContainsFunc_impl_Rule_impl_GoodRules_c1 n, trivial⟩
@[reducible] def Simpl_GoodRules : PkS := ⟨[.one (.ro (.pr (.int .i64) (.sl (.int .i64))))], []⟩
@[reducible] def Timpl_GoodRules : PkS := ⟨[.one (.bool), .one (.dead)], []⟩
def Himpl_GoodRules : List Sh := [.one .any, .skip]
def Kimpl_GoodRules (g : ∀ {R : Type}, Nat → (List (Int × List Int)) → (Bool → Option R) → Option R) (n : Nat) : KPs := fun R p k => match (PkS.un Simpl_GoodRules p : Option ((List (Int × List Int)) × Unit)) with
  | some (x0, _) => g n x0 (fun r0 => k (PkS.pack Timpl_GoodRules (r0, ())))
  | none => none
theorem eimpl_GoodRules (slices_ContainsFunc_impl_Rule_impl_GoodRules_c1 : ∀ {R : Type}, Nat → (List (Int × List Int)) → (Bool → Option R) → Option R) {R : Type} (n : Nat) (x0 : List (Int × List Int)) (k : Pk → Option R) : evF tt sig (mkK [(43, Kslices_ContainsFunc_impl_Rule_impl_GoodRules_c1 @slices_ContainsFunc_impl_Rule_impl_GoodRules_c1 n)] R) (mkL (mkK [(43, Kslices_ContainsFunc_impl_Rule_impl_GoodRules_c1 @slices_ContainsFunc_impl_Rule_impl_GoodRules_c1 n)]) [] R) Try.f15 Himpl_GoodRules (PkS.pack Simpl_GoodRules (x0, ())) k = (fun (k : Bool → Option R) => (bif (decide ((x0.length : Int) ≤ 60)) then (slices_ContainsFunc_impl_Rule_impl_GoodRules_c1 n x0 fun r1 => k (!r1)) else k false)) (fun r0 => k (PkS.pack Timpl_GoodRules (r0, ()))) := by kernel_rfl
theorem okimpl_GoodRules (n : Nat) : FnOk Try.prog 15 (Kimpl_GoodRules @impl_GoodRules n) := by
  refine fn_ok (sig := sig) mixed ttok (mkK_nat (cimpl_GoodRules n)) (mkK_ok (cimpl_GoodRules n)) (mkL_nat (mkK_nat (cimpl_GoodRules n)) (l := []) trivial) (fn := Try.f15) (c := bodyOf Try.f15) (by kernel_rfl) (by kernel_rfl) (by kernel_rfl) (.eq (l := []) (by kernel_rfl) trivial) (shs := Himpl_GoodRules) (S := Simpl_GoodRules) fun R p k => ?_
  unfold Kimpl_GoodRules
  cases h : (PkS.un Simpl_GoodRules p) with
  | none => rfl
  | some d =>
    obtain ⟨x0, u⟩ := (d : (List (Int × List Int)) × Unit)
    have hp := PkS.un_pack h
    subst hp
    exact (eimpl_GoodRules @slices_ContainsFunc_impl_Rule_impl_GoodRules_c1 n x0 k).symm

/-! ### loop.example/g00269/laws.eqIntS -/
theorem claws_eqIntS (n : Nat) : AllOk Try.prog [] := trivial
@[reducible] def Slaws_eqIntS_l4 : PkS := ⟨[.one (.ro (.int .i64)), .one (.ro (.int .i64)), .one (.int .i64), .one (.dead), .one (.dead)], []⟩
@[reducible] def Tlaws_eqIntS_l4_0 : PkS := ⟨[.one (.bool), .one (.dead), .one (.dead)], []⟩
@[reducible] def Tlaws_eqIntS_l4_1 : PkS := ⟨[.one (.dead), .one (.dead)], []⟩
def Dlaws_eqIntS_l4 : LoopD := ⟨26, [0, 1, 5], [.one (.ro (.int .i64)), .one (.ro (.int .i64)), .one .any, .skip, .skip], fun x => match x with
  | .ret => some ([4], [.one .any, .skip, .skip])
  | .exit 0 => some ([], [.skip, .skip])
  | _ => none⟩
def Plaws_eqIntS_l4 (g : ∀ {R : Type}, Nat → (List Int) → (List Int) → Int → (Bool → Option R) → (Option R) → Option R) (n : Nat) : LPs := fun R q kk => match (PkS.un Slaws_eqIntS_l4 q : Option ((List Int) × (List Int) × Int × Unit)) with
  | some (y4_0, y4_1, y4_2, _) => g n y4_0 y4_1 y4_2 (fun r0 => kk .ret (PkS.pack Tlaws_eqIntS_l4_0 (r0, ()))) (kk (.exit 0) (PkS.pack Tlaws_eqIntS_l4_1 ()))
  | none => none
theorem elaws_eqIntS_l4 (laws_eqIntS_l4 : ∀ {R : Type}, Nat → (List Int) → (List Int) → Int → (Bool → Option R) → (Option R) → Option R) {R : Type} (n : Nat) (y4_0 : List Int) (y4_1 : List Int) (y4_2 : Int) (kk : Ex → Pk → Option R) : Dlaws_eqIntS_l4.step tt sig (mkK [] R) (mkL (mkK []) [] R) (loopIn 4 (bodyOf Try.f20)) (fun q' => Plaws_eqIntS_l4 @laws_eqIntS_l4 n R q' kk) (PkS.pack Slaws_eqIntS_l4 (y4_0, y4_1, y4_2, ())) kk = (fun (kret : Bool → Option R) (kexit0 : Option R) => (bif (decide (y4_2 < (y4_0.length : Int))) then (bif decide (0 ≤ y4_2) then (bif decide (y4_2 < (y4_0.length : Int)) then (bif decide (0 ≤ y4_2) then (bif decide (y4_2 < (y4_1.length : Int)) then (bif ((y4_0.getD (Int.toNat y4_2) 0) != (y4_1.getD (Int.toNat y4_2) 0)) then kret false else laws_eqIntS_l4 n y4_0 y4_1 (IntKind.wrap .i64 (y4_2 + 1)) kret kexit0) else none) else none) else none) else none) else kexit0)) (fun r0 => kk .ret (PkS.pack Tlaws_eqIntS_l4_0 (r0, ()))) (kk (.exit 0) (PkS.pack Tlaws_eqIntS_l4_1 ())) := by kernel_rfl
theorem lelaws_eqIntS_l4 : LoopEq tt sig (fun n => mkK []) (fun n => mkL (mkK []) []) Dlaws_eqIntS_l4 Slaws_eqIntS_l4 (loopIn 4 (bodyOf Try.f20)) (Plaws_eqIntS_l4 @laws_eqIntS_l4) where
  zero R q kk := by unfold Plaws_eqIntS_l4; cases (PkS.un Slaws_eqIntS_l4 q) <;> rfl
  succ n R q kk := by
    unfold Plaws_eqIntS_l4
    cases h : (PkS.un Slaws_eqIntS_l4 q) with
    | none => rfl
    | some d =>
      obtain ⟨y4_0, y4_1, y4_2, u⟩ := (d : (List Int) × (List Int) × Int × Unit)
      have hp := PkS.un_pack h
      subst hp
      exact (elaws_eqIntS_l4 @laws_eqIntS_l4 n y4_0 y4_1 y4_2 kk).symm
theorem nllaws_eqIntS_l4 : ∀ n, NatLP (Plaws_eqIntS_l4 @laws_eqIntS_l4 n) := lelaws_eqIntS_l4.nat (fun n => mkK_nat (claws_eqIntS n)) fun n => mkL_nat (mkK_nat (claws_eqIntS n)) (l := []) trivial
theorem inlaws_eqIntS_l4 (n : Nat) (R : Type) : LoopsOk Try.prog (mkL (mkK []) [] R) (loopIn 4 (bodyOf Try.f20)) := .eq (l := []) (by kernel_rfl) trivial
theorem lklaws_eqIntS_l4 (n : Nat) (R : Type) (L0 : LK R) (h0 : ∀ id, firstRegion (loopIn 4 (bodyOf Try.f20)) = some id → L0 id = Dlaws_eqIntS_l4.oracle (mkK [] R) (Plaws_eqIntS_l4 @laws_eqIntS_l4 n R)) : LoopOk Try.prog L0 (loopIn 4 (bodyOf Try.f20)) :=
  lelaws_eqIntS_l4.ok mixed ttok (fun n => mkK_nat (claws_eqIntS n)) (fun n => mkK_ok (claws_eqIntS n)) (fun n => inlaws_eqIntS_l4 n R) (mkK_nat (claws_eqIntS n)) h0
@[reducible] def Slaws_eqIntS : PkS := ⟨[.one (.ro (.int .i64)), .one (.ro (.int .i64))], []⟩
@[reducible] def Tlaws_eqIntS : PkS := ⟨[.one (.bool), .one (.dead), .one (.dead)], []⟩
def Hlaws_eqIntS : List Sh := [.one .any, .skip, .skip]
def Klaws_eqIntS (g : ∀ {R : Type}, Nat → (List Int) → (List Int) → (Bool → Option R) → Option R) (n : Nat) : KPs := fun R p k => match (PkS.un Slaws_eqIntS p : Option ((List Int) × (List Int) × Unit)) with
  | some (x0, x1, _) => g n x0 x1 (fun r0 => k (PkS.pack Tlaws_eqIntS (r0, ())))
  | none => none
theorem elaws_eqIntS (laws_eqIntS_l4 : ∀ {R : Type}, Nat → (List Int) → (List Int) → Int → (Bool → Option R) → (Option R) → Option R) {R : Type} (n : Nat) (x0 : List Int) (x1 : List Int) (k : Pk → Option R) : evF tt sig (mkK [] R) (mkL (mkK []) [(4, Dlaws_eqIntS_l4, Plaws_eqIntS_l4 @laws_eqIntS_l4 n)] R) Try.f20 Hlaws_eqIntS (PkS.pack Slaws_eqIntS (x0, x1, ())) k = (fun (k : Bool → Option R) => (bif ((x0.length : Int) != (x1.length : Int)) then k false else (laws_eqIntS_l4 n x0 x1 0 (fun r1 => k r1) (k true)))) (fun r0 => k (PkS.pack Tlaws_eqIntS (r0, ()))) := by kernel_rfl
theorem oklaws_eqIntS (n : Nat) : FnOk Try.prog 20 (Klaws_eqIntS @laws_eqIntS n) := by
  refine fn_ok (sig := sig) mixed ttok (mkK_nat (claws_eqIntS n)) (mkK_ok (claws_eqIntS n)) (mkL_nat (mkK_nat (claws_eqIntS n)) (l := [(4, Dlaws_eqIntS_l4, Plaws_eqIntS_l4 @laws_eqIntS_l4 n)]) ⟨nllaws_eqIntS_l4 n, trivial⟩) (fn := Try.f20) (c := bodyOf Try.f20) (by kernel_rfl) (by kernel_rfl) (by kernel_rfl) (.eq (l := [loopIn 4 (bodyOf Try.f20)]) (by kernel_rfl) ⟨(lklaws_eqIntS_l4 n _ _ (at_id (i := 4) (by kernel_rfl) rfl)), trivial⟩) (shs := Hlaws_eqIntS) (S := Slaws_eqIntS) fun R p k => ?_
  unfold Klaws_eqIntS
  cases h : (PkS.un Slaws_eqIntS p) with
  | none => rfl
  | some d =>
    obtain ⟨x0, x1, u⟩ := (d : (List Int) × (List Int) × Unit)
    have hp := PkS.un_pack h
    subst hp
    exact (elaws_eqIntS @laws_eqIntS_l4 n x0 x1 k).symm

/-! ### loop.example/g00269/laws.eqRule -/
theorem claws_eqRule (n : Nat) : AllOk Try.prog [(20, Klaws_eqIntS @laws_eqIntS n)] := ⟨oklaws_eqIntS n, trivial⟩
@[reducible] def Slaws_eqRule : PkS := ⟨[.agg [.int .i64, .ro (.int .i64)], .agg [.int .i64, .ro (.int .i64)]], []⟩
@[reducible] def Tlaws_eqRule : PkS := ⟨[.one (.bool), .one (.dead), .one (.dead)], []⟩
def Hlaws_eqRule : List Sh := [.one .any, .skip, .skip]
def Klaws_eqRule (g : ∀ {R : Type}, Nat → Int → (List Int) → Int → (List Int) → (Bool → Option R) → Option R) (n : Nat) : KPs := fun R p k => match (PkS.un Slaws_eqRule p : Option (Int × (List Int) × Int × (List Int) × Unit)) with
  | some (x0, x1, x2, x3, _) => g n x0 x1 x2 x3 (fun r0 => k (PkS.pack Tlaws_eqRule (r0, ())))
  | none => none
theorem elaws_eqRule (laws_eqIntS : ∀ {R : Type}, Nat → (List Int) → (List Int) → (Bool → Option R) → Option R) {R : Type} (n : Nat) (x0 : Int) (x1 : List Int) (x2 : Int) (x3 : List Int) (k : Pk → Option R) : evF tt sig (mkK [(20, Klaws_eqIntS @laws_eqIntS n)] R) (mkL (mkK [(20, Klaws_eqIntS @laws_eqIntS n)]) [] R) Try.f47 Hlaws_eqRule (PkS.pack Slaws_eqRule (x0, x1, x2, x3, ())) k = (fun (k : Bool → Option R) => (bif (x0 != x2) then k false else (laws_eqIntS n x1 x3 fun r1 => (bif (!r1) then k false else k true)))) (fun r0 => k (PkS.pack Tlaws_eqRule (r0, ()))) := by kernel_rfl
theorem oklaws_eqRule (n : Nat) : FnOk Try.prog 47 (Klaws_eqRule @laws_eqRule n) := by
  refine fn_ok (sig := sig) mixed ttok (mkK_nat (claws_eqRule n)) (mkK_ok (claws_eqRule n)) (mkL_nat (mkK_nat (claws_eqRule n)) (l := []) trivial) (fn := Try.f47) (c := bodyOf Try.f47) (by kernel_rfl) (by kernel_rfl) (by kernel_rfl) (.eq (l := []) (by kernel_rfl) trivial) (shs := Hlaws_eqRule) (S := Slaws_eqRule) fun R p k => ?_
  unfold Klaws_eqRule
  cases h : (PkS.un Slaws_eqRule p) with
  | none => rfl
  | some d =>
    obtain ⟨x0, x1, x2, x3, u⟩ := (d : Int × (List Int) × Int × (List Int) × Unit)
    have hp := PkS.un_pack h
    subst hp
    exact (elaws_eqRule @laws_eqIntS n x0 x1 x2 x3 k).symm

/-! ### loop.example/g00269/laws.eqRuleS -/
theorem claws_eqRuleS (n : Nat) : AllOk Try.prog [(47, Klaws_eqRule @laws_eqRule n)] := ⟨oklaws_eqRule n, trivial⟩
@[reducible] def Slaws_eqRuleS_l4 : PkS := ⟨[.one (.ro (.pr (.int .i64) (.sl (.int .i64)))), .one (.ro (.pr (.int .i64) (.sl (.int .i64)))), .one (.int .i64), .one (.dead), .one (.dead)], []⟩
@[reducible] def Tlaws_eqRuleS_l4_0 : PkS := ⟨[.one (.bool), .one (.dead), .one (.dead)], []⟩
@[reducible] def Tlaws_eqRuleS_l4_1 : PkS := ⟨[.one (.dead), .one (.dead)], []⟩
def Dlaws_eqRuleS_l4 : LoopD := ⟨27, [0, 1, 5], [.one (.ro (.pr (.int .i64) (.sl (.int .i64)))), .one (.ro (.pr (.int .i64) (.sl (.int .i64)))), .one .any, .skip, .skip], fun x => match x with
  | .ret => some ([4], [.one .any, .skip, .skip])
  | .exit 0 => some ([], [.skip, .skip])
  | _ => none⟩
def Plaws_eqRuleS_l4 (g : ∀ {R : Type}, Nat → (List (Int × List Int)) → (List (Int × List Int)) → Int → (Bool → Option R) → (Option R) → Option R) (n : Nat) : LPs := fun R q kk => match (PkS.un Slaws_eqRuleS_l4 q : Option ((List (Int × List Int)) × (List (Int × List Int)) × Int × Unit)) with
  | some (y4_0, y4_1, y4_2, _) => g n y4_0 y4_1 y4_2 (fun r0 => kk .ret (PkS.pack Tlaws_eqRuleS_l4_0 (r0, ()))) (kk (.exit 0) (PkS.pack Tlaws_eqRuleS_l4_1 ()))
  | none => none
theorem elaws_eqRuleS_l4 (laws_eqRule : ∀ {R : Type}, Nat → Int → (List Int) → Int → (List Int) → (Bool → Option R) → Option R) (laws_eqRuleS_l4 : ∀ {R : Type}, Nat → (List (Int × List Int)) → (List (Int × List Int)) → Int → (Bool → Option R) → (Option R) → Option R) {R : Type} (n : Nat) (y4_0 : List (Int × List Int)) (y4_1 : List (Int × List Int)) (y4_2 : Int) (kk : Ex → Pk → Option R) : Dlaws_eqRuleS_l4.step tt sig (mkK [(47, Klaws_eqRule @laws_eqRule n)] R) (mkL (mkK [(47, Klaws_eqRule @laws_eqRule n)]) [] R) (loopIn 4 (bodyOf Try.f16)) (fun q' => Plaws_eqRuleS_l4 @laws_eqRuleS_l4 n R q' kk) (PkS.pack Slaws_eqRuleS_l4 (y4_0, y4_1, y4_2, ())) kk = (fun (kret : Bool → Option R) (kexit0 : Option R) => (bif (decide (y4_2 < (y4_0.length : Int))) then (bif decide (0 ≤ y4_2) then (bif decide (y4_2 < (y4_0.length : Int)) then (bif decide (0 ≤ y4_2) then (bif decide (y4_2 < (y4_1.length : Int)) then (laws_eqRule n ((y4_0.getD (Int.toNat y4_2) (0, [])).1) ((y4_0.getD (Int.toNat y4_2) (0, [])).2) ((y4_1.getD (Int.toNat y4_2) (0, [])).1) ((y4_1.getD (Int.toNat y4_2) (0, [])).2) fun r1 => (bif (!r1) then kret false else laws_eqRuleS_l4 n y4_0 y4_1 (IntKind.wrap .i64 (y4_2 + 1)) kret kexit0)) else none) else none) else none) else none) else kexit0)) (fun r0 => kk .ret (PkS.pack Tlaws_eqRuleS_l4_0 (r0, ()))) (kk (.exit 0) (PkS.pack Tlaws_eqRuleS_l4_1 ())) := by kernel_rfl
theorem lelaws_eqRuleS_l4 : LoopEq tt sig (fun n => mkK [(47, Klaws_eqRule @laws_eqRule n)]) (fun n => mkL (mkK [(47, Klaws_eqRule @laws_eqRule n)]) []) Dlaws_eqRuleS_l4 Slaws_eqRuleS_l4 (loopIn 4 (bodyOf Try.f16)) (Plaws_eqRuleS_l4 @laws_eqRuleS_l4) where
  zero R q kk := by unfold Plaws_eqRuleS_l4; cases (PkS.un Slaws_eqRuleS_l4 q) <;> rfl
  succ n R q kk := by
    unfold Plaws_eqRuleS_l4
    cases h : (PkS.un Slaws_eqRuleS_l4 q) with
    | none => rfl
    | some d =>
      obtain ⟨y4_0, y4_1, y4_2, u⟩ := (d : (List (Int × List Int)) × (List (Int × List Int)) × Int × Unit)
      have hp := PkS.un_pack h
      subst hp
      exact (elaws_eqRuleS_l4 @laws_eqRule @laws_eqRuleS_l4 n y4_0 y4_1 y4_2 kk).symm
theorem nllaws_eqRuleS_l4 : ∀ n, NatLP (Plaws_eqRuleS_l4 @laws_eqRuleS_l4 n) := lelaws_eqRuleS_l4.nat (fun n => mkK_nat (claws_eqRuleS n)) fun n => mkL_nat (mkK_nat (claws_eqRuleS n)) (l := []) trivial
theorem inlaws_eqRuleS_l4 (n : Nat) (R : Type) : LoopsOk Try.prog (mkL (mkK [(47, Klaws_eqRule @laws_eqRule n)]) [] R) (loopIn 4 (bodyOf Try.f16)) := .eq (l := []) (by kernel_rfl) trivial
theorem lklaws_eqRuleS_l4 (n : Nat) (R : Type) (L0 : LK R) (h0 : ∀ id, firstRegion (loopIn 4 (bodyOf Try.f16)) = some id → L0 id = Dlaws_eqRuleS_l4.oracle (mkK [(47, Klaws_eqRule @laws_eqRule n)] R) (Plaws_eqRuleS_l4 @laws_eqRuleS_l4 n R)) : LoopOk Try.prog L0 (loopIn 4 (bodyOf Try.f16)) :=
  lelaws_eqRuleS_l4.ok mixed ttok (fun n => mkK_nat (claws_eqRuleS n)) (fun n => mkK_ok (claws_eqRuleS n)) (fun n => inlaws_eqRuleS_l4 n R) (mkK_nat (claws_eqRuleS n)) h0
@[reducible] def Slaws_eqRuleS : PkS := ⟨[.one (.ro (.pr (.int .i64) (.sl (.int .i64)))), .one (.ro (.pr (.int .i64) (.sl (.int .i64))))], []⟩
@[reducible] def Tlaws_eqRuleS : PkS := ⟨[.one (.bool), .one (.dead), .one (.dead)], []⟩
def Hlaws_eqRuleS : List Sh := [.one .any, .skip, .skip]
def Klaws_eqRuleS (g : ∀ {R : Type}, Nat → (List (Int × List Int)) → (List (Int × List Int)) → (Bool → Option R) → Option R) (n : Nat) : KPs := fun R p k => match (PkS.un Slaws_eqRuleS p : Option ((List (Int × List Int)) × (List (Int × List Int)) × Unit)) with
  | some (x0, x1, _) => g n x0 x1 (fun r0 => k (PkS.pack Tlaws_eqRuleS (r0, ())))
  | none => none
theorem elaws_eqRuleS (laws_eqRule : ∀ {R : Type}, Nat → Int → (List Int) → Int → (List Int) → (Bool → Option R) → Option R) (laws_eqRuleS_l4 : ∀ {R : Type}, Nat → (List (Int × List Int)) → (List (Int × List Int)) → Int → (Bool → Option R) → (Option R) → Option R) {R : Type} (n : Nat) (x0 : List (Int × List Int)) (x1 : List (Int × List Int)) (k : Pk → Option R) : evF tt sig (mkK [(47, Klaws_eqRule @laws_eqRule n)] R) (mkL (mkK [(47, Klaws_eqRule @laws_eqRule n)]) [(4, Dlaws_eqRuleS_l4, Plaws_eqRuleS_l4 @laws_eqRuleS_l4 n)] R) Try.f16 Hlaws_eqRuleS (PkS.pack Slaws_eqRuleS (x0, x1, ())) k = (fun (k : Bool → Option R) => (bif ((x0.length : Int) != (x1.length : Int)) then k false else (laws_eqRuleS_l4 n x0 x1 0 (fun r2 => k r2) (k true)))) (fun r0 => k (PkS.pack Tlaws_eqRuleS (r0, ()))) := by kernel_rfl
theorem oklaws_eqRuleS (n : Nat) : FnOk Try.prog 16 (Klaws_eqRuleS @laws_eqRuleS n) := by
  refine fn_ok (sig := sig) mixed ttok (mkK_nat (claws_eqRuleS n)) (mkK_ok (claws_eqRuleS n)) (mkL_nat (mkK_nat (claws_eqRuleS n)) (l := [(4, Dlaws_eqRuleS_l4, Plaws_eqRuleS_l4 @laws_eqRuleS_l4 n)]) ⟨nllaws_eqRuleS_l4 n, trivial⟩) (fn := Try.f16) (c := bodyOf Try.f16) (by kernel_rfl) (by kernel_rfl) (by kernel_rfl) (.eq (l := [loopIn 4 (bodyOf Try.f16)]) (by kernel_rfl) ⟨(lklaws_eqRuleS_l4 n _ _ (at_id (i := 4) (by kernel_rfl) rfl)), trivial⟩) (shs := Hlaws_eqRuleS) (S := Slaws_eqRuleS) fun R p k => ?_
  unfold Klaws_eqRuleS
  cases h : (PkS.un Slaws_eqRuleS p) with
  | none => rfl
  | some d =>
    obtain ⟨x0, x1, u⟩ := (d : (List (Int × List Int)) × (List (Int × List Int)) × Unit)
    have hp := PkS.un_pack h
    subst hp
    exact (elaws_eqRuleS @laws_eqRule @laws_eqRuleS_l4 n x0 x1 k).symm

/-! ### loop.example/g00269/laws.FnExactGoodRules -/
theorem claws_FnExactGoodRules (n : Nat) : AllOk Try.prog [(12, Klaws_szRuleS @laws_szRuleS n), (14, Klaws_toRuleS @laws_toRuleS n), (13, Kspec_GoodRules @spec_GoodRules n), (15, Kimpl_GoodRules @impl_GoodRules n), (16, Klaws_eqRuleS @laws_eqRuleS n)] := ⟨oklaws_szRuleS n, ⟨oklaws_toRuleS n, ⟨okspec_GoodRules n, ⟨okimpl_GoodRules n, ⟨oklaws_eqRuleS n, trivial⟩⟩⟩⟩⟩
@[reducible] def Slaws_FnExactGoodRules : PkS := ⟨[.one (.ro (.pr (.int .i64) (.sl (.int .i64))))], []⟩
@[reducible] def Tlaws_FnExactGoodRules : PkS := ⟨[.one (.bool), .one (.dead)], []⟩
def Hlaws_FnExactGoodRules : List Sh := [.one .any, .skip]
def Klaws_FnExactGoodRules (g : ∀ {R : Type}, Nat → (List (Int × List Int)) → (Bool → Option R) → Option R) (n : Nat) : KPs := fun R p k => match (PkS.un Slaws_FnExactGoodRules p : Option ((List (Int × List Int)) × Unit)) with
  | some (x0, _) => g n x0 (fun r0 => k (PkS.pack Tlaws_FnExactGoodRules (r0, ())))
  | none => none
theorem elaws_FnExactGoodRules (laws_szRuleS : ∀ {R : Type}, Nat → (List (Int × List Int)) → Int → (Int → Option R) → Option R) (laws_toRuleS : ∀ {R : Type}, Nat → (List (Int × List Int)) → ((List (Int × List Int)) → Option R) → Option R) (spec_GoodRules : ∀ {R : Type}, Nat → (List (Int × List Int)) → (Bool → Option R) → Option R) (impl_GoodRules : ∀ {R : Type}, Nat → (List (Int × List Int)) → (Bool → Option R) → Option R) (laws_eqRuleS : ∀ {R : Type}, Nat → (List (Int × List Int)) → (List (Int × List Int)) → (Bool → Option R) → Option R) {R : Type} (n : Nat) (x0 : List (Int × List Int)) (k : Pk → Option R) : evF tt sig (mkK [(12, Klaws_szRuleS @laws_szRuleS n), (14, Klaws_toRuleS @laws_toRuleS n), (13, Kspec_GoodRules @spec_GoodRules n), (15, Kimpl_GoodRules @impl_GoodRules n), (16, Klaws_eqRuleS @laws_eqRuleS n)] R) (mkL (mkK [(12, Klaws_szRuleS @laws_szRuleS n), (14, Klaws_toRuleS @laws_toRuleS n), (13, Kspec_GoodRules @spec_GoodRules n), (15, Kimpl_GoodRules @impl_GoodRules n), (16, Klaws_eqRuleS @laws_eqRuleS n)]) [] R) Try.f3 Hlaws_FnExactGoodRules (PkS.pack Slaws_FnExactGoodRules (x0, ())) k = (fun (k : Bool → Option R) => (laws_szRuleS n x0 1048576 fun r1 => (bif (decide (r1 < 0)) then k true else (laws_toRuleS n x0 fun r2 => (spec_GoodRules n r2 fun r3 => (laws_toRuleS n x0 fun r4 => (impl_GoodRules n r4 fun r5 => (bif (!(r5 == r3)) then k false else (laws_toRuleS n x0 fun r6 => (laws_eqRuleS n r4 r6 fun r7 => (bif (!r7) then k false else k true))))))))))) (fun r0 => k (PkS.pack Tlaws_FnExactGoodRules (r0, ()))) := by kernel_rfl
theorem oklaws_FnExactGoodRules (n : Nat) : FnOk Try.prog 3 (Klaws_FnExactGoodRules @laws_FnExactGoodRules n) := by
  refine fn_ok (sig := sig) mixed ttok (mkK_nat (claws_FnExactGoodRules n)) (mkK_ok (claws_FnExactGoodRules n)) (mkL_nat (mkK_nat (claws_FnExactGoodRules n)) (l := []) trivial) (fn := Try.f3) (c := bodyOf Try.f3) (by kernel_rfl) (by kernel_rfl) (by kernel_rfl) (.eq (l := []) (by kernel_rfl) trivial) (shs := Hlaws_FnExactGoodRules) (S := Slaws_FnExactGoodRules) fun R p k => ?_
  unfold Klaws_FnExactGoodRules
  cases h : (PkS.un Slaws_FnExactGoodRules p) with
  | none => rfl
  | some d =>
    obtain ⟨x0, u⟩ := (d : (List (Int × List Int)) × Unit)
    have hp := PkS.un_pack h
    subst hp
    exact (elaws_FnExactGoodRules @laws_szRuleS @laws_toRuleS @spec_GoodRules @impl_GoodRules @laws_eqRuleS n x0 k).symm
end Go.Am.G
