/- The code of the functions that the law reaches does what the plain functions say. -/
import Derived.Test.YtjijikgjefingaaF7
import Derived.Test.YtjijikgjefingaaAmC
import Derived.KernelRfl
import Derived.Test.YtjijikgjefingaaProg
set_option linter.unusedVariables false
set_option maxRecDepth 100000
namespace Go.Am.G
open Go Go.Am
open Go.Proofs
def tt : TT := [(3, ⟨1, false, (.int .i64), 0, [], [.int .i64 0], 8, true, false, []⟩), (4, ⟨1, false, .bool, 0, [], [.bool false], 1, true, false, []⟩), (22, ⟨1, false, (.sl (.int .i64)), 3, [], [.nil], 24, true, true, []⟩), (23, ⟨1, false, (.sl (.pr (.int .i64) (.pr (.int .i64) (.int .i64)))), 100, [], [.nil], 24, true, true, []⟩), (25, ⟨4, true, (.pr (.sl (.int .i64)) (.pr (.sl (.pr (.int .i64) (.pr (.int .i64) (.int .i64)))) (.pr (.int .i64) .bool))), 0, [(0, 1, false), (1, 1, false), (2, 1, false), (3, 1, false)], [.nil, .nil, .int .i64 0, .bool false], 64, true, false, []⟩), (28, ⟨1, false, (.sl (.pr (.int .i64) (.pr (.int .i64) (.int .i64)))), 89, [], [.nil], 24, true, true, []⟩), (30, ⟨4, true, (.pr (.sl (.int .i64)) (.pr (.sl (.pr (.int .i64) (.pr (.int .i64) (.int .i64)))) (.pr (.int .i64) .bool))), 0, [(0, 1, false), (1, 1, false), (2, 1, false), (3, 1, false)], [.nil, .nil, .int .i64 0, .bool false], 64, true, false, []⟩), (89, ⟨3, true, (.pr (.int .i64) (.pr (.int .i64) (.int .i64))), 0, [(0, 1, false), (1, 1, false), (2, 1, false)], [.int .i64 0, .int .i64 0, .int .i64 0], 24, true, false, [(.int .i64), (.int .i64), (.int .i64)]⟩), (100, ⟨3, true, (.pr (.int .i64) (.pr (.int .i64) (.int .i64))), 0, [(0, 1, false), (1, 1, false), (2, 1, false)], [.int .i64 0, .int .i64 0, .int .i64 0], 24, true, false, [(.int .i64), (.int .i64), (.int .i64)]⟩)]
def sig : Sig := sigOf [(7, [.agg [(.ro (.int .i64)), (.ro (.pr (.int .i64) (.pr (.int .i64) (.int .i64)))), .any, .any]]), (13, [.agg [(.ro (.int .i64)), (.ro (.pr (.int .i64) (.pr (.int .i64) (.int .i64)))), .any, .any], .one .any]), (14, [.agg [(.ro (.int .i64)), (.ro (.pr (.int .i64) (.pr (.int .i64) (.int .i64)))), .any, .any]]), (15, [.agg [(.ro (.int .i64)), (.ro (.pr (.int .i64) (.pr (.int .i64) (.int .i64)))), .any, .any]]), (16, [.agg [(.ro (.int .i64)), (.ro (.pr (.int .i64) (.pr (.int .i64) (.int .i64)))), .any, .any]]), (17, [.agg [(.ro (.int .i64)), (.ro (.pr (.int .i64) (.pr (.int .i64) (.int .i64)))), .any, .any], .agg [(.ro (.int .i64)), (.ro (.pr (.int .i64) (.pr (.int .i64) (.int .i64)))), .any, .any]]), (22, [.one (.ro (.pr (.int .i64) (.pr (.int .i64) (.int .i64)))), .one .any]), (24, [.one (.ro (.int .i64))]), (25, [.one (.ro (.pr (.int .i64) (.pr (.int .i64) (.int .i64))))]), (27, [.one (.ro (.int .i64)), .one (.ro (.int .i64))]), (28, [.one (.ro (.pr (.int .i64) (.pr (.int .i64) (.int .i64)))), .one (.ro (.pr (.int .i64) (.pr (.int .i64) (.int .i64))))]), (29, [.one (.own (.int .i64)), .one .any]), (30, [.one (.own (.pr (.int .i64) (.pr (.int .i64) (.int .i64)))), .one .any]), (31, [.agg [(.own (.int .i64)), (.own (.pr (.int .i64) (.pr (.int .i64) (.int .i64)))), .any, .any], .one .any]), (32, [.agg [(.ro (.int .i64)), (.ro (.pr (.int .i64) (.pr (.int .i64) (.int .i64)))), .any, .any], .one .any]), (33, [.agg [(.ro (.int .i64)), (.ro (.pr (.int .i64) (.pr (.int .i64) (.int .i64)))), .any, .any]]), (34, [.agg [(.ro (.int .i64)), (.ro (.pr (.int .i64) (.pr (.int .i64) (.int .i64)))), .any, .any]]), (70, [.one (.ro (.int .i64)), .one .any]), (71, [.one (.ro (.int .i64))]), (72, [.one .any, .one .any, .one .any]), (73, [.agg [.any, .any, .any], .one .any]), (74, [.one (.ro (.int .i64)), .agg [.any, .any, .any]]), (75, [.agg [.any, .any, .any]]), (76, [.one (.ro (.pr (.int .i64) (.pr (.int .i64) (.int .i64)))), .fn 77 [[(.ro (.int .i64)), (.ro (.pr (.int .i64) (.pr (.int .i64) (.int .i64)))), .any, .any]]]), (77, [.agg [.any, .any, .any], .box [(.ro (.int .i64)), (.ro (.pr (.int .i64) (.pr (.int .i64) (.int .i64)))), .any, .any]]), (78, [.agg [.any, .any, .any], .one .any]), (79, [.one (.ro (.int .i64))]), (80, [.one .any, .one .any, .one .any]), (81, [.one (.ro (.pr (.int .i64) (.pr (.int .i64) (.int .i64))))]), (82, [.one (.ro (.int .i64)), .agg [.any, .any, .any]]), (83, [.agg [.any, .any, .any]]), (85, [.agg [(.ro (.int .i64)), (.ro (.pr (.int .i64) (.pr (.int .i64) (.int .i64)))), .any, .any]]), (86, [.agg [.any, .any, .any]]), (87, [.agg [(.ro (.int .i64)), (.ro (.pr (.int .i64) (.pr (.int .i64) (.int .i64)))), .any, .any]]), (88, [.agg [.any, .any, .any], .agg [.any, .any, .any]]), (89, [.one (.ro (.int .i64)), .one .any]), (90, [.one (.ro (.pr (.int .i64) (.pr (.int .i64) (.int .i64)))), .one .any]), (91, [.agg [(.ro (.int .i64)), (.ro (.pr (.int .i64) (.pr (.int .i64) (.int .i64)))), .any, .any], .fn 92 []]), (92, [.box [(.own (.int .i64)), (.own (.pr (.int .i64) (.pr (.int .i64) (.int .i64)))), .any, .any]]), (120, [.one (.ro (.int .i64)), .fn 142 []]), (123, [.one (.ro (.int .i64))]), (141, [.one (.ro (.pr (.int .i64) (.pr (.int .i64) (.int .i64)))), .fn 77 [[(.ro (.int .i64)), (.ro (.pr (.int .i64) (.pr (.int .i64) (.int .i64)))), .any, .any]]]), (142, [.one .any]), (143, [.one .any]), (146, [.one (.ro (.pr (.int .i64) (.pr (.int .i64) (.int .i64))))]), (157, [.one (.ro (.int .i64)), .fn 142 []])]
theorem ttok : TTok Try.prog tt := .of_chk (by kernel_rfl)
theorem mixed : Try.prog.follows .mixedOrders = true := by kernel_rfl

/-! ### loop.example/g00269/laws.szIntS -/
theorem claws_szIntS (n : Nat) : AllOk Try.prog [] := trivial
@[reducible] def Slaws_szIntS : PkS := ⟨[.one (.ro (.int .i64)), .one (.int .i64)], []⟩
@[reducible] def Tlaws_szIntS : PkS := ⟨[.one (.int .i64), .one (.dead), .one (.dead)], []⟩
def Hlaws_szIntS : List Sh := [.one .any, .skip, .skip]
def Klaws_szIntS (g : ∀ {R : Type}, Nat → (List Int) → Int → (Int → Option R) → Option R) (n : Nat) : KPs := fun R p k => match (PkS.un Slaws_szIntS p : Option ((List Int) × Int × Unit)) with
  | some (x0, x1, _) => g n x0 x1 (fun r0 => k (PkS.pack Tlaws_szIntS (r0, ())))
  | none => none
theorem elaws_szIntS  {R : Type} (n : Nat) (x0 : List Int) (x1 : Int) (k : Pk → Option R) : evF tt sig (mkK [] R) (mkL (mkK []) [] R) Try.f70 Hlaws_szIntS (PkS.pack Slaws_szIntS (x0, x1, ())) k = (fun (k : Int → Option R) => (bif (decide ((IntKind.wrap .i64 (x1 - (x0.length : Int))) < 0)) then k (-1) else k (IntKind.wrap .i64 (x1 - (x0.length : Int))))) (fun r0 => k (PkS.pack Tlaws_szIntS (r0, ()))) := by kernel_rfl
theorem oklaws_szIntS (n : Nat) : FnOk Try.prog 70 (Klaws_szIntS @laws_szIntS n) := by
  refine fn_ok (sig := sig) mixed ttok (mkK_nat (claws_szIntS n)) (mkK_ok (claws_szIntS n)) (mkL_nat (mkK_nat (claws_szIntS n)) (l := []) trivial) (fn := Try.f70) (c := bodyOf Try.f70) (by kernel_rfl) (by kernel_rfl) (by kernel_rfl) (.eq (l := []) (by kernel_rfl) trivial) (shs := Hlaws_szIntS) (S := Slaws_szIntS) (h1 := by kernel_rfl) fun R p k => ?_
  unfold Klaws_szIntS
  cases h : (PkS.un Slaws_szIntS p) with
  | none => rfl
  | some d =>
    obtain ⟨x0, x1, u⟩ := (d : (List Int) × Int × Unit)
    have hp := PkS.un_pack h
    subst hp
    exact (elaws_szIntS  n x0 x1 k).symm

/-! ### loop.example/g00269/laws.szMoveS -/
theorem claws_szMoveS (n : Nat) : AllOk Try.prog [] := trivial
@[reducible] def Slaws_szMoveS : PkS := ⟨[.one (.ro (.pr (.int .i64) (.pr (.int .i64) (.int .i64)))), .one (.int .i64)], []⟩
@[reducible] def Tlaws_szMoveS : PkS := ⟨[.one (.int .i64), .one (.dead), .one (.dead)], []⟩
def Hlaws_szMoveS : List Sh := [.one .any, .skip, .skip]
def Klaws_szMoveS (g : ∀ {R : Type}, Nat → (List (Int × Int × Int)) → Int → (Int → Option R) → Option R) (n : Nat) : KPs := fun R p k => match (PkS.un Slaws_szMoveS p : Option ((List (Int × Int × Int)) × Int × Unit)) with
  | some (x0, x1, _) => g n x0 x1 (fun r0 => k (PkS.pack Tlaws_szMoveS (r0, ())))
  | none => none
theorem elaws_szMoveS  {R : Type} (n : Nat) (x0 : List (Int × Int × Int)) (x1 : Int) (k : Pk → Option R) : evF tt sig (mkK [] R) (mkL (mkK []) [] R) Try.f22 Hlaws_szMoveS (PkS.pack Slaws_szMoveS (x0, x1, ())) k = (fun (k : Int → Option R) => (bif (decide ((IntKind.wrap .i64 (x1 - (x0.length : Int))) < 0)) then k (-1) else k (IntKind.wrap .i64 (x1 - (x0.length : Int))))) (fun r0 => k (PkS.pack Tlaws_szMoveS (r0, ()))) := by kernel_rfl
theorem oklaws_szMoveS (n : Nat) : FnOk Try.prog 22 (Klaws_szMoveS @laws_szMoveS n) := by
  refine fn_ok (sig := sig) mixed ttok (mkK_nat (claws_szMoveS n)) (mkK_ok (claws_szMoveS n)) (mkL_nat (mkK_nat (claws_szMoveS n)) (l := []) trivial) (fn := Try.f22) (c := bodyOf Try.f22) (by kernel_rfl) (by kernel_rfl) (by kernel_rfl) (.eq (l := []) (by kernel_rfl) trivial) (shs := Hlaws_szMoveS) (S := Slaws_szMoveS) (h1 := by kernel_rfl) fun R p k => ?_
  unfold Klaws_szMoveS
  cases h : (PkS.un Slaws_szMoveS p) with
  | none => rfl
  | some d =>
    obtain ⟨x0, x1, u⟩ := (d : (List (Int × Int × Int)) × Int × Unit)
    have hp := PkS.un_pack h
    subst hp
    exact (elaws_szMoveS  n x0 x1 k).symm

/-! ### loop.example/g00269/laws.szSaga -/
theorem claws_szSaga (n : Nat) : AllOk Try.prog [(70, Klaws_szIntS @laws_szIntS n), (22, Klaws_szMoveS @laws_szMoveS n)] := ⟨oklaws_szIntS n, ⟨oklaws_szMoveS n, trivial⟩⟩
@[reducible] def Slaws_szSaga : PkS := ⟨[.agg [.ro (.int .i64), .ro (.pr (.int .i64) (.pr (.int .i64) (.int .i64))), .int .i64, .bool], .one (.int .i64)], []⟩
@[reducible] def Tlaws_szSaga : PkS := ⟨[.one (.int .i64), .one (.dead), .one (.dead)], []⟩
def Hlaws_szSaga : List Sh := [.one .any, .skip, .skip]
def Klaws_szSaga (g : ∀ {R : Type}, Nat → (List Int) → (List (Int × Int × Int)) → Int → Bool → Int → (Int → Option R) → Option R) (n : Nat) : KPs := fun R p k => match (PkS.un Slaws_szSaga p : Option ((List Int) × (List (Int × Int × Int)) × Int × Bool × Int × Unit)) with
  | some (x0, x1, x2, x3, x4, _) => g n x0 x1 x2 x3 x4 (fun r0 => k (PkS.pack Tlaws_szSaga (r0, ())))
  | none => none
theorem elaws_szSaga (laws_szIntS : ∀ {R : Type}, Nat → (List Int) → Int → (Int → Option R) → Option R) (laws_szMoveS : ∀ {R : Type}, Nat → (List (Int × Int × Int)) → Int → (Int → Option R) → Option R) {R : Type} (n : Nat) (x0 : List Int) (x1 : List (Int × Int × Int)) (x2 : Int) (x3 : Bool) (x4 : Int) (k : Pk → Option R) : evF tt sig (mkK [(70, Klaws_szIntS @laws_szIntS n), (22, Klaws_szMoveS @laws_szMoveS n)] R) (mkL (mkK [(70, Klaws_szIntS @laws_szIntS n), (22, Klaws_szMoveS @laws_szMoveS n)]) [] R) Try.f13 Hlaws_szSaga (PkS.pack Slaws_szSaga (x0, x1, x2, x3, x4, ())) k = (fun (k : Int → Option R) => (laws_szIntS n x0 x4 fun r1 => (bif (decide (r1 < 0)) then k (-1) else (laws_szMoveS n x1 r1 fun r2 => (bif (decide (r2 < 0)) then k (-1) else k r2))))) (fun r0 => k (PkS.pack Tlaws_szSaga (r0, ()))) := by kernel_rfl
theorem oklaws_szSaga (n : Nat) : FnOk Try.prog 13 (Klaws_szSaga @laws_szSaga n) := by
  refine fn_ok (sig := sig) mixed ttok (mkK_nat (claws_szSaga n)) (mkK_ok (claws_szSaga n)) (mkL_nat (mkK_nat (claws_szSaga n)) (l := []) trivial) (fn := Try.f13) (c := bodyOf Try.f13) (by kernel_rfl) (by kernel_rfl) (by kernel_rfl) (.eq (l := []) (by kernel_rfl) trivial) (shs := Hlaws_szSaga) (S := Slaws_szSaga) (h1 := by kernel_rfl) fun R p k => ?_
  unfold Klaws_szSaga
  cases h : (PkS.un Slaws_szSaga p) with
  | none => rfl
  | some d =>
    obtain ⟨x0, x1, x2, x3, x4, u⟩ := (d : (List Int) × (List (Int × Int × Int)) × Int × Bool × Int × Unit)
    have hp := PkS.un_pack h
    subst hp
    exact (elaws_szSaga @laws_szIntS @laws_szMoveS n x0 x1 x2 x3 x4 k).symm

/-! ### loop.example/g00269/laws.toIntS -/
theorem claws_toIntS (n : Nat) : AllOk Try.prog [] := trivial
@[reducible] def Slaws_toIntS_l3 : PkS := ⟨[.one (.ro (.int .i64)), .one (.whole (100000, 0)), .one (.int .i64), .one (.dead)], [((100000, 0), .arr (.int .i64))]⟩
@[reducible] def Tlaws_toIntS_l3_0 : PkS := ⟨[.one (.whole (100000, 0)), .one (.dead)], [((100000, 0), .arr (.int .i64))]⟩
def Dlaws_toIntS_l3 : LoopD := ⟨22, [0, 3, 4], [.one (.ro (.int .i64)), .one (.own (.int .i64)), .one .any, .skip], fun x => match x with
  | .exit 0 => some ([3], [.one (.own (.int .i64)), .skip])
  | _ => none⟩
def Plaws_toIntS_l3 (g : ∀ {R : Type}, Nat → (List Int) → Int → (List Int) → ((List Int) → Option R) → Option R) (n : Nat) : LPs := fun R q kk => match (PkS.un Slaws_toIntS_l3 q : Option ((List Int) × Int × (List Int) × Unit)) with
  | some (y3_0, y3_1, y3_2, _) => g n y3_0 y3_1 y3_2 (fun r0 => kk (.exit 0) (PkS.pack Tlaws_toIntS_l3_0 (r0, ())))
  | none => none
theorem elaws_toIntS_l3 (laws_toIntS_l3 : ∀ {R : Type}, Nat → (List Int) → Int → (List Int) → ((List Int) → Option R) → Option R) {R : Type} (n : Nat) (y3_0 : List Int) (y3_1 : Int) (y3_2 : List Int) (kk : Ex → Pk → Option R) : Dlaws_toIntS_l3.step tt sig (mkK [] R) (mkL (mkK []) [] R) (loopIn 3 (bodyOf Try.f24)) (fun q' => Plaws_toIntS_l3 @laws_toIntS_l3 n R q' kk) (PkS.pack Slaws_toIntS_l3 (y3_0, y3_1, y3_2, ())) kk = (fun (kexit0 : (List Int) → Option R) => (bif (decide (y3_1 < (y3_0.length : Int))) then (bif decide (0 ≤ y3_1) then (bif decide (y3_1 < (y3_0.length : Int)) then (bif decide (0 ≤ y3_1) then (bif decide (y3_1 < (y3_2.length : Int)) then laws_toIntS_l3 n y3_0 (IntKind.wrap .i64 (y3_1 + 1)) (y3_2.set (Int.toNat y3_1) (y3_0.getD (Int.toNat y3_1) 0)) kexit0 else none) else none) else none) else none) else kexit0 y3_2)) (fun r0 => kk (.exit 0) (PkS.pack Tlaws_toIntS_l3_0 (r0, ()))) := by kernel_rfl
theorem lelaws_toIntS_l3 : LoopEq tt sig (fun n => mkK []) (fun n => mkL (mkK []) []) Dlaws_toIntS_l3 Slaws_toIntS_l3 (loopIn 3 (bodyOf Try.f24)) (Plaws_toIntS_l3 @laws_toIntS_l3) where
  zero R q kk := by unfold Plaws_toIntS_l3; cases (PkS.un Slaws_toIntS_l3 q) <;> rfl
  succ n R q kk := by
    unfold Plaws_toIntS_l3
    cases h : (PkS.un Slaws_toIntS_l3 q) with
    | none => rfl
    | some d =>
      obtain ⟨y3_0, y3_1, y3_2, u⟩ := (d : (List Int) × Int × (List Int) × Unit)
      have hp := PkS.un_pack h
      subst hp
      exact (elaws_toIntS_l3 @laws_toIntS_l3 n y3_0 y3_1 y3_2 kk).symm
theorem nllaws_toIntS_l3 : ∀ n, NatLP (Plaws_toIntS_l3 @laws_toIntS_l3 n) := lelaws_toIntS_l3.nat (fun n => mkK_nat (claws_toIntS n)) fun n => mkL_nat (mkK_nat (claws_toIntS n)) (l := []) trivial
theorem inlaws_toIntS_l3 (n : Nat) (R : Type) : LoopsOk Try.prog (mkL (mkK []) [] R) (loopIn 3 (bodyOf Try.f24)) := .eq (l := []) (by kernel_rfl) trivial
theorem lklaws_toIntS_l3 (n : Nat) (R : Type) (L0 : LK R) (h0 : ∀ id, firstRegion (loopIn 3 (bodyOf Try.f24)) = some id → L0 id = Dlaws_toIntS_l3.oracle (mkK [] R) (Plaws_toIntS_l3 @laws_toIntS_l3 n R)) : LoopOk Try.prog L0 (loopIn 3 (bodyOf Try.f24)) :=
  lelaws_toIntS_l3.ok mixed ttok (fun n => mkK_nat (claws_toIntS n)) (fun n => mkK_ok (claws_toIntS n)) (fun n => inlaws_toIntS_l3 n R) (mkK_nat (claws_toIntS n)) h0
@[reducible] def Slaws_toIntS : PkS := ⟨[.one (.ro (.int .i64))], []⟩
@[reducible] def Tlaws_toIntS : PkS := ⟨[.one (.whole (300000, 0)), .one (.dead)], [((300000, 0), .arr (.int .i64))]⟩
def Hlaws_toIntS : List Sh := [.one (.own (.int .i64)), .skip]
def Klaws_toIntS (g : ∀ {R : Type}, Nat → (List Int) → ((List Int) → Option R) → Option R) (n : Nat) : KPs := fun R p k => match (PkS.un Slaws_toIntS p : Option ((List Int) × Unit)) with
  | some (x0, _) => g n x0 (fun r0 => k (PkS.pack Tlaws_toIntS (r0, ())))
  | none => none
theorem elaws_toIntS (laws_toIntS_l3 : ∀ {R : Type}, Nat → (List Int) → Int → (List Int) → ((List Int) → Option R) → Option R) {R : Type} (n : Nat) (x0 : List Int) (k : Pk → Option R) : evF tt sig (mkK [] R) (mkL (mkK []) [(3, Dlaws_toIntS_l3, Plaws_toIntS_l3 @laws_toIntS_l3 n)] R) Try.f24 Hlaws_toIntS (PkS.pack Slaws_toIntS (x0, ())) k = (fun (k : (List Int) → Option R) => (bif decide (0 ≤ (x0.length : Int)) then (bif decide ((x0.length : Int) ≤ (x0.length : Int)) then (bif decide ((x0.length : Int) ≤ 1099511627776) then (laws_toIntS_l3 n x0 0 (List.replicate (Int.toNat (x0.length : Int)) (0 : Int)) (fun r1 => k r1)) else none) else none) else none)) (fun r0 => k (PkS.pack Tlaws_toIntS (r0, ()))) := by kernel_rfl
theorem oklaws_toIntS (n : Nat) : FnOk Try.prog 24 (Klaws_toIntS @laws_toIntS n) := by
  refine fn_ok (sig := sig) mixed ttok (mkK_nat (claws_toIntS n)) (mkK_ok (claws_toIntS n)) (mkL_nat (mkK_nat (claws_toIntS n)) (l := [(3, Dlaws_toIntS_l3, Plaws_toIntS_l3 @laws_toIntS_l3 n)]) ⟨nllaws_toIntS_l3 n, trivial⟩) (fn := Try.f24) (c := bodyOf Try.f24) (by kernel_rfl) (by kernel_rfl) (by kernel_rfl) (.eq (l := [.lo (loopIn 3 (bodyOf Try.f24))]) (by kernel_rfl) ⟨(lklaws_toIntS_l3 n _ _ (at_id (i := 3) (by kernel_rfl) rfl)), trivial⟩) (shs := Hlaws_toIntS) (S := Slaws_toIntS) (h1 := by kernel_rfl) fun R p k => ?_
  unfold Klaws_toIntS
  cases h : (PkS.un Slaws_toIntS p) with
  | none => rfl
  | some d =>
    obtain ⟨x0, u⟩ := (d : (List Int) × Unit)
    have hp := PkS.un_pack h
    subst hp
    exact (elaws_toIntS @laws_toIntS_l3 n x0 k).symm

/-! ### loop.example/g00269/laws.toMove -/
theorem claws_toMove (n : Nat) : AllOk Try.prog [] := trivial
@[reducible] def Slaws_toMove : PkS := ⟨[.agg [.int .i64, .int .i64, .int .i64]], []⟩
@[reducible] def Tlaws_toMove : PkS := ⟨[.agg [.int .i64, .int .i64, .int .i64], .one (.dead)], []⟩
def Hlaws_toMove : List Sh := [.agg [.any, .any, .any], .skip]
def Klaws_toMove (g : ∀ {R : Type}, Nat → Int → Int → Int → (Int → Int → Int → Option R) → Option R) (n : Nat) : KPs := fun R p k => match (PkS.un Slaws_toMove p : Option (Int × Int × Int × Unit)) with
  | some (x0, x1, x2, _) => g n x0 x1 x2 (fun r0 r1 r2 => k (PkS.pack Tlaws_toMove (r0, r1, r2, ())))
  | none => none
theorem elaws_toMove  {R : Type} (n : Nat) (x0 : Int) (x1 : Int) (x2 : Int) (k : Pk → Option R) : evF tt sig (mkK [] R) (mkL (mkK []) [] R) Try.f86 Hlaws_toMove (PkS.pack Slaws_toMove (x0, x1, x2, ())) k = (fun (k : Int → Int → Int → Option R) => k x0 x1 x2) (fun r0 r1 r2 => k (PkS.pack Tlaws_toMove (r0, r1, r2, ()))) := by kernel_rfl
theorem oklaws_toMove (n : Nat) : FnOk Try.prog 86 (Klaws_toMove @laws_toMove n) := by
  refine fn_ok (sig := sig) mixed ttok (mkK_nat (claws_toMove n)) (mkK_ok (claws_toMove n)) (mkL_nat (mkK_nat (claws_toMove n)) (l := []) trivial) (fn := Try.f86) (c := bodyOf Try.f86) (by kernel_rfl) (by kernel_rfl) (by kernel_rfl) (.eq (l := []) (by kernel_rfl) trivial) (shs := Hlaws_toMove) (S := Slaws_toMove) (h1 := by kernel_rfl) fun R p k => ?_
  unfold Klaws_toMove
  cases h : (PkS.un Slaws_toMove p) with
  | none => rfl
  | some d =>
    obtain ⟨x0, x1, x2, u⟩ := (d : Int × Int × Int × Unit)
    have hp := PkS.un_pack h
    subst hp
    exact (elaws_toMove  n x0 x1 x2 k).symm

/-! ### loop.example/g00269/laws.toMoveS -/
theorem claws_toMoveS (n : Nat) : AllOk Try.prog [(86, Klaws_toMove @laws_toMove n)] := ⟨oklaws_toMove n, trivial⟩
@[reducible] def Slaws_toMoveS_l3 : PkS := ⟨[.one (.ro (.pr (.int .i64) (.pr (.int .i64) (.int .i64)))), .one (.whole (100000, 0)), .one (.int .i64), .one (.dead)], [((100000, 0), .arr (.pr (.int .i64) (.pr (.int .i64) (.int .i64))))]⟩
@[reducible] def Tlaws_toMoveS_l3_0 : PkS := ⟨[.one (.whole (100000, 0)), .one (.dead)], [((100000, 0), .arr (.pr (.int .i64) (.pr (.int .i64) (.int .i64))))]⟩
def Dlaws_toMoveS_l3 : LoopD := ⟨23, [0, 3, 4], [.one (.ro (.pr (.int .i64) (.pr (.int .i64) (.int .i64)))), .one (.own (.pr (.int .i64) (.pr (.int .i64) (.int .i64)))), .one .any, .skip], fun x => match x with
  | .exit 0 => some ([3], [.one (.own (.pr (.int .i64) (.pr (.int .i64) (.int .i64)))), .skip])
  | _ => none⟩
def Plaws_toMoveS_l3 (g : ∀ {R : Type}, Nat → (List (Int × Int × Int)) → Int → (List (Int × Int × Int)) → ((List (Int × Int × Int)) → Option R) → Option R) (n : Nat) : LPs := fun R q kk => match (PkS.un Slaws_toMoveS_l3 q : Option ((List (Int × Int × Int)) × Int × (List (Int × Int × Int)) × Unit)) with
  | some (y3_0, y3_1, y3_2, _) => g n y3_0 y3_1 y3_2 (fun r0 => kk (.exit 0) (PkS.pack Tlaws_toMoveS_l3_0 (r0, ())))
  | none => none
theorem elaws_toMoveS_l3 (laws_toMove : ∀ {R : Type}, Nat → Int → Int → Int → (Int → Int → Int → Option R) → Option R) (laws_toMoveS_l3 : ∀ {R : Type}, Nat → (List (Int × Int × Int)) → Int → (List (Int × Int × Int)) → ((List (Int × Int × Int)) → Option R) → Option R) {R : Type} (n : Nat) (y3_0 : List (Int × Int × Int)) (y3_1 : Int) (y3_2 : List (Int × Int × Int)) (kk : Ex → Pk → Option R) : Dlaws_toMoveS_l3.step tt sig (mkK [(86, Klaws_toMove @laws_toMove n)] R) (mkL (mkK [(86, Klaws_toMove @laws_toMove n)]) [] R) (loopIn 3 (bodyOf Try.f25)) (fun q' => Plaws_toMoveS_l3 @laws_toMoveS_l3 n R q' kk) (PkS.pack Slaws_toMoveS_l3 (y3_0, y3_1, y3_2, ())) kk = (fun (kexit0 : (List (Int × Int × Int)) → Option R) => (bif (decide (y3_1 < (y3_0.length : Int))) then (bif decide (0 ≤ y3_1) then (bif decide (y3_1 < (y3_0.length : Int)) then (laws_toMove n ((y3_0.getD (Int.toNat y3_1) (0, (0, 0))).1) ((y3_0.getD (Int.toNat y3_1) (0, (0, 0))).2.1) ((y3_0.getD (Int.toNat y3_1) (0, (0, 0))).2.2) fun r1 r2 r3 => (bif decide (0 ≤ y3_1) then (bif decide (y3_1 < (y3_2.length : Int)) then laws_toMoveS_l3 n y3_0 (IntKind.wrap .i64 (y3_1 + 1)) (y3_2.set (Int.toNat y3_1) (r1, (r2, r3))) kexit0 else none) else none)) else none) else none) else kexit0 y3_2)) (fun r0 => kk (.exit 0) (PkS.pack Tlaws_toMoveS_l3_0 (r0, ()))) := by kernel_rfl
theorem lelaws_toMoveS_l3 : LoopEq tt sig (fun n => mkK [(86, Klaws_toMove @laws_toMove n)]) (fun n => mkL (mkK [(86, Klaws_toMove @laws_toMove n)]) []) Dlaws_toMoveS_l3 Slaws_toMoveS_l3 (loopIn 3 (bodyOf Try.f25)) (Plaws_toMoveS_l3 @laws_toMoveS_l3) where
  zero R q kk := by unfold Plaws_toMoveS_l3; cases (PkS.un Slaws_toMoveS_l3 q) <;> rfl
  succ n R q kk := by
    unfold Plaws_toMoveS_l3
    cases h : (PkS.un Slaws_toMoveS_l3 q) with
    | none => rfl
    | some d =>
      obtain ⟨y3_0, y3_1, y3_2, u⟩ := (d : (List (Int × Int × Int)) × Int × (List (Int × Int × Int)) × Unit)
      have hp := PkS.un_pack h
      subst hp
      exact (elaws_toMoveS_l3 @laws_toMove @laws_toMoveS_l3 n y3_0 y3_1 y3_2 kk).symm
theorem nllaws_toMoveS_l3 : ∀ n, NatLP (Plaws_toMoveS_l3 @laws_toMoveS_l3 n) := lelaws_toMoveS_l3.nat (fun n => mkK_nat (claws_toMoveS n)) fun n => mkL_nat (mkK_nat (claws_toMoveS n)) (l := []) trivial
theorem inlaws_toMoveS_l3 (n : Nat) (R : Type) : LoopsOk Try.prog (mkL (mkK [(86, Klaws_toMove @laws_toMove n)]) [] R) (loopIn 3 (bodyOf Try.f25)) := .eq (l := []) (by kernel_rfl) trivial
theorem lklaws_toMoveS_l3 (n : Nat) (R : Type) (L0 : LK R) (h0 : ∀ id, firstRegion (loopIn 3 (bodyOf Try.f25)) = some id → L0 id = Dlaws_toMoveS_l3.oracle (mkK [(86, Klaws_toMove @laws_toMove n)] R) (Plaws_toMoveS_l3 @laws_toMoveS_l3 n R)) : LoopOk Try.prog L0 (loopIn 3 (bodyOf Try.f25)) :=
  lelaws_toMoveS_l3.ok mixed ttok (fun n => mkK_nat (claws_toMoveS n)) (fun n => mkK_ok (claws_toMoveS n)) (fun n => inlaws_toMoveS_l3 n R) (mkK_nat (claws_toMoveS n)) h0
@[reducible] def Slaws_toMoveS : PkS := ⟨[.one (.ro (.pr (.int .i64) (.pr (.int .i64) (.int .i64))))], []⟩
@[reducible] def Tlaws_toMoveS : PkS := ⟨[.one (.whole (300000, 0)), .one (.dead)], [((300000, 0), .arr (.pr (.int .i64) (.pr (.int .i64) (.int .i64))))]⟩
def Hlaws_toMoveS : List Sh := [.one (.own (.pr (.int .i64) (.pr (.int .i64) (.int .i64)))), .skip]
def Klaws_toMoveS (g : ∀ {R : Type}, Nat → (List (Int × Int × Int)) → ((List (Int × Int × Int)) → Option R) → Option R) (n : Nat) : KPs := fun R p k => match (PkS.un Slaws_toMoveS p : Option ((List (Int × Int × Int)) × Unit)) with
  | some (x0, _) => g n x0 (fun r0 => k (PkS.pack Tlaws_toMoveS (r0, ())))
  | none => none
theorem elaws_toMoveS (laws_toMove : ∀ {R : Type}, Nat → Int → Int → Int → (Int → Int → Int → Option R) → Option R) (laws_toMoveS_l3 : ∀ {R : Type}, Nat → (List (Int × Int × Int)) → Int → (List (Int × Int × Int)) → ((List (Int × Int × Int)) → Option R) → Option R) {R : Type} (n : Nat) (x0 : List (Int × Int × Int)) (k : Pk → Option R) : evF tt sig (mkK [(86, Klaws_toMove @laws_toMove n)] R) (mkL (mkK [(86, Klaws_toMove @laws_toMove n)]) [(3, Dlaws_toMoveS_l3, Plaws_toMoveS_l3 @laws_toMoveS_l3 n)] R) Try.f25 Hlaws_toMoveS (PkS.pack Slaws_toMoveS (x0, ())) k = (fun (k : (List (Int × Int × Int)) → Option R) => (bif decide (0 ≤ (x0.length : Int)) then (bif decide ((x0.length : Int) ≤ (x0.length : Int)) then (bif decide ((x0.length : Int) ≤ 1099511627776) then (laws_toMoveS_l3 n x0 0 (List.replicate (Int.toNat (x0.length : Int)) (0, (0, 0))) (fun r4 => k r4)) else none) else none) else none)) (fun r0 => k (PkS.pack Tlaws_toMoveS (r0, ()))) := by kernel_rfl
theorem oklaws_toMoveS (n : Nat) : FnOk Try.prog 25 (Klaws_toMoveS @laws_toMoveS n) := by
  refine fn_ok (sig := sig) mixed ttok (mkK_nat (claws_toMoveS n)) (mkK_ok (claws_toMoveS n)) (mkL_nat (mkK_nat (claws_toMoveS n)) (l := [(3, Dlaws_toMoveS_l3, Plaws_toMoveS_l3 @laws_toMoveS_l3 n)]) ⟨nllaws_toMoveS_l3 n, trivial⟩) (fn := Try.f25) (c := bodyOf Try.f25) (by kernel_rfl) (by kernel_rfl) (by kernel_rfl) (.eq (l := [.lo (loopIn 3 (bodyOf Try.f25))]) (by kernel_rfl) ⟨(lklaws_toMoveS_l3 n _ _ (at_id (i := 3) (by kernel_rfl) rfl)), trivial⟩) (shs := Hlaws_toMoveS) (S := Slaws_toMoveS) (h1 := by kernel_rfl) fun R p k => ?_
  unfold Klaws_toMoveS
  cases h : (PkS.un Slaws_toMoveS p) with
  | none => rfl
  | some d =>
    obtain ⟨x0, u⟩ := (d : (List (Int × Int × Int)) × Unit)
    have hp := PkS.un_pack h
    subst hp
    exact (elaws_toMoveS @laws_toMove @laws_toMoveS_l3 n x0 k).symm

/-! ### loop.example/g00269/laws.toSaga -/
theorem claws_toSaga (n : Nat) : AllOk Try.prog [(24, Klaws_toIntS @laws_toIntS n), (25, Klaws_toMoveS @laws_toMoveS n)] := ⟨oklaws_toIntS n, ⟨oklaws_toMoveS n, trivial⟩⟩
@[reducible] def Slaws_toSaga : PkS := ⟨[.agg [.ro (.int .i64), .ro (.pr (.int .i64) (.pr (.int .i64) (.int .i64))), .int .i64, .bool]], []⟩
@[reducible] def Tlaws_toSaga : PkS := ⟨[.agg [.whole (300000, 0), .whole (300000, 1), .int .i64, .bool], .one (.dead)], [((300000, 0), .arr (.int .i64)), ((300000, 1), .arr (.pr (.int .i64) (.pr (.int .i64) (.int .i64))))]⟩
def Hlaws_toSaga : List Sh := [.agg [(.own (.int .i64)), (.own (.pr (.int .i64) (.pr (.int .i64) (.int .i64)))), .any, .any], .skip]
def Klaws_toSaga (g : ∀ {R : Type}, Nat → (List Int) → (List (Int × Int × Int)) → Int → Bool → (Int → Bool → (List Int) → (List (Int × Int × Int)) → Option R) → Option R) (n : Nat) : KPs := fun R p k => match (PkS.un Slaws_toSaga p : Option ((List Int) × (List (Int × Int × Int)) × Int × Bool × Unit)) with
  | some (x0, x1, x2, x3, _) => g n x0 x1 x2 x3 (fun r0 r1 r2 r3 => k (PkS.pack Tlaws_toSaga (r0, r1, r2, r3, ())))
  | none => none
theorem elaws_toSaga (laws_toIntS : ∀ {R : Type}, Nat → (List Int) → ((List Int) → Option R) → Option R) (laws_toMoveS : ∀ {R : Type}, Nat → (List (Int × Int × Int)) → ((List (Int × Int × Int)) → Option R) → Option R) {R : Type} (n : Nat) (x0 : List Int) (x1 : List (Int × Int × Int)) (x2 : Int) (x3 : Bool) (k : Pk → Option R) : evF tt sig (mkK [(24, Klaws_toIntS @laws_toIntS n), (25, Klaws_toMoveS @laws_toMoveS n)] R) (mkL (mkK [(24, Klaws_toIntS @laws_toIntS n), (25, Klaws_toMoveS @laws_toMoveS n)]) [] R) Try.f15 Hlaws_toSaga (PkS.pack Slaws_toSaga (x0, x1, x2, x3, ())) k = (fun (k : Int → Bool → (List Int) → (List (Int × Int × Int)) → Option R) => (laws_toIntS n x0 fun r1 => (laws_toMoveS n x1 fun r2 => k x2 x3 r1 r2))) (fun r0 r1 r2 r3 => k (PkS.pack Tlaws_toSaga (r0, r1, r2, r3, ()))) := by kernel_rfl
theorem oklaws_toSaga (n : Nat) : FnOk Try.prog 15 (Klaws_toSaga @laws_toSaga n) := by
  refine fn_ok (sig := sig) mixed ttok (mkK_nat (claws_toSaga n)) (mkK_ok (claws_toSaga n)) (mkL_nat (mkK_nat (claws_toSaga n)) (l := []) trivial) (fn := Try.f15) (c := bodyOf Try.f15) (by kernel_rfl) (by kernel_rfl) (by kernel_rfl) (.eq (l := []) (by kernel_rfl) trivial) (shs := Hlaws_toSaga) (S := Slaws_toSaga) (h1 := by kernel_rfl) fun R p k => ?_
  unfold Klaws_toSaga
  cases h : (PkS.un Slaws_toSaga p) with
  | none => rfl
  | some d =>
    obtain ⟨x0, x1, x2, x3, u⟩ := (d : (List Int) × (List (Int × Int × Int)) × Int × Bool × Unit)
    have hp := PkS.un_pack h
    subst hp
    exact (elaws_toSaga @laws_toIntS @laws_toMoveS n x0 x1 x2 x3 k).symm

/-! ### loop.example/g00269/spec.l1In -/
theorem cspec_l1In (n : Nat) : AllOk Try.prog [] := trivial
@[reducible] def Sspec_l1In : PkS := ⟨[.one (.int .i64), .one (.int .i64), .one (.int .i64)], []⟩
@[reducible] def Tspec_l1In : PkS := ⟨[.one (.bool), .one (.dead), .one (.dead), .one (.dead)], []⟩
def Hspec_l1In : List Sh := [.one .any, .skip, .skip, .skip]
def Kspec_l1In (g : ∀ {R : Type}, Nat → Int → Int → Int → (Bool → Option R) → Option R) (n : Nat) : KPs := fun R p k => match (PkS.un Sspec_l1In p : Option (Int × Int × Int × Unit)) with
  | some (x0, x1, x2, _) => g n x0 x1 x2 (fun r0 => k (PkS.pack Tspec_l1In (r0, ())))
  | none => none
theorem espec_l1In  {R : Type} (n : Nat) (x0 : Int) (x1 : Int) (x2 : Int) (k : Pk → Option R) : evF tt sig (mkK [] R) (mkL (mkK []) [] R) Try.f72 Hspec_l1In (PkS.pack Sspec_l1In (x0, x1, x2, ())) k = (fun (k : Bool → Option R) => (bif (decide (x0 ≥ x1)) then k (decide (x0 ≤ x2)) else k false)) (fun r0 => k (PkS.pack Tspec_l1In (r0, ()))) := by kernel_rfl
theorem okspec_l1In (n : Nat) : FnOk Try.prog 72 (Kspec_l1In @spec_l1In n) := by
  refine fn_ok (sig := sig) mixed ttok (mkK_nat (cspec_l1In n)) (mkK_ok (cspec_l1In n)) (mkL_nat (mkK_nat (cspec_l1In n)) (l := []) trivial) (fn := Try.f72) (c := bodyOf Try.f72) (by kernel_rfl) (by kernel_rfl) (by kernel_rfl) (.eq (l := []) (by kernel_rfl) trivial) (shs := Hspec_l1In) (S := Sspec_l1In) (h1 := by kernel_rfl) fun R p k => ?_
  unfold Kspec_l1In
  cases h : (PkS.un Sspec_l1In p) with
  | none => rfl
  | some d =>
    obtain ⟨x0, x1, x2, u⟩ := (d : Int × Int × Int × Unit)
    have hp := PkS.un_pack h
    subst hp
    exact (espec_l1In  n x0 x1 x2 k).symm

/-! ### loop.example/g00269/spec.l9Accounts -/
theorem cspec_l9Accounts (n : Nat) : AllOk Try.prog [(72, Kspec_l1In @spec_l1In n)] := ⟨okspec_l1In n, trivial⟩
@[reducible] def Sspec_l9Accounts_l2 : PkS := ⟨[.one (.ro (.int .i64)), .one (.ro (.int .i64)), .one (.int .i64), .one (.int .i64), .one (.dead)], []⟩
@[reducible] def Tspec_l9Accounts_l2_0 : PkS := ⟨[.one (.bool), .one (.dead)], []⟩
@[reducible] def Tspec_l9Accounts_l2_1 : PkS := ⟨[.one (.ro (.int .i64)), .one (.dead)], []⟩
def Dspec_l9Accounts_l2 : LoopD := ⟨18, [0, 5, 6, 7], [.one (.ro (.int .i64)), .one (.ro (.int .i64)), .one .any, .one .any, .skip], fun x => match x with
  | .ret => some ([2], [.one .any, .skip])
  | .exit 0 => some ([0], [.one (.ro (.int .i64)), .skip])
  | _ => none⟩
def Pspec_l9Accounts_l2 (g : ∀ {R : Type}, Nat → (List Int) → (List Int) → Int → Int → (Bool → Option R) → ((List Int) → Option R) → Option R) (n : Nat) : LPs := fun R q kk => match (PkS.un Sspec_l9Accounts_l2 q : Option ((List Int) × (List Int) × Int × Int × Unit)) with
  | some (y2_0, y2_1, y2_2, y2_3, _) => g n y2_0 y2_1 y2_2 y2_3 (fun r0 => kk .ret (PkS.pack Tspec_l9Accounts_l2_0 (r0, ()))) (fun r0 => kk (.exit 0) (PkS.pack Tspec_l9Accounts_l2_1 (r0, ())))
  | none => none
theorem espec_l9Accounts_l2 (spec_l1In : ∀ {R : Type}, Nat → Int → Int → Int → (Bool → Option R) → Option R) (spec_l9Accounts_l2 : ∀ {R : Type}, Nat → (List Int) → (List Int) → Int → Int → (Bool → Option R) → ((List Int) → Option R) → Option R) {R : Type} (n : Nat) (y2_0 : List Int) (y2_1 : List Int) (y2_2 : Int) (y2_3 : Int) (kk : Ex → Pk → Option R) : Dspec_l9Accounts_l2.step tt sig (mkK [(72, Kspec_l1In @spec_l1In n)] R) (mkL (mkK [(72, Kspec_l1In @spec_l1In n)]) [] R) (loopIn 2 (bodyOf Try.f71)) (fun q' => Pspec_l9Accounts_l2 @spec_l9Accounts_l2 n R q' kk) (PkS.pack Sspec_l9Accounts_l2 (y2_0, y2_1, y2_2, y2_3, ())) kk = (fun (kret : Bool → Option R) (kexit0 : (List Int) → Option R) => (bif (decide (y2_3 < y2_2)) then (bif decide (0 ≤ y2_3) then (bif decide (y2_3 < (y2_1.length : Int)) then (spec_l1In n (y2_1.getD (Int.toNat y2_3) 0) 0 1000000 fun r1 => (bif (!r1) then kret false else spec_l9Accounts_l2 n y2_0 y2_1 y2_2 (IntKind.wrap .i64 (y2_3 + 1)) kret kexit0)) else none) else none) else kexit0 y2_0)) (fun r0 => kk .ret (PkS.pack Tspec_l9Accounts_l2_0 (r0, ()))) (fun r0 => kk (.exit 0) (PkS.pack Tspec_l9Accounts_l2_1 (r0, ()))) := by kernel_rfl
theorem lespec_l9Accounts_l2 : LoopEq tt sig (fun n => mkK [(72, Kspec_l1In @spec_l1In n)]) (fun n => mkL (mkK [(72, Kspec_l1In @spec_l1In n)]) []) Dspec_l9Accounts_l2 Sspec_l9Accounts_l2 (loopIn 2 (bodyOf Try.f71)) (Pspec_l9Accounts_l2 @spec_l9Accounts_l2) where
  zero R q kk := by unfold Pspec_l9Accounts_l2; cases (PkS.un Sspec_l9Accounts_l2 q) <;> rfl
  succ n R q kk := by
    unfold Pspec_l9Accounts_l2
    cases h : (PkS.un Sspec_l9Accounts_l2 q) with
    | none => rfl
    | some d =>
      obtain ⟨y2_0, y2_1, y2_2, y2_3, u⟩ := (d : (List Int) × (List Int) × Int × Int × Unit)
      have hp := PkS.un_pack h
      subst hp
      exact (espec_l9Accounts_l2 @spec_l1In @spec_l9Accounts_l2 n y2_0 y2_1 y2_2 y2_3 kk).symm
theorem nlspec_l9Accounts_l2 : ∀ n, NatLP (Pspec_l9Accounts_l2 @spec_l9Accounts_l2 n) := lespec_l9Accounts_l2.nat (fun n => mkK_nat (cspec_l9Accounts n)) fun n => mkL_nat (mkK_nat (cspec_l9Accounts n)) (l := []) trivial
theorem inspec_l9Accounts_l2 (n : Nat) (R : Type) : LoopsOk Try.prog (mkL (mkK [(72, Kspec_l1In @spec_l1In n)]) [] R) (loopIn 2 (bodyOf Try.f71)) := .eq (l := []) (by kernel_rfl) trivial
theorem lkspec_l9Accounts_l2 (n : Nat) (R : Type) (L0 : LK R) (h0 : ∀ id, firstRegion (loopIn 2 (bodyOf Try.f71)) = some id → L0 id = Dspec_l9Accounts_l2.oracle (mkK [(72, Kspec_l1In @spec_l1In n)] R) (Pspec_l9Accounts_l2 @spec_l9Accounts_l2 n R)) : LoopOk Try.prog L0 (loopIn 2 (bodyOf Try.f71)) :=
  lespec_l9Accounts_l2.ok mixed ttok (fun n => mkK_nat (cspec_l9Accounts n)) (fun n => mkK_ok (cspec_l9Accounts n)) (fun n => inspec_l9Accounts_l2 n R) (mkK_nat (cspec_l9Accounts n)) h0
@[reducible] def Sspec_l9Accounts : PkS := ⟨[.one (.ro (.int .i64))], []⟩
@[reducible] def Tspec_l9Accounts : PkS := ⟨[.one (.bool), .one (.dead)], []⟩
def Hspec_l9Accounts : List Sh := [.one .any, .skip]
def Kspec_l9Accounts (g : ∀ {R : Type}, Nat → (List Int) → (Bool → Option R) → Option R) (n : Nat) : KPs := fun R p k => match (PkS.un Sspec_l9Accounts p : Option ((List Int) × Unit)) with
  | some (x0, _) => g n x0 (fun r0 => k (PkS.pack Tspec_l9Accounts (r0, ())))
  | none => none
theorem espec_l9Accounts (spec_l1In : ∀ {R : Type}, Nat → Int → Int → Int → (Bool → Option R) → Option R) (spec_l9Accounts_l2 : ∀ {R : Type}, Nat → (List Int) → (List Int) → Int → Int → (Bool → Option R) → ((List Int) → Option R) → Option R) {R : Type} (n : Nat) (x0 : List Int) (k : Pk → Option R) : evF tt sig (mkK [(72, Kspec_l1In @spec_l1In n)] R) (mkL (mkK [(72, Kspec_l1In @spec_l1In n)]) [(2, Dspec_l9Accounts_l2, Pspec_l9Accounts_l2 @spec_l9Accounts_l2 n)] R) Try.f71 Hspec_l9Accounts (PkS.pack Sspec_l9Accounts (x0, ())) k = (fun (k : Bool → Option R) => (spec_l9Accounts_l2 n x0 x0 (x0.length : Int) 0 (fun r2 => k r2) (fun r3 => (spec_l1In n (r3.length : Int) 1 8 fun r4 => k r4)))) (fun r0 => k (PkS.pack Tspec_l9Accounts (r0, ()))) := by kernel_rfl
theorem okspec_l9Accounts (n : Nat) : FnOk Try.prog 71 (Kspec_l9Accounts @spec_l9Accounts n) := by
  refine fn_ok (sig := sig) mixed ttok (mkK_nat (cspec_l9Accounts n)) (mkK_ok (cspec_l9Accounts n)) (mkL_nat (mkK_nat (cspec_l9Accounts n)) (l := [(2, Dspec_l9Accounts_l2, Pspec_l9Accounts_l2 @spec_l9Accounts_l2 n)]) ⟨nlspec_l9Accounts_l2 n, trivial⟩) (fn := Try.f71) (c := bodyOf Try.f71) (by kernel_rfl) (by kernel_rfl) (by kernel_rfl) (.eq (l := [.lo (loopIn 2 (bodyOf Try.f71))]) (by kernel_rfl) ⟨(lkspec_l9Accounts_l2 n _ _ (at_id (i := 2) (by kernel_rfl) rfl)), trivial⟩) (shs := Hspec_l9Accounts) (S := Sspec_l9Accounts) (h1 := by kernel_rfl) fun R p k => ?_
  unfold Kspec_l9Accounts
  cases h : (PkS.un Sspec_l9Accounts p) with
  | none => rfl
  | some d =>
    obtain ⟨x0, u⟩ := (d : (List Int) × Unit)
    have hp := PkS.un_pack h
    subst hp
    exact (espec_l9Accounts @spec_l1In @spec_l9Accounts_l2 n x0 k).symm

/-! ### loop.example/g00269/spec.l9Move -/
theorem cspec_l9Move (n : Nat) : AllOk Try.prog [(72, Kspec_l1In @spec_l1In n)] := ⟨okspec_l1In n, trivial⟩
@[reducible] def Sspec_l9Move : PkS := ⟨[.agg [.int .i64, .int .i64, .int .i64], .one (.int .i64)], []⟩
@[reducible] def Tspec_l9Move : PkS := ⟨[.one (.bool), .one (.dead), .one (.dead)], []⟩
def Hspec_l9Move : List Sh := [.one .any, .skip, .skip]
def Kspec_l9Move (g : ∀ {R : Type}, Nat → Int → Int → Int → Int → (Bool → Option R) → Option R) (n : Nat) : KPs := fun R p k => match (PkS.un Sspec_l9Move p : Option (Int × Int × Int × Int × Unit)) with
  | some (x0, x1, x2, x3, _) => g n x0 x1 x2 x3 (fun r0 => k (PkS.pack Tspec_l9Move (r0, ())))
  | none => none
theorem espec_l9Move (spec_l1In : ∀ {R : Type}, Nat → Int → Int → Int → (Bool → Option R) → Option R) {R : Type} (n : Nat) (x0 : Int) (x1 : Int) (x2 : Int) (x3 : Int) (k : Pk → Option R) : evF tt sig (mkK [(72, Kspec_l1In @spec_l1In n)] R) (mkL (mkK [(72, Kspec_l1In @spec_l1In n)]) [] R) Try.f73 Hspec_l9Move (PkS.pack Sspec_l9Move (x0, x1, x2, x3, ())) k = (fun (k : Bool → Option R) => (spec_l1In n x0 0 (IntKind.wrap .i64 (x3 - 1)) fun r1 => (bif r1 then (spec_l1In n x1 0 (IntKind.wrap .i64 (x3 - 1)) fun r2 => (bif r2 then (bif (x0 != x1) then (spec_l1In n x2 1 1000 fun r3 => k r3) else k false) else k false)) else k false))) (fun r0 => k (PkS.pack Tspec_l9Move (r0, ()))) := by kernel_rfl
theorem okspec_l9Move (n : Nat) : FnOk Try.prog 73 (Kspec_l9Move @spec_l9Move n) := by
  refine fn_ok (sig := sig) mixed ttok (mkK_nat (cspec_l9Move n)) (mkK_ok (cspec_l9Move n)) (mkL_nat (mkK_nat (cspec_l9Move n)) (l := []) trivial) (fn := Try.f73) (c := bodyOf Try.f73) (by kernel_rfl) (by kernel_rfl) (by kernel_rfl) (.eq (l := []) (by kernel_rfl) trivial) (shs := Hspec_l9Move) (S := Sspec_l9Move) (h1 := by kernel_rfl) fun R p k => ?_
  unfold Kspec_l9Move
  cases h : (PkS.un Sspec_l9Move p) with
  | none => rfl
  | some d =>
    obtain ⟨x0, x1, x2, x3, u⟩ := (d : Int × Int × Int × Int × Unit)
    have hp := PkS.un_pack h
    subst hp
    exact (espec_l9Move @spec_l1In n x0 x1 x2 x3 k).symm

/-! ### loop.example/g00269/spec.l9Back -/
theorem cspec_l9Back (n : Nat) : AllOk Try.prog [] := trivial
@[reducible] def Sspec_l9Back : PkS := ⟨[.agg [.int .i64, .int .i64, .int .i64]], []⟩
@[reducible] def Tspec_l9Back : PkS := ⟨[.agg [.int .i64, .int .i64, .int .i64], .one (.dead)], []⟩
def Hspec_l9Back : List Sh := [.agg [.any, .any, .any], .skip]
def Kspec_l9Back (g : ∀ {R : Type}, Nat → Int → Int → Int → (Int → Int → Int → Option R) → Option R) (n : Nat) : KPs := fun R p k => match (PkS.un Sspec_l9Back p : Option (Int × Int × Int × Unit)) with
  | some (x0, x1, x2, _) => g n x0 x1 x2 (fun r0 r1 r2 => k (PkS.pack Tspec_l9Back (r0, r1, r2, ())))
  | none => none
theorem espec_l9Back  {R : Type} (n : Nat) (x0 : Int) (x1 : Int) (x2 : Int) (k : Pk → Option R) : evF tt sig (mkK [] R) (mkL (mkK []) [] R) Try.f75 Hspec_l9Back (PkS.pack Sspec_l9Back (x0, x1, x2, ())) k = (fun (k : Int → Int → Int → Option R) => k x1 x0 x2) (fun r0 r1 r2 => k (PkS.pack Tspec_l9Back (r0, r1, r2, ()))) := by kernel_rfl
theorem okspec_l9Back (n : Nat) : FnOk Try.prog 75 (Kspec_l9Back @spec_l9Back n) := by
  refine fn_ok (sig := sig) mixed ttok (mkK_nat (cspec_l9Back n)) (mkK_ok (cspec_l9Back n)) (mkL_nat (mkK_nat (cspec_l9Back n)) (l := []) trivial) (fn := Try.f75) (c := bodyOf Try.f75) (by kernel_rfl) (by kernel_rfl) (by kernel_rfl) (.eq (l := []) (by kernel_rfl) trivial) (shs := Hspec_l9Back) (S := Sspec_l9Back) (h1 := by kernel_rfl) fun R p k => ?_
  unfold Kspec_l9Back
  cases h : (PkS.un Sspec_l9Back p) with
  | none => rfl
  | some d =>
    obtain ⟨x0, x1, x2, u⟩ := (d : Int × Int × Int × Unit)
    have hp := PkS.un_pack h
    subst hp
    exact (espec_l9Back  n x0 x1 x2 k).symm

/-! ### loop.example/g00269/spec.l9Do -/
theorem cspec_l9Do (n : Nat) : AllOk Try.prog [] := trivial
@[reducible] def Sspec_l9Do : PkS := ⟨[.one (.ro (.int .i64)), .agg [.int .i64, .int .i64, .int .i64]], []⟩
@[reducible] def Tspec_l9Do : PkS := ⟨[.tup [(false, [.whole (300000, 0)]), (false, [.bool])], .one (.dead), .one (.dead)], [((300000, 0), .arr (.int .i64))]⟩
def Hspec_l9Do : List Sh := [.tup [(false, [(.own (.int .i64))]), (false, [.any])], .skip, .skip]
def Kspec_l9Do (g : ∀ {R : Type}, Nat → (List Int) → Int → Int → Int → (Bool → (List Int) → Option R) → Option R) (n : Nat) : KPs := fun R p k => match (PkS.un Sspec_l9Do p : Option ((List Int) × Int × Int × Int × Unit)) with
  | some (x0, x1, x2, x3, _) => g n x0 x1 x2 x3 (fun r0 r1 => k (PkS.pack Tspec_l9Do (r0, r1, ())))
  | none => none
theorem espec_l9Do  {R : Type} (n : Nat) (x0 : List Int) (x1 : Int) (x2 : Int) (x3 : Int) (k : Pk → Option R) : evF tt sig (mkK [] R) (mkL (mkK []) [] R) Try.f74 Hspec_l9Do (PkS.pack Sspec_l9Do (x0, x1, x2, x3, ())) k = (fun (k : Bool → (List Int) → Option R) => (bif decide (([] : List Int).length + x0.length ≤ LIM) then (bif decide (0 ≤ x1) then (bif decide (x1 < ((([] : List Int) ++ x0).length : Int)) then (bif decide (0 ≤ x1) then (bif decide (x1 < ((([] : List Int) ++ x0).length : Int)) then (bif decide (0 ≤ x2) then (bif decide (x2 < (((([] : List Int) ++ x0).set (Int.toNat x1) (IntKind.wrap .i64 (((([] : List Int) ++ x0).getD (Int.toNat x1) 0) - x3))).length : Int)) then (bif decide (0 ≤ x2) then (bif decide (x2 < (((([] : List Int) ++ x0).set (Int.toNat x1) (IntKind.wrap .i64 (((([] : List Int) ++ x0).getD (Int.toNat x1) 0) - x3))).length : Int)) then (bif decide (0 ≤ x1) then (bif decide (x1 < ((((([] : List Int) ++ x0).set (Int.toNat x1) (IntKind.wrap .i64 (((([] : List Int) ++ x0).getD (Int.toNat x1) 0) - x3))).set (Int.toNat x2) (IntKind.wrap .i64 ((((([] : List Int) ++ x0).set (Int.toNat x1) (IntKind.wrap .i64 (((([] : List Int) ++ x0).getD (Int.toNat x1) 0) - x3))).getD (Int.toNat x2) 0) + x3))).length : Int)) then (bif (decide (((((([] : List Int) ++ x0).set (Int.toNat x1) (IntKind.wrap .i64 (((([] : List Int) ++ x0).getD (Int.toNat x1) 0) - x3))).set (Int.toNat x2) (IntKind.wrap .i64 ((((([] : List Int) ++ x0).set (Int.toNat x1) (IntKind.wrap .i64 (((([] : List Int) ++ x0).getD (Int.toNat x1) 0) - x3))).getD (Int.toNat x2) 0) + x3))).getD (Int.toNat x1) 0) ≥ 0)) then (bif decide (0 ≤ x2) then (bif decide (x2 < ((((([] : List Int) ++ x0).set (Int.toNat x1) (IntKind.wrap .i64 (((([] : List Int) ++ x0).getD (Int.toNat x1) 0) - x3))).set (Int.toNat x2) (IntKind.wrap .i64 ((((([] : List Int) ++ x0).set (Int.toNat x1) (IntKind.wrap .i64 (((([] : List Int) ++ x0).getD (Int.toNat x1) 0) - x3))).getD (Int.toNat x2) 0) + x3))).length : Int)) then k (decide (((((([] : List Int) ++ x0).set (Int.toNat x1) (IntKind.wrap .i64 (((([] : List Int) ++ x0).getD (Int.toNat x1) 0) - x3))).set (Int.toNat x2) (IntKind.wrap .i64 ((((([] : List Int) ++ x0).set (Int.toNat x1) (IntKind.wrap .i64 (((([] : List Int) ++ x0).getD (Int.toNat x1) 0) - x3))).getD (Int.toNat x2) 0) + x3))).getD (Int.toNat x2) 0) ≤ 1000000)) (((([] : List Int) ++ x0).set (Int.toNat x1) (IntKind.wrap .i64 (((([] : List Int) ++ x0).getD (Int.toNat x1) 0) - x3))).set (Int.toNat x2) (IntKind.wrap .i64 ((((([] : List Int) ++ x0).set (Int.toNat x1) (IntKind.wrap .i64 (((([] : List Int) ++ x0).getD (Int.toNat x1) 0) - x3))).getD (Int.toNat x2) 0) + x3))) else none) else none) else k false (((([] : List Int) ++ x0).set (Int.toNat x1) (IntKind.wrap .i64 (((([] : List Int) ++ x0).getD (Int.toNat x1) 0) - x3))).set (Int.toNat x2) (IntKind.wrap .i64 ((((([] : List Int) ++ x0).set (Int.toNat x1) (IntKind.wrap .i64 (((([] : List Int) ++ x0).getD (Int.toNat x1) 0) - x3))).getD (Int.toNat x2) 0) + x3)))) else none) else none) else none) else none) else none) else none) else none) else none) else none) else none) else none)) (fun r0 r1 => k (PkS.pack Tspec_l9Do (r0, r1, ()))) := by kernel_rfl
theorem okspec_l9Do (n : Nat) : FnOk Try.prog 74 (Kspec_l9Do @spec_l9Do n) := by
  refine fn_ok (sig := sig) mixed ttok (mkK_nat (cspec_l9Do n)) (mkK_ok (cspec_l9Do n)) (mkL_nat (mkK_nat (cspec_l9Do n)) (l := []) trivial) (fn := Try.f74) (c := bodyOf Try.f74) (by kernel_rfl) (by kernel_rfl) (by kernel_rfl) (.eq (l := []) (by kernel_rfl) trivial) (shs := Hspec_l9Do) (S := Sspec_l9Do) (h1 := by kernel_rfl) fun R p k => ?_
  unfold Kspec_l9Do
  cases h : (PkS.un Sspec_l9Do p) with
  | none => rfl
  | some d =>
    obtain ⟨x0, x1, x2, x3, u⟩ := (d : (List Int) × Int × Int × Int × Unit)
    have hp := PkS.un_pack h
    subst hp
    exact (espec_l9Do  n x0 x1 x2 x3 k).symm

/-! ### loop.example/g00269/spec.GoodSaga -/
theorem cspec_GoodSaga (n : Nat) : AllOk Try.prog [(71, Kspec_l9Accounts @spec_l9Accounts n), (72, Kspec_l1In @spec_l1In n), (73, Kspec_l9Move @spec_l9Move n), (75, Kspec_l9Back @spec_l9Back n), (74, Kspec_l9Do @spec_l9Do n)] := ⟨okspec_l9Accounts n, ⟨okspec_l1In n, ⟨okspec_l9Move n, ⟨okspec_l9Back n, ⟨okspec_l9Do n, trivial⟩⟩⟩⟩⟩
@[reducible] def Sspec_GoodSaga_l4 : PkS := ⟨[.one (.box (100000, 0) 0), .one (.ro (.pr (.int .i64) (.pr (.int .i64) (.int .i64)))), .one (.int .i64), .one (.int .i64), .one (.dead)], [((100000, 0), .box [.ro (.int .i64), .ro (.pr (.int .i64) (.pr (.int .i64) (.int .i64))), .int .i64, .bool])]⟩
@[reducible] def Tspec_GoodSaga_l4_0 : PkS := ⟨[.one (.bool), .one (.dead)], []⟩
@[reducible] def Tspec_GoodSaga_l4_1 : PkS := ⟨[.one (.box (100000, 0) 0), .one (.dead)], [((100000, 0), .box [.ro (.int .i64), .ro (.pr (.int .i64) (.pr (.int .i64) (.int .i64))), .int .i64, .bool])]⟩
def Dspec_GoodSaga_l4 : LoopD := ⟨65, [1, 29, 30, 31], [.box [(.ro (.int .i64)), (.ro (.pr (.int .i64) (.pr (.int .i64) (.int .i64)))), .any, .any], .one (.ro (.pr (.int .i64) (.pr (.int .i64) (.int .i64)))), .one .any, .one .any, .skip], fun x => match x with
  | .ret => some ([2], [.one .any, .skip])
  | .exit 0 => some ([1], [.box [(.ro (.int .i64)), (.ro (.pr (.int .i64) (.pr (.int .i64) (.int .i64)))), .any, .any], .skip])
  | _ => none⟩
def Pspec_GoodSaga_l4 (g : ∀ {R : Type}, Nat → (List (Int × Int × Int)) → Int → Int → (List Int) → (List (Int × Int × Int)) → Int → Bool → (Bool → Option R) → ((List Int) → (List (Int × Int × Int)) → Int → Bool → Option R) → Option R) (n : Nat) : LPs := fun R q kk => match (PkS.un Sspec_GoodSaga_l4 q : Option ((List (Int × Int × Int)) × Int × Int × (List Int) × (List (Int × Int × Int)) × Int × Bool × Unit)) with
  | some (y4_0, y4_1, y4_2, y4_3, y4_4, y4_5, y4_6, _) => g n y4_0 y4_1 y4_2 y4_3 y4_4 y4_5 y4_6 (fun r0 => kk .ret (PkS.pack Tspec_GoodSaga_l4_0 (r0, ()))) (fun r0 r1 r2 r3 => kk (.exit 0) (PkS.pack Tspec_GoodSaga_l4_1 (r0, r1, r2, r3, ())))
  | none => none
theorem espec_GoodSaga_l4 (spec_l9Accounts : ∀ {R : Type}, Nat → (List Int) → (Bool → Option R) → Option R) (spec_l1In : ∀ {R : Type}, Nat → Int → Int → Int → (Bool → Option R) → Option R) (spec_l9Move : ∀ {R : Type}, Nat → Int → Int → Int → Int → (Bool → Option R) → Option R) (spec_l9Back : ∀ {R : Type}, Nat → Int → Int → Int → (Int → Int → Int → Option R) → Option R) (spec_l9Do : ∀ {R : Type}, Nat → (List Int) → Int → Int → Int → (Bool → (List Int) → Option R) → Option R) (spec_GoodSaga_l4 : ∀ {R : Type}, Nat → (List (Int × Int × Int)) → Int → Int → (List Int) → (List (Int × Int × Int)) → Int → Bool → (Bool → Option R) → ((List Int) → (List (Int × Int × Int)) → Int → Bool → Option R) → Option R) {R : Type} (n : Nat) (y4_0 : List (Int × Int × Int)) (y4_1 : Int) (y4_2 : Int) (y4_3 : List Int) (y4_4 : List (Int × Int × Int)) (y4_5 : Int) (y4_6 : Bool) (kk : Ex → Pk → Option R) : Dspec_GoodSaga_l4.step tt sig (mkK [(71, Kspec_l9Accounts @spec_l9Accounts n), (72, Kspec_l1In @spec_l1In n), (73, Kspec_l9Move @spec_l9Move n), (75, Kspec_l9Back @spec_l9Back n), (74, Kspec_l9Do @spec_l9Do n)] R) (mkL (mkK [(71, Kspec_l9Accounts @spec_l9Accounts n), (72, Kspec_l1In @spec_l1In n), (73, Kspec_l9Move @spec_l9Move n), (75, Kspec_l9Back @spec_l9Back n), (74, Kspec_l9Do @spec_l9Do n)]) [] R) (loopIn 4 (bodyOf Try.f14)) (fun q' => Pspec_GoodSaga_l4 @spec_GoodSaga_l4 n R q' kk) (PkS.pack Sspec_GoodSaga_l4 (y4_0, y4_1, y4_2, y4_3, y4_4, y4_5, y4_6, ())) kk = (fun (kret : Bool → Option R) (kexit0 : (List Int) → (List (Int × Int × Int)) → Int → Bool → Option R) => (bif (decide (y4_2 < y4_1)) then (bif decide (0 ≤ y4_2) then (bif decide (y4_2 < (y4_0.length : Int)) then (spec_l9Move n ((y4_0.getD (Int.toNat y4_2) (0, (0, 0))).1) ((y4_0.getD (Int.toNat y4_2) (0, (0, 0))).2.1) ((y4_0.getD (Int.toNat y4_2) (0, (0, 0))).2.2) (y4_3.length : Int) fun r3 => (bif (!r3) then kret false else spec_GoodSaga_l4 n y4_0 y4_1 (IntKind.wrap .i64 (y4_2 + 1)) y4_3 y4_4 y4_5 y4_6 kret kexit0)) else none) else none) else kexit0 y4_3 y4_4 y4_5 y4_6)) (fun r0 => kk .ret (PkS.pack Tspec_GoodSaga_l4_0 (r0, ()))) (fun r0 r1 r2 r3 => kk (.exit 0) (PkS.pack Tspec_GoodSaga_l4_1 (r0, r1, r2, r3, ()))) := by kernel_rfl
theorem lespec_GoodSaga_l4 : LoopEq tt sig (fun n => mkK [(71, Kspec_l9Accounts @spec_l9Accounts n), (72, Kspec_l1In @spec_l1In n), (73, Kspec_l9Move @spec_l9Move n), (75, Kspec_l9Back @spec_l9Back n), (74, Kspec_l9Do @spec_l9Do n)]) (fun n => mkL (mkK [(71, Kspec_l9Accounts @spec_l9Accounts n), (72, Kspec_l1In @spec_l1In n), (73, Kspec_l9Move @spec_l9Move n), (75, Kspec_l9Back @spec_l9Back n), (74, Kspec_l9Do @spec_l9Do n)]) []) Dspec_GoodSaga_l4 Sspec_GoodSaga_l4 (loopIn 4 (bodyOf Try.f14)) (Pspec_GoodSaga_l4 @spec_GoodSaga_l4) where
  zero R q kk := by unfold Pspec_GoodSaga_l4; cases (PkS.un Sspec_GoodSaga_l4 q) <;> rfl
  succ n R q kk := by
    unfold Pspec_GoodSaga_l4
    cases h : (PkS.un Sspec_GoodSaga_l4 q) with
    | none => rfl
    | some d =>
      obtain ⟨y4_0, y4_1, y4_2, y4_3, y4_4, y4_5, y4_6, u⟩ := (d : (List (Int × Int × Int)) × Int × Int × (List Int) × (List (Int × Int × Int)) × Int × Bool × Unit)
      have hp := PkS.un_pack h
      subst hp
      exact (espec_GoodSaga_l4 @spec_l9Accounts @spec_l1In @spec_l9Move @spec_l9Back @spec_l9Do @spec_GoodSaga_l4 n y4_0 y4_1 y4_2 y4_3 y4_4 y4_5 y4_6 kk).symm
theorem nlspec_GoodSaga_l4 : ∀ n, NatLP (Pspec_GoodSaga_l4 @spec_GoodSaga_l4 n) := lespec_GoodSaga_l4.nat (fun n => mkK_nat (cspec_GoodSaga n)) fun n => mkL_nat (mkK_nat (cspec_GoodSaga n)) (l := []) trivial
theorem inspec_GoodSaga_l4 (n : Nat) (R : Type) : LoopsOk Try.prog (mkL (mkK [(71, Kspec_l9Accounts @spec_l9Accounts n), (72, Kspec_l1In @spec_l1In n), (73, Kspec_l9Move @spec_l9Move n), (75, Kspec_l9Back @spec_l9Back n), (74, Kspec_l9Do @spec_l9Do n)]) [] R) (loopIn 4 (bodyOf Try.f14)) := .eq (l := []) (by kernel_rfl) trivial
theorem lkspec_GoodSaga_l4 (n : Nat) (R : Type) (L0 : LK R) (h0 : ∀ id, firstRegion (loopIn 4 (bodyOf Try.f14)) = some id → L0 id = Dspec_GoodSaga_l4.oracle (mkK [(71, Kspec_l9Accounts @spec_l9Accounts n), (72, Kspec_l1In @spec_l1In n), (73, Kspec_l9Move @spec_l9Move n), (75, Kspec_l9Back @spec_l9Back n), (74, Kspec_l9Do @spec_l9Do n)] R) (Pspec_GoodSaga_l4 @spec_GoodSaga_l4 n R)) : LoopOk Try.prog L0 (loopIn 4 (bodyOf Try.f14)) :=
  lespec_GoodSaga_l4.ok mixed ttok (fun n => mkK_nat (cspec_GoodSaga n)) (fun n => mkK_ok (cspec_GoodSaga n)) (fun n => inspec_GoodSaga_l4 n R) (mkK_nat (cspec_GoodSaga n)) h0
@[reducible] def Sspec_GoodSaga_l11 : PkS := ⟨[.one (.box (100000, 0) 0), .one (.ro (.int .i64)), .one (.int .i64), .one (.dead)], [((100000, 0), .box [.ro (.int .i64), .ro (.pr (.int .i64) (.pr (.int .i64) (.int .i64))), .int .i64, .bool])]⟩
@[reducible] def Tspec_GoodSaga_l11_0 : PkS := ⟨[.one (.bool), .one (.dead)], []⟩
@[reducible] def Tspec_GoodSaga_l11_1 : PkS := ⟨[.one (.dead)], []⟩
def Dspec_GoodSaga_l11 : LoopD := ⟨65, [1, 5, 6], [.box [(.ro (.int .i64)), (.ro (.pr (.int .i64) (.pr (.int .i64) (.int .i64)))), .any, .any], .one (.ro (.int .i64)), .one .any, .skip], fun x => match x with
  | .ret => some ([2], [.one .any, .skip])
  | .exit 2 => some ([], [.skip])
  | _ => none⟩
def Pspec_GoodSaga_l11 (g : ∀ {R : Type}, Nat → (List Int) → Int → (List Int) → (List (Int × Int × Int)) → Int → Bool → (Bool → Option R) → (Option R) → Option R) (n : Nat) : LPs := fun R q kk => match (PkS.un Sspec_GoodSaga_l11 q : Option ((List Int) × Int × (List Int) × (List (Int × Int × Int)) × Int × Bool × Unit)) with
  | some (y11_0, y11_1, y11_2, y11_3, y11_4, y11_5, _) => g n y11_0 y11_1 y11_2 y11_3 y11_4 y11_5 (fun r0 => kk .ret (PkS.pack Tspec_GoodSaga_l11_0 (r0, ()))) (kk (.exit 2) (PkS.pack Tspec_GoodSaga_l11_1 ()))
  | none => none
theorem espec_GoodSaga_l11 (spec_l9Accounts : ∀ {R : Type}, Nat → (List Int) → (Bool → Option R) → Option R) (spec_l1In : ∀ {R : Type}, Nat → Int → Int → Int → (Bool → Option R) → Option R) (spec_l9Move : ∀ {R : Type}, Nat → Int → Int → Int → Int → (Bool → Option R) → Option R) (spec_l9Back : ∀ {R : Type}, Nat → Int → Int → Int → (Int → Int → Int → Option R) → Option R) (spec_l9Do : ∀ {R : Type}, Nat → (List Int) → Int → Int → Int → (Bool → (List Int) → Option R) → Option R) (spec_GoodSaga_l4 : ∀ {R : Type}, Nat → (List (Int × Int × Int)) → Int → Int → (List Int) → (List (Int × Int × Int)) → Int → Bool → (Bool → Option R) → ((List Int) → (List (Int × Int × Int)) → Int → Bool → Option R) → Option R) (spec_GoodSaga_l11 : ∀ {R : Type}, Nat → (List Int) → Int → (List Int) → (List (Int × Int × Int)) → Int → Bool → (Bool → Option R) → (Option R) → Option R) {R : Type} (n : Nat) (y11_0 : List Int) (y11_1 : Int) (y11_2 : List Int) (y11_3 : List (Int × Int × Int)) (y11_4 : Int) (y11_5 : Bool) (kk : Ex → Pk → Option R) : Dspec_GoodSaga_l11.step tt sig (mkK [(71, Kspec_l9Accounts @spec_l9Accounts n), (72, Kspec_l1In @spec_l1In n), (73, Kspec_l9Move @spec_l9Move n), (75, Kspec_l9Back @spec_l9Back n), (74, Kspec_l9Do @spec_l9Do n)] R) (mkL (mkK [(71, Kspec_l9Accounts @spec_l9Accounts n), (72, Kspec_l1In @spec_l1In n), (73, Kspec_l9Move @spec_l9Move n), (75, Kspec_l9Back @spec_l9Back n), (74, Kspec_l9Do @spec_l9Do n)]) [(4, Dspec_GoodSaga_l4, Pspec_GoodSaga_l4 @spec_GoodSaga_l4 n)] R) (loopIn 11 (bodyOf Try.f14)) (fun q' => Pspec_GoodSaga_l11 @spec_GoodSaga_l11 n R q' kk) (PkS.pack Sspec_GoodSaga_l11 (y11_0, y11_1, y11_2, y11_3, y11_4, y11_5, ())) kk = (fun (kret : Bool → Option R) (kexit2 : Option R) => (bif (decide (y11_1 ≥ 0)) then (bif decide (0 ≤ y11_1) then (bif decide (y11_1 < (y11_3.length : Int)) then (spec_l9Back n ((y11_3.getD (Int.toNat y11_1) (0, (0, 0))).1) ((y11_3.getD (Int.toNat y11_1) (0, (0, 0))).2.1) ((y11_3.getD (Int.toNat y11_1) (0, (0, 0))).2.2) fun r9 r10 r11 => (spec_l9Do n y11_0 r9 r10 r11 fun r12 r13 => (bif (!r12) then kret false else spec_GoodSaga_l11 n r13 (IntKind.wrap .i64 (y11_1 - 1)) y11_2 y11_3 y11_4 y11_5 kret kexit2))) else none) else none) else kexit2)) (fun r0 => kk .ret (PkS.pack Tspec_GoodSaga_l11_0 (r0, ()))) (kk (.exit 2) (PkS.pack Tspec_GoodSaga_l11_1 ())) := by kernel_rfl
theorem lespec_GoodSaga_l11 : LoopEq tt sig (fun n => mkK [(71, Kspec_l9Accounts @spec_l9Accounts n), (72, Kspec_l1In @spec_l1In n), (73, Kspec_l9Move @spec_l9Move n), (75, Kspec_l9Back @spec_l9Back n), (74, Kspec_l9Do @spec_l9Do n)]) (fun n => mkL (mkK [(71, Kspec_l9Accounts @spec_l9Accounts n), (72, Kspec_l1In @spec_l1In n), (73, Kspec_l9Move @spec_l9Move n), (75, Kspec_l9Back @spec_l9Back n), (74, Kspec_l9Do @spec_l9Do n)]) [(4, Dspec_GoodSaga_l4, Pspec_GoodSaga_l4 @spec_GoodSaga_l4 n)]) Dspec_GoodSaga_l11 Sspec_GoodSaga_l11 (loopIn 11 (bodyOf Try.f14)) (Pspec_GoodSaga_l11 @spec_GoodSaga_l11) where
  zero R q kk := by unfold Pspec_GoodSaga_l11; cases (PkS.un Sspec_GoodSaga_l11 q) <;> rfl
  succ n R q kk := by
    unfold Pspec_GoodSaga_l11
    cases h : (PkS.un Sspec_GoodSaga_l11 q) with
    | none => rfl
    | some d =>
      obtain ⟨y11_0, y11_1, y11_2, y11_3, y11_4, y11_5, u⟩ := (d : (List Int) × Int × (List Int) × (List (Int × Int × Int)) × Int × Bool × Unit)
      have hp := PkS.un_pack h
      subst hp
      exact (espec_GoodSaga_l11 @spec_l9Accounts @spec_l1In @spec_l9Move @spec_l9Back @spec_l9Do @spec_GoodSaga_l4 @spec_GoodSaga_l11 n y11_0 y11_1 y11_2 y11_3 y11_4 y11_5 kk).symm
theorem nlspec_GoodSaga_l11 : ∀ n, NatLP (Pspec_GoodSaga_l11 @spec_GoodSaga_l11 n) := lespec_GoodSaga_l11.nat (fun n => mkK_nat (cspec_GoodSaga n)) fun n => mkL_nat (mkK_nat (cspec_GoodSaga n)) (l := [(4, Dspec_GoodSaga_l4, Pspec_GoodSaga_l4 @spec_GoodSaga_l4 n)]) ⟨nlspec_GoodSaga_l4 n, trivial⟩
theorem inspec_GoodSaga_l11 (n : Nat) (R : Type) : LoopsOk Try.prog (mkL (mkK [(71, Kspec_l9Accounts @spec_l9Accounts n), (72, Kspec_l1In @spec_l1In n), (73, Kspec_l9Move @spec_l9Move n), (75, Kspec_l9Back @spec_l9Back n), (74, Kspec_l9Do @spec_l9Do n)]) [(4, Dspec_GoodSaga_l4, Pspec_GoodSaga_l4 @spec_GoodSaga_l4 n)] R) (loopIn 11 (bodyOf Try.f14)) := .eq (l := []) (by kernel_rfl) trivial
theorem lkspec_GoodSaga_l11 (n : Nat) (R : Type) (L0 : LK R) (h0 : ∀ id, firstRegion (loopIn 11 (bodyOf Try.f14)) = some id → L0 id = Dspec_GoodSaga_l11.oracle (mkK [(71, Kspec_l9Accounts @spec_l9Accounts n), (72, Kspec_l1In @spec_l1In n), (73, Kspec_l9Move @spec_l9Move n), (75, Kspec_l9Back @spec_l9Back n), (74, Kspec_l9Do @spec_l9Do n)] R) (Pspec_GoodSaga_l11 @spec_GoodSaga_l11 n R)) : LoopOk Try.prog L0 (loopIn 11 (bodyOf Try.f14)) :=
  lespec_GoodSaga_l11.ok mixed ttok (fun n => mkK_nat (cspec_GoodSaga n)) (fun n => mkK_ok (cspec_GoodSaga n)) (fun n => inspec_GoodSaga_l11 n R) (mkK_nat (cspec_GoodSaga n)) h0
@[reducible] def Sspec_GoodSaga : PkS := ⟨[.agg [.ro (.int .i64), .ro (.pr (.int .i64) (.pr (.int .i64) (.int .i64))), .int .i64, .bool]], []⟩
@[reducible] def Tspec_GoodSaga : PkS := ⟨[.one (.bool), .one (.dead)], []⟩
def Hspec_GoodSaga : List Sh := [.one .any, .skip]
def Kspec_GoodSaga (g : ∀ {R : Type}, Nat → (List Int) → (List (Int × Int × Int)) → Int → Bool → (Bool → Option R) → Option R) (n : Nat) : KPs := fun R p k => match (PkS.un Sspec_GoodSaga p : Option ((List Int) × (List (Int × Int × Int)) × Int × Bool × Unit)) with
  | some (x0, x1, x2, x3, _) => g n x0 x1 x2 x3 (fun r0 => k (PkS.pack Tspec_GoodSaga (r0, ())))
  | none => none
theorem espec_GoodSaga (spec_l9Accounts : ∀ {R : Type}, Nat → (List Int) → (Bool → Option R) → Option R) (spec_l1In : ∀ {R : Type}, Nat → Int → Int → Int → (Bool → Option R) → Option R) (spec_l9Move : ∀ {R : Type}, Nat → Int → Int → Int → Int → (Bool → Option R) → Option R) (spec_l9Back : ∀ {R : Type}, Nat → Int → Int → Int → (Int → Int → Int → Option R) → Option R) (spec_l9Do : ∀ {R : Type}, Nat → (List Int) → Int → Int → Int → (Bool → (List Int) → Option R) → Option R) (spec_GoodSaga_l4 : ∀ {R : Type}, Nat → (List (Int × Int × Int)) → Int → Int → (List Int) → (List (Int × Int × Int)) → Int → Bool → (Bool → Option R) → ((List Int) → (List (Int × Int × Int)) → Int → Bool → Option R) → Option R) (spec_GoodSaga_l11 : ∀ {R : Type}, Nat → (List Int) → Int → (List Int) → (List (Int × Int × Int)) → Int → Bool → (Bool → Option R) → (Option R) → Option R) {R : Type} (n : Nat) (x0 : List Int) (x1 : List (Int × Int × Int)) (x2 : Int) (x3 : Bool) (k : Pk → Option R) : evF tt sig (mkK [(71, Kspec_l9Accounts @spec_l9Accounts n), (72, Kspec_l1In @spec_l1In n), (73, Kspec_l9Move @spec_l9Move n), (75, Kspec_l9Back @spec_l9Back n), (74, Kspec_l9Do @spec_l9Do n)] R) (mkL (mkK [(71, Kspec_l9Accounts @spec_l9Accounts n), (72, Kspec_l1In @spec_l1In n), (73, Kspec_l9Move @spec_l9Move n), (75, Kspec_l9Back @spec_l9Back n), (74, Kspec_l9Do @spec_l9Do n)]) [(4, Dspec_GoodSaga_l4, Pspec_GoodSaga_l4 @spec_GoodSaga_l4 n), (11, Dspec_GoodSaga_l11, Pspec_GoodSaga_l11 @spec_GoodSaga_l11 n)] R) Try.f14 Hspec_GoodSaga (PkS.pack Sspec_GoodSaga (x0, x1, x2, x3, ())) k = (fun (k : Bool → Option R) => (spec_l9Accounts n x0 fun r1 => (bif (!r1) then k false else (bif (decide ((x1.length : Int) > 20)) then k false else (spec_l1In n x2 0 (x1.length : Int) fun r2 => (bif (!r2) then k false else (spec_GoodSaga_l4 n x1 (x1.length : Int) 0 x0 x1 x2 x3 (fun r4 => k r4) (fun r5 r6 r7 r8 => (spec_GoodSaga_l11 n r5 (IntKind.wrap .i64 (r7 - 1)) r5 r6 r7 r8 (fun r14 => k r14) (k true)))))))))) (fun r0 => k (PkS.pack Tspec_GoodSaga (r0, ()))) := by kernel_rfl
theorem okspec_GoodSaga (n : Nat) : FnOk Try.prog 14 (Kspec_GoodSaga @spec_GoodSaga n) := by
  refine fn_ok (sig := sig) mixed ttok (mkK_nat (cspec_GoodSaga n)) (mkK_ok (cspec_GoodSaga n)) (mkL_nat (mkK_nat (cspec_GoodSaga n)) (l := [(4, Dspec_GoodSaga_l4, Pspec_GoodSaga_l4 @spec_GoodSaga_l4 n), (11, Dspec_GoodSaga_l11, Pspec_GoodSaga_l11 @spec_GoodSaga_l11 n)]) ⟨nlspec_GoodSaga_l4 n, ⟨nlspec_GoodSaga_l11 n, trivial⟩⟩) (fn := Try.f14) (c := bodyOf Try.f14) (by kernel_rfl) (by kernel_rfl) (by kernel_rfl) (.eq (l := [.lo (loopIn 4 (bodyOf Try.f14)), .lo (loopIn 11 (bodyOf Try.f14))]) (by kernel_rfl) ⟨(lkspec_GoodSaga_l4 n _ _ (at_id (i := 4) (by kernel_rfl) rfl)), ⟨(lkspec_GoodSaga_l11 n _ _ (at_id (i := 11) (by kernel_rfl) rfl)), trivial⟩⟩) (shs := Hspec_GoodSaga) (S := Sspec_GoodSaga) (h1 := by kernel_rfl) fun R p k => ?_
  unfold Kspec_GoodSaga
  cases h : (PkS.un Sspec_GoodSaga p) with
  | none => rfl
  | some d =>
    obtain ⟨x0, x1, x2, x3, u⟩ := (d : (List Int) × (List (Int × Int × Int)) × Int × Bool × Unit)
    have hp := PkS.un_pack h
    subst hp
    exact (espec_GoodSaga @spec_l9Accounts @spec_l1In @spec_l9Move @spec_l9Back @spec_l9Do @spec_GoodSaga_l4 @spec_GoodSaga_l11 n x0 x1 x2 x3 k).symm

/-! ### loop.example/g00269/spec.l9Own -/
theorem cspec_l9Own (n : Nat) : AllOk Try.prog [] := trivial
@[reducible] def Sspec_l9Own : PkS := ⟨[.agg [.ro (.int .i64), .ro (.pr (.int .i64) (.pr (.int .i64) (.int .i64))), .int .i64, .bool]], []⟩
@[reducible] def Tspec_l9Own : PkS := ⟨[.agg [.whole (300000, 0), .whole (300000, 1), .int .i64, .bool], .one (.dead)], [((300000, 0), .arr (.int .i64)), ((300000, 1), .arr (.pr (.int .i64) (.pr (.int .i64) (.int .i64))))]⟩
def Hspec_l9Own : List Sh := [.agg [(.own (.int .i64)), (.own (.pr (.int .i64) (.pr (.int .i64) (.int .i64)))), .any, .any], .skip]
def Kspec_l9Own (g : ∀ {R : Type}, Nat → (List Int) → (List (Int × Int × Int)) → Int → Bool → (Int → Bool → (List Int) → (List (Int × Int × Int)) → Option R) → Option R) (n : Nat) : KPs := fun R p k => match (PkS.un Sspec_l9Own p : Option ((List Int) × (List (Int × Int × Int)) × Int × Bool × Unit)) with
  | some (x0, x1, x2, x3, _) => g n x0 x1 x2 x3 (fun r0 r1 r2 r3 => k (PkS.pack Tspec_l9Own (r0, r1, r2, r3, ())))
  | none => none
theorem espec_l9Own  {R : Type} (n : Nat) (x0 : List Int) (x1 : List (Int × Int × Int)) (x2 : Int) (x3 : Bool) (k : Pk → Option R) : evF tt sig (mkK [] R) (mkL (mkK []) [] R) Try.f85 Hspec_l9Own (PkS.pack Sspec_l9Own (x0, x1, x2, x3, ())) k = (fun (k : Int → Bool → (List Int) → (List (Int × Int × Int)) → Option R) => (bif decide (([] : List Int).length + x0.length ≤ LIM) then (bif decide (([] : List (Int × Int × Int)).length + x1.length ≤ LIM) then k x2 x3 (([] : List Int) ++ x0) (([] : List (Int × Int × Int)) ++ x1) else none) else none)) (fun r0 r1 r2 r3 => k (PkS.pack Tspec_l9Own (r0, r1, r2, r3, ()))) := by kernel_rfl
theorem okspec_l9Own (n : Nat) : FnOk Try.prog 85 (Kspec_l9Own @spec_l9Own n) := by
  refine fn_ok (sig := sig) mixed ttok (mkK_nat (cspec_l9Own n)) (mkK_ok (cspec_l9Own n)) (mkL_nat (mkK_nat (cspec_l9Own n)) (l := []) trivial) (fn := Try.f85) (c := bodyOf Try.f85) (by kernel_rfl) (by kernel_rfl) (by kernel_rfl) (.eq (l := []) (by kernel_rfl) trivial) (shs := Hspec_l9Own) (S := Sspec_l9Own) (h1 := by kernel_rfl) fun R p k => ?_
  unfold Kspec_l9Own
  cases h : (PkS.un Sspec_l9Own p) with
  | none => rfl
  | some d =>
    obtain ⟨x0, x1, x2, x3, u⟩ := (d : (List Int) × (List (Int × Int × Int)) × Int × Bool × Unit)
    have hp := PkS.un_pack h
    subst hp
    exact (espec_l9Own  n x0 x1 x2 x3 k).symm

/-! ### loop.example/g00269/spec.FailSaga -/
theorem cspec_FailSaga (n : Nat) : AllOk Try.prog [(14, Kspec_GoodSaga @spec_GoodSaga n), (85, Kspec_l9Own @spec_l9Own n)] := ⟨okspec_GoodSaga n, ⟨okspec_l9Own n, trivial⟩⟩
@[reducible] def Sspec_FailSaga : PkS := ⟨[.agg [.ro (.int .i64), .ro (.pr (.int .i64) (.pr (.int .i64) (.int .i64))), .int .i64, .bool]], []⟩
@[reducible] def Tspec_FailSaga : PkS := ⟨[.tup [(true, [.whole (300000, 0), .whole (300000, 1), .int .i64, .bool]), (false, [.bool])], .one (.dead)], [((300000, 0), .arr (.int .i64)), ((300000, 1), .arr (.pr (.int .i64) (.pr (.int .i64) (.int .i64))))]⟩
def Hspec_FailSaga : List Sh := [.tup [(true, [(.own (.int .i64)), (.own (.pr (.int .i64) (.pr (.int .i64) (.int .i64)))), .any, .any]), (false, [.any])], .skip]
def Kspec_FailSaga (g : ∀ {R : Type}, Nat → (List Int) → (List (Int × Int × Int)) → Int → Bool → (Int → Bool → Bool → (List Int) → (List (Int × Int × Int)) → Option R) → Option R) (n : Nat) : KPs := fun R p k => match (PkS.un Sspec_FailSaga p : Option ((List Int) × (List (Int × Int × Int)) × Int × Bool × Unit)) with
  | some (x0, x1, x2, x3, _) => g n x0 x1 x2 x3 (fun r0 r1 r2 r3 r4 => k (PkS.pack Tspec_FailSaga (r0, r1, r2, r3, r4, ())))
  | none => none
theorem espec_FailSaga (spec_GoodSaga : ∀ {R : Type}, Nat → (List Int) → (List (Int × Int × Int)) → Int → Bool → (Bool → Option R) → Option R) (spec_l9Own : ∀ {R : Type}, Nat → (List Int) → (List (Int × Int × Int)) → Int → Bool → (Int → Bool → (List Int) → (List (Int × Int × Int)) → Option R) → Option R) {R : Type} (n : Nat) (x0 : List Int) (x1 : List (Int × Int × Int)) (x2 : Int) (x3 : Bool) (k : Pk → Option R) : evF tt sig (mkK [(14, Kspec_GoodSaga @spec_GoodSaga n), (85, Kspec_l9Own @spec_l9Own n)] R) (mkL (mkK [(14, Kspec_GoodSaga @spec_GoodSaga n), (85, Kspec_l9Own @spec_l9Own n)]) [] R) Try.f33 Hspec_FailSaga (PkS.pack Sspec_FailSaga (x0, x1, x2, x3, ())) k = (fun (k : Int → Bool → Bool → (List Int) → (List (Int × Int × Int)) → Option R) => (spec_GoodSaga n x0 x1 x2 x3 fun r1 => (bif (!r1) then k 0 false false ([] : List Int) ([] : List (Int × Int × Int)) else (bif x3 then k 0 false false ([] : List Int) ([] : List (Int × Int × Int)) else (bif (x2 == (x1.length : Int)) then k 0 false false ([] : List Int) ([] : List (Int × Int × Int)) else (spec_l9Own n x0 x1 x2 x3 fun r2 r3 r4 r5 => k r2 true true r4 r5)))))) (fun r0 r1 r2 r3 r4 => k (PkS.pack Tspec_FailSaga (r0, r1, r2, r3, r4, ()))) := by kernel_rfl
theorem okspec_FailSaga (n : Nat) : FnOk Try.prog 33 (Kspec_FailSaga @spec_FailSaga n) := by
  refine fn_ok (sig := sig) mixed ttok (mkK_nat (cspec_FailSaga n)) (mkK_ok (cspec_FailSaga n)) (mkL_nat (mkK_nat (cspec_FailSaga n)) (l := []) trivial) (fn := Try.f33) (c := bodyOf Try.f33) (by kernel_rfl) (by kernel_rfl) (by kernel_rfl) (.eq (l := []) (by kernel_rfl) trivial) (shs := Hspec_FailSaga) (S := Sspec_FailSaga) (h1 := by kernel_rfl) fun R p k => ?_
  unfold Kspec_FailSaga
  cases h : (PkS.un Sspec_FailSaga p) with
  | none => rfl
  | some d =>
    obtain ⟨x0, x1, x2, x3, u⟩ := (d : (List Int) × (List (Int × Int × Int)) × Int × Bool × Unit)
    have hp := PkS.un_pack h
    subst hp
    exact (espec_FailSaga @spec_GoodSaga @spec_l9Own n x0 x1 x2 x3 k).symm

/-! ### loop.example/g00269/impl.in -/
theorem cimpl_in (n : Nat) : AllOk Try.prog [] := trivial
@[reducible] def Simpl_in : PkS := ⟨[.one (.int .i64), .one (.int .i64), .one (.int .i64)], []⟩
@[reducible] def Timpl_in : PkS := ⟨[.one (.bool), .one (.dead), .one (.dead), .one (.dead)], []⟩
def Himpl_in : List Sh := [.one .any, .skip, .skip, .skip]
def Kimpl_in (g : ∀ {R : Type}, Nat → Int → Int → Int → (Bool → Option R) → Option R) (n : Nat) : KPs := fun R p k => match (PkS.un Simpl_in p : Option (Int × Int × Int × Unit)) with
  | some (x0, x1, x2, _) => g n x0 x1 x2 (fun r0 => k (PkS.pack Timpl_in (r0, ())))
  | none => none
theorem eimpl_in  {R : Type} (n : Nat) (x0 : Int) (x1 : Int) (x2 : Int) (k : Pk → Option R) : evF tt sig (mkK [] R) (mkL (mkK []) [] R) Try.f80 Himpl_in (PkS.pack Simpl_in (x0, x1, x2, ())) k = (fun (k : Bool → Option R) => (bif (decide (x0 ≥ x1)) then k (decide (x0 ≤ x2)) else k false)) (fun r0 => k (PkS.pack Timpl_in (r0, ()))) := by kernel_rfl
theorem okimpl_in (n : Nat) : FnOk Try.prog 80 (Kimpl_in @impl_in n) := by
  refine fn_ok (sig := sig) mixed ttok (mkK_nat (cimpl_in n)) (mkK_ok (cimpl_in n)) (mkL_nat (mkK_nat (cimpl_in n)) (l := []) trivial) (fn := Try.f80) (c := bodyOf Try.f80) (by kernel_rfl) (by kernel_rfl) (by kernel_rfl) (.eq (l := []) (by kernel_rfl) trivial) (shs := Himpl_in) (S := Simpl_in) (h1 := by kernel_rfl) fun R p k => ?_
  unfold Kimpl_in
  cases h : (PkS.un Simpl_in p) with
  | none => rfl
  | some d =>
    obtain ⟨x0, x1, x2, u⟩ := (d : Int × Int × Int × Unit)
    have hp := PkS.un_pack h
    subst hp
    exact (eimpl_in  n x0 x1 x2 k).symm

/-! ### loop.example/g00269/impl.moveOk -/
theorem cimpl_moveOk (n : Nat) : AllOk Try.prog [(80, Kimpl_in @impl_in n)] := ⟨okimpl_in n, trivial⟩
@[reducible] def Simpl_moveOk : PkS := ⟨[.agg [.int .i64, .int .i64, .int .i64], .one (.int .i64)], []⟩
@[reducible] def Timpl_moveOk : PkS := ⟨[.one (.bool), .one (.dead), .one (.dead)], []⟩
def Himpl_moveOk : List Sh := [.one .any, .skip, .skip]
def Kimpl_moveOk (g : ∀ {R : Type}, Nat → Int → Int → Int → Int → (Bool → Option R) → Option R) (n : Nat) : KPs := fun R p k => match (PkS.un Simpl_moveOk p : Option (Int × Int × Int × Int × Unit)) with
  | some (x0, x1, x2, x3, _) => g n x0 x1 x2 x3 (fun r0 => k (PkS.pack Timpl_moveOk (r0, ())))
  | none => none
theorem eimpl_moveOk (impl_in : ∀ {R : Type}, Nat → Int → Int → Int → (Bool → Option R) → Option R) {R : Type} (n : Nat) (x0 : Int) (x1 : Int) (x2 : Int) (x3 : Int) (k : Pk → Option R) : evF tt sig (mkK [(80, Kimpl_in @impl_in n)] R) (mkL (mkK [(80, Kimpl_in @impl_in n)]) [] R) Try.f78 Himpl_moveOk (PkS.pack Simpl_moveOk (x0, x1, x2, x3, ())) k = (fun (k : Bool → Option R) => (impl_in n x0 0 (IntKind.wrap .i64 (x3 - 1)) fun r1 => (bif r1 then (impl_in n x1 0 (IntKind.wrap .i64 (x3 - 1)) fun r2 => (bif r2 then (bif (x0 != x1) then (impl_in n x2 1 1000 fun r3 => k r3) else k false) else k false)) else k false))) (fun r0 => k (PkS.pack Timpl_moveOk (r0, ()))) := by kernel_rfl
theorem okimpl_moveOk (n : Nat) : FnOk Try.prog 78 (Kimpl_moveOk @impl_moveOk n) := by
  refine fn_ok (sig := sig) mixed ttok (mkK_nat (cimpl_moveOk n)) (mkK_ok (cimpl_moveOk n)) (mkL_nat (mkK_nat (cimpl_moveOk n)) (l := []) trivial) (fn := Try.f78) (c := bodyOf Try.f78) (by kernel_rfl) (by kernel_rfl) (by kernel_rfl) (.eq (l := []) (by kernel_rfl) trivial) (shs := Himpl_moveOk) (S := Simpl_moveOk) (h1 := by kernel_rfl) fun R p k => ?_
  unfold Kimpl_moveOk
  cases h : (PkS.un Simpl_moveOk p) with
  | none => rfl
  | some d =>
    obtain ⟨x0, x1, x2, x3, u⟩ := (d : Int × Int × Int × Int × Unit)
    have hp := PkS.un_pack h
    subst hp
    exact (eimpl_moveOk @impl_in n x0 x1 x2 x3 k).symm

/-! ### loop.example/g00269/impl.GoodSaga$1 -/
theorem cimpl_GoodSaga_c1 (n : Nat) : AllOk Try.prog [(78, Kimpl_moveOk @impl_moveOk n)] := ⟨okimpl_moveOk n, trivial⟩
@[reducible] def Simpl_GoodSaga_c1 : PkS := ⟨[.agg [.int .i64, .int .i64, .int .i64], .one (.box (200000, 0) 0)], [((200000, 0), .box [.ro (.int .i64), .ro (.pr (.int .i64) (.pr (.int .i64) (.int .i64))), .int .i64, .bool])]⟩
@[reducible] def Timpl_GoodSaga_c1 : PkS := ⟨[.one (.bool), .one (.dead), .one (.box (300000, 0) 0)], [((300000, 0), .box [.ro (.int .i64), .ro (.pr (.int .i64) (.pr (.int .i64) (.int .i64))), .int .i64, .bool])]⟩
def Himpl_GoodSaga_c1 : List Sh := [.one .any, .skip, .box [(.ro (.int .i64)), (.ro (.pr (.int .i64) (.pr (.int .i64) (.int .i64)))), .any, .any]]
def Kimpl_GoodSaga_c1 (g : ∀ {R : Type}, Nat → Int → Int → Int → (List Int) → (List (Int × Int × Int)) → Int → Bool → (Bool → (List Int) → (List (Int × Int × Int)) → Int → Bool → Option R) → Option R) (n : Nat) : KPs := fun R p k => match (PkS.un Simpl_GoodSaga_c1 p : Option (Int × Int × Int × (List Int) × (List (Int × Int × Int)) × Int × Bool × Unit)) with
  | some (x0, x1, x2, x3, x4, x5, x6, _) => g n x0 x1 x2 x3 x4 x5 x6 (fun r0 r1 r2 r3 r4 => k (PkS.pack Timpl_GoodSaga_c1 (r0, r1, r2, r3, r4, ())))
  | none => none
theorem eimpl_GoodSaga_c1 (impl_moveOk : ∀ {R : Type}, Nat → Int → Int → Int → Int → (Bool → Option R) → Option R) {R : Type} (n : Nat) (x0 : Int) (x1 : Int) (x2 : Int) (x3 : List Int) (x4 : List (Int × Int × Int)) (x5 : Int) (x6 : Bool) (k : Pk → Option R) : evF tt sig (mkK [(78, Kimpl_moveOk @impl_moveOk n)] R) (mkL (mkK [(78, Kimpl_moveOk @impl_moveOk n)]) [] R) Try.f77 Himpl_GoodSaga_c1 (PkS.pack Simpl_GoodSaga_c1 (x0, x1, x2, x3, x4, x5, x6, ())) k = (fun (k : Bool → (List Int) → (List (Int × Int × Int)) → Int → Bool → Option R) => (impl_moveOk n x0 x1 x2 (x3.length : Int) fun r1 => k (!r1) x3 x4 x5 x6)) (fun r0 r1 r2 r3 r4 => k (PkS.pack Timpl_GoodSaga_c1 (r0, r1, r2, r3, r4, ()))) := by kernel_rfl
theorem okimpl_GoodSaga_c1 (n : Nat) : FnOk Try.prog 77 (Kimpl_GoodSaga_c1 @impl_GoodSaga_c1 n) := by
  refine fn_ok (sig := sig) mixed ttok (mkK_nat (cimpl_GoodSaga_c1 n)) (mkK_ok (cimpl_GoodSaga_c1 n)) (mkL_nat (mkK_nat (cimpl_GoodSaga_c1 n)) (l := []) trivial) (fn := Try.f77) (c := bodyOf Try.f77) (by kernel_rfl) (by kernel_rfl) (by kernel_rfl) (.eq (l := []) (by kernel_rfl) trivial) (shs := Himpl_GoodSaga_c1) (S := Simpl_GoodSaga_c1) (h1 := by kernel_rfl) fun R p k => ?_
  unfold Kimpl_GoodSaga_c1
  cases h : (PkS.un Simpl_GoodSaga_c1 p) with
  | none => rfl
  | some d =>
    obtain ⟨x0, x1, x2, x3, x4, x5, x6, u⟩ := (d : Int × Int × Int × (List Int) × (List (Int × Int × Int)) × Int × Bool × Unit)
    have hp := PkS.un_pack h
    subst hp
    exact (eimpl_GoodSaga_c1 @impl_moveOk n x0 x1 x2 x3 x4 x5 x6 k).symm

/-! ### slices.IndexFunc[[]loop.example/g00269/impl.Move,loop.example/g00269/impl.Move] -/
theorem cslices_IndexFunc_impl_Move_impl_GoodSaga_c1 (n : Nat) : AllOk Try.prog [(77, Kimpl_GoodSaga_c1 @impl_GoodSaga_c1 n)] := ⟨okimpl_GoodSaga_c1 n, trivial⟩
@[reducible] def Sslices_IndexFunc_impl_Move_impl_GoodSaga_c1_l2 : PkS := ⟨[.one (.ro (.pr (.int .i64) (.pr (.int .i64) (.int .i64)))), .one (.fn 77 [((100000, 0), 0)]), .one (.int .i64), .one (.int .i64), .one (.dead), .one (.fn 77 [((100000, 0), 0)])], [((100000, 0), .box [.ro (.int .i64), .ro (.pr (.int .i64) (.pr (.int .i64) (.int .i64))), .int .i64, .bool])]⟩
@[reducible] def Tslices_IndexFunc_impl_Move_impl_GoodSaga_c1_l2_0 : PkS := ⟨[.one (.int .i64), .one (.dead), .one (.fn 77 [((100000, 0), 0)])], [((100000, 0), .box [.ro (.int .i64), .ro (.pr (.int .i64) (.pr (.int .i64) (.int .i64))), .int .i64, .bool])]⟩
@[reducible] def Tslices_IndexFunc_impl_Move_impl_GoodSaga_c1_l2_1 : PkS := ⟨[.one (.dead), .one (.fn 77 [((100000, 0), 0)])], [((100000, 0), .box [.ro (.int .i64), .ro (.pr (.int .i64) (.pr (.int .i64) (.int .i64))), .int .i64, .bool])]⟩
def Dslices_IndexFunc_impl_Move_impl_GoodSaga_c1_l2 : LoopD := ⟨19, [0, 1, 7, 8], [.one (.ro (.pr (.int .i64) (.pr (.int .i64) (.int .i64)))), .fn 77 [[(.ro (.int .i64)), (.ro (.pr (.int .i64) (.pr (.int .i64) (.int .i64)))), .any, .any]], .one .any, .one .any, .skip, .fn 77 [[(.ro (.int .i64)), (.ro (.pr (.int .i64) (.pr (.int .i64) (.int .i64)))), .any, .any]]], fun x => match x with
  | .ret => some ([4], [.one .any, .skip, .fn 77 [[(.ro (.int .i64)), (.ro (.pr (.int .i64) (.pr (.int .i64) (.int .i64)))), .any, .any]]])
  | .exit 0 => some ([], [.skip, .fn 77 [[(.ro (.int .i64)), (.ro (.pr (.int .i64) (.pr (.int .i64) (.int .i64)))), .any, .any]]])
  | _ => none⟩
def Pslices_IndexFunc_impl_Move_impl_GoodSaga_c1_l2 (g : ∀ {R : Type}, Nat → (List (Int × Int × Int)) → Int → Int → (List Int) → (List (Int × Int × Int)) → Int → Bool → (Int → (List Int) → (List (Int × Int × Int)) → Int → Bool → Option R) → ((List Int) → (List (Int × Int × Int)) → Int → Bool → Option R) → Option R) (n : Nat) : LPs := fun R q kk => match (PkS.un Sslices_IndexFunc_impl_Move_impl_GoodSaga_c1_l2 q : Option ((List (Int × Int × Int)) × Int × Int × (List Int) × (List (Int × Int × Int)) × Int × Bool × Unit)) with
  | some (y2_0, y2_1, y2_2, y2_3, y2_4, y2_5, y2_6, _) => g n y2_0 y2_1 y2_2 y2_3 y2_4 y2_5 y2_6 (fun r0 r1 r2 r3 r4 => kk .ret (PkS.pack Tslices_IndexFunc_impl_Move_impl_GoodSaga_c1_l2_0 (r0, r1, r2, r3, r4, ()))) (fun r0 r1 r2 r3 => kk (.exit 0) (PkS.pack Tslices_IndexFunc_impl_Move_impl_GoodSaga_c1_l2_1 (r0, r1, r2, r3, ())))
  | none => none
theorem eslices_IndexFunc_impl_Move_impl_GoodSaga_c1_l2 (impl_GoodSaga_c1 : ∀ {R : Type}, Nat → Int → Int → Int → (List Int) → (List (Int × Int × Int)) → Int → Bool → (Bool → (List Int) → (List (Int × Int × Int)) → Int → Bool → Option R) → Option R) (slices_IndexFunc_impl_Move_impl_GoodSaga_c1_l2 : ∀ {R : Type}, Nat → (List (Int × Int × Int)) → Int → Int → (List Int) → (List (Int × Int × Int)) → Int → Bool → (Int → (List Int) → (List (Int × Int × Int)) → Int → Bool → Option R) → ((List Int) → (List (Int × Int × Int)) → Int → Bool → Option R) → Option R) {R : Type} (n : Nat) (y2_0 : List (Int × Int × Int)) (y2_1 : Int) (y2_2 : Int) (y2_3 : List Int) (y2_4 : List (Int × Int × Int)) (y2_5 : Int) (y2_6 : Bool) (kk : Ex → Pk → Option R) : Dslices_IndexFunc_impl_Move_impl_GoodSaga_c1_l2.step tt sig (mkK [(77, Kimpl_GoodSaga_c1 @impl_GoodSaga_c1 n)] R) (mkL (mkK [(77, Kimpl_GoodSaga_c1 @impl_GoodSaga_c1 n)]) [] R) (loopIn 2 (bodyOf Try.f141)) (fun q' => Pslices_IndexFunc_impl_Move_impl_GoodSaga_c1_l2 @slices_IndexFunc_impl_Move_impl_GoodSaga_c1_l2 n R q' kk) (PkS.pack Sslices_IndexFunc_impl_Move_impl_GoodSaga_c1_l2 (y2_0, y2_1, y2_2, y2_3, y2_4, y2_5, y2_6, ())) kk = (fun (kret : Int → (List Int) → (List (Int × Int × Int)) → Int → Bool → Option R) (kexit0 : (List Int) → (List (Int × Int × Int)) → Int → Bool → Option R) => (bif (decide (y2_2 < y2_1)) then (bif decide (0 ≤ y2_2) then (bif decide (y2_2 < (y2_0.length : Int)) then (impl_GoodSaga_c1 n ((y2_0.getD (Int.toNat y2_2) (0, (0, 0))).1) ((y2_0.getD (Int.toNat y2_2) (0, (0, 0))).2.1) ((y2_0.getD (Int.toNat y2_2) (0, (0, 0))).2.2) y2_3 y2_4 y2_5 y2_6 fun r1 r2 r3 r4 r5 => (bif r1 then kret y2_2 r2 r3 r4 r5 else slices_IndexFunc_impl_Move_impl_GoodSaga_c1_l2 n y2_0 y2_1 (IntKind.wrap .i64 (y2_2 + 1)) r2 r3 r4 r5 kret kexit0)) else none) else none) else kexit0 y2_3 y2_4 y2_5 y2_6)) (fun r0 r1 r2 r3 r4 => kk .ret (PkS.pack Tslices_IndexFunc_impl_Move_impl_GoodSaga_c1_l2_0 (r0, r1, r2, r3, r4, ()))) (fun r0 r1 r2 r3 => kk (.exit 0) (PkS.pack Tslices_IndexFunc_impl_Move_impl_GoodSaga_c1_l2_1 (r0, r1, r2, r3, ()))) := by kernel_rfl
theorem leslices_IndexFunc_impl_Move_impl_GoodSaga_c1_l2 : LoopEq tt sig (fun n => mkK [(77, Kimpl_GoodSaga_c1 @impl_GoodSaga_c1 n)]) (fun n => mkL (mkK [(77, Kimpl_GoodSaga_c1 @impl_GoodSaga_c1 n)]) []) Dslices_IndexFunc_impl_Move_impl_GoodSaga_c1_l2 Sslices_IndexFunc_impl_Move_impl_GoodSaga_c1_l2 (loopIn 2 (bodyOf Try.f141)) (Pslices_IndexFunc_impl_Move_impl_GoodSaga_c1_l2 @slices_IndexFunc_impl_Move_impl_GoodSaga_c1_l2) where
  zero R q kk := by unfold Pslices_IndexFunc_impl_Move_impl_GoodSaga_c1_l2; cases (PkS.un Sslices_IndexFunc_impl_Move_impl_GoodSaga_c1_l2 q) <;> rfl
  succ n R q kk := by
    unfold Pslices_IndexFunc_impl_Move_impl_GoodSaga_c1_l2
    cases h : (PkS.un Sslices_IndexFunc_impl_Move_impl_GoodSaga_c1_l2 q) with
    | none => rfl
    | some d =>
      obtain ⟨y2_0, y2_1, y2_2, y2_3, y2_4, y2_5, y2_6, u⟩ := (d : (List (Int × Int × Int)) × Int × Int × (List Int) × (List (Int × Int × Int)) × Int × Bool × Unit)
      have hp := PkS.un_pack h
      subst hp
      exact (eslices_IndexFunc_impl_Move_impl_GoodSaga_c1_l2 @impl_GoodSaga_c1 @slices_IndexFunc_impl_Move_impl_GoodSaga_c1_l2 n y2_0 y2_1 y2_2 y2_3 y2_4 y2_5 y2_6 kk).symm
theorem nlslices_IndexFunc_impl_Move_impl_GoodSaga_c1_l2 : ∀ n, NatLP (Pslices_IndexFunc_impl_Move_impl_GoodSaga_c1_l2 @slices_IndexFunc_impl_Move_impl_GoodSaga_c1_l2 n) := leslices_IndexFunc_impl_Move_impl_GoodSaga_c1_l2.nat (fun n => mkK_nat (cslices_IndexFunc_impl_Move_impl_GoodSaga_c1 n)) fun n => mkL_nat (mkK_nat (cslices_IndexFunc_impl_Move_impl_GoodSaga_c1 n)) (l := []) trivial
theorem inslices_IndexFunc_impl_Move_impl_GoodSaga_c1_l2 (n : Nat) (R : Type) : LoopsOk Try.prog (mkL (mkK [(77, Kimpl_GoodSaga_c1 @impl_GoodSaga_c1 n)]) [] R) (loopIn 2 (bodyOf Try.f141)) := .eq (l := []) (by kernel_rfl) trivial
theorem lkslices_IndexFunc_impl_Move_impl_GoodSaga_c1_l2 (n : Nat) (R : Type) (L0 : LK R) (h0 : ∀ id, firstRegion (loopIn 2 (bodyOf Try.f141)) = some id → L0 id = Dslices_IndexFunc_impl_Move_impl_GoodSaga_c1_l2.oracle (mkK [(77, Kimpl_GoodSaga_c1 @impl_GoodSaga_c1 n)] R) (Pslices_IndexFunc_impl_Move_impl_GoodSaga_c1_l2 @slices_IndexFunc_impl_Move_impl_GoodSaga_c1_l2 n R)) : LoopOk Try.prog L0 (loopIn 2 (bodyOf Try.f141)) :=
  leslices_IndexFunc_impl_Move_impl_GoodSaga_c1_l2.ok mixed ttok (fun n => mkK_nat (cslices_IndexFunc_impl_Move_impl_GoodSaga_c1 n)) (fun n => mkK_ok (cslices_IndexFunc_impl_Move_impl_GoodSaga_c1 n)) (fun n => inslices_IndexFunc_impl_Move_impl_GoodSaga_c1_l2 n R) (mkK_nat (cslices_IndexFunc_impl_Move_impl_GoodSaga_c1 n)) h0
@[reducible] def Sslices_IndexFunc_impl_Move_impl_GoodSaga_c1 : PkS := ⟨[.one (.ro (.pr (.int .i64) (.pr (.int .i64) (.int .i64)))), .one (.fn 77 [((200000, 0), 0)])], [((200000, 0), .box [.ro (.int .i64), .ro (.pr (.int .i64) (.pr (.int .i64) (.int .i64))), .int .i64, .bool])]⟩
@[reducible] def Tslices_IndexFunc_impl_Move_impl_GoodSaga_c1 : PkS := ⟨[.one (.int .i64), .one (.dead), .one (.fn 77 [((300000, 0), 0)])], [((300000, 0), .box [.ro (.int .i64), .ro (.pr (.int .i64) (.pr (.int .i64) (.int .i64))), .int .i64, .bool])]⟩
def Hslices_IndexFunc_impl_Move_impl_GoodSaga_c1 : List Sh := [.one .any, .skip, .fn 77 [[(.ro (.int .i64)), (.ro (.pr (.int .i64) (.pr (.int .i64) (.int .i64)))), .any, .any]]]
def Kslices_IndexFunc_impl_Move_impl_GoodSaga_c1 (g : ∀ {R : Type}, Nat → (List (Int × Int × Int)) → (List Int) → (List (Int × Int × Int)) → Int → Bool → (Int → (List Int) → (List (Int × Int × Int)) → Int → Bool → Option R) → Option R) (n : Nat) : KPs := fun R p k => match (PkS.un Sslices_IndexFunc_impl_Move_impl_GoodSaga_c1 p : Option ((List (Int × Int × Int)) × (List Int) × (List (Int × Int × Int)) × Int × Bool × Unit)) with
  | some (x0, x1, x2, x3, x4, _) => g n x0 x1 x2 x3 x4 (fun r0 r1 r2 r3 r4 => k (PkS.pack Tslices_IndexFunc_impl_Move_impl_GoodSaga_c1 (r0, r1, r2, r3, r4, ())))
  | none => none
theorem eslices_IndexFunc_impl_Move_impl_GoodSaga_c1 (impl_GoodSaga_c1 : ∀ {R : Type}, Nat → Int → Int → Int → (List Int) → (List (Int × Int × Int)) → Int → Bool → (Bool → (List Int) → (List (Int × Int × Int)) → Int → Bool → Option R) → Option R) (slices_IndexFunc_impl_Move_impl_GoodSaga_c1_l2 : ∀ {R : Type}, Nat → (List (Int × Int × Int)) → Int → Int → (List Int) → (List (Int × Int × Int)) → Int → Bool → (Int → (List Int) → (List (Int × Int × Int)) → Int → Bool → Option R) → ((List Int) → (List (Int × Int × Int)) → Int → Bool → Option R) → Option R) {R : Type} (n : Nat) (x0 : List (Int × Int × Int)) (x1 : List Int) (x2 : List (Int × Int × Int)) (x3 : Int) (x4 : Bool) (k : Pk → Option R) : evF tt sig (mkK [(77, Kimpl_GoodSaga_c1 @impl_GoodSaga_c1 n)] R) (mkL (mkK [(77, Kimpl_GoodSaga_c1 @impl_GoodSaga_c1 n)]) [(2, Dslices_IndexFunc_impl_Move_impl_GoodSaga_c1_l2, Pslices_IndexFunc_impl_Move_impl_GoodSaga_c1_l2 @slices_IndexFunc_impl_Move_impl_GoodSaga_c1_l2 n)] R) Try.f141 Hslices_IndexFunc_impl_Move_impl_GoodSaga_c1 (PkS.pack Sslices_IndexFunc_impl_Move_impl_GoodSaga_c1 (x0, x1, x2, x3, x4, ())) k = (fun (k : Int → (List Int) → (List (Int × Int × Int)) → Int → Bool → Option R) => (slices_IndexFunc_impl_Move_impl_GoodSaga_c1_l2 n x0 (x0.length : Int) 0 x1 x2 x3 x4 (fun r6 r7 r8 r9 r10 => k r6 r7 r8 r9 r10) (fun r11 r12 r13 r14 => k (-1) r11 r12 r13 r14))) (fun r0 r1 r2 r3 r4 => k (PkS.pack Tslices_IndexFunc_impl_Move_impl_GoodSaga_c1 (r0, r1, r2, r3, r4, ()))) := by kernel_rfl
theorem okslices_IndexFunc_impl_Move_impl_GoodSaga_c1 (n : Nat) : FnOk Try.prog 141 (Kslices_IndexFunc_impl_Move_impl_GoodSaga_c1 @slices_IndexFunc_impl_Move_impl_GoodSaga_c1 n) := by
  refine fn_ok (sig := sig) mixed ttok (mkK_nat (cslices_IndexFunc_impl_Move_impl_GoodSaga_c1 n)) (mkK_ok (cslices_IndexFunc_impl_Move_impl_GoodSaga_c1 n)) (mkL_nat (mkK_nat (cslices_IndexFunc_impl_Move_impl_GoodSaga_c1 n)) (l := [(2, Dslices_IndexFunc_impl_Move_impl_GoodSaga_c1_l2, Pslices_IndexFunc_impl_Move_impl_GoodSaga_c1_l2 @slices_IndexFunc_impl_Move_impl_GoodSaga_c1_l2 n)]) ⟨nlslices_IndexFunc_impl_Move_impl_GoodSaga_c1_l2 n, trivial⟩) (fn := Try.f141) (c := bodyOf Try.f141) (by kernel_rfl) (by kernel_rfl) (by kernel_rfl) (.eq (l := [.lo (loopIn 2 (bodyOf Try.f141))]) (by kernel_rfl) ⟨(lkslices_IndexFunc_impl_Move_impl_GoodSaga_c1_l2 n _ _ (at_id (i := 2) (by kernel_rfl) rfl)), trivial⟩) (shs := Hslices_IndexFunc_impl_Move_impl_GoodSaga_c1) (S := Sslices_IndexFunc_impl_Move_impl_GoodSaga_c1) (h1 := by kernel_rfl) fun R p k => ?_
  unfold Kslices_IndexFunc_impl_Move_impl_GoodSaga_c1
  cases h : (PkS.un Sslices_IndexFunc_impl_Move_impl_GoodSaga_c1 p) with
  | none => rfl
  | some d =>
    obtain ⟨x0, x1, x2, x3, x4, u⟩ := (d : (List (Int × Int × Int)) × (List Int) × (List (Int × Int × Int)) × Int × Bool × Unit)
    have hp := PkS.un_pack h
    subst hp
    exact (eslices_IndexFunc_impl_Move_impl_GoodSaga_c1 @impl_GoodSaga_c1 @slices_IndexFunc_impl_Move_impl_GoodSaga_c1_l2 n x0 x1 x2 x3 x4 k).symm

/-! ### slices.ContainsFunc[[]loop.example/g00269/impl.Move,loop.example/g00269/impl.Move] -/
theorem cslices_ContainsFunc_impl_Move_impl_GoodSaga_c1 (n : Nat) : AllOk Try.prog [(141, Kslices_IndexFunc_impl_Move_impl_GoodSaga_c1 @slices_IndexFunc_impl_Move_impl_GoodSaga_c1 n)] := ⟨okslices_IndexFunc_impl_Move_impl_GoodSaga_c1 n, trivial⟩
@[reducible] def Sslices_ContainsFunc_impl_Move_impl_GoodSaga_c1 : PkS := ⟨[.one (.ro (.pr (.int .i64) (.pr (.int .i64) (.int .i64)))), .one (.fn 77 [((200000, 0), 0)])], [((200000, 0), .box [.ro (.int .i64), .ro (.pr (.int .i64) (.pr (.int .i64) (.int .i64))), .int .i64, .bool])]⟩
@[reducible] def Tslices_ContainsFunc_impl_Move_impl_GoodSaga_c1 : PkS := ⟨[.one (.bool), .one (.dead), .one (.fn 77 [((300000, 0), 0)])], [((300000, 0), .box [.ro (.int .i64), .ro (.pr (.int .i64) (.pr (.int .i64) (.int .i64))), .int .i64, .bool])]⟩
def Hslices_ContainsFunc_impl_Move_impl_GoodSaga_c1 : List Sh := [.one .any, .skip, .fn 77 [[(.ro (.int .i64)), (.ro (.pr (.int .i64) (.pr (.int .i64) (.int .i64)))), .any, .any]]]
def Kslices_ContainsFunc_impl_Move_impl_GoodSaga_c1 (g : ∀ {R : Type}, Nat → (List (Int × Int × Int)) → (List Int) → (List (Int × Int × Int)) → Int → Bool → (Bool → (List Int) → (List (Int × Int × Int)) → Int → Bool → Option R) → Option R) (n : Nat) : KPs := fun R p k => match (PkS.un Sslices_ContainsFunc_impl_Move_impl_GoodSaga_c1 p : Option ((List (Int × Int × Int)) × (List Int) × (List (Int × Int × Int)) × Int × Bool × Unit)) with
  | some (x0, x1, x2, x3, x4, _) => g n x0 x1 x2 x3 x4 (fun r0 r1 r2 r3 r4 => k (PkS.pack Tslices_ContainsFunc_impl_Move_impl_GoodSaga_c1 (r0, r1, r2, r3, r4, ())))
  | none => none
theorem eslices_ContainsFunc_impl_Move_impl_GoodSaga_c1 (slices_IndexFunc_impl_Move_impl_GoodSaga_c1 : ∀ {R : Type}, Nat → (List (Int × Int × Int)) → (List Int) → (List (Int × Int × Int)) → Int → Bool → (Int → (List Int) → (List (Int × Int × Int)) → Int → Bool → Option R) → Option R) {R : Type} (n : Nat) (x0 : List (Int × Int × Int)) (x1 : List Int) (x2 : List (Int × Int × Int)) (x3 : Int) (x4 : Bool) (k : Pk → Option R) : evF tt sig (mkK [(141, Kslices_IndexFunc_impl_Move_impl_GoodSaga_c1 @slices_IndexFunc_impl_Move_impl_GoodSaga_c1 n)] R) (mkL (mkK [(141, Kslices_IndexFunc_impl_Move_impl_GoodSaga_c1 @slices_IndexFunc_impl_Move_impl_GoodSaga_c1 n)]) [] R) Try.f76 Hslices_ContainsFunc_impl_Move_impl_GoodSaga_c1 (PkS.pack Sslices_ContainsFunc_impl_Move_impl_GoodSaga_c1 (x0, x1, x2, x3, x4, ())) k = (fun (k : Bool → (List Int) → (List (Int × Int × Int)) → Int → Bool → Option R) => (slices_IndexFunc_impl_Move_impl_GoodSaga_c1 n x0 x1 x2 x3 x4 fun r1 r2 r3 r4 r5 => k (decide (r1 ≥ 0)) r2 r3 r4 r5)) (fun r0 r1 r2 r3 r4 => k (PkS.pack Tslices_ContainsFunc_impl_Move_impl_GoodSaga_c1 (r0, r1, r2, r3, r4, ()))) := by kernel_rfl
theorem okslices_ContainsFunc_impl_Move_impl_GoodSaga_c1 (n : Nat) : FnOk Try.prog 76 (Kslices_ContainsFunc_impl_Move_impl_GoodSaga_c1 @slices_ContainsFunc_impl_Move_impl_GoodSaga_c1 n) := by
  refine fn_ok (sig := sig) mixed ttok (mkK_nat (cslices_ContainsFunc_impl_Move_impl_GoodSaga_c1 n)) (mkK_ok (cslices_ContainsFunc_impl_Move_impl_GoodSaga_c1 n)) (mkL_nat (mkK_nat (cslices_ContainsFunc_impl_Move_impl_GoodSaga_c1 n)) (l := []) trivial) (fn := Try.f76) (c := bodyOf Try.f76) (by kernel_rfl) (by kernel_rfl) (by kernel_rfl) (.eq (l := []) (by kernel_rfl) trivial) (shs := Hslices_ContainsFunc_impl_Move_impl_GoodSaga_c1) (S := Sslices_ContainsFunc_impl_Move_impl_GoodSaga_c1) (h1 := by kernel_rfl) fun R p k => ?_
  unfold Kslices_ContainsFunc_impl_Move_impl_GoodSaga_c1
  cases h : (PkS.un Sslices_ContainsFunc_impl_Move_impl_GoodSaga_c1 p) with
  | none => rfl
  | some d =>
    obtain ⟨x0, x1, x2, x3, x4, u⟩ := (d : (List (Int × Int × Int)) × (List Int) × (List (Int × Int × Int)) × Int × Bool × Unit)
    have hp := PkS.un_pack h
    subst hp
    exact (eslices_ContainsFunc_impl_Move_impl_GoodSaga_c1 @slices_IndexFunc_impl_Move_impl_GoodSaga_c1 n x0 x1 x2 x3 x4 k).symm

/-! ### loop.example/g00269/impl.accountOk -/
theorem cimpl_accountOk (n : Nat) : AllOk Try.prog [(80, Kimpl_in @impl_in n)] := ⟨okimpl_in n, trivial⟩
@[reducible] def Simpl_accountOk : PkS := ⟨[.one (.int .i64)], []⟩
@[reducible] def Timpl_accountOk : PkS := ⟨[.one (.bool), .one (.dead)], []⟩
def Himpl_accountOk : List Sh := [.one .any, .skip]
def Kimpl_accountOk (g : ∀ {R : Type}, Nat → Int → (Bool → Option R) → Option R) (n : Nat) : KPs := fun R p k => match (PkS.un Simpl_accountOk p : Option (Int × Unit)) with
  | some (x0, _) => g n x0 (fun r0 => k (PkS.pack Timpl_accountOk (r0, ())))
  | none => none
theorem eimpl_accountOk (impl_in : ∀ {R : Type}, Nat → Int → Int → Int → (Bool → Option R) → Option R) {R : Type} (n : Nat) (x0 : Int) (k : Pk → Option R) : evF tt sig (mkK [(80, Kimpl_in @impl_in n)] R) (mkL (mkK [(80, Kimpl_in @impl_in n)]) [] R) Try.f143 Himpl_accountOk (PkS.pack Simpl_accountOk (x0, ())) k = (fun (k : Bool → Option R) => (impl_in n x0 0 1000000 fun r1 => k r1)) (fun r0 => k (PkS.pack Timpl_accountOk (r0, ()))) := by kernel_rfl
theorem okimpl_accountOk (n : Nat) : FnOk Try.prog 143 (Kimpl_accountOk @impl_accountOk n) := by
  refine fn_ok (sig := sig) mixed ttok (mkK_nat (cimpl_accountOk n)) (mkK_ok (cimpl_accountOk n)) (mkL_nat (mkK_nat (cimpl_accountOk n)) (l := []) trivial) (fn := Try.f143) (c := bodyOf Try.f143) (by kernel_rfl) (by kernel_rfl) (by kernel_rfl) (.eq (l := []) (by kernel_rfl) trivial) (shs := Himpl_accountOk) (S := Simpl_accountOk) (h1 := by kernel_rfl) fun R p k => ?_
  unfold Kimpl_accountOk
  cases h : (PkS.un Simpl_accountOk p) with
  | none => rfl
  | some d =>
    obtain ⟨x0, u⟩ := (d : Int × Unit)
    have hp := PkS.un_pack h
    subst hp
    exact (eimpl_accountOk @impl_in n x0 k).symm

/-! ### loop.example/g00269/impl.accountsOk$1 -/
theorem cimpl_accountsOk_c1 (n : Nat) : AllOk Try.prog [(143, Kimpl_accountOk @impl_accountOk n)] := ⟨okimpl_accountOk n, trivial⟩
@[reducible] def Simpl_accountsOk_c1 : PkS := ⟨[.one (.int .i64)], []⟩
@[reducible] def Timpl_accountsOk_c1 : PkS := ⟨[.one (.bool), .one (.dead)], []⟩
def Himpl_accountsOk_c1 : List Sh := [.one .any, .skip]
def Kimpl_accountsOk_c1 (g : ∀ {R : Type}, Nat → Int → (Bool → Option R) → Option R) (n : Nat) : KPs := fun R p k => match (PkS.un Simpl_accountsOk_c1 p : Option (Int × Unit)) with
  | some (x0, _) => g n x0 (fun r0 => k (PkS.pack Timpl_accountsOk_c1 (r0, ())))
  | none => none
theorem eimpl_accountsOk_c1 (impl_accountOk : ∀ {R : Type}, Nat → Int → (Bool → Option R) → Option R) {R : Type} (n : Nat) (x0 : Int) (k : Pk → Option R) : evF tt sig (mkK [(143, Kimpl_accountOk @impl_accountOk n)] R) (mkL (mkK [(143, Kimpl_accountOk @impl_accountOk n)]) [] R) Try.f142 Himpl_accountsOk_c1 (PkS.pack Simpl_accountsOk_c1 (x0, ())) k = (fun (k : Bool → Option R) => (impl_accountOk n x0 fun r1 => k (!r1))) (fun r0 => k (PkS.pack Timpl_accountsOk_c1 (r0, ()))) := by kernel_rfl
theorem okimpl_accountsOk_c1 (n : Nat) : FnOk Try.prog 142 (Kimpl_accountsOk_c1 @impl_accountsOk_c1 n) := by
  refine fn_ok (sig := sig) mixed ttok (mkK_nat (cimpl_accountsOk_c1 n)) (mkK_ok (cimpl_accountsOk_c1 n)) (mkL_nat (mkK_nat (cimpl_accountsOk_c1 n)) (l := []) trivial) (fn := Try.f142) (c := bodyOf Try.f142) (by kernel_rfl) (by kernel_rfl) (by kernel_rfl) (.eq (l := []) (by kernel_rfl) trivial) (shs := Himpl_accountsOk_c1) (S := Simpl_accountsOk_c1) (h1 := by kernel_rfl) fun R p k => ?_
  unfold Kimpl_accountsOk_c1
  cases h : (PkS.un Simpl_accountsOk_c1 p) with
  | none => rfl
  | some d =>
    obtain ⟨x0, u⟩ := (d : Int × Unit)
    have hp := PkS.un_pack h
    subst hp
    exact (eimpl_accountsOk_c1 @impl_accountOk n x0 k).symm

/-! ### slices.IndexFunc[[]int,int] -/
theorem cslices_IndexFunc_int_impl_accountsOk_c1 (n : Nat) : AllOk Try.prog [(142, Kimpl_accountsOk_c1 @impl_accountsOk_c1 n)] := ⟨okimpl_accountsOk_c1 n, trivial⟩
@[reducible] def Sslices_IndexFunc_int_impl_accountsOk_c1_l2 : PkS := ⟨[.one (.ro (.int .i64)), .one (.fn 142 []), .one (.int .i64), .one (.int .i64), .one (.dead), .one (.fn 142 [])], []⟩
@[reducible] def Tslices_IndexFunc_int_impl_accountsOk_c1_l2_0 : PkS := ⟨[.one (.int .i64), .one (.dead), .one (.fn 142 [])], []⟩
@[reducible] def Tslices_IndexFunc_int_impl_accountsOk_c1_l2_1 : PkS := ⟨[.one (.dead), .one (.fn 142 [])], []⟩
def Dslices_IndexFunc_int_impl_accountsOk_c1_l2 : LoopD := ⟨19, [0, 1, 7, 8], [.one (.ro (.int .i64)), .fn 142 [], .one .any, .one .any, .skip, .fn 142 []], fun x => match x with
  | .ret => some ([4], [.one .any, .skip, .fn 142 []])
  | .exit 0 => some ([], [.skip, .fn 142 []])
  | _ => none⟩
def Pslices_IndexFunc_int_impl_accountsOk_c1_l2 (g : ∀ {R : Type}, Nat → (List Int) → Int → Int → (Int → Option R) → (Option R) → Option R) (n : Nat) : LPs := fun R q kk => match (PkS.un Sslices_IndexFunc_int_impl_accountsOk_c1_l2 q : Option ((List Int) × Int × Int × Unit)) with
  | some (y2_0, y2_1, y2_2, _) => g n y2_0 y2_1 y2_2 (fun r0 => kk .ret (PkS.pack Tslices_IndexFunc_int_impl_accountsOk_c1_l2_0 (r0, ()))) (kk (.exit 0) (PkS.pack Tslices_IndexFunc_int_impl_accountsOk_c1_l2_1 ()))
  | none => none
theorem eslices_IndexFunc_int_impl_accountsOk_c1_l2 (impl_accountsOk_c1 : ∀ {R : Type}, Nat → Int → (Bool → Option R) → Option R) (slices_IndexFunc_int_impl_accountsOk_c1_l2 : ∀ {R : Type}, Nat → (List Int) → Int → Int → (Int → Option R) → (Option R) → Option R) {R : Type} (n : Nat) (y2_0 : List Int) (y2_1 : Int) (y2_2 : Int) (kk : Ex → Pk → Option R) : Dslices_IndexFunc_int_impl_accountsOk_c1_l2.step tt sig (mkK [(142, Kimpl_accountsOk_c1 @impl_accountsOk_c1 n)] R) (mkL (mkK [(142, Kimpl_accountsOk_c1 @impl_accountsOk_c1 n)]) [] R) (loopIn 2 (bodyOf Try.f157)) (fun q' => Pslices_IndexFunc_int_impl_accountsOk_c1_l2 @slices_IndexFunc_int_impl_accountsOk_c1_l2 n R q' kk) (PkS.pack Sslices_IndexFunc_int_impl_accountsOk_c1_l2 (y2_0, y2_1, y2_2, ())) kk = (fun (kret : Int → Option R) (kexit0 : Option R) => (bif (decide (y2_2 < y2_1)) then (bif decide (0 ≤ y2_2) then (bif decide (y2_2 < (y2_0.length : Int)) then (impl_accountsOk_c1 n (y2_0.getD (Int.toNat y2_2) 0) fun r1 => (bif r1 then kret y2_2 else slices_IndexFunc_int_impl_accountsOk_c1_l2 n y2_0 y2_1 (IntKind.wrap .i64 (y2_2 + 1)) kret kexit0)) else none) else none) else kexit0)) (fun r0 => kk .ret (PkS.pack Tslices_IndexFunc_int_impl_accountsOk_c1_l2_0 (r0, ()))) (kk (.exit 0) (PkS.pack Tslices_IndexFunc_int_impl_accountsOk_c1_l2_1 ())) := by kernel_rfl
theorem leslices_IndexFunc_int_impl_accountsOk_c1_l2 : LoopEq tt sig (fun n => mkK [(142, Kimpl_accountsOk_c1 @impl_accountsOk_c1 n)]) (fun n => mkL (mkK [(142, Kimpl_accountsOk_c1 @impl_accountsOk_c1 n)]) []) Dslices_IndexFunc_int_impl_accountsOk_c1_l2 Sslices_IndexFunc_int_impl_accountsOk_c1_l2 (loopIn 2 (bodyOf Try.f157)) (Pslices_IndexFunc_int_impl_accountsOk_c1_l2 @slices_IndexFunc_int_impl_accountsOk_c1_l2) where
  zero R q kk := by unfold Pslices_IndexFunc_int_impl_accountsOk_c1_l2; cases (PkS.un Sslices_IndexFunc_int_impl_accountsOk_c1_l2 q) <;> rfl
  succ n R q kk := by
    unfold Pslices_IndexFunc_int_impl_accountsOk_c1_l2
    cases h : (PkS.un Sslices_IndexFunc_int_impl_accountsOk_c1_l2 q) with
    | none => rfl
    | some d =>
      obtain ⟨y2_0, y2_1, y2_2, u⟩ := (d : (List Int) × Int × Int × Unit)
      have hp := PkS.un_pack h
      subst hp
      exact (eslices_IndexFunc_int_impl_accountsOk_c1_l2 @impl_accountsOk_c1 @slices_IndexFunc_int_impl_accountsOk_c1_l2 n y2_0 y2_1 y2_2 kk).symm
theorem nlslices_IndexFunc_int_impl_accountsOk_c1_l2 : ∀ n, NatLP (Pslices_IndexFunc_int_impl_accountsOk_c1_l2 @slices_IndexFunc_int_impl_accountsOk_c1_l2 n) := leslices_IndexFunc_int_impl_accountsOk_c1_l2.nat (fun n => mkK_nat (cslices_IndexFunc_int_impl_accountsOk_c1 n)) fun n => mkL_nat (mkK_nat (cslices_IndexFunc_int_impl_accountsOk_c1 n)) (l := []) trivial
theorem inslices_IndexFunc_int_impl_accountsOk_c1_l2 (n : Nat) (R : Type) : LoopsOk Try.prog (mkL (mkK [(142, Kimpl_accountsOk_c1 @impl_accountsOk_c1 n)]) [] R) (loopIn 2 (bodyOf Try.f157)) := .eq (l := []) (by kernel_rfl) trivial
theorem lkslices_IndexFunc_int_impl_accountsOk_c1_l2 (n : Nat) (R : Type) (L0 : LK R) (h0 : ∀ id, firstRegion (loopIn 2 (bodyOf Try.f157)) = some id → L0 id = Dslices_IndexFunc_int_impl_accountsOk_c1_l2.oracle (mkK [(142, Kimpl_accountsOk_c1 @impl_accountsOk_c1 n)] R) (Pslices_IndexFunc_int_impl_accountsOk_c1_l2 @slices_IndexFunc_int_impl_accountsOk_c1_l2 n R)) : LoopOk Try.prog L0 (loopIn 2 (bodyOf Try.f157)) :=
  leslices_IndexFunc_int_impl_accountsOk_c1_l2.ok mixed ttok (fun n => mkK_nat (cslices_IndexFunc_int_impl_accountsOk_c1 n)) (fun n => mkK_ok (cslices_IndexFunc_int_impl_accountsOk_c1 n)) (fun n => inslices_IndexFunc_int_impl_accountsOk_c1_l2 n R) (mkK_nat (cslices_IndexFunc_int_impl_accountsOk_c1 n)) h0
@[reducible] def Sslices_IndexFunc_int_impl_accountsOk_c1 : PkS := ⟨[.one (.ro (.int .i64)), .one (.fn 142 [])], []⟩
@[reducible] def Tslices_IndexFunc_int_impl_accountsOk_c1 : PkS := ⟨[.one (.int .i64), .one (.dead), .one (.fn 142 [])], []⟩
def Hslices_IndexFunc_int_impl_accountsOk_c1 : List Sh := [.one .any, .skip, .fn 142 []]
def Kslices_IndexFunc_int_impl_accountsOk_c1 (g : ∀ {R : Type}, Nat → (List Int) → (Int → Option R) → Option R) (n : Nat) : KPs := fun R p k => match (PkS.un Sslices_IndexFunc_int_impl_accountsOk_c1 p : Option ((List Int) × Unit)) with
  | some (x0, _) => g n x0 (fun r0 => k (PkS.pack Tslices_IndexFunc_int_impl_accountsOk_c1 (r0, ())))
  | none => none
theorem eslices_IndexFunc_int_impl_accountsOk_c1 (impl_accountsOk_c1 : ∀ {R : Type}, Nat → Int → (Bool → Option R) → Option R) (slices_IndexFunc_int_impl_accountsOk_c1_l2 : ∀ {R : Type}, Nat → (List Int) → Int → Int → (Int → Option R) → (Option R) → Option R) {R : Type} (n : Nat) (x0 : List Int) (k : Pk → Option R) : evF tt sig (mkK [(142, Kimpl_accountsOk_c1 @impl_accountsOk_c1 n)] R) (mkL (mkK [(142, Kimpl_accountsOk_c1 @impl_accountsOk_c1 n)]) [(2, Dslices_IndexFunc_int_impl_accountsOk_c1_l2, Pslices_IndexFunc_int_impl_accountsOk_c1_l2 @slices_IndexFunc_int_impl_accountsOk_c1_l2 n)] R) Try.f157 Hslices_IndexFunc_int_impl_accountsOk_c1 (PkS.pack Sslices_IndexFunc_int_impl_accountsOk_c1 (x0, ())) k = (fun (k : Int → Option R) => (slices_IndexFunc_int_impl_accountsOk_c1_l2 n x0 (x0.length : Int) 0 (fun r2 => k r2) (k (-1)))) (fun r0 => k (PkS.pack Tslices_IndexFunc_int_impl_accountsOk_c1 (r0, ()))) := by kernel_rfl
theorem okslices_IndexFunc_int_impl_accountsOk_c1 (n : Nat) : FnOk Try.prog 157 (Kslices_IndexFunc_int_impl_accountsOk_c1 @slices_IndexFunc_int_impl_accountsOk_c1 n) := by
  refine fn_ok (sig := sig) mixed ttok (mkK_nat (cslices_IndexFunc_int_impl_accountsOk_c1 n)) (mkK_ok (cslices_IndexFunc_int_impl_accountsOk_c1 n)) (mkL_nat (mkK_nat (cslices_IndexFunc_int_impl_accountsOk_c1 n)) (l := [(2, Dslices_IndexFunc_int_impl_accountsOk_c1_l2, Pslices_IndexFunc_int_impl_accountsOk_c1_l2 @slices_IndexFunc_int_impl_accountsOk_c1_l2 n)]) ⟨nlslices_IndexFunc_int_impl_accountsOk_c1_l2 n, trivial⟩) (fn := Try.f157) (c := bodyOf Try.f157) (by kernel_rfl) (by kernel_rfl) (by kernel_rfl) (.eq (l := [.lo (loopIn 2 (bodyOf Try.f157))]) (by kernel_rfl) ⟨(lkslices_IndexFunc_int_impl_accountsOk_c1_l2 n _ _ (at_id (i := 2) (by kernel_rfl) rfl)), trivial⟩) (shs := Hslices_IndexFunc_int_impl_accountsOk_c1) (S := Sslices_IndexFunc_int_impl_accountsOk_c1) (h1 := by kernel_rfl) fun R p k => ?_
  unfold Kslices_IndexFunc_int_impl_accountsOk_c1
  cases h : (PkS.un Sslices_IndexFunc_int_impl_accountsOk_c1 p) with
  | none => rfl
  | some d =>
    obtain ⟨x0, u⟩ := (d : (List Int) × Unit)
    have hp := PkS.un_pack h
    subst hp
    exact (eslices_IndexFunc_int_impl_accountsOk_c1 @impl_accountsOk_c1 @slices_IndexFunc_int_impl_accountsOk_c1_l2 n x0 k).symm

/-! ### slices.ContainsFunc[[]int,int] -/
theorem cslices_ContainsFunc_int_impl_accountsOk_c1 (n : Nat) : AllOk Try.prog [(157, Kslices_IndexFunc_int_impl_accountsOk_c1 @slices_IndexFunc_int_impl_accountsOk_c1 n)] := ⟨okslices_IndexFunc_int_impl_accountsOk_c1 n, trivial⟩
@[reducible] def Sslices_ContainsFunc_int_impl_accountsOk_c1 : PkS := ⟨[.one (.ro (.int .i64)), .one (.fn 142 [])], []⟩
@[reducible] def Tslices_ContainsFunc_int_impl_accountsOk_c1 : PkS := ⟨[.one (.bool), .one (.dead), .one (.fn 142 [])], []⟩
def Hslices_ContainsFunc_int_impl_accountsOk_c1 : List Sh := [.one .any, .skip, .fn 142 []]
def Kslices_ContainsFunc_int_impl_accountsOk_c1 (g : ∀ {R : Type}, Nat → (List Int) → (Bool → Option R) → Option R) (n : Nat) : KPs := fun R p k => match (PkS.un Sslices_ContainsFunc_int_impl_accountsOk_c1 p : Option ((List Int) × Unit)) with
  | some (x0, _) => g n x0 (fun r0 => k (PkS.pack Tslices_ContainsFunc_int_impl_accountsOk_c1 (r0, ())))
  | none => none
theorem eslices_ContainsFunc_int_impl_accountsOk_c1 (slices_IndexFunc_int_impl_accountsOk_c1 : ∀ {R : Type}, Nat → (List Int) → (Int → Option R) → Option R) {R : Type} (n : Nat) (x0 : List Int) (k : Pk → Option R) : evF tt sig (mkK [(157, Kslices_IndexFunc_int_impl_accountsOk_c1 @slices_IndexFunc_int_impl_accountsOk_c1 n)] R) (mkL (mkK [(157, Kslices_IndexFunc_int_impl_accountsOk_c1 @slices_IndexFunc_int_impl_accountsOk_c1 n)]) [] R) Try.f120 Hslices_ContainsFunc_int_impl_accountsOk_c1 (PkS.pack Sslices_ContainsFunc_int_impl_accountsOk_c1 (x0, ())) k = (fun (k : Bool → Option R) => (slices_IndexFunc_int_impl_accountsOk_c1 n x0 fun r1 => k (decide (r1 ≥ 0)))) (fun r0 => k (PkS.pack Tslices_ContainsFunc_int_impl_accountsOk_c1 (r0, ()))) := by kernel_rfl
theorem okslices_ContainsFunc_int_impl_accountsOk_c1 (n : Nat) : FnOk Try.prog 120 (Kslices_ContainsFunc_int_impl_accountsOk_c1 @slices_ContainsFunc_int_impl_accountsOk_c1 n) := by
  refine fn_ok (sig := sig) mixed ttok (mkK_nat (cslices_ContainsFunc_int_impl_accountsOk_c1 n)) (mkK_ok (cslices_ContainsFunc_int_impl_accountsOk_c1 n)) (mkL_nat (mkK_nat (cslices_ContainsFunc_int_impl_accountsOk_c1 n)) (l := []) trivial) (fn := Try.f120) (c := bodyOf Try.f120) (by kernel_rfl) (by kernel_rfl) (by kernel_rfl) (.eq (l := []) (by kernel_rfl) trivial) (shs := Hslices_ContainsFunc_int_impl_accountsOk_c1) (S := Sslices_ContainsFunc_int_impl_accountsOk_c1) (h1 := by kernel_rfl) fun R p k => ?_
  unfold Kslices_ContainsFunc_int_impl_accountsOk_c1
  cases h : (PkS.un Sslices_ContainsFunc_int_impl_accountsOk_c1 p) with
  | none => rfl
  | some d =>
    obtain ⟨x0, u⟩ := (d : (List Int) × Unit)
    have hp := PkS.un_pack h
    subst hp
    exact (eslices_ContainsFunc_int_impl_accountsOk_c1 @slices_IndexFunc_int_impl_accountsOk_c1 n x0 k).symm

/-! ### loop.example/g00269/impl.accountsOk -/
theorem cimpl_accountsOk (n : Nat) : AllOk Try.prog [(80, Kimpl_in @impl_in n), (120, Kslices_ContainsFunc_int_impl_accountsOk_c1 @slices_ContainsFunc_int_impl_accountsOk_c1 n)] := ⟨okimpl_in n, ⟨okslices_ContainsFunc_int_impl_accountsOk_c1 n, trivial⟩⟩
@[reducible] def Simpl_accountsOk : PkS := ⟨[.one (.ro (.int .i64))], []⟩
@[reducible] def Timpl_accountsOk : PkS := ⟨[.one (.bool), .one (.dead)], []⟩
def Himpl_accountsOk : List Sh := [.one .any, .skip]
def Kimpl_accountsOk (g : ∀ {R : Type}, Nat → (List Int) → (Bool → Option R) → Option R) (n : Nat) : KPs := fun R p k => match (PkS.un Simpl_accountsOk p : Option ((List Int) × Unit)) with
  | some (x0, _) => g n x0 (fun r0 => k (PkS.pack Timpl_accountsOk (r0, ())))
  | none => none
theorem eimpl_accountsOk (impl_in : ∀ {R : Type}, Nat → Int → Int → Int → (Bool → Option R) → Option R) (slices_ContainsFunc_int_impl_accountsOk_c1 : ∀ {R : Type}, Nat → (List Int) → (Bool → Option R) → Option R) {R : Type} (n : Nat) (x0 : List Int) (k : Pk → Option R) : evF tt sig (mkK [(80, Kimpl_in @impl_in n), (120, Kslices_ContainsFunc_int_impl_accountsOk_c1 @slices_ContainsFunc_int_impl_accountsOk_c1 n)] R) (mkL (mkK [(80, Kimpl_in @impl_in n), (120, Kslices_ContainsFunc_int_impl_accountsOk_c1 @slices_ContainsFunc_int_impl_accountsOk_c1 n)]) [] R) Try.f79 Himpl_accountsOk (PkS.pack Simpl_accountsOk (x0, ())) k = (fun (k : Bool → Option R) => (impl_in n (x0.length : Int) 1 8 fun r1 => (bif r1 then (slices_ContainsFunc_int_impl_accountsOk_c1 n x0 fun r2 => k (!r2)) else k false))) (fun r0 => k (PkS.pack Timpl_accountsOk (r0, ()))) := by kernel_rfl
theorem okimpl_accountsOk (n : Nat) : FnOk Try.prog 79 (Kimpl_accountsOk @impl_accountsOk n) := by
  refine fn_ok (sig := sig) mixed ttok (mkK_nat (cimpl_accountsOk n)) (mkK_ok (cimpl_accountsOk n)) (mkL_nat (mkK_nat (cimpl_accountsOk n)) (l := []) trivial) (fn := Try.f79) (c := bodyOf Try.f79) (by kernel_rfl) (by kernel_rfl) (by kernel_rfl) (.eq (l := []) (by kernel_rfl) trivial) (shs := Himpl_accountsOk) (S := Simpl_accountsOk) (h1 := by kernel_rfl) fun R p k => ?_
  unfold Kimpl_accountsOk
  cases h : (PkS.un Simpl_accountsOk p) with
  | none => rfl
  | some d =>
    obtain ⟨x0, u⟩ := (d : (List Int) × Unit)
    have hp := PkS.un_pack h
    subst hp
    exact (eimpl_accountsOk @impl_in @slices_ContainsFunc_int_impl_accountsOk_c1 n x0 k).symm

/-! ### slices.Backward[[]loop.example/g00269/impl.Move,loop.example/g00269/impl.Move] -/
theorem cslices_Backward_impl_Move (n : Nat) : AllOk Try.prog [] := trivial
@[reducible] def Sslices_Backward_impl_Move : PkS := ⟨[.one (.ro (.pr (.int .i64) (.pr (.int .i64) (.int .i64))))], []⟩
@[reducible] def Tslices_Backward_impl_Move : PkS := ⟨[.one (.fn 144 [((300000, 0), 0)]), .one (.dead)], [((300000, 0), .box [.ro (.pr (.int .i64) (.pr (.int .i64) (.int .i64)))])]⟩
def Hslices_Backward_impl_Move : List Sh := [.fn 144 [[(.ro (.pr (.int .i64) (.pr (.int .i64) (.int .i64))))]], .skip]
def Kslices_Backward_impl_Move (g : ∀ {R : Type}, Nat → (List (Int × Int × Int)) → ((List (Int × Int × Int)) → Option R) → Option R) (n : Nat) : KPs := fun R p k => match (PkS.un Sslices_Backward_impl_Move p : Option ((List (Int × Int × Int)) × Unit)) with
  | some (x0, _) => g n x0 (fun r0 => k (PkS.pack Tslices_Backward_impl_Move (r0, ())))
  | none => none
theorem eslices_Backward_impl_Move  {R : Type} (n : Nat) (x0 : List (Int × Int × Int)) (k : Pk → Option R) : evF tt sig (mkK [] R) (mkL (mkK []) [] R) Try.f81 Hslices_Backward_impl_Move (PkS.pack Sslices_Backward_impl_Move (x0, ())) k = (fun (k : (List (Int × Int × Int)) → Option R) => k x0) (fun r0 => k (PkS.pack Tslices_Backward_impl_Move (r0, ()))) := by kernel_rfl
theorem okslices_Backward_impl_Move (n : Nat) : FnOk Try.prog 81 (Kslices_Backward_impl_Move @slices_Backward_impl_Move n) := by
  refine fn_ok (sig := sig) mixed ttok (mkK_nat (cslices_Backward_impl_Move n)) (mkK_ok (cslices_Backward_impl_Move n)) (mkL_nat (mkK_nat (cslices_Backward_impl_Move n)) (l := []) trivial) (fn := Try.f81) (c := bodyOf Try.f81) (by kernel_rfl) (by kernel_rfl) (by kernel_rfl) (.eq (l := []) (by kernel_rfl) trivial) (shs := Hslices_Backward_impl_Move) (S := Sslices_Backward_impl_Move) (h1 := by kernel_rfl) fun R p k => ?_
  unfold Kslices_Backward_impl_Move
  cases h : (PkS.un Sslices_Backward_impl_Move p) with
  | none => rfl
  | some d =>
    obtain ⟨x0, u⟩ := (d : (List (Int × Int × Int)) × Unit)
    have hp := PkS.un_pack h
    subst hp
    exact (eslices_Backward_impl_Move  n x0 k).symm

/-! ### loop.example/g00269/impl.back -/
theorem cimpl_back (n : Nat) : AllOk Try.prog [] := trivial
@[reducible] def Simpl_back : PkS := ⟨[.agg [.int .i64, .int .i64, .int .i64]], []⟩
@[reducible] def Timpl_back : PkS := ⟨[.agg [.int .i64, .int .i64, .int .i64], .one (.dead)], []⟩
def Himpl_back : List Sh := [.agg [.any, .any, .any], .skip]
def Kimpl_back (g : ∀ {R : Type}, Nat → Int → Int → Int → (Int → Int → Int → Option R) → Option R) (n : Nat) : KPs := fun R p k => match (PkS.un Simpl_back p : Option (Int × Int × Int × Unit)) with
  | some (x0, x1, x2, _) => g n x0 x1 x2 (fun r0 r1 r2 => k (PkS.pack Timpl_back (r0, r1, r2, ())))
  | none => none
theorem eimpl_back  {R : Type} (n : Nat) (x0 : Int) (x1 : Int) (x2 : Int) (k : Pk → Option R) : evF tt sig (mkK [] R) (mkL (mkK []) [] R) Try.f83 Himpl_back (PkS.pack Simpl_back (x0, x1, x2, ())) k = (fun (k : Int → Int → Int → Option R) => k x1 x0 x2) (fun r0 r1 r2 => k (PkS.pack Timpl_back (r0, r1, r2, ()))) := by kernel_rfl
theorem okimpl_back (n : Nat) : FnOk Try.prog 83 (Kimpl_back @impl_back n) := by
  refine fn_ok (sig := sig) mixed ttok (mkK_nat (cimpl_back n)) (mkK_ok (cimpl_back n)) (mkL_nat (mkK_nat (cimpl_back n)) (l := []) trivial) (fn := Try.f83) (c := bodyOf Try.f83) (by kernel_rfl) (by kernel_rfl) (by kernel_rfl) (.eq (l := []) (by kernel_rfl) trivial) (shs := Himpl_back) (S := Simpl_back) (h1 := by kernel_rfl) fun R p k => ?_
  unfold Kimpl_back
  cases h : (PkS.un Simpl_back p) with
  | none => rfl
  | some d =>
    obtain ⟨x0, x1, x2, u⟩ := (d : Int × Int × Int × Unit)
    have hp := PkS.un_pack h
    subst hp
    exact (eimpl_back  n x0 x1 x2 k).symm

/-! ### slices.Clone[[]int,int] -/
theorem cslices_Clone_int (n : Nat) : AllOk Try.prog [] := trivial
@[reducible] def Sslices_Clone_int : PkS := ⟨[.one (.ro (.int .i64))], []⟩
@[reducible] def Tslices_Clone_int : PkS := ⟨[.one (.whole (300000, 0)), .one (.dead)], [((300000, 0), .arr (.int .i64))]⟩
def Kslices_Clone_int (g : ∀ {R : Type}, Nat → (List Int) → ((List Int) → Option R) → Option R) (n : Nat) : KPs := fun R p k => match (PkS.un Sslices_Clone_int p : Option ((List Int) × Unit)) with
  | some (x0, _) => g n x0 (fun r0 => k (PkS.pack Tslices_Clone_int (r0, ())))
  | none => none
theorem okslices_Clone_int (n : Nat) : FnOk Try.prog 123 (Kslices_Clone_int @slices_Clone_int n) := by
  have e : Kslices_Clone_int @slices_Clone_int n = cloneK (.int .i64) := by kernel_rfl
  rw [e]
  exact clone_ok (sig := sig) mixed ttok (fn := Try.f123) (c := bodyOf Try.f123) (by kernel_rfl) (by kernel_rfl) (by kernel_rfl) (.int .i64) [.one (.own (.int .i64)), .skip] (.eq (l := []) (by kernel_rfl) trivial) (fun xs => by kernel_rfl) (by kernel_rfl) (by kernel_rfl)

/-! ### loop.example/g00269/impl.moved -/
theorem cimpl_moved (n : Nat) : AllOk Try.prog [(123, Kslices_Clone_int @slices_Clone_int n), (143, Kimpl_accountOk @impl_accountOk n)] := ⟨okslices_Clone_int n, ⟨okimpl_accountOk n, trivial⟩⟩
@[reducible] def Simpl_moved : PkS := ⟨[.one (.ro (.int .i64)), .agg [.int .i64, .int .i64, .int .i64]], []⟩
@[reducible] def Timpl_moved : PkS := ⟨[.tup [(false, [.whole (300000, 0)]), (false, [.bool])], .one (.dead), .one (.dead)], [((300000, 0), .arr (.int .i64))]⟩
def Himpl_moved : List Sh := [.tup [(false, [(.own (.int .i64))]), (false, [.any])], .skip, .skip]
def Kimpl_moved (g : ∀ {R : Type}, Nat → (List Int) → Int → Int → Int → (Bool → (List Int) → Option R) → Option R) (n : Nat) : KPs := fun R p k => match (PkS.un Simpl_moved p : Option ((List Int) × Int × Int × Int × Unit)) with
  | some (x0, x1, x2, x3, _) => g n x0 x1 x2 x3 (fun r0 r1 => k (PkS.pack Timpl_moved (r0, r1, ())))
  | none => none
theorem eimpl_moved (slices_Clone_int : ∀ {R : Type}, Nat → (List Int) → ((List Int) → Option R) → Option R) (impl_accountOk : ∀ {R : Type}, Nat → Int → (Bool → Option R) → Option R) {R : Type} (n : Nat) (x0 : List Int) (x1 : Int) (x2 : Int) (x3 : Int) (k : Pk → Option R) : evF tt sig (mkK [(123, Kslices_Clone_int @slices_Clone_int n), (143, Kimpl_accountOk @impl_accountOk n)] R) (mkL (mkK [(123, Kslices_Clone_int @slices_Clone_int n), (143, Kimpl_accountOk @impl_accountOk n)]) [] R) Try.f82 Himpl_moved (PkS.pack Simpl_moved (x0, x1, x2, x3, ())) k = (fun (k : Bool → (List Int) → Option R) => (slices_Clone_int n x0 fun r1 => (bif decide (0 ≤ x1) then (bif decide (x1 < (r1.length : Int)) then (bif decide (0 ≤ x1) then (bif decide (x1 < (r1.length : Int)) then (bif decide (0 ≤ x2) then (bif decide (x2 < ((r1.set (Int.toNat x1) (IntKind.wrap .i64 ((r1.getD (Int.toNat x1) 0) - x3))).length : Int)) then (bif decide (0 ≤ x2) then (bif decide (x2 < ((r1.set (Int.toNat x1) (IntKind.wrap .i64 ((r1.getD (Int.toNat x1) 0) - x3))).length : Int)) then (bif decide (0 ≤ x1) then (bif decide (x1 < (((r1.set (Int.toNat x1) (IntKind.wrap .i64 ((r1.getD (Int.toNat x1) 0) - x3))).set (Int.toNat x2) (IntKind.wrap .i64 (((r1.set (Int.toNat x1) (IntKind.wrap .i64 ((r1.getD (Int.toNat x1) 0) - x3))).getD (Int.toNat x2) 0) + x3))).length : Int)) then (impl_accountOk n (((r1.set (Int.toNat x1) (IntKind.wrap .i64 ((r1.getD (Int.toNat x1) 0) - x3))).set (Int.toNat x2) (IntKind.wrap .i64 (((r1.set (Int.toNat x1) (IntKind.wrap .i64 ((r1.getD (Int.toNat x1) 0) - x3))).getD (Int.toNat x2) 0) + x3))).getD (Int.toNat x1) 0) fun r2 => (bif r2 then (bif decide (0 ≤ x2) then (bif decide (x2 < (((r1.set (Int.toNat x1) (IntKind.wrap .i64 ((r1.getD (Int.toNat x1) 0) - x3))).set (Int.toNat x2) (IntKind.wrap .i64 (((r1.set (Int.toNat x1) (IntKind.wrap .i64 ((r1.getD (Int.toNat x1) 0) - x3))).getD (Int.toNat x2) 0) + x3))).length : Int)) then (impl_accountOk n (((r1.set (Int.toNat x1) (IntKind.wrap .i64 ((r1.getD (Int.toNat x1) 0) - x3))).set (Int.toNat x2) (IntKind.wrap .i64 (((r1.set (Int.toNat x1) (IntKind.wrap .i64 ((r1.getD (Int.toNat x1) 0) - x3))).getD (Int.toNat x2) 0) + x3))).getD (Int.toNat x2) 0) fun r3 => k r3 ((r1.set (Int.toNat x1) (IntKind.wrap .i64 ((r1.getD (Int.toNat x1) 0) - x3))).set (Int.toNat x2) (IntKind.wrap .i64 (((r1.set (Int.toNat x1) (IntKind.wrap .i64 ((r1.getD (Int.toNat x1) 0) - x3))).getD (Int.toNat x2) 0) + x3)))) else none) else none) else k false ((r1.set (Int.toNat x1) (IntKind.wrap .i64 ((r1.getD (Int.toNat x1) 0) - x3))).set (Int.toNat x2) (IntKind.wrap .i64 (((r1.set (Int.toNat x1) (IntKind.wrap .i64 ((r1.getD (Int.toNat x1) 0) - x3))).getD (Int.toNat x2) 0) + x3))))) else none) else none) else none) else none) else none) else none) else none) else none) else none) else none))) (fun r0 r1 => k (PkS.pack Timpl_moved (r0, r1, ()))) := by kernel_rfl
theorem okimpl_moved (n : Nat) : FnOk Try.prog 82 (Kimpl_moved @impl_moved n) := by
  refine fn_ok (sig := sig) mixed ttok (mkK_nat (cimpl_moved n)) (mkK_ok (cimpl_moved n)) (mkL_nat (mkK_nat (cimpl_moved n)) (l := []) trivial) (fn := Try.f82) (c := bodyOf Try.f82) (by kernel_rfl) (by kernel_rfl) (by kernel_rfl) (.eq (l := []) (by kernel_rfl) trivial) (shs := Himpl_moved) (S := Simpl_moved) (h1 := by kernel_rfl) fun R p k => ?_
  unfold Kimpl_moved
  cases h : (PkS.un Simpl_moved p) with
  | none => rfl
  | some d =>
    obtain ⟨x0, x1, x2, x3, u⟩ := (d : (List Int) × Int × Int × Int × Unit)
    have hp := PkS.un_pack h
    subst hp
    exact (eimpl_moved @slices_Clone_int @impl_accountOk n x0 x1 x2 x3 k).symm

/-! ### loop.example/g00269/impl.GoodSaga -/
theorem cimpl_GoodSaga (n : Nat) : AllOk Try.prog [(76, Kslices_ContainsFunc_impl_Move_impl_GoodSaga_c1 @slices_ContainsFunc_impl_Move_impl_GoodSaga_c1 n), (79, Kimpl_accountsOk @impl_accountsOk n), (80, Kimpl_in @impl_in n), (81, Kslices_Backward_impl_Move @slices_Backward_impl_Move n), (83, Kimpl_back @impl_back n), (82, Kimpl_moved @impl_moved n)] := ⟨okslices_ContainsFunc_impl_Move_impl_GoodSaga_c1 n, ⟨okimpl_accountsOk n, ⟨okimpl_in n, ⟨okslices_Backward_impl_Move n, ⟨okimpl_back n, ⟨okimpl_moved n, trivial⟩⟩⟩⟩⟩⟩
@[reducible] def Simpl_GoodSaga_l7 : PkS := ⟨[.one (.fn 144 [((100000, 0), 0)]), .one (.box (100000, 1) 0), .one (.box (100000, 2) 0), .one (.dead)], [((100000, 0), .box [.ro (.pr (.int .i64) (.pr (.int .i64) (.int .i64)))]), ((100000, 1), .box [.bool]), ((100000, 2), .box [.ro (.int .i64)])]⟩
@[reducible] def Timpl_GoodSaga_l7_0 : PkS := ⟨[.one (.dead), .one (.box (100000, 0) 0), .one (.dead), .one (.dead)], [((100000, 0), .box [.bool])]⟩
@[reducible] def Timpl_GoodSaga_l7_1 : PkS := ⟨[.one (.dead), .one (.box (100000, 0) 0), .one (.dead), .one (.dead)], [((100000, 0), .box [.bool])]⟩
def Dimpl_GoodSaga_l7 : RangeD := ⟨55, 42, 144, (.pr (.int .i64) (.pr (.int .i64) (.int .i64))), true, 43, 44, [2, 4], [.box [.any], .box [(.ro (.int .i64))], .skip], fun x => match x with
  | .ret => some [.skip, .box [.any], .skip, .skip]
  | .normal => some [.skip, .box [.any], .skip, .skip]
  | _ => none⟩
def Pimpl_GoodSaga_l7 (g : ∀ {R : Type}, Nat → (List (Int × Int × Int)) → Bool → (List Int) → Int → (Bool → Option R) → (Bool → Option R) → Option R) (n : Nat) : RPs := fun R q j kk => match (PkS.un Simpl_GoodSaga_l7 q : Option ((List (Int × Int × Int)) × Bool × (List Int) × Unit)) with
  | some (y7_0, y7_1, y7_2, _) => g n y7_0 y7_1 y7_2 j (fun r0 => kk (.ret) (PkS.pack Timpl_GoodSaga_l7_0 (r0, ()))) (fun r0 => kk (.normal) (PkS.pack Timpl_GoodSaga_l7_1 (r0, ())))
  | none => none
theorem eimpl_GoodSaga_l7 (slices_ContainsFunc_impl_Move_impl_GoodSaga_c1 : ∀ {R : Type}, Nat → (List (Int × Int × Int)) → (List Int) → (List (Int × Int × Int)) → Int → Bool → (Bool → (List Int) → (List (Int × Int × Int)) → Int → Bool → Option R) → Option R) (impl_accountsOk : ∀ {R : Type}, Nat → (List Int) → (Bool → Option R) → Option R) (impl_in : ∀ {R : Type}, Nat → Int → Int → Int → (Bool → Option R) → Option R) (slices_Backward_impl_Move : ∀ {R : Type}, Nat → (List (Int × Int × Int)) → ((List (Int × Int × Int)) → Option R) → Option R) (impl_back : ∀ {R : Type}, Nat → Int → Int → Int → (Int → Int → Int → Option R) → Option R) (impl_moved : ∀ {R : Type}, Nat → (List Int) → Int → Int → Int → (Bool → (List Int) → Option R) → Option R) (impl_GoodSaga_l7 : ∀ {R : Type}, Nat → (List (Int × Int × Int)) → Bool → (List Int) → Int → (Bool → Option R) → (Bool → Option R) → Option R) {R : Type} (n : Nat) (y7_0 : List (Int × Int × Int)) (y7_1 : Bool) (y7_2 : List Int) (i7_ : Int) (kk : Ex → Pk → Option R) : Dimpl_GoodSaga_l7.step tt sig (mkK [(76, Kslices_ContainsFunc_impl_Move_impl_GoodSaga_c1 @slices_ContainsFunc_impl_Move_impl_GoodSaga_c1 n), (79, Kimpl_accountsOk @impl_accountsOk n), (80, Kimpl_in @impl_in n), (81, Kslices_Backward_impl_Move @slices_Backward_impl_Move n), (83, Kimpl_back @impl_back n), (82, Kimpl_moved @impl_moved n)] R) (mkL (mkK [(76, Kslices_ContainsFunc_impl_Move_impl_GoodSaga_c1 @slices_ContainsFunc_impl_Move_impl_GoodSaga_c1 n), (79, Kimpl_accountsOk @impl_accountsOk n), (80, Kimpl_in @impl_in n), (81, Kslices_Backward_impl_Move @slices_Backward_impl_Move n), (83, Kimpl_back @impl_back n), (82, Kimpl_moved @impl_moved n)]) [] R) (asgIn 7 (bodyOf Try.f16)) (loopIn 7 (bodyOf Try.f16)) (fun q' j => Pimpl_GoodSaga_l7 @impl_GoodSaga_l7 n R q' j kk) (PkS.pack Simpl_GoodSaga_l7 (y7_0, y7_1, y7_2, ())) i7_ kk = (fun (kret : Bool → Option R) (knormal : Bool → Option R) => (bif decide (i7_ ≥ 0) then (bif decide (i7_ < (y7_0.length : Int)) then (impl_back n ((y7_0.getD (Int.toNat i7_) (0, (0, 0))).1) ((y7_0.getD (Int.toNat i7_) (0, (0, 0))).2.1) ((y7_0.getD (Int.toNat i7_) (0, (0, 0))).2.2) fun r9 r10 r11 => (impl_moved n y7_2 r9 r10 r11 fun r12 r13 => (bif (!r12) then kret false else impl_GoodSaga_l7 n y7_0 y7_1 r13 (IntKind.wrap .i64 (i7_ - 1)) kret knormal))) else none) else knormal y7_1)) (fun r0 => kk (.ret) (PkS.pack Timpl_GoodSaga_l7_0 (r0, ()))) (fun r0 => kk (.normal) (PkS.pack Timpl_GoodSaga_l7_1 (r0, ()))) := by kernel_rfl
theorem leimpl_GoodSaga_l7 : RangeEq tt sig (fun n => mkK [(76, Kslices_ContainsFunc_impl_Move_impl_GoodSaga_c1 @slices_ContainsFunc_impl_Move_impl_GoodSaga_c1 n), (79, Kimpl_accountsOk @impl_accountsOk n), (80, Kimpl_in @impl_in n), (81, Kslices_Backward_impl_Move @slices_Backward_impl_Move n), (83, Kimpl_back @impl_back n), (82, Kimpl_moved @impl_moved n)]) (fun n => mkL (mkK [(76, Kslices_ContainsFunc_impl_Move_impl_GoodSaga_c1 @slices_ContainsFunc_impl_Move_impl_GoodSaga_c1 n), (79, Kimpl_accountsOk @impl_accountsOk n), (80, Kimpl_in @impl_in n), (81, Kslices_Backward_impl_Move @slices_Backward_impl_Move n), (83, Kimpl_back @impl_back n), (82, Kimpl_moved @impl_moved n)]) []) Dimpl_GoodSaga_l7 Simpl_GoodSaga_l7 (asgIn 7 (bodyOf Try.f16)) (loopIn 7 (bodyOf Try.f16)) (Pimpl_GoodSaga_l7 @impl_GoodSaga_l7) where
  zero R q j kk := by unfold Pimpl_GoodSaga_l7; cases (PkS.un Simpl_GoodSaga_l7 q) <;> rfl
  succ n R q j kk := by
    unfold Pimpl_GoodSaga_l7
    cases h : (PkS.un Simpl_GoodSaga_l7 q) with
    | none => rfl
    | some d =>
      obtain ⟨y7_0, y7_1, y7_2, u⟩ := (d : (List (Int × Int × Int)) × Bool × (List Int) × Unit)
      have hp := PkS.un_pack h
      subst hp
      exact (eimpl_GoodSaga_l7 @slices_ContainsFunc_impl_Move_impl_GoodSaga_c1 @impl_accountsOk @impl_in @slices_Backward_impl_Move @impl_back @impl_moved @impl_GoodSaga_l7 n y7_0 y7_1 y7_2 j kk).symm
theorem nlimpl_GoodSaga_l7 : ∀ n, NatRP (Pimpl_GoodSaga_l7 @impl_GoodSaga_l7 n) := leimpl_GoodSaga_l7.nat (fun n => mkK_nat (cimpl_GoodSaga n)) fun n => mkL_nat (mkK_nat (cimpl_GoodSaga n)) (l := []) trivial
theorem inimpl_GoodSaga_l7 (n : Nat) (R : Type) : LoopsOk Try.prog (mkL (mkK [(76, Kslices_ContainsFunc_impl_Move_impl_GoodSaga_c1 @slices_ContainsFunc_impl_Move_impl_GoodSaga_c1 n), (79, Kimpl_accountsOk @impl_accountsOk n), (80, Kimpl_in @impl_in n), (81, Kslices_Backward_impl_Move @slices_Backward_impl_Move n), (83, Kimpl_back @impl_back n), (82, Kimpl_moved @impl_moved n)]) [] R) (loopIn 7 (bodyOf Try.f16)) := .eq (l := []) (by kernel_rfl) trivial
theorem rkimpl_GoodSaga_l7 (n : Nat) (R : Type) (L0 : LK R) (h0 : ∀ id, firstRegion (loopIn 7 (bodyOf Try.f16)) = some id → L0 id = Dimpl_GoodSaga_l7.oracle (mkK [(76, Kslices_ContainsFunc_impl_Move_impl_GoodSaga_c1 @slices_ContainsFunc_impl_Move_impl_GoodSaga_c1 n), (79, Kimpl_accountsOk @impl_accountsOk n), (80, Kimpl_in @impl_in n), (81, Kslices_Backward_impl_Move @slices_Backward_impl_Move n), (83, Kimpl_back @impl_back n), (82, Kimpl_moved @impl_moved n)] R) (Pimpl_GoodSaga_l7 @impl_GoodSaga_l7 n R)) : RangeOk Try.prog L0 (.tmp 42) #[43, 44] (asgIn 7 (bodyOf Try.f16)) (loopIn 7 (bodyOf Try.f16)) :=
  leimpl_GoodSaga_l7.ok mixed ttok (fun n => mkK_nat (cimpl_GoodSaga n)) (fun n => mkK_ok (cimpl_GoodSaga n)) (fun n => .eq (l := []) (by kernel_rfl) trivial) (fun n => inimpl_GoodSaga_l7 n R) (by kernel_rfl) (by kernel_rfl) (by kernel_rfl) (by kernel_rfl) (ts := 28) (te := 89) (ti := 3) (tb := 4) (ty := 153) (by kernel_rfl) ⟨Try.f144, by kernel_rfl, by kernel_rfl, by kernel_rfl, by kernel_rfl, by kernel_rfl⟩ (mkK_nat (cimpl_GoodSaga n)) h0
@[reducible] def Simpl_GoodSaga : PkS := ⟨[.agg [.ro (.int .i64), .ro (.pr (.int .i64) (.pr (.int .i64) (.int .i64))), .int .i64, .bool]], []⟩
@[reducible] def Timpl_GoodSaga : PkS := ⟨[.one (.bool), .one (.dead)], []⟩
def Himpl_GoodSaga : List Sh := [.one .any, .skip]
def Kimpl_GoodSaga (g : ∀ {R : Type}, Nat → (List Int) → (List (Int × Int × Int)) → Int → Bool → (Bool → Option R) → Option R) (n : Nat) : KPs := fun R p k => match (PkS.un Simpl_GoodSaga p : Option ((List Int) × (List (Int × Int × Int)) × Int × Bool × Unit)) with
  | some (x0, x1, x2, x3, _) => g n x0 x1 x2 x3 (fun r0 => k (PkS.pack Timpl_GoodSaga (r0, ())))
  | none => none
theorem eimpl_GoodSaga (slices_ContainsFunc_impl_Move_impl_GoodSaga_c1 : ∀ {R : Type}, Nat → (List (Int × Int × Int)) → (List Int) → (List (Int × Int × Int)) → Int → Bool → (Bool → (List Int) → (List (Int × Int × Int)) → Int → Bool → Option R) → Option R) (impl_accountsOk : ∀ {R : Type}, Nat → (List Int) → (Bool → Option R) → Option R) (impl_in : ∀ {R : Type}, Nat → Int → Int → Int → (Bool → Option R) → Option R) (slices_Backward_impl_Move : ∀ {R : Type}, Nat → (List (Int × Int × Int)) → ((List (Int × Int × Int)) → Option R) → Option R) (impl_back : ∀ {R : Type}, Nat → Int → Int → Int → (Int → Int → Int → Option R) → Option R) (impl_moved : ∀ {R : Type}, Nat → (List Int) → Int → Int → Int → (Bool → (List Int) → Option R) → Option R) (impl_GoodSaga_l7 : ∀ {R : Type}, Nat → (List (Int × Int × Int)) → Bool → (List Int) → Int → (Bool → Option R) → (Bool → Option R) → Option R) {R : Type} (n : Nat) (x0 : List Int) (x1 : List (Int × Int × Int)) (x2 : Int) (x3 : Bool) (k : Pk → Option R) : evF tt sig (mkK [(76, Kslices_ContainsFunc_impl_Move_impl_GoodSaga_c1 @slices_ContainsFunc_impl_Move_impl_GoodSaga_c1 n), (79, Kimpl_accountsOk @impl_accountsOk n), (80, Kimpl_in @impl_in n), (81, Kslices_Backward_impl_Move @slices_Backward_impl_Move n), (83, Kimpl_back @impl_back n), (82, Kimpl_moved @impl_moved n)] R) (addR (mkK [(76, Kslices_ContainsFunc_impl_Move_impl_GoodSaga_c1 @slices_ContainsFunc_impl_Move_impl_GoodSaga_c1 n), (79, Kimpl_accountsOk @impl_accountsOk n), (80, Kimpl_in @impl_in n), (81, Kslices_Backward_impl_Move @slices_Backward_impl_Move n), (83, Kimpl_back @impl_back n), (82, Kimpl_moved @impl_moved n)]) (mkL (mkK [(76, Kslices_ContainsFunc_impl_Move_impl_GoodSaga_c1 @slices_ContainsFunc_impl_Move_impl_GoodSaga_c1 n), (79, Kimpl_accountsOk @impl_accountsOk n), (80, Kimpl_in @impl_in n), (81, Kslices_Backward_impl_Move @slices_Backward_impl_Move n), (83, Kimpl_back @impl_back n), (82, Kimpl_moved @impl_moved n)]) []) 7 Dimpl_GoodSaga_l7 (Pimpl_GoodSaga_l7 @impl_GoodSaga_l7 n) R) Try.f16 Himpl_GoodSaga (PkS.pack Simpl_GoodSaga (x0, x1, x2, x3, ())) k = (fun (k : Bool → Option R) => (slices_ContainsFunc_impl_Move_impl_GoodSaga_c1 n x1 x0 x1 x2 x3 fun r1 r2 r3 r4 r5 => (impl_accountsOk n r2 fun r6 => (bif (!r6) then k false else (bif (decide ((r3.length : Int) > 20)) then k false else (bif r1 then k false else (impl_in n r4 0 (r3.length : Int) fun r7 => (bif (!r7) then k false else (bif decide (0 ≤ r4) then (bif decide (r4 ≤ (r3.length : Int)) then (slices_Backward_impl_Move n ((r3.drop 0).take ((Int.toNat r4) - 0)) fun r8 => (impl_GoodSaga_l7 n r8 false r2 (IntKind.wrap .i64 ((r8.length : Int) - 1)) (fun r14 => k r14) (fun r15 => k true))) else none) else none))))))))) (fun r0 => k (PkS.pack Timpl_GoodSaga (r0, ()))) := by kernel_rfl
theorem okimpl_GoodSaga (n : Nat) : FnOk Try.prog 16 (Kimpl_GoodSaga @impl_GoodSaga n) := by
  refine fn_ok (sig := sig) mixed ttok (mkK_nat (cimpl_GoodSaga n)) (mkK_ok (cimpl_GoodSaga n)) (addR_nat (i := 7) (D := Dimpl_GoodSaga_l7) (mkK_nat (cimpl_GoodSaga n)) (mkL_nat (mkK_nat (cimpl_GoodSaga n)) (l := []) trivial) (nlimpl_GoodSaga_l7 n)) (fn := Try.f16) (c := bodyOf Try.f16) (by kernel_rfl) (by kernel_rfl) (by kernel_rfl) (.eq (l := [.ra (.tmp 42) #[43, 44] (asgIn 7 (bodyOf Try.f16)) (loopIn 7 (bodyOf Try.f16))]) (by kernel_rfl) ⟨(rkimpl_GoodSaga_l7 n _ _ (at_id (i := 7) (by kernel_rfl) rfl)), trivial⟩) (shs := Himpl_GoodSaga) (S := Simpl_GoodSaga) (h1 := by kernel_rfl) fun R p k => ?_
  unfold Kimpl_GoodSaga
  cases h : (PkS.un Simpl_GoodSaga p) with
  | none => rfl
  | some d =>
    obtain ⟨x0, x1, x2, x3, u⟩ := (d : (List Int) × (List (Int × Int × Int)) × Int × Bool × Unit)
    have hp := PkS.un_pack h
    subst hp
    exact (eimpl_GoodSaga @slices_ContainsFunc_impl_Move_impl_GoodSaga_c1 @impl_accountsOk @impl_in @slices_Backward_impl_Move @impl_back @impl_moved @impl_GoodSaga_l7 n x0 x1 x2 x3 k).symm

/-! ### slices.Clone[[]loop.example/g00269/impl.Move,loop.example/g00269/impl.Move] -/
theorem cslices_Clone_impl_Move (n : Nat) : AllOk Try.prog [] := trivial
@[reducible] def Sslices_Clone_impl_Move : PkS := ⟨[.one (.ro (.pr (.int .i64) (.pr (.int .i64) (.int .i64))))], []⟩
@[reducible] def Tslices_Clone_impl_Move : PkS := ⟨[.one (.whole (300000, 0)), .one (.dead)], [((300000, 0), .arr (.pr (.int .i64) (.pr (.int .i64) (.int .i64))))]⟩
def Kslices_Clone_impl_Move (g : ∀ {R : Type}, Nat → (List (Int × Int × Int)) → ((List (Int × Int × Int)) → Option R) → Option R) (n : Nat) : KPs := fun R p k => match (PkS.un Sslices_Clone_impl_Move p : Option ((List (Int × Int × Int)) × Unit)) with
  | some (x0, _) => g n x0 (fun r0 => k (PkS.pack Tslices_Clone_impl_Move (r0, ())))
  | none => none
theorem okslices_Clone_impl_Move (n : Nat) : FnOk Try.prog 146 (Kslices_Clone_impl_Move @slices_Clone_impl_Move n) := by
  have e : Kslices_Clone_impl_Move @slices_Clone_impl_Move n = cloneK (.pr (.int .i64) (.pr (.int .i64) (.int .i64))) := by kernel_rfl
  rw [e]
  exact clone_ok (sig := sig) mixed ttok (fn := Try.f146) (c := bodyOf Try.f146) (by kernel_rfl) (by kernel_rfl) (by kernel_rfl) (.pr (.int .i64) (.pr (.int .i64) (.int .i64))) [.one (.own (.pr (.int .i64) (.pr (.int .i64) (.int .i64)))), .skip] (.eq (l := []) (by kernel_rfl) trivial) (fun xs => by kernel_rfl) (by kernel_rfl) (by kernel_rfl)

/-! ### loop.example/g00269/impl.cloneSaga -/
theorem cimpl_cloneSaga (n : Nat) : AllOk Try.prog [(123, Kslices_Clone_int @slices_Clone_int n), (146, Kslices_Clone_impl_Move @slices_Clone_impl_Move n)] := ⟨okslices_Clone_int n, ⟨okslices_Clone_impl_Move n, trivial⟩⟩
@[reducible] def Simpl_cloneSaga : PkS := ⟨[.agg [.ro (.int .i64), .ro (.pr (.int .i64) (.pr (.int .i64) (.int .i64))), .int .i64, .bool]], []⟩
@[reducible] def Timpl_cloneSaga : PkS := ⟨[.agg [.whole (300000, 0), .whole (300000, 1), .int .i64, .bool], .one (.dead)], [((300000, 0), .arr (.int .i64)), ((300000, 1), .arr (.pr (.int .i64) (.pr (.int .i64) (.int .i64))))]⟩
def Himpl_cloneSaga : List Sh := [.agg [(.own (.int .i64)), (.own (.pr (.int .i64) (.pr (.int .i64) (.int .i64)))), .any, .any], .skip]
def Kimpl_cloneSaga (g : ∀ {R : Type}, Nat → (List Int) → (List (Int × Int × Int)) → Int → Bool → (Int → Bool → (List Int) → (List (Int × Int × Int)) → Option R) → Option R) (n : Nat) : KPs := fun R p k => match (PkS.un Simpl_cloneSaga p : Option ((List Int) × (List (Int × Int × Int)) × Int × Bool × Unit)) with
  | some (x0, x1, x2, x3, _) => g n x0 x1 x2 x3 (fun r0 r1 r2 r3 => k (PkS.pack Timpl_cloneSaga (r0, r1, r2, r3, ())))
  | none => none
theorem eimpl_cloneSaga (slices_Clone_int : ∀ {R : Type}, Nat → (List Int) → ((List Int) → Option R) → Option R) (slices_Clone_impl_Move : ∀ {R : Type}, Nat → (List (Int × Int × Int)) → ((List (Int × Int × Int)) → Option R) → Option R) {R : Type} (n : Nat) (x0 : List Int) (x1 : List (Int × Int × Int)) (x2 : Int) (x3 : Bool) (k : Pk → Option R) : evF tt sig (mkK [(123, Kslices_Clone_int @slices_Clone_int n), (146, Kslices_Clone_impl_Move @slices_Clone_impl_Move n)] R) (mkL (mkK [(123, Kslices_Clone_int @slices_Clone_int n), (146, Kslices_Clone_impl_Move @slices_Clone_impl_Move n)]) [] R) Try.f87 Himpl_cloneSaga (PkS.pack Simpl_cloneSaga (x0, x1, x2, x3, ())) k = (fun (k : Int → Bool → (List Int) → (List (Int × Int × Int)) → Option R) => (slices_Clone_int n x0 fun r1 => (slices_Clone_impl_Move n x1 fun r2 => k x2 x3 r1 r2))) (fun r0 r1 r2 r3 => k (PkS.pack Timpl_cloneSaga (r0, r1, r2, r3, ()))) := by kernel_rfl
theorem okimpl_cloneSaga (n : Nat) : FnOk Try.prog 87 (Kimpl_cloneSaga @impl_cloneSaga n) := by
  refine fn_ok (sig := sig) mixed ttok (mkK_nat (cimpl_cloneSaga n)) (mkK_ok (cimpl_cloneSaga n)) (mkL_nat (mkK_nat (cimpl_cloneSaga n)) (l := []) trivial) (fn := Try.f87) (c := bodyOf Try.f87) (by kernel_rfl) (by kernel_rfl) (by kernel_rfl) (.eq (l := []) (by kernel_rfl) trivial) (shs := Himpl_cloneSaga) (S := Simpl_cloneSaga) (h1 := by kernel_rfl) fun R p k => ?_
  unfold Kimpl_cloneSaga
  cases h : (PkS.un Simpl_cloneSaga p) with
  | none => rfl
  | some d =>
    obtain ⟨x0, x1, x2, x3, u⟩ := (d : (List Int) × (List (Int × Int × Int)) × Int × Bool × Unit)
    have hp := PkS.un_pack h
    subst hp
    exact (eimpl_cloneSaga @slices_Clone_int @slices_Clone_impl_Move n x0 x1 x2 x3 k).symm

/-! ### (*loop.example/g00269/impl.Saga).fail -/
theorem cimpl_Saga_fail (n : Nat) : AllOk Try.prog [] := trivial
@[reducible] def Simpl_Saga_fail : PkS := ⟨[.one (.box (200000, 2) 0)], [((200000, 0), .arr (.int .i64)), ((200000, 1), .arr (.pr (.int .i64) (.pr (.int .i64) (.int .i64)))), ((200000, 2), .box [.whole (200000, 0), .whole (200000, 1), .int .i64, .bool])]⟩
@[reducible] def Timpl_Saga_fail : PkS := ⟨[.one (.bool), .one (.box (300000, 2) 0)], [((300000, 0), .arr (.int .i64)), ((300000, 1), .arr (.pr (.int .i64) (.pr (.int .i64) (.int .i64)))), ((300000, 2), .box [.whole (300000, 0), .whole (300000, 1), .int .i64, .bool])]⟩
def Himpl_Saga_fail : List Sh := [.one .any, .box [(.own (.int .i64)), (.own (.pr (.int .i64) (.pr (.int .i64) (.int .i64)))), .any, .any]]
def Kimpl_Saga_fail (g : ∀ {R : Type}, Nat → (List Int) → (List (Int × Int × Int)) → Int → Bool → (Bool → (List Int) → (List (Int × Int × Int)) → Int → Bool → Option R) → Option R) (n : Nat) : KPs := fun R p k => match (PkS.un Simpl_Saga_fail p : Option ((List Int) × (List (Int × Int × Int)) × Int × Bool × Unit)) with
  | some (x0, x1, x2, x3, _) => g n x0 x1 x2 x3 (fun r0 r1 r2 r3 r4 => k (PkS.pack Timpl_Saga_fail (r0, r1, r2, r3, r4, ())))
  | none => none
theorem eimpl_Saga_fail  {R : Type} (n : Nat) (x0 : List Int) (x1 : List (Int × Int × Int)) (x2 : Int) (x3 : Bool) (k : Pk → Option R) : evF tt sig (mkK [] R) (mkL (mkK []) [] R) Try.f92 Himpl_Saga_fail (PkS.pack Simpl_Saga_fail (x0, x1, x2, x3, ())) k = (fun (k : Bool → (List Int) → (List (Int × Int × Int)) → Int → Bool → Option R) => (bif x3 then k false x0 x1 x2 x3 else (bif (x2 == (x1.length : Int)) then k false x0 x1 x2 x3 else k true x0 x1 x2 true))) (fun r0 r1 r2 r3 r4 => k (PkS.pack Timpl_Saga_fail (r0, r1, r2, r3, r4, ()))) := by kernel_rfl
theorem okimpl_Saga_fail (n : Nat) : FnOk Try.prog 92 (Kimpl_Saga_fail @impl_Saga_fail n) := by
  refine fn_ok (sig := sig) mixed ttok (mkK_nat (cimpl_Saga_fail n)) (mkK_ok (cimpl_Saga_fail n)) (mkL_nat (mkK_nat (cimpl_Saga_fail n)) (l := []) trivial) (fn := Try.f92) (c := bodyOf Try.f92) (by kernel_rfl) (by kernel_rfl) (by kernel_rfl) (.eq (l := []) (by kernel_rfl) trivial) (shs := Himpl_Saga_fail) (S := Simpl_Saga_fail) (h1 := by kernel_rfl) fun R p k => ?_
  unfold Kimpl_Saga_fail
  cases h : (PkS.un Simpl_Saga_fail p) with
  | none => rfl
  | some d =>
    obtain ⟨x0, x1, x2, x3, u⟩ := (d : (List Int) × (List (Int × Int × Int)) × Int × Bool × Unit)
    have hp := PkS.un_pack h
    subst hp
    exact (eimpl_Saga_fail  n x0 x1 x2 x3 k).symm

/-! ### loop.example/g00269/impl.changedSaga -/
theorem cimpl_changedSaga_impl_Saga_fail (n : Nat) : AllOk Try.prog [(16, Kimpl_GoodSaga @impl_GoodSaga n), (87, Kimpl_cloneSaga @impl_cloneSaga n), (92, Kimpl_Saga_fail @impl_Saga_fail n)] := ⟨okimpl_GoodSaga n, ⟨okimpl_cloneSaga n, ⟨okimpl_Saga_fail n, trivial⟩⟩⟩
@[reducible] def Simpl_changedSaga_impl_Saga_fail : PkS := ⟨[.agg [.ro (.int .i64), .ro (.pr (.int .i64) (.pr (.int .i64) (.int .i64))), .int .i64, .bool], .one (.fn 92 [])], []⟩
@[reducible] def Timpl_changedSaga_impl_Saga_fail : PkS := ⟨[.tup [(true, [.whole (300000, 0), .whole (300000, 1), .int .i64, .bool]), (false, [.bool])], .one (.dead), .one (.fn 92 [])], [((300000, 0), .arr (.int .i64)), ((300000, 1), .arr (.pr (.int .i64) (.pr (.int .i64) (.int .i64))))]⟩
def Himpl_changedSaga_impl_Saga_fail : List Sh := [.tup [(true, [(.own (.int .i64)), (.own (.pr (.int .i64) (.pr (.int .i64) (.int .i64)))), .any, .any]), (false, [.any])], .skip, .fn 92 []]
def Kimpl_changedSaga_impl_Saga_fail (g : ∀ {R : Type}, Nat → (List Int) → (List (Int × Int × Int)) → Int → Bool → (Int → Bool → Bool → (List Int) → (List (Int × Int × Int)) → Option R) → Option R) (n : Nat) : KPs := fun R p k => match (PkS.un Simpl_changedSaga_impl_Saga_fail p : Option ((List Int) × (List (Int × Int × Int)) × Int × Bool × Unit)) with
  | some (x0, x1, x2, x3, _) => g n x0 x1 x2 x3 (fun r0 r1 r2 r3 r4 => k (PkS.pack Timpl_changedSaga_impl_Saga_fail (r0, r1, r2, r3, r4, ())))
  | none => none
theorem eimpl_changedSaga_impl_Saga_fail (impl_GoodSaga : ∀ {R : Type}, Nat → (List Int) → (List (Int × Int × Int)) → Int → Bool → (Bool → Option R) → Option R) (impl_cloneSaga : ∀ {R : Type}, Nat → (List Int) → (List (Int × Int × Int)) → Int → Bool → (Int → Bool → (List Int) → (List (Int × Int × Int)) → Option R) → Option R) (impl_Saga_fail : ∀ {R : Type}, Nat → (List Int) → (List (Int × Int × Int)) → Int → Bool → (Bool → (List Int) → (List (Int × Int × Int)) → Int → Bool → Option R) → Option R) {R : Type} (n : Nat) (x0 : List Int) (x1 : List (Int × Int × Int)) (x2 : Int) (x3 : Bool) (k : Pk → Option R) : evF tt sig (mkK [(16, Kimpl_GoodSaga @impl_GoodSaga n), (87, Kimpl_cloneSaga @impl_cloneSaga n), (92, Kimpl_Saga_fail @impl_Saga_fail n)] R) (mkL (mkK [(16, Kimpl_GoodSaga @impl_GoodSaga n), (87, Kimpl_cloneSaga @impl_cloneSaga n), (92, Kimpl_Saga_fail @impl_Saga_fail n)]) [] R) Try.f91 Himpl_changedSaga_impl_Saga_fail (PkS.pack Simpl_changedSaga_impl_Saga_fail (x0, x1, x2, x3, ())) k = (fun (k : Int → Bool → Bool → (List Int) → (List (Int × Int × Int)) → Option R) => (impl_GoodSaga n x0 x1 x2 x3 fun r1 => (bif (!r1) then k 0 false false ([] : List Int) ([] : List (Int × Int × Int)) else (impl_cloneSaga n x0 x1 x2 x3 fun r2 r3 r4 r5 => (impl_Saga_fail n r4 r5 r2 r3 fun r6 r7 r8 r9 r10 => (bif (!r6) then k 0 false false ([] : List Int) ([] : List (Int × Int × Int)) else k r9 r10 true r7 r8)))))) (fun r0 r1 r2 r3 r4 => k (PkS.pack Timpl_changedSaga_impl_Saga_fail (r0, r1, r2, r3, r4, ()))) := by kernel_rfl
theorem okimpl_changedSaga_impl_Saga_fail (n : Nat) : FnOk Try.prog 91 (Kimpl_changedSaga_impl_Saga_fail @impl_changedSaga_impl_Saga_fail n) := by
  refine fn_ok (sig := sig) mixed ttok (mkK_nat (cimpl_changedSaga_impl_Saga_fail n)) (mkK_ok (cimpl_changedSaga_impl_Saga_fail n)) (mkL_nat (mkK_nat (cimpl_changedSaga_impl_Saga_fail n)) (l := []) trivial) (fn := Try.f91) (c := bodyOf Try.f91) (by kernel_rfl) (by kernel_rfl) (by kernel_rfl) (.eq (l := []) (by kernel_rfl) trivial) (shs := Himpl_changedSaga_impl_Saga_fail) (S := Simpl_changedSaga_impl_Saga_fail) (h1 := by kernel_rfl) fun R p k => ?_
  unfold Kimpl_changedSaga_impl_Saga_fail
  cases h : (PkS.un Simpl_changedSaga_impl_Saga_fail p) with
  | none => rfl
  | some d =>
    obtain ⟨x0, x1, x2, x3, u⟩ := (d : (List Int) × (List (Int × Int × Int)) × Int × Bool × Unit)
    have hp := PkS.un_pack h
    subst hp
    exact (eimpl_changedSaga_impl_Saga_fail @impl_GoodSaga @impl_cloneSaga @impl_Saga_fail n x0 x1 x2 x3 k).symm

/-! ### loop.example/g00269/impl.FailSaga -/
theorem cimpl_FailSaga (n : Nat) : AllOk Try.prog [(91, Kimpl_changedSaga_impl_Saga_fail @impl_changedSaga_impl_Saga_fail n)] := ⟨okimpl_changedSaga_impl_Saga_fail n, trivial⟩
@[reducible] def Simpl_FailSaga : PkS := ⟨[.agg [.ro (.int .i64), .ro (.pr (.int .i64) (.pr (.int .i64) (.int .i64))), .int .i64, .bool]], []⟩
@[reducible] def Timpl_FailSaga : PkS := ⟨[.tup [(true, [.whole (300000, 0), .whole (300000, 1), .int .i64, .bool]), (false, [.bool])], .one (.dead)], [((300000, 0), .arr (.int .i64)), ((300000, 1), .arr (.pr (.int .i64) (.pr (.int .i64) (.int .i64))))]⟩
def Himpl_FailSaga : List Sh := [.tup [(true, [(.own (.int .i64)), (.own (.pr (.int .i64) (.pr (.int .i64) (.int .i64)))), .any, .any]), (false, [.any])], .skip]
def Kimpl_FailSaga (g : ∀ {R : Type}, Nat → (List Int) → (List (Int × Int × Int)) → Int → Bool → (Int → Bool → Bool → (List Int) → (List (Int × Int × Int)) → Option R) → Option R) (n : Nat) : KPs := fun R p k => match (PkS.un Simpl_FailSaga p : Option ((List Int) × (List (Int × Int × Int)) × Int × Bool × Unit)) with
  | some (x0, x1, x2, x3, _) => g n x0 x1 x2 x3 (fun r0 r1 r2 r3 r4 => k (PkS.pack Timpl_FailSaga (r0, r1, r2, r3, r4, ())))
  | none => none
theorem eimpl_FailSaga (impl_changedSaga_impl_Saga_fail : ∀ {R : Type}, Nat → (List Int) → (List (Int × Int × Int)) → Int → Bool → (Int → Bool → Bool → (List Int) → (List (Int × Int × Int)) → Option R) → Option R) {R : Type} (n : Nat) (x0 : List Int) (x1 : List (Int × Int × Int)) (x2 : Int) (x3 : Bool) (k : Pk → Option R) : evF tt sig (mkK [(91, Kimpl_changedSaga_impl_Saga_fail @impl_changedSaga_impl_Saga_fail n)] R) (mkL (mkK [(91, Kimpl_changedSaga_impl_Saga_fail @impl_changedSaga_impl_Saga_fail n)]) [] R) Try.f34 Himpl_FailSaga (PkS.pack Simpl_FailSaga (x0, x1, x2, x3, ())) k = (fun (k : Int → Bool → Bool → (List Int) → (List (Int × Int × Int)) → Option R) => (impl_changedSaga_impl_Saga_fail n x0 x1 x2 x3 fun r1 r2 r3 r4 r5 => k r1 r2 r3 r4 r5)) (fun r0 r1 r2 r3 r4 => k (PkS.pack Timpl_FailSaga (r0, r1, r2, r3, r4, ()))) := by kernel_rfl
theorem okimpl_FailSaga (n : Nat) : FnOk Try.prog 34 (Kimpl_FailSaga @impl_FailSaga n) := by
  refine fn_ok (sig := sig) mixed ttok (mkK_nat (cimpl_FailSaga n)) (mkK_ok (cimpl_FailSaga n)) (mkL_nat (mkK_nat (cimpl_FailSaga n)) (l := []) trivial) (fn := Try.f34) (c := bodyOf Try.f34) (by kernel_rfl) (by kernel_rfl) (by kernel_rfl) (.eq (l := []) (by kernel_rfl) trivial) (shs := Himpl_FailSaga) (S := Simpl_FailSaga) (h1 := by kernel_rfl) fun R p k => ?_
  unfold Kimpl_FailSaga
  cases h : (PkS.un Simpl_FailSaga p) with
  | none => rfl
  | some d =>
    obtain ⟨x0, x1, x2, x3, u⟩ := (d : (List Int) × (List (Int × Int × Int)) × Int × Bool × Unit)
    have hp := PkS.un_pack h
    subst hp
    exact (eimpl_FailSaga @impl_changedSaga_impl_Saga_fail n x0 x1 x2 x3 k).symm

/-! ### loop.example/g00269/laws.eqIntS -/
theorem claws_eqIntS (n : Nat) : AllOk Try.prog [] := trivial
@[reducible] def Slaws_eqIntS_l4 : PkS := ⟨[.one (.ro (.int .i64)), .one (.ro (.int .i64)), .one (.int .i64), .one (.dead), .one (.dead)], []⟩
@[reducible] def Tlaws_eqIntS_l4_0 : PkS := ⟨[.one (.bool), .one (.dead), .one (.dead)], []⟩
@[reducible] def Tlaws_eqIntS_l4_1 : PkS := ⟨[.one (.dead), .one (.dead)], []⟩
def Dlaws_eqIntS_l4 : LoopD := ⟨26, [0, 1, 5], [.one (.ro (.int .i64)), .one (.ro (.int .i64)), .one .any, .skip, .skip], fun x => match x with
  | .ret => some ([4], [.one .any, .skip, .skip])
  | .exit 0 => some ([], [.skip, .skip])
  | _ => none⟩
def Plaws_eqIntS_l4 (g : ∀ {R : Type}, Nat → (List Int) → (List Int) → Int → (Bool → Option R) → (Option R) → Option R) (n : Nat) : LPs := fun R q kk => match (PkS.un Slaws_eqIntS_l4 q : Option ((List Int) × (List Int) × Int × Unit)) with
  | some (y4_0, y4_1, y4_2, _) => g n y4_0 y4_1 y4_2 (fun r0 => kk .ret (PkS.pack Tlaws_eqIntS_l4_0 (r0, ()))) (kk (.exit 0) (PkS.pack Tlaws_eqIntS_l4_1 ()))
  | none => none
theorem elaws_eqIntS_l4 (laws_eqIntS_l4 : ∀ {R : Type}, Nat → (List Int) → (List Int) → Int → (Bool → Option R) → (Option R) → Option R) {R : Type} (n : Nat) (y4_0 : List Int) (y4_1 : List Int) (y4_2 : Int) (kk : Ex → Pk → Option R) : Dlaws_eqIntS_l4.step tt sig (mkK [] R) (mkL (mkK []) [] R) (loopIn 4 (bodyOf Try.f27)) (fun q' => Plaws_eqIntS_l4 @laws_eqIntS_l4 n R q' kk) (PkS.pack Slaws_eqIntS_l4 (y4_0, y4_1, y4_2, ())) kk = (fun (kret : Bool → Option R) (kexit0 : Option R) => (bif (decide (y4_2 < (y4_0.length : Int))) then (bif decide (0 ≤ y4_2) then (bif decide (y4_2 < (y4_0.length : Int)) then (bif decide (0 ≤ y4_2) then (bif decide (y4_2 < (y4_1.length : Int)) then (bif ((y4_0.getD (Int.toNat y4_2) 0) != (y4_1.getD (Int.toNat y4_2) 0)) then kret false else laws_eqIntS_l4 n y4_0 y4_1 (IntKind.wrap .i64 (y4_2 + 1)) kret kexit0) else none) else none) else none) else none) else kexit0)) (fun r0 => kk .ret (PkS.pack Tlaws_eqIntS_l4_0 (r0, ()))) (kk (.exit 0) (PkS.pack Tlaws_eqIntS_l4_1 ())) := by kernel_rfl
theorem lelaws_eqIntS_l4 : LoopEq tt sig (fun n => mkK []) (fun n => mkL (mkK []) []) Dlaws_eqIntS_l4 Slaws_eqIntS_l4 (loopIn 4 (bodyOf Try.f27)) (Plaws_eqIntS_l4 @laws_eqIntS_l4) where
  zero R q kk := by unfold Plaws_eqIntS_l4; cases (PkS.un Slaws_eqIntS_l4 q) <;> rfl
  succ n R q kk := by
    unfold Plaws_eqIntS_l4
    cases h : (PkS.un Slaws_eqIntS_l4 q) with
    | none => rfl
    | some d =>
      obtain ⟨y4_0, y4_1, y4_2, u⟩ := (d : (List Int) × (List Int) × Int × Unit)
      have hp := PkS.un_pack h
      subst hp
      exact (elaws_eqIntS_l4 @laws_eqIntS_l4 n y4_0 y4_1 y4_2 kk).symm
theorem nllaws_eqIntS_l4 : ∀ n, NatLP (Plaws_eqIntS_l4 @laws_eqIntS_l4 n) := lelaws_eqIntS_l4.nat (fun n => mkK_nat (claws_eqIntS n)) fun n => mkL_nat (mkK_nat (claws_eqIntS n)) (l := []) trivial
theorem inlaws_eqIntS_l4 (n : Nat) (R : Type) : LoopsOk Try.prog (mkL (mkK []) [] R) (loopIn 4 (bodyOf Try.f27)) := .eq (l := []) (by kernel_rfl) trivial
theorem lklaws_eqIntS_l4 (n : Nat) (R : Type) (L0 : LK R) (h0 : ∀ id, firstRegion (loopIn 4 (bodyOf Try.f27)) = some id → L0 id = Dlaws_eqIntS_l4.oracle (mkK [] R) (Plaws_eqIntS_l4 @laws_eqIntS_l4 n R)) : LoopOk Try.prog L0 (loopIn 4 (bodyOf Try.f27)) :=
  lelaws_eqIntS_l4.ok mixed ttok (fun n => mkK_nat (claws_eqIntS n)) (fun n => mkK_ok (claws_eqIntS n)) (fun n => inlaws_eqIntS_l4 n R) (mkK_nat (claws_eqIntS n)) h0
@[reducible] def Slaws_eqIntS : PkS := ⟨[.one (.ro (.int .i64)), .one (.ro (.int .i64))], []⟩
@[reducible] def Tlaws_eqIntS : PkS := ⟨[.one (.bool), .one (.dead), .one (.dead)], []⟩
def Hlaws_eqIntS : List Sh := [.one .any, .skip, .skip]
def Klaws_eqIntS (g : ∀ {R : Type}, Nat → (List Int) → (List Int) → (Bool → Option R) → Option R) (n : Nat) : KPs := fun R p k => match (PkS.un Slaws_eqIntS p : Option ((List Int) × (List Int) × Unit)) with
  | some (x0, x1, _) => g n x0 x1 (fun r0 => k (PkS.pack Tlaws_eqIntS (r0, ())))
  | none => none
theorem elaws_eqIntS (laws_eqIntS_l4 : ∀ {R : Type}, Nat → (List Int) → (List Int) → Int → (Bool → Option R) → (Option R) → Option R) {R : Type} (n : Nat) (x0 : List Int) (x1 : List Int) (k : Pk → Option R) : evF tt sig (mkK [] R) (mkL (mkK []) [(4, Dlaws_eqIntS_l4, Plaws_eqIntS_l4 @laws_eqIntS_l4 n)] R) Try.f27 Hlaws_eqIntS (PkS.pack Slaws_eqIntS (x0, x1, ())) k = (fun (k : Bool → Option R) => (bif ((x0.length : Int) != (x1.length : Int)) then k false else (laws_eqIntS_l4 n x0 x1 0 (fun r1 => k r1) (k true)))) (fun r0 => k (PkS.pack Tlaws_eqIntS (r0, ()))) := by kernel_rfl
theorem oklaws_eqIntS (n : Nat) : FnOk Try.prog 27 (Klaws_eqIntS @laws_eqIntS n) := by
  refine fn_ok (sig := sig) mixed ttok (mkK_nat (claws_eqIntS n)) (mkK_ok (claws_eqIntS n)) (mkL_nat (mkK_nat (claws_eqIntS n)) (l := [(4, Dlaws_eqIntS_l4, Plaws_eqIntS_l4 @laws_eqIntS_l4 n)]) ⟨nllaws_eqIntS_l4 n, trivial⟩) (fn := Try.f27) (c := bodyOf Try.f27) (by kernel_rfl) (by kernel_rfl) (by kernel_rfl) (.eq (l := [.lo (loopIn 4 (bodyOf Try.f27))]) (by kernel_rfl) ⟨(lklaws_eqIntS_l4 n _ _ (at_id (i := 4) (by kernel_rfl) rfl)), trivial⟩) (shs := Hlaws_eqIntS) (S := Slaws_eqIntS) (h1 := by kernel_rfl) fun R p k => ?_
  unfold Klaws_eqIntS
  cases h : (PkS.un Slaws_eqIntS p) with
  | none => rfl
  | some d =>
    obtain ⟨x0, x1, u⟩ := (d : (List Int) × (List Int) × Unit)
    have hp := PkS.un_pack h
    subst hp
    exact (elaws_eqIntS @laws_eqIntS_l4 n x0 x1 k).symm

/-! ### loop.example/g00269/laws.eqMove -/
theorem claws_eqMove (n : Nat) : AllOk Try.prog [] := trivial
@[reducible] def Slaws_eqMove : PkS := ⟨[.agg [.int .i64, .int .i64, .int .i64], .agg [.int .i64, .int .i64, .int .i64]], []⟩
@[reducible] def Tlaws_eqMove : PkS := ⟨[.one (.bool), .one (.dead), .one (.dead)], []⟩
def Hlaws_eqMove : List Sh := [.one .any, .skip, .skip]
def Klaws_eqMove (g : ∀ {R : Type}, Nat → Int → Int → Int → Int → Int → Int → (Bool → Option R) → Option R) (n : Nat) : KPs := fun R p k => match (PkS.un Slaws_eqMove p : Option (Int × Int × Int × Int × Int × Int × Unit)) with
  | some (x0, x1, x2, x3, x4, x5, _) => g n x0 x1 x2 x3 x4 x5 (fun r0 => k (PkS.pack Tlaws_eqMove (r0, ())))
  | none => none
theorem elaws_eqMove  {R : Type} (n : Nat) (x0 : Int) (x1 : Int) (x2 : Int) (x3 : Int) (x4 : Int) (x5 : Int) (k : Pk → Option R) : evF tt sig (mkK [] R) (mkL (mkK []) [] R) Try.f88 Hlaws_eqMove (PkS.pack Slaws_eqMove (x0, x1, x2, x3, x4, x5, ())) k = (fun (k : Bool → Option R) => (bif (x0 != x3) then k false else (bif (x1 != x4) then k false else (bif (x2 != x5) then k false else k true)))) (fun r0 => k (PkS.pack Tlaws_eqMove (r0, ()))) := by kernel_rfl
theorem oklaws_eqMove (n : Nat) : FnOk Try.prog 88 (Klaws_eqMove @laws_eqMove n) := by
  refine fn_ok (sig := sig) mixed ttok (mkK_nat (claws_eqMove n)) (mkK_ok (claws_eqMove n)) (mkL_nat (mkK_nat (claws_eqMove n)) (l := []) trivial) (fn := Try.f88) (c := bodyOf Try.f88) (by kernel_rfl) (by kernel_rfl) (by kernel_rfl) (.eq (l := []) (by kernel_rfl) trivial) (shs := Hlaws_eqMove) (S := Slaws_eqMove) (h1 := by kernel_rfl) fun R p k => ?_
  unfold Klaws_eqMove
  cases h : (PkS.un Slaws_eqMove p) with
  | none => rfl
  | some d =>
    obtain ⟨x0, x1, x2, x3, x4, x5, u⟩ := (d : Int × Int × Int × Int × Int × Int × Unit)
    have hp := PkS.un_pack h
    subst hp
    exact (elaws_eqMove  n x0 x1 x2 x3 x4 x5 k).symm

/-! ### loop.example/g00269/laws.eqMoveS -/
theorem claws_eqMoveS (n : Nat) : AllOk Try.prog [(88, Klaws_eqMove @laws_eqMove n)] := ⟨oklaws_eqMove n, trivial⟩
@[reducible] def Slaws_eqMoveS_l4 : PkS := ⟨[.one (.ro (.pr (.int .i64) (.pr (.int .i64) (.int .i64)))), .one (.ro (.pr (.int .i64) (.pr (.int .i64) (.int .i64)))), .one (.int .i64), .one (.dead), .one (.dead)], []⟩
@[reducible] def Tlaws_eqMoveS_l4_0 : PkS := ⟨[.one (.bool), .one (.dead), .one (.dead)], []⟩
@[reducible] def Tlaws_eqMoveS_l4_1 : PkS := ⟨[.one (.dead), .one (.dead)], []⟩
def Dlaws_eqMoveS_l4 : LoopD := ⟨27, [0, 1, 5], [.one (.ro (.pr (.int .i64) (.pr (.int .i64) (.int .i64)))), .one (.ro (.pr (.int .i64) (.pr (.int .i64) (.int .i64)))), .one .any, .skip, .skip], fun x => match x with
  | .ret => some ([4], [.one .any, .skip, .skip])
  | .exit 0 => some ([], [.skip, .skip])
  | _ => none⟩
def Plaws_eqMoveS_l4 (g : ∀ {R : Type}, Nat → (List (Int × Int × Int)) → (List (Int × Int × Int)) → Int → (Bool → Option R) → (Option R) → Option R) (n : Nat) : LPs := fun R q kk => match (PkS.un Slaws_eqMoveS_l4 q : Option ((List (Int × Int × Int)) × (List (Int × Int × Int)) × Int × Unit)) with
  | some (y4_0, y4_1, y4_2, _) => g n y4_0 y4_1 y4_2 (fun r0 => kk .ret (PkS.pack Tlaws_eqMoveS_l4_0 (r0, ()))) (kk (.exit 0) (PkS.pack Tlaws_eqMoveS_l4_1 ()))
  | none => none
theorem elaws_eqMoveS_l4 (laws_eqMove : ∀ {R : Type}, Nat → Int → Int → Int → Int → Int → Int → (Bool → Option R) → Option R) (laws_eqMoveS_l4 : ∀ {R : Type}, Nat → (List (Int × Int × Int)) → (List (Int × Int × Int)) → Int → (Bool → Option R) → (Option R) → Option R) {R : Type} (n : Nat) (y4_0 : List (Int × Int × Int)) (y4_1 : List (Int × Int × Int)) (y4_2 : Int) (kk : Ex → Pk → Option R) : Dlaws_eqMoveS_l4.step tt sig (mkK [(88, Klaws_eqMove @laws_eqMove n)] R) (mkL (mkK [(88, Klaws_eqMove @laws_eqMove n)]) [] R) (loopIn 4 (bodyOf Try.f28)) (fun q' => Plaws_eqMoveS_l4 @laws_eqMoveS_l4 n R q' kk) (PkS.pack Slaws_eqMoveS_l4 (y4_0, y4_1, y4_2, ())) kk = (fun (kret : Bool → Option R) (kexit0 : Option R) => (bif (decide (y4_2 < (y4_0.length : Int))) then (bif decide (0 ≤ y4_2) then (bif decide (y4_2 < (y4_0.length : Int)) then (bif decide (0 ≤ y4_2) then (bif decide (y4_2 < (y4_1.length : Int)) then (laws_eqMove n ((y4_0.getD (Int.toNat y4_2) (0, (0, 0))).1) ((y4_0.getD (Int.toNat y4_2) (0, (0, 0))).2.1) ((y4_0.getD (Int.toNat y4_2) (0, (0, 0))).2.2) ((y4_1.getD (Int.toNat y4_2) (0, (0, 0))).1) ((y4_1.getD (Int.toNat y4_2) (0, (0, 0))).2.1) ((y4_1.getD (Int.toNat y4_2) (0, (0, 0))).2.2) fun r1 => (bif (!r1) then kret false else laws_eqMoveS_l4 n y4_0 y4_1 (IntKind.wrap .i64 (y4_2 + 1)) kret kexit0)) else none) else none) else none) else none) else kexit0)) (fun r0 => kk .ret (PkS.pack Tlaws_eqMoveS_l4_0 (r0, ()))) (kk (.exit 0) (PkS.pack Tlaws_eqMoveS_l4_1 ())) := by kernel_rfl
theorem lelaws_eqMoveS_l4 : LoopEq tt sig (fun n => mkK [(88, Klaws_eqMove @laws_eqMove n)]) (fun n => mkL (mkK [(88, Klaws_eqMove @laws_eqMove n)]) []) Dlaws_eqMoveS_l4 Slaws_eqMoveS_l4 (loopIn 4 (bodyOf Try.f28)) (Plaws_eqMoveS_l4 @laws_eqMoveS_l4) where
  zero R q kk := by unfold Plaws_eqMoveS_l4; cases (PkS.un Slaws_eqMoveS_l4 q) <;> rfl
  succ n R q kk := by
    unfold Plaws_eqMoveS_l4
    cases h : (PkS.un Slaws_eqMoveS_l4 q) with
    | none => rfl
    | some d =>
      obtain ⟨y4_0, y4_1, y4_2, u⟩ := (d : (List (Int × Int × Int)) × (List (Int × Int × Int)) × Int × Unit)
      have hp := PkS.un_pack h
      subst hp
      exact (elaws_eqMoveS_l4 @laws_eqMove @laws_eqMoveS_l4 n y4_0 y4_1 y4_2 kk).symm
theorem nllaws_eqMoveS_l4 : ∀ n, NatLP (Plaws_eqMoveS_l4 @laws_eqMoveS_l4 n) := lelaws_eqMoveS_l4.nat (fun n => mkK_nat (claws_eqMoveS n)) fun n => mkL_nat (mkK_nat (claws_eqMoveS n)) (l := []) trivial
theorem inlaws_eqMoveS_l4 (n : Nat) (R : Type) : LoopsOk Try.prog (mkL (mkK [(88, Klaws_eqMove @laws_eqMove n)]) [] R) (loopIn 4 (bodyOf Try.f28)) := .eq (l := []) (by kernel_rfl) trivial
theorem lklaws_eqMoveS_l4 (n : Nat) (R : Type) (L0 : LK R) (h0 : ∀ id, firstRegion (loopIn 4 (bodyOf Try.f28)) = some id → L0 id = Dlaws_eqMoveS_l4.oracle (mkK [(88, Klaws_eqMove @laws_eqMove n)] R) (Plaws_eqMoveS_l4 @laws_eqMoveS_l4 n R)) : LoopOk Try.prog L0 (loopIn 4 (bodyOf Try.f28)) :=
  lelaws_eqMoveS_l4.ok mixed ttok (fun n => mkK_nat (claws_eqMoveS n)) (fun n => mkK_ok (claws_eqMoveS n)) (fun n => inlaws_eqMoveS_l4 n R) (mkK_nat (claws_eqMoveS n)) h0
@[reducible] def Slaws_eqMoveS : PkS := ⟨[.one (.ro (.pr (.int .i64) (.pr (.int .i64) (.int .i64)))), .one (.ro (.pr (.int .i64) (.pr (.int .i64) (.int .i64))))], []⟩
@[reducible] def Tlaws_eqMoveS : PkS := ⟨[.one (.bool), .one (.dead), .one (.dead)], []⟩
def Hlaws_eqMoveS : List Sh := [.one .any, .skip, .skip]
def Klaws_eqMoveS (g : ∀ {R : Type}, Nat → (List (Int × Int × Int)) → (List (Int × Int × Int)) → (Bool → Option R) → Option R) (n : Nat) : KPs := fun R p k => match (PkS.un Slaws_eqMoveS p : Option ((List (Int × Int × Int)) × (List (Int × Int × Int)) × Unit)) with
  | some (x0, x1, _) => g n x0 x1 (fun r0 => k (PkS.pack Tlaws_eqMoveS (r0, ())))
  | none => none
theorem elaws_eqMoveS (laws_eqMove : ∀ {R : Type}, Nat → Int → Int → Int → Int → Int → Int → (Bool → Option R) → Option R) (laws_eqMoveS_l4 : ∀ {R : Type}, Nat → (List (Int × Int × Int)) → (List (Int × Int × Int)) → Int → (Bool → Option R) → (Option R) → Option R) {R : Type} (n : Nat) (x0 : List (Int × Int × Int)) (x1 : List (Int × Int × Int)) (k : Pk → Option R) : evF tt sig (mkK [(88, Klaws_eqMove @laws_eqMove n)] R) (mkL (mkK [(88, Klaws_eqMove @laws_eqMove n)]) [(4, Dlaws_eqMoveS_l4, Plaws_eqMoveS_l4 @laws_eqMoveS_l4 n)] R) Try.f28 Hlaws_eqMoveS (PkS.pack Slaws_eqMoveS (x0, x1, ())) k = (fun (k : Bool → Option R) => (bif ((x0.length : Int) != (x1.length : Int)) then k false else (laws_eqMoveS_l4 n x0 x1 0 (fun r2 => k r2) (k true)))) (fun r0 => k (PkS.pack Tlaws_eqMoveS (r0, ()))) := by kernel_rfl
theorem oklaws_eqMoveS (n : Nat) : FnOk Try.prog 28 (Klaws_eqMoveS @laws_eqMoveS n) := by
  refine fn_ok (sig := sig) mixed ttok (mkK_nat (claws_eqMoveS n)) (mkK_ok (claws_eqMoveS n)) (mkL_nat (mkK_nat (claws_eqMoveS n)) (l := [(4, Dlaws_eqMoveS_l4, Plaws_eqMoveS_l4 @laws_eqMoveS_l4 n)]) ⟨nllaws_eqMoveS_l4 n, trivial⟩) (fn := Try.f28) (c := bodyOf Try.f28) (by kernel_rfl) (by kernel_rfl) (by kernel_rfl) (.eq (l := [.lo (loopIn 4 (bodyOf Try.f28))]) (by kernel_rfl) ⟨(lklaws_eqMoveS_l4 n _ _ (at_id (i := 4) (by kernel_rfl) rfl)), trivial⟩) (shs := Hlaws_eqMoveS) (S := Slaws_eqMoveS) (h1 := by kernel_rfl) fun R p k => ?_
  unfold Klaws_eqMoveS
  cases h : (PkS.un Slaws_eqMoveS p) with
  | none => rfl
  | some d =>
    obtain ⟨x0, x1, u⟩ := (d : (List (Int × Int × Int)) × (List (Int × Int × Int)) × Unit)
    have hp := PkS.un_pack h
    subst hp
    exact (elaws_eqMoveS @laws_eqMove @laws_eqMoveS_l4 n x0 x1 k).symm

/-! ### loop.example/g00269/laws.eqSaga -/
theorem claws_eqSaga (n : Nat) : AllOk Try.prog [(27, Klaws_eqIntS @laws_eqIntS n), (28, Klaws_eqMoveS @laws_eqMoveS n)] := ⟨oklaws_eqIntS n, ⟨oklaws_eqMoveS n, trivial⟩⟩
@[reducible] def Slaws_eqSaga : PkS := ⟨[.agg [.ro (.int .i64), .ro (.pr (.int .i64) (.pr (.int .i64) (.int .i64))), .int .i64, .bool], .agg [.ro (.int .i64), .ro (.pr (.int .i64) (.pr (.int .i64) (.int .i64))), .int .i64, .bool]], []⟩
@[reducible] def Tlaws_eqSaga : PkS := ⟨[.one (.bool), .one (.dead), .one (.dead)], []⟩
def Hlaws_eqSaga : List Sh := [.one .any, .skip, .skip]
def Klaws_eqSaga (g : ∀ {R : Type}, Nat → (List Int) → (List (Int × Int × Int)) → Int → Bool → (List Int) → (List (Int × Int × Int)) → Int → Bool → (Bool → Option R) → Option R) (n : Nat) : KPs := fun R p k => match (PkS.un Slaws_eqSaga p : Option ((List Int) × (List (Int × Int × Int)) × Int × Bool × (List Int) × (List (Int × Int × Int)) × Int × Bool × Unit)) with
  | some (x0, x1, x2, x3, x4, x5, x6, x7, _) => g n x0 x1 x2 x3 x4 x5 x6 x7 (fun r0 => k (PkS.pack Tlaws_eqSaga (r0, ())))
  | none => none
theorem elaws_eqSaga (laws_eqIntS : ∀ {R : Type}, Nat → (List Int) → (List Int) → (Bool → Option R) → Option R) (laws_eqMoveS : ∀ {R : Type}, Nat → (List (Int × Int × Int)) → (List (Int × Int × Int)) → (Bool → Option R) → Option R) {R : Type} (n : Nat) (x0 : List Int) (x1 : List (Int × Int × Int)) (x2 : Int) (x3 : Bool) (x4 : List Int) (x5 : List (Int × Int × Int)) (x6 : Int) (x7 : Bool) (k : Pk → Option R) : evF tt sig (mkK [(27, Klaws_eqIntS @laws_eqIntS n), (28, Klaws_eqMoveS @laws_eqMoveS n)] R) (mkL (mkK [(27, Klaws_eqIntS @laws_eqIntS n), (28, Klaws_eqMoveS @laws_eqMoveS n)]) [] R) Try.f17 Hlaws_eqSaga (PkS.pack Slaws_eqSaga (x0, x1, x2, x3, x4, x5, x6, x7, ())) k = (fun (k : Bool → Option R) => (laws_eqIntS n x0 x4 fun r1 => (bif (!r1) then k false else (laws_eqMoveS n x1 x5 fun r2 => (bif (!r2) then k false else (bif (x2 != x6) then k false else (bif (!(x3 == x7)) then k false else k true))))))) (fun r0 => k (PkS.pack Tlaws_eqSaga (r0, ()))) := by kernel_rfl
theorem oklaws_eqSaga (n : Nat) : FnOk Try.prog 17 (Klaws_eqSaga @laws_eqSaga n) := by
  refine fn_ok (sig := sig) mixed ttok (mkK_nat (claws_eqSaga n)) (mkK_ok (claws_eqSaga n)) (mkL_nat (mkK_nat (claws_eqSaga n)) (l := []) trivial) (fn := Try.f17) (c := bodyOf Try.f17) (by kernel_rfl) (by kernel_rfl) (by kernel_rfl) (.eq (l := []) (by kernel_rfl) trivial) (shs := Hlaws_eqSaga) (S := Slaws_eqSaga) (h1 := by kernel_rfl) fun R p k => ?_
  unfold Klaws_eqSaga
  cases h : (PkS.un Slaws_eqSaga p) with
  | none => rfl
  | some d =>
    obtain ⟨x0, x1, x2, x3, x4, x5, x6, x7, u⟩ := (d : (List Int) × (List (Int × Int × Int)) × Int × Bool × (List Int) × (List (Int × Int × Int)) × Int × Bool × Unit)
    have hp := PkS.un_pack h
    subst hp
    exact (elaws_eqSaga @laws_eqIntS @laws_eqMoveS n x0 x1 x2 x3 x4 x5 x6 x7 k).symm

/-! ### loop.example/g00269/laws.markIntS -/
theorem claws_markIntS (n : Nat) : AllOk Try.prog [] := trivial
@[reducible] def Slaws_markIntS_l2 : PkS := ⟨[.one (.whole (100000, 0)), .one (.int .i64), .one (.int .i64), .one (.whole (100000, 0)), .one (.dead)], [((100000, 0), .arr (.int .i64))]⟩
@[reducible] def Tlaws_markIntS_l2_0 : PkS := ⟨[.one (.int .i64), .one (.whole (100000, 0)), .one (.dead)], [((100000, 0), .arr (.int .i64))]⟩
def Dlaws_markIntS_l2 : LoopD := ⟨19, [0, 1, 5], [.one (.own (.int .i64)), .one .any, .one .any, .one (.own (.int .i64)), .skip], fun x => match x with
  | .exit 0 => some ([1], [.one .any, .one (.own (.int .i64)), .skip])
  | _ => none⟩
def Plaws_markIntS_l2 (g : ∀ {R : Type}, Nat → Int → Int → (List Int) → (Int → (List Int) → Option R) → Option R) (n : Nat) : LPs := fun R q kk => match (PkS.un Slaws_markIntS_l2 q : Option (Int × Int × (List Int) × Unit)) with
  | some (y2_0, y2_1, y2_2, _) => g n y2_0 y2_1 y2_2 (fun r0 r1 => kk (.exit 0) (PkS.pack Tlaws_markIntS_l2_0 (r0, r1, ())))
  | none => none
theorem elaws_markIntS_l2 (laws_markIntS_l2 : ∀ {R : Type}, Nat → Int → Int → (List Int) → (Int → (List Int) → Option R) → Option R) {R : Type} (n : Nat) (y2_0 : Int) (y2_1 : Int) (y2_2 : List Int) (kk : Ex → Pk → Option R) : Dlaws_markIntS_l2.step tt sig (mkK [] R) (mkL (mkK []) [] R) (loopIn 2 (bodyOf Try.f29)) (fun q' => Plaws_markIntS_l2 @laws_markIntS_l2 n R q' kk) (PkS.pack Slaws_markIntS_l2 (y2_0, y2_1, y2_2, ())) kk = (fun (kexit0 : Int → (List Int) → Option R) => (bif (decide (y2_1 < (y2_2.length : Int))) then (bif decide (0 ≤ y2_1) then (bif decide (y2_1 < (y2_2.length : Int)) then laws_markIntS_l2 n (IntKind.wrap .i64 (y2_0 + 1)) (IntKind.wrap .i64 (y2_1 + 1)) (y2_2.set (Int.toNat y2_1) y2_0) kexit0 else none) else none) else kexit0 y2_0 y2_2)) (fun r0 r1 => kk (.exit 0) (PkS.pack Tlaws_markIntS_l2_0 (r0, r1, ()))) := by kernel_rfl
theorem lelaws_markIntS_l2 : LoopEq tt sig (fun n => mkK []) (fun n => mkL (mkK []) []) Dlaws_markIntS_l2 Slaws_markIntS_l2 (loopIn 2 (bodyOf Try.f29)) (Plaws_markIntS_l2 @laws_markIntS_l2) where
  zero R q kk := by unfold Plaws_markIntS_l2; cases (PkS.un Slaws_markIntS_l2 q) <;> rfl
  succ n R q kk := by
    unfold Plaws_markIntS_l2
    cases h : (PkS.un Slaws_markIntS_l2 q) with
    | none => rfl
    | some d =>
      obtain ⟨y2_0, y2_1, y2_2, u⟩ := (d : Int × Int × (List Int) × Unit)
      have hp := PkS.un_pack h
      subst hp
      exact (elaws_markIntS_l2 @laws_markIntS_l2 n y2_0 y2_1 y2_2 kk).symm
theorem nllaws_markIntS_l2 : ∀ n, NatLP (Plaws_markIntS_l2 @laws_markIntS_l2 n) := lelaws_markIntS_l2.nat (fun n => mkK_nat (claws_markIntS n)) fun n => mkL_nat (mkK_nat (claws_markIntS n)) (l := []) trivial
theorem inlaws_markIntS_l2 (n : Nat) (R : Type) : LoopsOk Try.prog (mkL (mkK []) [] R) (loopIn 2 (bodyOf Try.f29)) := .eq (l := []) (by kernel_rfl) trivial
theorem lklaws_markIntS_l2 (n : Nat) (R : Type) (L0 : LK R) (h0 : ∀ id, firstRegion (loopIn 2 (bodyOf Try.f29)) = some id → L0 id = Dlaws_markIntS_l2.oracle (mkK [] R) (Plaws_markIntS_l2 @laws_markIntS_l2 n R)) : LoopOk Try.prog L0 (loopIn 2 (bodyOf Try.f29)) :=
  lelaws_markIntS_l2.ok mixed ttok (fun n => mkK_nat (claws_markIntS n)) (fun n => mkK_ok (claws_markIntS n)) (fun n => inlaws_markIntS_l2 n R) (mkK_nat (claws_markIntS n)) h0
@[reducible] def Slaws_markIntS : PkS := ⟨[.one (.whole (200000, 0)), .one (.int .i64)], [((200000, 0), .arr (.int .i64))]⟩
@[reducible] def Tlaws_markIntS : PkS := ⟨[.one (.int .i64), .one (.whole (300000, 0)), .one (.dead)], [((300000, 0), .arr (.int .i64))]⟩
def Hlaws_markIntS : List Sh := [.one .any, .one (.own (.int .i64)), .skip]
def Klaws_markIntS (g : ∀ {R : Type}, Nat → Int → (List Int) → (Int → (List Int) → Option R) → Option R) (n : Nat) : KPs := fun R p k => match (PkS.un Slaws_markIntS p : Option (Int × (List Int) × Unit)) with
  | some (x0, x1, _) => g n x0 x1 (fun r0 r1 => k (PkS.pack Tlaws_markIntS (r0, r1, ())))
  | none => none
theorem elaws_markIntS (laws_markIntS_l2 : ∀ {R : Type}, Nat → Int → Int → (List Int) → (Int → (List Int) → Option R) → Option R) {R : Type} (n : Nat) (x0 : Int) (x1 : List Int) (k : Pk → Option R) : evF tt sig (mkK [] R) (mkL (mkK []) [(2, Dlaws_markIntS_l2, Plaws_markIntS_l2 @laws_markIntS_l2 n)] R) Try.f29 Hlaws_markIntS (PkS.pack Slaws_markIntS (x0, x1, ())) k = (fun (k : Int → (List Int) → Option R) => (laws_markIntS_l2 n x0 0 x1 (fun r1 r2 => k r1 r2))) (fun r0 r1 => k (PkS.pack Tlaws_markIntS (r0, r1, ()))) := by kernel_rfl
theorem oklaws_markIntS (n : Nat) : FnOk Try.prog 29 (Klaws_markIntS @laws_markIntS n) := by
  refine fn_ok (sig := sig) mixed ttok (mkK_nat (claws_markIntS n)) (mkK_ok (claws_markIntS n)) (mkL_nat (mkK_nat (claws_markIntS n)) (l := [(2, Dlaws_markIntS_l2, Plaws_markIntS_l2 @laws_markIntS_l2 n)]) ⟨nllaws_markIntS_l2 n, trivial⟩) (fn := Try.f29) (c := bodyOf Try.f29) (by kernel_rfl) (by kernel_rfl) (by kernel_rfl) (.eq (l := [.lo (loopIn 2 (bodyOf Try.f29))]) (by kernel_rfl) ⟨(lklaws_markIntS_l2 n _ _ (at_id (i := 2) (by kernel_rfl) rfl)), trivial⟩) (shs := Hlaws_markIntS) (S := Slaws_markIntS) (h1 := by kernel_rfl) fun R p k => ?_
  unfold Klaws_markIntS
  cases h : (PkS.un Slaws_markIntS p) with
  | none => rfl
  | some d =>
    obtain ⟨x0, x1, u⟩ := (d : Int × (List Int) × Unit)
    have hp := PkS.un_pack h
    subst hp
    exact (elaws_markIntS @laws_markIntS_l2 n x0 x1 k).symm

/-! ### loop.example/g00269/laws.markMoveS -/
theorem claws_markMoveS (n : Nat) : AllOk Try.prog [] := trivial
@[reducible] def Slaws_markMoveS_l2 : PkS := ⟨[.one (.whole (100000, 0)), .one (.int .i64), .one (.int .i64), .one (.whole (100000, 0)), .one (.dead)], [((100000, 0), .arr (.pr (.int .i64) (.pr (.int .i64) (.int .i64))))]⟩
@[reducible] def Tlaws_markMoveS_l2_0 : PkS := ⟨[.one (.int .i64), .one (.whole (100000, 0)), .one (.dead)], [((100000, 0), .arr (.pr (.int .i64) (.pr (.int .i64) (.int .i64))))]⟩
def Dlaws_markMoveS_l2 : LoopD := ⟨34, [0, 1, 5], [.one (.own (.pr (.int .i64) (.pr (.int .i64) (.int .i64)))), .one .any, .one .any, .one (.own (.pr (.int .i64) (.pr (.int .i64) (.int .i64)))), .skip], fun x => match x with
  | .exit 0 => some ([1], [.one .any, .one (.own (.pr (.int .i64) (.pr (.int .i64) (.int .i64)))), .skip])
  | _ => none⟩
def Plaws_markMoveS_l2 (g : ∀ {R : Type}, Nat → Int → Int → (List (Int × Int × Int)) → (Int → (List (Int × Int × Int)) → Option R) → Option R) (n : Nat) : LPs := fun R q kk => match (PkS.un Slaws_markMoveS_l2 q : Option (Int × Int × (List (Int × Int × Int)) × Unit)) with
  | some (y2_0, y2_1, y2_2, _) => g n y2_0 y2_1 y2_2 (fun r0 r1 => kk (.exit 0) (PkS.pack Tlaws_markMoveS_l2_0 (r0, r1, ())))
  | none => none
theorem elaws_markMoveS_l2 (laws_markMoveS_l2 : ∀ {R : Type}, Nat → Int → Int → (List (Int × Int × Int)) → (Int → (List (Int × Int × Int)) → Option R) → Option R) {R : Type} (n : Nat) (y2_0 : Int) (y2_1 : Int) (y2_2 : List (Int × Int × Int)) (kk : Ex → Pk → Option R) : Dlaws_markMoveS_l2.step tt sig (mkK [] R) (mkL (mkK []) [] R) (loopIn 2 (bodyOf Try.f30)) (fun q' => Plaws_markMoveS_l2 @laws_markMoveS_l2 n R q' kk) (PkS.pack Slaws_markMoveS_l2 (y2_0, y2_1, y2_2, ())) kk = (fun (kexit0 : Int → (List (Int × Int × Int)) → Option R) => (bif (decide (y2_1 < (y2_2.length : Int))) then (bif decide (0 ≤ y2_1) then (bif decide (y2_1 < (y2_2.length : Int)) then (bif decide (0 ≤ y2_1) then (bif decide (y2_1 < ((y2_2.set (Int.toNat y2_1) (y2_0, (y2_2.getD (Int.toNat y2_1) (0, (0, 0))).2)).length : Int)) then (bif decide (0 ≤ y2_1) then (bif decide (y2_1 < (((y2_2.set (Int.toNat y2_1) (y2_0, (y2_2.getD (Int.toNat y2_1) (0, (0, 0))).2)).set (Int.toNat y2_1) (((y2_2.set (Int.toNat y2_1) (y2_0, (y2_2.getD (Int.toNat y2_1) (0, (0, 0))).2)).getD (Int.toNat y2_1) (0, (0, 0))).1, ((IntKind.wrap .i64 (y2_0 + 1)), ((y2_2.set (Int.toNat y2_1) (y2_0, (y2_2.getD (Int.toNat y2_1) (0, (0, 0))).2)).getD (Int.toNat y2_1) (0, (0, 0))).2.2))).length : Int)) then laws_markMoveS_l2 n (IntKind.wrap .i64 ((IntKind.wrap .i64 ((IntKind.wrap .i64 (y2_0 + 1)) + 1)) + 1)) (IntKind.wrap .i64 (y2_1 + 1)) (((y2_2.set (Int.toNat y2_1) (y2_0, (y2_2.getD (Int.toNat y2_1) (0, (0, 0))).2)).set (Int.toNat y2_1) (((y2_2.set (Int.toNat y2_1) (y2_0, (y2_2.getD (Int.toNat y2_1) (0, (0, 0))).2)).getD (Int.toNat y2_1) (0, (0, 0))).1, ((IntKind.wrap .i64 (y2_0 + 1)), ((y2_2.set (Int.toNat y2_1) (y2_0, (y2_2.getD (Int.toNat y2_1) (0, (0, 0))).2)).getD (Int.toNat y2_1) (0, (0, 0))).2.2))).set (Int.toNat y2_1) ((((y2_2.set (Int.toNat y2_1) (y2_0, (y2_2.getD (Int.toNat y2_1) (0, (0, 0))).2)).set (Int.toNat y2_1) (((y2_2.set (Int.toNat y2_1) (y2_0, (y2_2.getD (Int.toNat y2_1) (0, (0, 0))).2)).getD (Int.toNat y2_1) (0, (0, 0))).1, ((IntKind.wrap .i64 (y2_0 + 1)), ((y2_2.set (Int.toNat y2_1) (y2_0, (y2_2.getD (Int.toNat y2_1) (0, (0, 0))).2)).getD (Int.toNat y2_1) (0, (0, 0))).2.2))).getD (Int.toNat y2_1) (0, (0, 0))).1, ((((y2_2.set (Int.toNat y2_1) (y2_0, (y2_2.getD (Int.toNat y2_1) (0, (0, 0))).2)).set (Int.toNat y2_1) (((y2_2.set (Int.toNat y2_1) (y2_0, (y2_2.getD (Int.toNat y2_1) (0, (0, 0))).2)).getD (Int.toNat y2_1) (0, (0, 0))).1, ((IntKind.wrap .i64 (y2_0 + 1)), ((y2_2.set (Int.toNat y2_1) (y2_0, (y2_2.getD (Int.toNat y2_1) (0, (0, 0))).2)).getD (Int.toNat y2_1) (0, (0, 0))).2.2))).getD (Int.toNat y2_1) (0, (0, 0))).2.1, (IntKind.wrap .i64 ((IntKind.wrap .i64 (y2_0 + 1)) + 1))))) kexit0 else none) else none) else none) else none) else none) else none) else kexit0 y2_0 y2_2)) (fun r0 r1 => kk (.exit 0) (PkS.pack Tlaws_markMoveS_l2_0 (r0, r1, ()))) := by kernel_rfl
theorem lelaws_markMoveS_l2 : LoopEq tt sig (fun n => mkK []) (fun n => mkL (mkK []) []) Dlaws_markMoveS_l2 Slaws_markMoveS_l2 (loopIn 2 (bodyOf Try.f30)) (Plaws_markMoveS_l2 @laws_markMoveS_l2) where
  zero R q kk := by unfold Plaws_markMoveS_l2; cases (PkS.un Slaws_markMoveS_l2 q) <;> rfl
  succ n R q kk := by
    unfold Plaws_markMoveS_l2
    cases h : (PkS.un Slaws_markMoveS_l2 q) with
    | none => rfl
    | some d =>
      obtain ⟨y2_0, y2_1, y2_2, u⟩ := (d : Int × Int × (List (Int × Int × Int)) × Unit)
      have hp := PkS.un_pack h
      subst hp
      exact (elaws_markMoveS_l2 @laws_markMoveS_l2 n y2_0 y2_1 y2_2 kk).symm
theorem nllaws_markMoveS_l2 : ∀ n, NatLP (Plaws_markMoveS_l2 @laws_markMoveS_l2 n) := lelaws_markMoveS_l2.nat (fun n => mkK_nat (claws_markMoveS n)) fun n => mkL_nat (mkK_nat (claws_markMoveS n)) (l := []) trivial
theorem inlaws_markMoveS_l2 (n : Nat) (R : Type) : LoopsOk Try.prog (mkL (mkK []) [] R) (loopIn 2 (bodyOf Try.f30)) := .eq (l := []) (by kernel_rfl) trivial
theorem lklaws_markMoveS_l2 (n : Nat) (R : Type) (L0 : LK R) (h0 : ∀ id, firstRegion (loopIn 2 (bodyOf Try.f30)) = some id → L0 id = Dlaws_markMoveS_l2.oracle (mkK [] R) (Plaws_markMoveS_l2 @laws_markMoveS_l2 n R)) : LoopOk Try.prog L0 (loopIn 2 (bodyOf Try.f30)) :=
  lelaws_markMoveS_l2.ok mixed ttok (fun n => mkK_nat (claws_markMoveS n)) (fun n => mkK_ok (claws_markMoveS n)) (fun n => inlaws_markMoveS_l2 n R) (mkK_nat (claws_markMoveS n)) h0
@[reducible] def Slaws_markMoveS : PkS := ⟨[.one (.whole (200000, 0)), .one (.int .i64)], [((200000, 0), .arr (.pr (.int .i64) (.pr (.int .i64) (.int .i64))))]⟩
@[reducible] def Tlaws_markMoveS : PkS := ⟨[.one (.int .i64), .one (.whole (300000, 0)), .one (.dead)], [((300000, 0), .arr (.pr (.int .i64) (.pr (.int .i64) (.int .i64))))]⟩
def Hlaws_markMoveS : List Sh := [.one .any, .one (.own (.pr (.int .i64) (.pr (.int .i64) (.int .i64)))), .skip]
def Klaws_markMoveS (g : ∀ {R : Type}, Nat → Int → (List (Int × Int × Int)) → (Int → (List (Int × Int × Int)) → Option R) → Option R) (n : Nat) : KPs := fun R p k => match (PkS.un Slaws_markMoveS p : Option (Int × (List (Int × Int × Int)) × Unit)) with
  | some (x0, x1, _) => g n x0 x1 (fun r0 r1 => k (PkS.pack Tlaws_markMoveS (r0, r1, ())))
  | none => none
theorem elaws_markMoveS (laws_markMoveS_l2 : ∀ {R : Type}, Nat → Int → Int → (List (Int × Int × Int)) → (Int → (List (Int × Int × Int)) → Option R) → Option R) {R : Type} (n : Nat) (x0 : Int) (x1 : List (Int × Int × Int)) (k : Pk → Option R) : evF tt sig (mkK [] R) (mkL (mkK []) [(2, Dlaws_markMoveS_l2, Plaws_markMoveS_l2 @laws_markMoveS_l2 n)] R) Try.f30 Hlaws_markMoveS (PkS.pack Slaws_markMoveS (x0, x1, ())) k = (fun (k : Int → (List (Int × Int × Int)) → Option R) => (laws_markMoveS_l2 n x0 0 x1 (fun r1 r2 => k r1 r2))) (fun r0 r1 => k (PkS.pack Tlaws_markMoveS (r0, r1, ()))) := by kernel_rfl
theorem oklaws_markMoveS (n : Nat) : FnOk Try.prog 30 (Klaws_markMoveS @laws_markMoveS n) := by
  refine fn_ok (sig := sig) mixed ttok (mkK_nat (claws_markMoveS n)) (mkK_ok (claws_markMoveS n)) (mkL_nat (mkK_nat (claws_markMoveS n)) (l := [(2, Dlaws_markMoveS_l2, Plaws_markMoveS_l2 @laws_markMoveS_l2 n)]) ⟨nllaws_markMoveS_l2 n, trivial⟩) (fn := Try.f30) (c := bodyOf Try.f30) (by kernel_rfl) (by kernel_rfl) (by kernel_rfl) (.eq (l := [.lo (loopIn 2 (bodyOf Try.f30))]) (by kernel_rfl) ⟨(lklaws_markMoveS_l2 n _ _ (at_id (i := 2) (by kernel_rfl) rfl)), trivial⟩) (shs := Hlaws_markMoveS) (S := Slaws_markMoveS) (h1 := by kernel_rfl) fun R p k => ?_
  unfold Klaws_markMoveS
  cases h : (PkS.un Slaws_markMoveS p) with
  | none => rfl
  | some d =>
    obtain ⟨x0, x1, u⟩ := (d : Int × (List (Int × Int × Int)) × Unit)
    have hp := PkS.un_pack h
    subst hp
    exact (elaws_markMoveS @laws_markMoveS_l2 n x0 x1 k).symm

/-! ### loop.example/g00269/laws.markSaga -/
theorem claws_markSaga (n : Nat) : AllOk Try.prog [(29, Klaws_markIntS @laws_markIntS n), (30, Klaws_markMoveS @laws_markMoveS n)] := ⟨oklaws_markIntS n, ⟨oklaws_markMoveS n, trivial⟩⟩
@[reducible] def Slaws_markSaga : PkS := ⟨[.agg [.whole (200000, 0), .whole (200000, 1), .int .i64, .bool], .one (.int .i64)], [((200000, 0), .arr (.int .i64)), ((200000, 1), .arr (.pr (.int .i64) (.pr (.int .i64) (.int .i64))))]⟩
@[reducible] def Tlaws_markSaga : PkS := ⟨[.one (.int .i64), .agg [.whole (300000, 0), .whole (300000, 1), .int .i64, .bool], .one (.dead)], [((300000, 0), .arr (.int .i64)), ((300000, 1), .arr (.pr (.int .i64) (.pr (.int .i64) (.int .i64))))]⟩
def Hlaws_markSaga : List Sh := [.one .any, .agg [(.own (.int .i64)), (.own (.pr (.int .i64) (.pr (.int .i64) (.int .i64)))), .any, .any], .skip]
def Klaws_markSaga (g : ∀ {R : Type}, Nat → Int → Bool → Int → (List Int) → (List (Int × Int × Int)) → (Int → Int → Bool → (List Int) → (List (Int × Int × Int)) → Option R) → Option R) (n : Nat) : KPs := fun R p k => match (PkS.un Slaws_markSaga p : Option (Int × Bool × Int × (List Int) × (List (Int × Int × Int)) × Unit)) with
  | some (x0, x1, x2, x3, x4, _) => g n x0 x1 x2 x3 x4 (fun r0 r1 r2 r3 r4 => k (PkS.pack Tlaws_markSaga (r0, r1, r2, r3, r4, ())))
  | none => none
theorem elaws_markSaga (laws_markIntS : ∀ {R : Type}, Nat → Int → (List Int) → (Int → (List Int) → Option R) → Option R) (laws_markMoveS : ∀ {R : Type}, Nat → Int → (List (Int × Int × Int)) → (Int → (List (Int × Int × Int)) → Option R) → Option R) {R : Type} (n : Nat) (x0 : Int) (x1 : Bool) (x2 : Int) (x3 : List Int) (x4 : List (Int × Int × Int)) (k : Pk → Option R) : evF tt sig (mkK [(29, Klaws_markIntS @laws_markIntS n), (30, Klaws_markMoveS @laws_markMoveS n)] R) (mkL (mkK [(29, Klaws_markIntS @laws_markIntS n), (30, Klaws_markMoveS @laws_markMoveS n)]) [] R) Try.f31 Hlaws_markSaga (PkS.pack Slaws_markSaga (x0, x1, x2, x3, x4, ())) k = (fun (k : Int → Int → Bool → (List Int) → (List (Int × Int × Int)) → Option R) => (laws_markIntS n x2 x3 fun r1 r2 => (laws_markMoveS n r1 x4 fun r3 r4 => k r3 x0 x1 r2 r4))) (fun r0 r1 r2 r3 r4 => k (PkS.pack Tlaws_markSaga (r0, r1, r2, r3, r4, ()))) := by kernel_rfl
theorem oklaws_markSaga (n : Nat) : FnOk Try.prog 31 (Klaws_markSaga @laws_markSaga n) := by
  refine fn_ok (sig := sig) mixed ttok (mkK_nat (claws_markSaga n)) (mkK_ok (claws_markSaga n)) (mkL_nat (mkK_nat (claws_markSaga n)) (l := []) trivial) (fn := Try.f31) (c := bodyOf Try.f31) (by kernel_rfl) (by kernel_rfl) (by kernel_rfl) (.eq (l := []) (by kernel_rfl) trivial) (shs := Hlaws_markSaga) (S := Slaws_markSaga) (h1 := by kernel_rfl) fun R p k => ?_
  unfold Klaws_markSaga
  cases h : (PkS.un Slaws_markSaga p) with
  | none => rfl
  | some d =>
    obtain ⟨x0, x1, x2, x3, x4, u⟩ := (d : Int × Bool × Int × (List Int) × (List (Int × Int × Int)) × Unit)
    have hp := PkS.un_pack h
    subst hp
    exact (elaws_markSaga @laws_markIntS @laws_markMoveS n x0 x1 x2 x3 x4 k).symm

/-! ### loop.example/g00269/laws.heldIntS -/
theorem claws_heldIntS (n : Nat) : AllOk Try.prog [] := trivial
@[reducible] def Slaws_heldIntS_l2 : PkS := ⟨[.one (.ro (.int .i64)), .one (.int .i64), .one (.int .i64), .one (.dead), .one (.dead)], []⟩
@[reducible] def Tlaws_heldIntS_l2_0 : PkS := ⟨[.one (.int .i64), .one (.dead), .one (.dead)], []⟩
@[reducible] def Tlaws_heldIntS_l2_1 : PkS := ⟨[.one (.int .i64), .one (.dead), .one (.dead)], []⟩
def Dlaws_heldIntS_l2 : LoopD := ⟨21, [0, 1, 5], [.one (.ro (.int .i64)), .one .any, .one .any, .skip, .skip], fun x => match x with
  | .ret => some ([4], [.one .any, .skip, .skip])
  | .exit 0 => some ([1], [.one .any, .skip, .skip])
  | _ => none⟩
def Plaws_heldIntS_l2 (g : ∀ {R : Type}, Nat → (List Int) → Int → Int → (Int → Option R) → (Int → Option R) → Option R) (n : Nat) : LPs := fun R q kk => match (PkS.un Slaws_heldIntS_l2 q : Option ((List Int) × Int × Int × Unit)) with
  | some (y2_0, y2_1, y2_2, _) => g n y2_0 y2_1 y2_2 (fun r0 => kk .ret (PkS.pack Tlaws_heldIntS_l2_0 (r0, ()))) (fun r0 => kk (.exit 0) (PkS.pack Tlaws_heldIntS_l2_1 (r0, ())))
  | none => none
theorem elaws_heldIntS_l2 (laws_heldIntS_l2 : ∀ {R : Type}, Nat → (List Int) → Int → Int → (Int → Option R) → (Int → Option R) → Option R) {R : Type} (n : Nat) (y2_0 : List Int) (y2_1 : Int) (y2_2 : Int) (kk : Ex → Pk → Option R) : Dlaws_heldIntS_l2.step tt sig (mkK [] R) (mkL (mkK []) [] R) (loopIn 2 (bodyOf Try.f89)) (fun q' => Plaws_heldIntS_l2 @laws_heldIntS_l2 n R q' kk) (PkS.pack Slaws_heldIntS_l2 (y2_0, y2_1, y2_2, ())) kk = (fun (kret : Int → Option R) (kexit0 : Int → Option R) => (bif (decide (y2_2 < (y2_0.length : Int))) then (bif decide (0 ≤ y2_2) then (bif decide (y2_2 < (y2_0.length : Int)) then (bif ((y2_0.getD (Int.toNat y2_2) 0) != y2_1) then kret (-1) else laws_heldIntS_l2 n y2_0 (IntKind.wrap .i64 (y2_1 + 1)) (IntKind.wrap .i64 (y2_2 + 1)) kret kexit0) else none) else none) else kexit0 y2_1)) (fun r0 => kk .ret (PkS.pack Tlaws_heldIntS_l2_0 (r0, ()))) (fun r0 => kk (.exit 0) (PkS.pack Tlaws_heldIntS_l2_1 (r0, ()))) := by kernel_rfl
theorem lelaws_heldIntS_l2 : LoopEq tt sig (fun n => mkK []) (fun n => mkL (mkK []) []) Dlaws_heldIntS_l2 Slaws_heldIntS_l2 (loopIn 2 (bodyOf Try.f89)) (Plaws_heldIntS_l2 @laws_heldIntS_l2) where
  zero R q kk := by unfold Plaws_heldIntS_l2; cases (PkS.un Slaws_heldIntS_l2 q) <;> rfl
  succ n R q kk := by
    unfold Plaws_heldIntS_l2
    cases h : (PkS.un Slaws_heldIntS_l2 q) with
    | none => rfl
    | some d =>
      obtain ⟨y2_0, y2_1, y2_2, u⟩ := (d : (List Int) × Int × Int × Unit)
      have hp := PkS.un_pack h
      subst hp
      exact (elaws_heldIntS_l2 @laws_heldIntS_l2 n y2_0 y2_1 y2_2 kk).symm
theorem nllaws_heldIntS_l2 : ∀ n, NatLP (Plaws_heldIntS_l2 @laws_heldIntS_l2 n) := lelaws_heldIntS_l2.nat (fun n => mkK_nat (claws_heldIntS n)) fun n => mkL_nat (mkK_nat (claws_heldIntS n)) (l := []) trivial
theorem inlaws_heldIntS_l2 (n : Nat) (R : Type) : LoopsOk Try.prog (mkL (mkK []) [] R) (loopIn 2 (bodyOf Try.f89)) := .eq (l := []) (by kernel_rfl) trivial
theorem lklaws_heldIntS_l2 (n : Nat) (R : Type) (L0 : LK R) (h0 : ∀ id, firstRegion (loopIn 2 (bodyOf Try.f89)) = some id → L0 id = Dlaws_heldIntS_l2.oracle (mkK [] R) (Plaws_heldIntS_l2 @laws_heldIntS_l2 n R)) : LoopOk Try.prog L0 (loopIn 2 (bodyOf Try.f89)) :=
  lelaws_heldIntS_l2.ok mixed ttok (fun n => mkK_nat (claws_heldIntS n)) (fun n => mkK_ok (claws_heldIntS n)) (fun n => inlaws_heldIntS_l2 n R) (mkK_nat (claws_heldIntS n)) h0
@[reducible] def Slaws_heldIntS : PkS := ⟨[.one (.ro (.int .i64)), .one (.int .i64)], []⟩
@[reducible] def Tlaws_heldIntS : PkS := ⟨[.one (.int .i64), .one (.dead), .one (.dead)], []⟩
def Hlaws_heldIntS : List Sh := [.one .any, .skip, .skip]
def Klaws_heldIntS (g : ∀ {R : Type}, Nat → (List Int) → Int → (Int → Option R) → Option R) (n : Nat) : KPs := fun R p k => match (PkS.un Slaws_heldIntS p : Option ((List Int) × Int × Unit)) with
  | some (x0, x1, _) => g n x0 x1 (fun r0 => k (PkS.pack Tlaws_heldIntS (r0, ())))
  | none => none
theorem elaws_heldIntS (laws_heldIntS_l2 : ∀ {R : Type}, Nat → (List Int) → Int → Int → (Int → Option R) → (Int → Option R) → Option R) {R : Type} (n : Nat) (x0 : List Int) (x1 : Int) (k : Pk → Option R) : evF tt sig (mkK [] R) (mkL (mkK []) [(2, Dlaws_heldIntS_l2, Plaws_heldIntS_l2 @laws_heldIntS_l2 n)] R) Try.f89 Hlaws_heldIntS (PkS.pack Slaws_heldIntS (x0, x1, ())) k = (fun (k : Int → Option R) => (laws_heldIntS_l2 n x0 x1 0 (fun r1 => k r1) (fun r2 => k r2))) (fun r0 => k (PkS.pack Tlaws_heldIntS (r0, ()))) := by kernel_rfl
theorem oklaws_heldIntS (n : Nat) : FnOk Try.prog 89 (Klaws_heldIntS @laws_heldIntS n) := by
  refine fn_ok (sig := sig) mixed ttok (mkK_nat (claws_heldIntS n)) (mkK_ok (claws_heldIntS n)) (mkL_nat (mkK_nat (claws_heldIntS n)) (l := [(2, Dlaws_heldIntS_l2, Plaws_heldIntS_l2 @laws_heldIntS_l2 n)]) ⟨nllaws_heldIntS_l2 n, trivial⟩) (fn := Try.f89) (c := bodyOf Try.f89) (by kernel_rfl) (by kernel_rfl) (by kernel_rfl) (.eq (l := [.lo (loopIn 2 (bodyOf Try.f89))]) (by kernel_rfl) ⟨(lklaws_heldIntS_l2 n _ _ (at_id (i := 2) (by kernel_rfl) rfl)), trivial⟩) (shs := Hlaws_heldIntS) (S := Slaws_heldIntS) (h1 := by kernel_rfl) fun R p k => ?_
  unfold Klaws_heldIntS
  cases h : (PkS.un Slaws_heldIntS p) with
  | none => rfl
  | some d =>
    obtain ⟨x0, x1, u⟩ := (d : (List Int) × Int × Unit)
    have hp := PkS.un_pack h
    subst hp
    exact (elaws_heldIntS @laws_heldIntS_l2 n x0 x1 k).symm

/-! ### loop.example/g00269/laws.heldMoveS -/
theorem claws_heldMoveS (n : Nat) : AllOk Try.prog [] := trivial
@[reducible] def Slaws_heldMoveS_l2 : PkS := ⟨[.one (.ro (.pr (.int .i64) (.pr (.int .i64) (.int .i64)))), .one (.int .i64), .one (.int .i64), .one (.dead), .one (.dead)], []⟩
@[reducible] def Tlaws_heldMoveS_l2_0 : PkS := ⟨[.one (.int .i64), .one (.dead), .one (.dead)], []⟩
@[reducible] def Tlaws_heldMoveS_l2_1 : PkS := ⟨[.one (.int .i64), .one (.dead), .one (.dead)], []⟩
def Dlaws_heldMoveS_l2 : LoopD := ⟨40, [0, 1, 5], [.one (.ro (.pr (.int .i64) (.pr (.int .i64) (.int .i64)))), .one .any, .one .any, .skip, .skip], fun x => match x with
  | .ret => some ([4], [.one .any, .skip, .skip])
  | .exit 0 => some ([1], [.one .any, .skip, .skip])
  | _ => none⟩
def Plaws_heldMoveS_l2 (g : ∀ {R : Type}, Nat → (List (Int × Int × Int)) → Int → Int → (Int → Option R) → (Int → Option R) → Option R) (n : Nat) : LPs := fun R q kk => match (PkS.un Slaws_heldMoveS_l2 q : Option ((List (Int × Int × Int)) × Int × Int × Unit)) with
  | some (y2_0, y2_1, y2_2, _) => g n y2_0 y2_1 y2_2 (fun r0 => kk .ret (PkS.pack Tlaws_heldMoveS_l2_0 (r0, ()))) (fun r0 => kk (.exit 0) (PkS.pack Tlaws_heldMoveS_l2_1 (r0, ())))
  | none => none
theorem elaws_heldMoveS_l2 (laws_heldMoveS_l2 : ∀ {R : Type}, Nat → (List (Int × Int × Int)) → Int → Int → (Int → Option R) → (Int → Option R) → Option R) {R : Type} (n : Nat) (y2_0 : List (Int × Int × Int)) (y2_1 : Int) (y2_2 : Int) (kk : Ex → Pk → Option R) : Dlaws_heldMoveS_l2.step tt sig (mkK [] R) (mkL (mkK []) [] R) (loopIn 2 (bodyOf Try.f90)) (fun q' => Plaws_heldMoveS_l2 @laws_heldMoveS_l2 n R q' kk) (PkS.pack Slaws_heldMoveS_l2 (y2_0, y2_1, y2_2, ())) kk = (fun (kret : Int → Option R) (kexit0 : Int → Option R) => (bif (decide (y2_2 < (y2_0.length : Int))) then (bif decide (0 ≤ y2_2) then (bif decide (y2_2 < (y2_0.length : Int)) then (bif ((y2_0.getD (Int.toNat y2_2) (0, (0, 0))).1 != y2_1) then kret (-1) else (bif decide (0 ≤ y2_2) then (bif decide (y2_2 < (y2_0.length : Int)) then (bif ((y2_0.getD (Int.toNat y2_2) (0, (0, 0))).2.1 != (IntKind.wrap .i64 (y2_1 + 1))) then kret (-1) else (bif decide (0 ≤ y2_2) then (bif decide (y2_2 < (y2_0.length : Int)) then (bif ((y2_0.getD (Int.toNat y2_2) (0, (0, 0))).2.2 != (IntKind.wrap .i64 ((IntKind.wrap .i64 (y2_1 + 1)) + 1))) then kret (-1) else laws_heldMoveS_l2 n y2_0 (IntKind.wrap .i64 ((IntKind.wrap .i64 ((IntKind.wrap .i64 (y2_1 + 1)) + 1)) + 1)) (IntKind.wrap .i64 (y2_2 + 1)) kret kexit0) else none) else none)) else none) else none)) else none) else none) else kexit0 y2_1)) (fun r0 => kk .ret (PkS.pack Tlaws_heldMoveS_l2_0 (r0, ()))) (fun r0 => kk (.exit 0) (PkS.pack Tlaws_heldMoveS_l2_1 (r0, ()))) := by kernel_rfl
theorem lelaws_heldMoveS_l2 : LoopEq tt sig (fun n => mkK []) (fun n => mkL (mkK []) []) Dlaws_heldMoveS_l2 Slaws_heldMoveS_l2 (loopIn 2 (bodyOf Try.f90)) (Plaws_heldMoveS_l2 @laws_heldMoveS_l2) where
  zero R q kk := by unfold Plaws_heldMoveS_l2; cases (PkS.un Slaws_heldMoveS_l2 q) <;> rfl
  succ n R q kk := by
    unfold Plaws_heldMoveS_l2
    cases h : (PkS.un Slaws_heldMoveS_l2 q) with
    | none => rfl
    | some d =>
      obtain ⟨y2_0, y2_1, y2_2, u⟩ := (d : (List (Int × Int × Int)) × Int × Int × Unit)
      have hp := PkS.un_pack h
      subst hp
      exact (elaws_heldMoveS_l2 @laws_heldMoveS_l2 n y2_0 y2_1 y2_2 kk).symm
theorem nllaws_heldMoveS_l2 : ∀ n, NatLP (Plaws_heldMoveS_l2 @laws_heldMoveS_l2 n) := lelaws_heldMoveS_l2.nat (fun n => mkK_nat (claws_heldMoveS n)) fun n => mkL_nat (mkK_nat (claws_heldMoveS n)) (l := []) trivial
theorem inlaws_heldMoveS_l2 (n : Nat) (R : Type) : LoopsOk Try.prog (mkL (mkK []) [] R) (loopIn 2 (bodyOf Try.f90)) := .eq (l := []) (by kernel_rfl) trivial
theorem lklaws_heldMoveS_l2 (n : Nat) (R : Type) (L0 : LK R) (h0 : ∀ id, firstRegion (loopIn 2 (bodyOf Try.f90)) = some id → L0 id = Dlaws_heldMoveS_l2.oracle (mkK [] R) (Plaws_heldMoveS_l2 @laws_heldMoveS_l2 n R)) : LoopOk Try.prog L0 (loopIn 2 (bodyOf Try.f90)) :=
  lelaws_heldMoveS_l2.ok mixed ttok (fun n => mkK_nat (claws_heldMoveS n)) (fun n => mkK_ok (claws_heldMoveS n)) (fun n => inlaws_heldMoveS_l2 n R) (mkK_nat (claws_heldMoveS n)) h0
@[reducible] def Slaws_heldMoveS : PkS := ⟨[.one (.ro (.pr (.int .i64) (.pr (.int .i64) (.int .i64)))), .one (.int .i64)], []⟩
@[reducible] def Tlaws_heldMoveS : PkS := ⟨[.one (.int .i64), .one (.dead), .one (.dead)], []⟩
def Hlaws_heldMoveS : List Sh := [.one .any, .skip, .skip]
def Klaws_heldMoveS (g : ∀ {R : Type}, Nat → (List (Int × Int × Int)) → Int → (Int → Option R) → Option R) (n : Nat) : KPs := fun R p k => match (PkS.un Slaws_heldMoveS p : Option ((List (Int × Int × Int)) × Int × Unit)) with
  | some (x0, x1, _) => g n x0 x1 (fun r0 => k (PkS.pack Tlaws_heldMoveS (r0, ())))
  | none => none
theorem elaws_heldMoveS (laws_heldMoveS_l2 : ∀ {R : Type}, Nat → (List (Int × Int × Int)) → Int → Int → (Int → Option R) → (Int → Option R) → Option R) {R : Type} (n : Nat) (x0 : List (Int × Int × Int)) (x1 : Int) (k : Pk → Option R) : evF tt sig (mkK [] R) (mkL (mkK []) [(2, Dlaws_heldMoveS_l2, Plaws_heldMoveS_l2 @laws_heldMoveS_l2 n)] R) Try.f90 Hlaws_heldMoveS (PkS.pack Slaws_heldMoveS (x0, x1, ())) k = (fun (k : Int → Option R) => (laws_heldMoveS_l2 n x0 x1 0 (fun r1 => k r1) (fun r2 => k r2))) (fun r0 => k (PkS.pack Tlaws_heldMoveS (r0, ()))) := by kernel_rfl
theorem oklaws_heldMoveS (n : Nat) : FnOk Try.prog 90 (Klaws_heldMoveS @laws_heldMoveS n) := by
  refine fn_ok (sig := sig) mixed ttok (mkK_nat (claws_heldMoveS n)) (mkK_ok (claws_heldMoveS n)) (mkL_nat (mkK_nat (claws_heldMoveS n)) (l := [(2, Dlaws_heldMoveS_l2, Plaws_heldMoveS_l2 @laws_heldMoveS_l2 n)]) ⟨nllaws_heldMoveS_l2 n, trivial⟩) (fn := Try.f90) (c := bodyOf Try.f90) (by kernel_rfl) (by kernel_rfl) (by kernel_rfl) (.eq (l := [.lo (loopIn 2 (bodyOf Try.f90))]) (by kernel_rfl) ⟨(lklaws_heldMoveS_l2 n _ _ (at_id (i := 2) (by kernel_rfl) rfl)), trivial⟩) (shs := Hlaws_heldMoveS) (S := Slaws_heldMoveS) (h1 := by kernel_rfl) fun R p k => ?_
  unfold Klaws_heldMoveS
  cases h : (PkS.un Slaws_heldMoveS p) with
  | none => rfl
  | some d =>
    obtain ⟨x0, x1, u⟩ := (d : (List (Int × Int × Int)) × Int × Unit)
    have hp := PkS.un_pack h
    subst hp
    exact (elaws_heldMoveS @laws_heldMoveS_l2 n x0 x1 k).symm

/-! ### loop.example/g00269/laws.heldSaga -/
theorem claws_heldSaga (n : Nat) : AllOk Try.prog [(89, Klaws_heldIntS @laws_heldIntS n), (90, Klaws_heldMoveS @laws_heldMoveS n)] := ⟨oklaws_heldIntS n, ⟨oklaws_heldMoveS n, trivial⟩⟩
@[reducible] def Slaws_heldSaga : PkS := ⟨[.agg [.ro (.int .i64), .ro (.pr (.int .i64) (.pr (.int .i64) (.int .i64))), .int .i64, .bool], .one (.int .i64)], []⟩
@[reducible] def Tlaws_heldSaga : PkS := ⟨[.one (.int .i64), .one (.dead), .one (.dead)], []⟩
def Hlaws_heldSaga : List Sh := [.one .any, .skip, .skip]
def Klaws_heldSaga (g : ∀ {R : Type}, Nat → (List Int) → (List (Int × Int × Int)) → Int → Bool → Int → (Int → Option R) → Option R) (n : Nat) : KPs := fun R p k => match (PkS.un Slaws_heldSaga p : Option ((List Int) × (List (Int × Int × Int)) × Int × Bool × Int × Unit)) with
  | some (x0, x1, x2, x3, x4, _) => g n x0 x1 x2 x3 x4 (fun r0 => k (PkS.pack Tlaws_heldSaga (r0, ())))
  | none => none
theorem elaws_heldSaga (laws_heldIntS : ∀ {R : Type}, Nat → (List Int) → Int → (Int → Option R) → Option R) (laws_heldMoveS : ∀ {R : Type}, Nat → (List (Int × Int × Int)) → Int → (Int → Option R) → Option R) {R : Type} (n : Nat) (x0 : List Int) (x1 : List (Int × Int × Int)) (x2 : Int) (x3 : Bool) (x4 : Int) (k : Pk → Option R) : evF tt sig (mkK [(89, Klaws_heldIntS @laws_heldIntS n), (90, Klaws_heldMoveS @laws_heldMoveS n)] R) (mkL (mkK [(89, Klaws_heldIntS @laws_heldIntS n), (90, Klaws_heldMoveS @laws_heldMoveS n)]) [] R) Try.f32 Hlaws_heldSaga (PkS.pack Slaws_heldSaga (x0, x1, x2, x3, x4, ())) k = (fun (k : Int → Option R) => (laws_heldIntS n x0 x4 fun r1 => (bif (decide (r1 < 0)) then k (-1) else (laws_heldMoveS n x1 r1 fun r2 => (bif (decide (r2 < 0)) then k (-1) else k r2))))) (fun r0 => k (PkS.pack Tlaws_heldSaga (r0, ()))) := by kernel_rfl
theorem oklaws_heldSaga (n : Nat) : FnOk Try.prog 32 (Klaws_heldSaga @laws_heldSaga n) := by
  refine fn_ok (sig := sig) mixed ttok (mkK_nat (claws_heldSaga n)) (mkK_ok (claws_heldSaga n)) (mkL_nat (mkK_nat (claws_heldSaga n)) (l := []) trivial) (fn := Try.f32) (c := bodyOf Try.f32) (by kernel_rfl) (by kernel_rfl) (by kernel_rfl) (.eq (l := []) (by kernel_rfl) trivial) (shs := Hlaws_heldSaga) (S := Slaws_heldSaga) (h1 := by kernel_rfl) fun R p k => ?_
  unfold Klaws_heldSaga
  cases h : (PkS.un Slaws_heldSaga p) with
  | none => rfl
  | some d =>
    obtain ⟨x0, x1, x2, x3, x4, u⟩ := (d : (List Int) × (List (Int × Int × Int)) × Int × Bool × Int × Unit)
    have hp := PkS.un_pack h
    subst hp
    exact (elaws_heldSaga @laws_heldIntS @laws_heldMoveS n x0 x1 x2 x3 x4 k).symm

/-! ### loop.example/g00269/laws.FnExactFailSaga -/
theorem claws_FnExactFailSaga (n : Nat) : AllOk Try.prog [(13, Klaws_szSaga @laws_szSaga n), (15, Klaws_toSaga @laws_toSaga n), (33, Kspec_FailSaga @spec_FailSaga n), (34, Kimpl_FailSaga @impl_FailSaga n), (17, Klaws_eqSaga @laws_eqSaga n), (31, Klaws_markSaga @laws_markSaga n), (32, Klaws_heldSaga @laws_heldSaga n)] := ⟨oklaws_szSaga n, ⟨oklaws_toSaga n, ⟨okspec_FailSaga n, ⟨okimpl_FailSaga n, ⟨oklaws_eqSaga n, ⟨oklaws_markSaga n, ⟨oklaws_heldSaga n, trivial⟩⟩⟩⟩⟩⟩⟩
@[reducible] def Slaws_FnExactFailSaga : PkS := ⟨[.agg [.ro (.int .i64), .ro (.pr (.int .i64) (.pr (.int .i64) (.int .i64))), .int .i64, .bool]], []⟩
@[reducible] def Tlaws_FnExactFailSaga : PkS := ⟨[.one (.bool), .one (.dead)], []⟩
def Hlaws_FnExactFailSaga : List Sh := [.one .any, .skip]
def Klaws_FnExactFailSaga (g : ∀ {R : Type}, Nat → (List Int) → (List (Int × Int × Int)) → Int → Bool → (Bool → Option R) → Option R) (n : Nat) : KPs := fun R p k => match (PkS.un Slaws_FnExactFailSaga p : Option ((List Int) × (List (Int × Int × Int)) × Int × Bool × Unit)) with
  | some (x0, x1, x2, x3, _) => g n x0 x1 x2 x3 (fun r0 => k (PkS.pack Tlaws_FnExactFailSaga (r0, ())))
  | none => none
theorem elaws_FnExactFailSaga (laws_szSaga : ∀ {R : Type}, Nat → (List Int) → (List (Int × Int × Int)) → Int → Bool → Int → (Int → Option R) → Option R) (laws_toSaga : ∀ {R : Type}, Nat → (List Int) → (List (Int × Int × Int)) → Int → Bool → (Int → Bool → (List Int) → (List (Int × Int × Int)) → Option R) → Option R) (spec_FailSaga : ∀ {R : Type}, Nat → (List Int) → (List (Int × Int × Int)) → Int → Bool → (Int → Bool → Bool → (List Int) → (List (Int × Int × Int)) → Option R) → Option R) (impl_FailSaga : ∀ {R : Type}, Nat → (List Int) → (List (Int × Int × Int)) → Int → Bool → (Int → Bool → Bool → (List Int) → (List (Int × Int × Int)) → Option R) → Option R) (laws_eqSaga : ∀ {R : Type}, Nat → (List Int) → (List (Int × Int × Int)) → Int → Bool → (List Int) → (List (Int × Int × Int)) → Int → Bool → (Bool → Option R) → Option R) (laws_markSaga : ∀ {R : Type}, Nat → Int → Bool → Int → (List Int) → (List (Int × Int × Int)) → (Int → Int → Bool → (List Int) → (List (Int × Int × Int)) → Option R) → Option R) (laws_heldSaga : ∀ {R : Type}, Nat → (List Int) → (List (Int × Int × Int)) → Int → Bool → Int → (Int → Option R) → Option R) {R : Type} (n : Nat) (x0 : List Int) (x1 : List (Int × Int × Int)) (x2 : Int) (x3 : Bool) (k : Pk → Option R) : evF tt sig (mkK [(13, Klaws_szSaga @laws_szSaga n), (15, Klaws_toSaga @laws_toSaga n), (33, Kspec_FailSaga @spec_FailSaga n), (34, Kimpl_FailSaga @impl_FailSaga n), (17, Klaws_eqSaga @laws_eqSaga n), (31, Klaws_markSaga @laws_markSaga n), (32, Klaws_heldSaga @laws_heldSaga n)] R) (mkL (mkK [(13, Klaws_szSaga @laws_szSaga n), (15, Klaws_toSaga @laws_toSaga n), (33, Kspec_FailSaga @spec_FailSaga n), (34, Kimpl_FailSaga @impl_FailSaga n), (17, Klaws_eqSaga @laws_eqSaga n), (31, Klaws_markSaga @laws_markSaga n), (32, Klaws_heldSaga @laws_heldSaga n)]) [] R) Try.f7 Hlaws_FnExactFailSaga (PkS.pack Slaws_FnExactFailSaga (x0, x1, x2, x3, ())) k = (fun (k : Bool → Option R) => (laws_szSaga n x0 x1 x2 x3 1048576 fun r1 => (bif (decide (r1 < 0)) then k true else (laws_toSaga n x0 x1 x2 x3 fun r2 r3 r4 r5 => (spec_FailSaga n r4 r5 r2 r3 fun r6 r7 r8 r9 r10 => (laws_toSaga n x0 x1 x2 x3 fun r11 r12 r13 r14 => (impl_FailSaga n r13 r14 r11 r12 fun r15 r16 r17 r18 r19 => (laws_eqSaga n r18 r19 r15 r16 r9 r10 r6 r7 fun r20 => (bif (!r20) then k false else (bif (!(r17 == r8)) then k false else (laws_toSaga n x0 x1 x2 x3 fun r21 r22 r23 r24 => (laws_eqSaga n r13 r14 r11 r12 r23 r24 r21 r22 fun r25 => (bif (!r25) then k false else (laws_markSaga n r11 r12 1 r13 r14 fun r26 r27 r28 r29 r30 => (bif (decide (r26 < 0)) then k false else (laws_eqSaga n r18 r19 r15 r16 r9 r10 r6 r7 fun r31 => (bif (!r31) then k false else (bif (!(r17 == r8)) then k false else (laws_markSaga n r15 r16 1 r18 r19 fun r32 r33 r34 r35 r36 => (laws_heldSaga n r35 r36 r15 r16 1 fun r37 => (bif (decide (r37 < 0)) then k false else (bif (r37 != r32) then k false else (laws_toSaga n x0 x1 x2 x3 fun r38 r39 r40 r41 => (impl_FailSaga n r40 r41 r38 r39 fun r42 r43 r44 r45 r46 => (laws_eqSaga n r45 r46 r42 r43 r9 r10 r6 r7 fun r47 => (bif (!r47) then k false else (bif (!(r44 == r8)) then k false else (laws_heldSaga n r35 r36 r15 r16 1 fun r48 => (bif (decide (r48 < 0)) then k false else (bif (r48 != r32) then k false else k true)))))))))))))))))))))))))))))) (fun r0 => k (PkS.pack Tlaws_FnExactFailSaga (r0, ()))) := by kernel_rfl
theorem oklaws_FnExactFailSaga (n : Nat) : FnOk Try.prog 7 (Klaws_FnExactFailSaga @laws_FnExactFailSaga n) := by
  refine fn_ok (sig := sig) mixed ttok (mkK_nat (claws_FnExactFailSaga n)) (mkK_ok (claws_FnExactFailSaga n)) (mkL_nat (mkK_nat (claws_FnExactFailSaga n)) (l := []) trivial) (fn := Try.f7) (c := bodyOf Try.f7) (by kernel_rfl) (by kernel_rfl) (by kernel_rfl) (.eq (l := []) (by kernel_rfl) trivial) (shs := Hlaws_FnExactFailSaga) (S := Slaws_FnExactFailSaga) (h1 := by kernel_rfl) fun R p k => ?_
  unfold Klaws_FnExactFailSaga
  cases h : (PkS.un Slaws_FnExactFailSaga p) with
  | none => rfl
  | some d =>
    obtain ⟨x0, x1, x2, x3, u⟩ := (d : (List Int) × (List (Int × Int × Int)) × Int × Bool × Unit)
    have hp := PkS.un_pack h
    subst hp
    exact (elaws_FnExactFailSaga @laws_szSaga @laws_toSaga @spec_FailSaga @impl_FailSaga @laws_eqSaga @laws_markSaga @laws_heldSaga n x0 x1 x2 x3 k).symm
end Go.Am.G
