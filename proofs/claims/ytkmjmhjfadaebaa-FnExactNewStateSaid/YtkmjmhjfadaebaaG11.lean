/- The code of the functions that the law reaches does what the plain functions say. -/
import Derived.Test.YtkmjmhjfadaebaaF11
import Derived.Test.YtkmjmhjfadaebaaAmB
import Derived.KernelRfl
import Derived.Test.YtkmjmhjfadaebaaProg
set_option linter.unusedVariables false
set_option maxRecDepth 100000
namespace Go.Am.G
open Go Go.Am
open Go.Proofs
def tt : TT := [(3, ⟨1, false, (.int .i64), 0, [], [.int .i64 0], 8, true, false, []⟩), (4, ⟨1, false, .bool, 0, [], [.bool false], 1, true, false, []⟩), (5, ⟨1, false, (.int .u8), 0, [], [.int .u8 0], 1, true, false, []⟩), (9, ⟨1, false, .str, 0, [], [.str ByteArray.empty], 16, true, false, []⟩), (57, ⟨1, false, (.sl (.int .u8)), 5, [], [.nil], 24, true, true, []⟩), (60, ⟨1, false, (.sl .str), 9, [], [.nil], 24, true, true, []⟩), (62, ⟨6, true, (.pr (.int .i64) (.pr (.int .i64) (.pr .bool (.pr (.int .i64) (.pr (.sl .str) (.sl .str)))))), 0, [(0, 1, false), (1, 1, false), (2, 1, false), (3, 1, false), (4, 1, false), (5, 1, false)], [.int .i64 0, .int .i64 0, .bool false, .int .i64 0, .nil, .nil], 80, true, false, []⟩)]
def sig : Sig := sigOf [(11, []), (39, []), (40, []), (41, [.agg [.any, .any, .any, .any, (.ro .str), (.ro .str)], .agg [.any, .any, .any, .any, (.ro .str), (.ro .str)]]), (42, [.agg [.any, .any, .any, .any, (.own .str), (.own .str)], .one .any]), (43, [.agg [.any, .any, .any, .any, (.ro .str), (.ro .str)], .one .any]), (64, [.one (.ro .str), .one (.ro .str)]), (65, [.one (.own .str), .one .any]), (66, [.one (.ro .str), .one .any]), (77, [.one .any])]
theorem ttok : TTok Try.prog tt := .of_chk (by kernel_rfl)
theorem mixed : Try.prog.follows .mixedOrders = true := by kernel_rfl

/-! ### loop.example/g00269/spec.NewState -/
theorem cspec_NewState (n : Nat) : AllOk Try.prog [] := trivial
@[reducible] def Sspec_NewState : PkS := ⟨[], []⟩
@[reducible] def Tspec_NewState : PkS := ⟨[.agg [.int .i64, .int .i64, .bool, .int .i64, .ro .str, .ro .str]], []⟩
def Hspec_NewState : List Sh := [.agg [.any, .any, .any, .any, (.ro .str), (.ro .str)]]
def Kspec_NewState (g : ∀ {R : Type}, Nat → (Int → Int → Bool → Int → (List ByteArray) → (List ByteArray) → Option R) → Option R) (n : Nat) : KPs := fun R p k => match (PkS.un Sspec_NewState p : Option (Unit)) with
  | some _ => g n  (fun r0 r1 r2 r3 r4 r5 => k (PkS.pack Tspec_NewState (r0, r1, r2, r3, r4, r5, ())))
  | none => none
theorem espec_NewState  {R : Type} (n : Nat)  (k : Pk → Option R) : evF tt sig (mkK [] R) (mkL (mkK []) [] R) Try.f39 Hspec_NewState (PkS.pack Sspec_NewState ()) k = (fun (k : Int → Int → Bool → Int → (List ByteArray) → (List ByteArray) → Option R) => k 0 1 false 0 ([] : List ByteArray) ([] : List ByteArray)) (fun r0 r1 r2 r3 r4 r5 => k (PkS.pack Tspec_NewState (r0, r1, r2, r3, r4, r5, ()))) := by kernel_rfl
theorem okspec_NewState (n : Nat) : FnOk Try.prog 39 (Kspec_NewState @spec_NewState n) := by
  refine fn_ok (sig := sig) mixed ttok (mkK_nat (cspec_NewState n)) (mkK_ok (cspec_NewState n)) (mkL_nat (mkK_nat (cspec_NewState n)) (l := []) trivial) (fn := Try.f39) (c := bodyOf Try.f39) (by kernel_rfl) (by kernel_rfl) (by kernel_rfl) (.eq (l := []) (by kernel_rfl) trivial) (shs := Hspec_NewState) (S := Sspec_NewState) fun R p k => ?_
  unfold Kspec_NewState
  cases h : (PkS.un Sspec_NewState p) with
  | none => rfl
  | some d =>
    obtain ⟨⟩ := (d : Unit)
    have hp := PkS.un_pack h
    subst hp
    exact (espec_NewState  n  k).symm

/-! ### loop.example/g00269/impl.NewState -/
theorem cimpl_NewState (n : Nat) : AllOk Try.prog [] := trivial
@[reducible] def Simpl_NewState : PkS := ⟨[], []⟩
@[reducible] def Timpl_NewState : PkS := ⟨[.agg [.int .i64, .int .i64, .bool, .int .i64, .whole (300000, 0), .whole (300000, 1)]], [((300000, 0), .arr .str), ((300000, 1), .arr .str)]⟩
def Himpl_NewState : List Sh := [.agg [.any, .any, .any, .any, (.own .str), (.own .str)]]
def Kimpl_NewState (g : ∀ {R : Type}, Nat → (Int → Int → Bool → Int → (List ByteArray) → (List ByteArray) → Option R) → Option R) (n : Nat) : KPs := fun R p k => match (PkS.un Simpl_NewState p : Option (Unit)) with
  | some _ => g n  (fun r0 r1 r2 r3 r4 r5 => k (PkS.pack Timpl_NewState (r0, r1, r2, r3, r4, r5, ())))
  | none => none
theorem eimpl_NewState  {R : Type} (n : Nat)  (k : Pk → Option R) : evF tt sig (mkK [] R) (mkL (mkK []) [] R) Try.f40 Himpl_NewState (PkS.pack Simpl_NewState ()) k = (fun (k : Int → Int → Bool → Int → (List ByteArray) → (List ByteArray) → Option R) => k 0 1 false 0 ([] : List ByteArray) ([] : List ByteArray)) (fun r0 r1 r2 r3 r4 r5 => k (PkS.pack Timpl_NewState (r0, r1, r2, r3, r4, r5, ()))) := by kernel_rfl
theorem okimpl_NewState (n : Nat) : FnOk Try.prog 40 (Kimpl_NewState @impl_NewState n) := by
  refine fn_ok (sig := sig) mixed ttok (mkK_nat (cimpl_NewState n)) (mkK_ok (cimpl_NewState n)) (mkL_nat (mkK_nat (cimpl_NewState n)) (l := []) trivial) (fn := Try.f40) (c := bodyOf Try.f40) (by kernel_rfl) (by kernel_rfl) (by kernel_rfl) (.eq (l := []) (by kernel_rfl) trivial) (shs := Himpl_NewState) (S := Simpl_NewState) fun R p k => ?_
  unfold Kimpl_NewState
  cases h : (PkS.un Simpl_NewState p) with
  | none => rfl
  | some d =>
    obtain ⟨⟩ := (d : Unit)
    have hp := PkS.un_pack h
    subst hp
    exact (eimpl_NewState  n  k).symm

/-! ### loop.example/g00269/laws.eqStringS -/
theorem claws_eqStringS (n : Nat) : AllOk Try.prog [] := trivial
@[reducible] def Slaws_eqStringS_l4 : PkS := ⟨[.one (.ro .str), .one (.ro .str), .one (.int .i64), .one (.dead), .one (.dead)], []⟩
@[reducible] def Tlaws_eqStringS_l4_0 : PkS := ⟨[.one (.bool), .one (.dead), .one (.dead)], []⟩
@[reducible] def Tlaws_eqStringS_l4_1 : PkS := ⟨[.one (.dead), .one (.dead)], []⟩
def Dlaws_eqStringS_l4 : LoopD := ⟨26, [0, 1, 5], [.one (.ro .str), .one (.ro .str), .one .any, .skip, .skip], fun x => match x with
  | .ret => some ([4], [.one .any, .skip, .skip])
  | .exit 0 => some ([], [.skip, .skip])
  | _ => none⟩
def Plaws_eqStringS_l4 (g : ∀ {R : Type}, Nat → (List ByteArray) → (List ByteArray) → Int → (Bool → Option R) → (Option R) → Option R) (n : Nat) : LPs := fun R q kk => match (PkS.un Slaws_eqStringS_l4 q : Option ((List ByteArray) × (List ByteArray) × Int × Unit)) with
  | some (y4_0, y4_1, y4_2, _) => g n y4_0 y4_1 y4_2 (fun r0 => kk .ret (PkS.pack Tlaws_eqStringS_l4_0 (r0, ()))) (kk (.exit 0) (PkS.pack Tlaws_eqStringS_l4_1 ()))
  | none => none
theorem elaws_eqStringS_l4 (laws_eqStringS_l4 : ∀ {R : Type}, Nat → (List ByteArray) → (List ByteArray) → Int → (Bool → Option R) → (Option R) → Option R) {R : Type} (n : Nat) (y4_0 : List ByteArray) (y4_1 : List ByteArray) (y4_2 : Int) (kk : Ex → Pk → Option R) : Dlaws_eqStringS_l4.step tt sig (mkK [] R) (mkL (mkK []) [] R) (loopIn 4 (bodyOf Try.f64)) (fun q' => Plaws_eqStringS_l4 @laws_eqStringS_l4 n R q' kk) (PkS.pack Slaws_eqStringS_l4 (y4_0, y4_1, y4_2, ())) kk = (fun (kret : Bool → Option R) (kexit0 : Option R) => (bif (decide (y4_2 < (y4_0.length : Int))) then (bif decide (0 ≤ y4_2) then (bif decide (y4_2 < (y4_0.length : Int)) then (bif decide (0 ≤ y4_2) then (bif decide (y4_2 < (y4_1.length : Int)) then (bif (!((ByteArray.toList (y4_0.getD (Int.toNat y4_2) ByteArray.empty)) == (ByteArray.toList (y4_1.getD (Int.toNat y4_2) ByteArray.empty)))) then kret false else laws_eqStringS_l4 n y4_0 y4_1 (IntKind.wrap .i64 (y4_2 + 1)) kret kexit0) else none) else none) else none) else none) else kexit0)) (fun r0 => kk .ret (PkS.pack Tlaws_eqStringS_l4_0 (r0, ()))) (kk (.exit 0) (PkS.pack Tlaws_eqStringS_l4_1 ())) := by kernel_rfl
theorem lelaws_eqStringS_l4 : LoopEq tt sig (fun n => mkK []) (fun n => mkL (mkK []) []) Dlaws_eqStringS_l4 Slaws_eqStringS_l4 (loopIn 4 (bodyOf Try.f64)) (Plaws_eqStringS_l4 @laws_eqStringS_l4) where
  zero R q kk := by unfold Plaws_eqStringS_l4; cases (PkS.un Slaws_eqStringS_l4 q) <;> rfl
  succ n R q kk := by
    unfold Plaws_eqStringS_l4
    cases h : (PkS.un Slaws_eqStringS_l4 q) with
    | none => rfl
    | some d =>
      obtain ⟨y4_0, y4_1, y4_2, u⟩ := (d : (List ByteArray) × (List ByteArray) × Int × Unit)
      have hp := PkS.un_pack h
      subst hp
      exact (elaws_eqStringS_l4 @laws_eqStringS_l4 n y4_0 y4_1 y4_2 kk).symm
theorem nllaws_eqStringS_l4 : ∀ n, NatLP (Plaws_eqStringS_l4 @laws_eqStringS_l4 n) := lelaws_eqStringS_l4.nat (fun n => mkK_nat (claws_eqStringS n)) fun n => mkL_nat (mkK_nat (claws_eqStringS n)) (l := []) trivial
theorem inlaws_eqStringS_l4 (n : Nat) (R : Type) : LoopsOk Try.prog (mkL (mkK []) [] R) (loopIn 4 (bodyOf Try.f64)) := .eq (l := []) (by kernel_rfl) trivial
theorem lklaws_eqStringS_l4 (n : Nat) (R : Type) (L0 : LK R) (h0 : ∀ id, firstRegion (loopIn 4 (bodyOf Try.f64)) = some id → L0 id = Dlaws_eqStringS_l4.oracle (mkK [] R) (Plaws_eqStringS_l4 @laws_eqStringS_l4 n R)) : LoopOk Try.prog L0 (loopIn 4 (bodyOf Try.f64)) :=
  lelaws_eqStringS_l4.ok mixed ttok (fun n => mkK_nat (claws_eqStringS n)) (fun n => mkK_ok (claws_eqStringS n)) (fun n => inlaws_eqStringS_l4 n R) (mkK_nat (claws_eqStringS n)) h0
@[reducible] def Slaws_eqStringS : PkS := ⟨[.one (.ro .str), .one (.ro .str)], []⟩
@[reducible] def Tlaws_eqStringS : PkS := ⟨[.one (.bool), .one (.dead), .one (.dead)], []⟩
def Hlaws_eqStringS : List Sh := [.one .any, .skip, .skip]
def Klaws_eqStringS (g : ∀ {R : Type}, Nat → (List ByteArray) → (List ByteArray) → (Bool → Option R) → Option R) (n : Nat) : KPs := fun R p k => match (PkS.un Slaws_eqStringS p : Option ((List ByteArray) × (List ByteArray) × Unit)) with
  | some (x0, x1, _) => g n x0 x1 (fun r0 => k (PkS.pack Tlaws_eqStringS (r0, ())))
  | none => none
theorem elaws_eqStringS (laws_eqStringS_l4 : ∀ {R : Type}, Nat → (List ByteArray) → (List ByteArray) → Int → (Bool → Option R) → (Option R) → Option R) {R : Type} (n : Nat) (x0 : List ByteArray) (x1 : List ByteArray) (k : Pk → Option R) : evF tt sig (mkK [] R) (mkL (mkK []) [(4, Dlaws_eqStringS_l4, Plaws_eqStringS_l4 @laws_eqStringS_l4 n)] R) Try.f64 Hlaws_eqStringS (PkS.pack Slaws_eqStringS (x0, x1, ())) k = (fun (k : Bool → Option R) => (bif ((x0.length : Int) != (x1.length : Int)) then k false else (laws_eqStringS_l4 n x0 x1 0 (fun r1 => k r1) (k true)))) (fun r0 => k (PkS.pack Tlaws_eqStringS (r0, ()))) := by kernel_rfl
theorem oklaws_eqStringS (n : Nat) : FnOk Try.prog 64 (Klaws_eqStringS @laws_eqStringS n) := by
  refine fn_ok (sig := sig) mixed ttok (mkK_nat (claws_eqStringS n)) (mkK_ok (claws_eqStringS n)) (mkL_nat (mkK_nat (claws_eqStringS n)) (l := [(4, Dlaws_eqStringS_l4, Plaws_eqStringS_l4 @laws_eqStringS_l4 n)]) ⟨nllaws_eqStringS_l4 n, trivial⟩) (fn := Try.f64) (c := bodyOf Try.f64) (by kernel_rfl) (by kernel_rfl) (by kernel_rfl) (.eq (l := [loopIn 4 (bodyOf Try.f64)]) (by kernel_rfl) ⟨(lklaws_eqStringS_l4 n _ _ (at_id (i := 4) (by kernel_rfl) rfl)), trivial⟩) (shs := Hlaws_eqStringS) (S := Slaws_eqStringS) fun R p k => ?_
  unfold Klaws_eqStringS
  cases h : (PkS.un Slaws_eqStringS p) with
  | none => rfl
  | some d =>
    obtain ⟨x0, x1, u⟩ := (d : (List ByteArray) × (List ByteArray) × Unit)
    have hp := PkS.un_pack h
    subst hp
    exact (elaws_eqStringS @laws_eqStringS_l4 n x0 x1 k).symm

/-! ### loop.example/g00269/laws.eqState -/
theorem claws_eqState (n : Nat) : AllOk Try.prog [(64, Klaws_eqStringS @laws_eqStringS n)] := ⟨oklaws_eqStringS n, trivial⟩
@[reducible] def Slaws_eqState : PkS := ⟨[.agg [.int .i64, .int .i64, .bool, .int .i64, .ro .str, .ro .str], .agg [.int .i64, .int .i64, .bool, .int .i64, .ro .str, .ro .str]], []⟩
@[reducible] def Tlaws_eqState : PkS := ⟨[.one (.bool), .one (.dead), .one (.dead)], []⟩
def Hlaws_eqState : List Sh := [.one .any, .skip, .skip]
def Klaws_eqState (g : ∀ {R : Type}, Nat → Int → Int → Bool → Int → (List ByteArray) → (List ByteArray) → Int → Int → Bool → Int → (List ByteArray) → (List ByteArray) → (Bool → Option R) → Option R) (n : Nat) : KPs := fun R p k => match (PkS.un Slaws_eqState p : Option (Int × Int × Bool × Int × (List ByteArray) × (List ByteArray) × Int × Int × Bool × Int × (List ByteArray) × (List ByteArray) × Unit)) with
  | some (x0, x1, x2, x3, x4, x5, x6, x7, x8, x9, x10, x11, _) => g n x0 x1 x2 x3 x4 x5 x6 x7 x8 x9 x10 x11 (fun r0 => k (PkS.pack Tlaws_eqState (r0, ())))
  | none => none
theorem elaws_eqState (laws_eqStringS : ∀ {R : Type}, Nat → (List ByteArray) → (List ByteArray) → (Bool → Option R) → Option R) {R : Type} (n : Nat) (x0 : Int) (x1 : Int) (x2 : Bool) (x3 : Int) (x4 : List ByteArray) (x5 : List ByteArray) (x6 : Int) (x7 : Int) (x8 : Bool) (x9 : Int) (x10 : List ByteArray) (x11 : List ByteArray) (k : Pk → Option R) : evF tt sig (mkK [(64, Klaws_eqStringS @laws_eqStringS n)] R) (mkL (mkK [(64, Klaws_eqStringS @laws_eqStringS n)]) [] R) Try.f41 Hlaws_eqState (PkS.pack Slaws_eqState (x0, x1, x2, x3, x4, x5, x6, x7, x8, x9, x10, x11, ())) k = (fun (k : Bool → Option R) => (bif (x0 != x6) then k false else (bif (x1 != x7) then k false else (bif (!(x2 == x8)) then k false else (bif (x3 != x9) then k false else (laws_eqStringS n x4 x10 fun r1 => (bif (!r1) then k false else (laws_eqStringS n x5 x11 fun r2 => (bif (!r2) then k false else k true))))))))) (fun r0 => k (PkS.pack Tlaws_eqState (r0, ()))) := by kernel_rfl
theorem oklaws_eqState (n : Nat) : FnOk Try.prog 41 (Klaws_eqState @laws_eqState n) := by
  refine fn_ok (sig := sig) mixed ttok (mkK_nat (claws_eqState n)) (mkK_ok (claws_eqState n)) (mkL_nat (mkK_nat (claws_eqState n)) (l := []) trivial) (fn := Try.f41) (c := bodyOf Try.f41) (by kernel_rfl) (by kernel_rfl) (by kernel_rfl) (.eq (l := []) (by kernel_rfl) trivial) (shs := Hlaws_eqState) (S := Slaws_eqState) fun R p k => ?_
  unfold Klaws_eqState
  cases h : (PkS.un Slaws_eqState p) with
  | none => rfl
  | some d =>
    obtain ⟨x0, x1, x2, x3, x4, x5, x6, x7, x8, x9, x10, x11, u⟩ := (d : Int × Int × Bool × Int × (List ByteArray) × (List ByteArray) × Int × Int × Bool × Int × (List ByteArray) × (List ByteArray) × Unit)
    have hp := PkS.un_pack h
    subst hp
    exact (elaws_eqState @laws_eqStringS n x0 x1 x2 x3 x4 x5 x6 x7 x8 x9 x10 x11 k).symm

/-! ### loop.example/g00269/laws.markText -/
theorem claws_markText (n : Nat) : AllOk Try.prog [] := trivial
@[reducible] def Slaws_markText_l4 : PkS := ⟨[.one (.int .i64), .one (.str), .one (.dead)], []⟩
@[reducible] def Tlaws_markText_l4_0 : PkS := ⟨[.one (.str), .one (.dead)], []⟩
def Dlaws_markText_l4 : LoopD := ⟨20, [0, 3], [.one .any, .one .any, .skip], fun x => match x with
  | .exit 0 => some ([3], [.one .any, .skip])
  | _ => none⟩
def Plaws_markText_l4 (g : ∀ {R : Type}, Nat → Int → ByteArray → (ByteArray → Option R) → Option R) (n : Nat) : LPs := fun R q kk => match (PkS.un Slaws_markText_l4 q : Option (Int × ByteArray × Unit)) with
  | some (y4_0, y4_1, _) => g n y4_0 y4_1 (fun r0 => kk (.exit 0) (PkS.pack Tlaws_markText_l4_0 (r0, ())))
  | none => none
theorem elaws_markText_l4 (laws_markText_l4 : ∀ {R : Type}, Nat → Int → ByteArray → (ByteArray → Option R) → Option R) {R : Type} (n : Nat) (y4_0 : Int) (y4_1 : ByteArray) (kk : Ex → Pk → Option R) : Dlaws_markText_l4.step tt sig (mkK [] R) (mkL (mkK []) [] R) (loopIn 4 (bodyOf Try.f77)) (fun q' => Plaws_markText_l4 @laws_markText_l4 n R q' kk) (PkS.pack Slaws_markText_l4 (y4_0, y4_1, ())) kk = (fun (kexit0 : ByteArray → Option R) => (bif (decide (y4_0 > 0)) then (bif decide ((bytesOf ([(IntKind.wrap .u8 ((IntKind.wrap .i64 (48 + (Int.tmod y4_0 10)))))])).size + y4_1.size ≤ STR) then laws_markText_l4 n (IntKind.wrap .i64 (Int.tdiv y4_0 10)) ((bytesOf ([(IntKind.wrap .u8 ((IntKind.wrap .i64 (48 + (Int.tmod y4_0 10)))))])) ++ y4_1) kexit0 else none) else kexit0 y4_1)) (fun r0 => kk (.exit 0) (PkS.pack Tlaws_markText_l4_0 (r0, ()))) := by kernel_rfl
theorem lelaws_markText_l4 : LoopEq tt sig (fun n => mkK []) (fun n => mkL (mkK []) []) Dlaws_markText_l4 Slaws_markText_l4 (loopIn 4 (bodyOf Try.f77)) (Plaws_markText_l4 @laws_markText_l4) where
  zero R q kk := by unfold Plaws_markText_l4; cases (PkS.un Slaws_markText_l4 q) <;> rfl
  succ n R q kk := by
    unfold Plaws_markText_l4
    cases h : (PkS.un Slaws_markText_l4 q) with
    | none => rfl
    | some d =>
      obtain ⟨y4_0, y4_1, u⟩ := (d : Int × ByteArray × Unit)
      have hp := PkS.un_pack h
      subst hp
      exact (elaws_markText_l4 @laws_markText_l4 n y4_0 y4_1 kk).symm
theorem nllaws_markText_l4 : ∀ n, NatLP (Plaws_markText_l4 @laws_markText_l4 n) := lelaws_markText_l4.nat (fun n => mkK_nat (claws_markText n)) fun n => mkL_nat (mkK_nat (claws_markText n)) (l := []) trivial
theorem inlaws_markText_l4 (n : Nat) (R : Type) : LoopsOk Try.prog (mkL (mkK []) [] R) (loopIn 4 (bodyOf Try.f77)) := .eq (l := []) (by kernel_rfl) trivial
theorem lklaws_markText_l4 (n : Nat) (R : Type) (L0 : LK R) (h0 : ∀ id, firstRegion (loopIn 4 (bodyOf Try.f77)) = some id → L0 id = Dlaws_markText_l4.oracle (mkK [] R) (Plaws_markText_l4 @laws_markText_l4 n R)) : LoopOk Try.prog L0 (loopIn 4 (bodyOf Try.f77)) :=
  lelaws_markText_l4.ok mixed ttok (fun n => mkK_nat (claws_markText n)) (fun n => mkK_ok (claws_markText n)) (fun n => inlaws_markText_l4 n R) (mkK_nat (claws_markText n)) h0
@[reducible] def Slaws_markText : PkS := ⟨[.one (.int .i64)], []⟩
@[reducible] def Tlaws_markText : PkS := ⟨[.one (.str), .one (.dead)], []⟩
def Hlaws_markText : List Sh := [.one .any, .skip]
def Klaws_markText (g : ∀ {R : Type}, Nat → Int → (ByteArray → Option R) → Option R) (n : Nat) : KPs := fun R p k => match (PkS.un Slaws_markText p : Option (Int × Unit)) with
  | some (x0, _) => g n x0 (fun r0 => k (PkS.pack Tlaws_markText (r0, ())))
  | none => none
theorem elaws_markText (laws_markText_l4 : ∀ {R : Type}, Nat → Int → ByteArray → (ByteArray → Option R) → Option R) {R : Type} (n : Nat) (x0 : Int) (k : Pk → Option R) : evF tt sig (mkK [] R) (mkL (mkK []) [(4, Dlaws_markText_l4, Plaws_markText_l4 @laws_markText_l4 n)] R) Try.f77 Hlaws_markText (PkS.pack Slaws_markText (x0, ())) k = (fun (k : ByteArray → Option R) => (bif (decide (x0 ≤ 0)) then k (ByteArray.mk #[109, 48]) else (laws_markText_l4 n x0 (ByteArray.mk #[]) (fun r1 => (bif decide ((ByteArray.mk #[109]).size + r1.size ≤ STR) then k ((ByteArray.mk #[109]) ++ r1) else none))))) (fun r0 => k (PkS.pack Tlaws_markText (r0, ()))) := by kernel_rfl
theorem oklaws_markText (n : Nat) : FnOk Try.prog 77 (Klaws_markText @laws_markText n) := by
  refine fn_ok (sig := sig) mixed ttok (mkK_nat (claws_markText n)) (mkK_ok (claws_markText n)) (mkL_nat (mkK_nat (claws_markText n)) (l := [(4, Dlaws_markText_l4, Plaws_markText_l4 @laws_markText_l4 n)]) ⟨nllaws_markText_l4 n, trivial⟩) (fn := Try.f77) (c := bodyOf Try.f77) (by kernel_rfl) (by kernel_rfl) (by kernel_rfl) (.eq (l := [loopIn 4 (bodyOf Try.f77)]) (by kernel_rfl) ⟨(lklaws_markText_l4 n _ _ (at_id (i := 4) (by kernel_rfl) rfl)), trivial⟩) (shs := Hlaws_markText) (S := Slaws_markText) fun R p k => ?_
  unfold Klaws_markText
  cases h : (PkS.un Slaws_markText p) with
  | none => rfl
  | some d =>
    obtain ⟨x0, u⟩ := (d : Int × Unit)
    have hp := PkS.un_pack h
    subst hp
    exact (elaws_markText @laws_markText_l4 n x0 k).symm

/-! ### loop.example/g00269/laws.markStringS -/
theorem claws_markStringS (n : Nat) : AllOk Try.prog [(77, Klaws_markText @laws_markText n)] := ⟨oklaws_markText n, trivial⟩
@[reducible] def Slaws_markStringS_l2 : PkS := ⟨[.one (.whole (100000, 0)), .one (.int .i64), .one (.int .i64), .one (.whole (100000, 0)), .one (.dead)], [((100000, 0), .arr .str)]⟩
@[reducible] def Tlaws_markStringS_l2_0 : PkS := ⟨[.one (.int .i64), .one (.whole (100000, 0)), .one (.dead)], [((100000, 0), .arr .str)]⟩
def Dlaws_markStringS_l2 : LoopD := ⟨20, [0, 1, 5], [.one (.own .str), .one .any, .one .any, .one (.own .str), .skip], fun x => match x with
  | .exit 0 => some ([1], [.one .any, .one (.own .str), .skip])
  | _ => none⟩
def Plaws_markStringS_l2 (g : ∀ {R : Type}, Nat → Int → Int → (List ByteArray) → (Int → (List ByteArray) → Option R) → Option R) (n : Nat) : LPs := fun R q kk => match (PkS.un Slaws_markStringS_l2 q : Option (Int × Int × (List ByteArray) × Unit)) with
  | some (y2_0, y2_1, y2_2, _) => g n y2_0 y2_1 y2_2 (fun r0 r1 => kk (.exit 0) (PkS.pack Tlaws_markStringS_l2_0 (r0, r1, ())))
  | none => none
theorem elaws_markStringS_l2 (laws_markText : ∀ {R : Type}, Nat → Int → (ByteArray → Option R) → Option R) (laws_markStringS_l2 : ∀ {R : Type}, Nat → Int → Int → (List ByteArray) → (Int → (List ByteArray) → Option R) → Option R) {R : Type} (n : Nat) (y2_0 : Int) (y2_1 : Int) (y2_2 : List ByteArray) (kk : Ex → Pk → Option R) : Dlaws_markStringS_l2.step tt sig (mkK [(77, Klaws_markText @laws_markText n)] R) (mkL (mkK [(77, Klaws_markText @laws_markText n)]) [] R) (loopIn 2 (bodyOf Try.f65)) (fun q' => Plaws_markStringS_l2 @laws_markStringS_l2 n R q' kk) (PkS.pack Slaws_markStringS_l2 (y2_0, y2_1, y2_2, ())) kk = (fun (kexit0 : Int → (List ByteArray) → Option R) => (bif (decide (y2_1 < (y2_2.length : Int))) then (laws_markText n y2_0 fun r1 => (bif decide (0 ≤ y2_1) then (bif decide (y2_1 < (y2_2.length : Int)) then laws_markStringS_l2 n (IntKind.wrap .i64 (y2_0 + 1)) (IntKind.wrap .i64 (y2_1 + 1)) (y2_2.set (Int.toNat y2_1) r1) kexit0 else none) else none)) else kexit0 y2_0 y2_2)) (fun r0 r1 => kk (.exit 0) (PkS.pack Tlaws_markStringS_l2_0 (r0, r1, ()))) := by kernel_rfl
theorem lelaws_markStringS_l2 : LoopEq tt sig (fun n => mkK [(77, Klaws_markText @laws_markText n)]) (fun n => mkL (mkK [(77, Klaws_markText @laws_markText n)]) []) Dlaws_markStringS_l2 Slaws_markStringS_l2 (loopIn 2 (bodyOf Try.f65)) (Plaws_markStringS_l2 @laws_markStringS_l2) where
  zero R q kk := by unfold Plaws_markStringS_l2; cases (PkS.un Slaws_markStringS_l2 q) <;> rfl
  succ n R q kk := by
    unfold Plaws_markStringS_l2
    cases h : (PkS.un Slaws_markStringS_l2 q) with
    | none => rfl
    | some d =>
      obtain ⟨y2_0, y2_1, y2_2, u⟩ := (d : Int × Int × (List ByteArray) × Unit)
      have hp := PkS.un_pack h
      subst hp
      exact (elaws_markStringS_l2 @laws_markText @laws_markStringS_l2 n y2_0 y2_1 y2_2 kk).symm
theorem nllaws_markStringS_l2 : ∀ n, NatLP (Plaws_markStringS_l2 @laws_markStringS_l2 n) := lelaws_markStringS_l2.nat (fun n => mkK_nat (claws_markStringS n)) fun n => mkL_nat (mkK_nat (claws_markStringS n)) (l := []) trivial
theorem inlaws_markStringS_l2 (n : Nat) (R : Type) : LoopsOk Try.prog (mkL (mkK [(77, Klaws_markText @laws_markText n)]) [] R) (loopIn 2 (bodyOf Try.f65)) := .eq (l := []) (by kernel_rfl) trivial
theorem lklaws_markStringS_l2 (n : Nat) (R : Type) (L0 : LK R) (h0 : ∀ id, firstRegion (loopIn 2 (bodyOf Try.f65)) = some id → L0 id = Dlaws_markStringS_l2.oracle (mkK [(77, Klaws_markText @laws_markText n)] R) (Plaws_markStringS_l2 @laws_markStringS_l2 n R)) : LoopOk Try.prog L0 (loopIn 2 (bodyOf Try.f65)) :=
  lelaws_markStringS_l2.ok mixed ttok (fun n => mkK_nat (claws_markStringS n)) (fun n => mkK_ok (claws_markStringS n)) (fun n => inlaws_markStringS_l2 n R) (mkK_nat (claws_markStringS n)) h0
@[reducible] def Slaws_markStringS : PkS := ⟨[.one (.whole (200000, 0)), .one (.int .i64)], [((200000, 0), .arr .str)]⟩
@[reducible] def Tlaws_markStringS : PkS := ⟨[.one (.int .i64), .one (.whole (300000, 0)), .one (.dead)], [((300000, 0), .arr .str)]⟩
def Hlaws_markStringS : List Sh := [.one .any, .one (.own .str), .skip]
def Klaws_markStringS (g : ∀ {R : Type}, Nat → Int → (List ByteArray) → (Int → (List ByteArray) → Option R) → Option R) (n : Nat) : KPs := fun R p k => match (PkS.un Slaws_markStringS p : Option (Int × (List ByteArray) × Unit)) with
  | some (x0, x1, _) => g n x0 x1 (fun r0 r1 => k (PkS.pack Tlaws_markStringS (r0, r1, ())))
  | none => none
theorem elaws_markStringS (laws_markText : ∀ {R : Type}, Nat → Int → (ByteArray → Option R) → Option R) (laws_markStringS_l2 : ∀ {R : Type}, Nat → Int → Int → (List ByteArray) → (Int → (List ByteArray) → Option R) → Option R) {R : Type} (n : Nat) (x0 : Int) (x1 : List ByteArray) (k : Pk → Option R) : evF tt sig (mkK [(77, Klaws_markText @laws_markText n)] R) (mkL (mkK [(77, Klaws_markText @laws_markText n)]) [(2, Dlaws_markStringS_l2, Plaws_markStringS_l2 @laws_markStringS_l2 n)] R) Try.f65 Hlaws_markStringS (PkS.pack Slaws_markStringS (x0, x1, ())) k = (fun (k : Int → (List ByteArray) → Option R) => (laws_markStringS_l2 n x0 0 x1 (fun r2 r3 => k r2 r3))) (fun r0 r1 => k (PkS.pack Tlaws_markStringS (r0, r1, ()))) := by kernel_rfl
theorem oklaws_markStringS (n : Nat) : FnOk Try.prog 65 (Klaws_markStringS @laws_markStringS n) := by
  refine fn_ok (sig := sig) mixed ttok (mkK_nat (claws_markStringS n)) (mkK_ok (claws_markStringS n)) (mkL_nat (mkK_nat (claws_markStringS n)) (l := [(2, Dlaws_markStringS_l2, Plaws_markStringS_l2 @laws_markStringS_l2 n)]) ⟨nllaws_markStringS_l2 n, trivial⟩) (fn := Try.f65) (c := bodyOf Try.f65) (by kernel_rfl) (by kernel_rfl) (by kernel_rfl) (.eq (l := [loopIn 2 (bodyOf Try.f65)]) (by kernel_rfl) ⟨(lklaws_markStringS_l2 n _ _ (at_id (i := 2) (by kernel_rfl) rfl)), trivial⟩) (shs := Hlaws_markStringS) (S := Slaws_markStringS) fun R p k => ?_
  unfold Klaws_markStringS
  cases h : (PkS.un Slaws_markStringS p) with
  | none => rfl
  | some d =>
    obtain ⟨x0, x1, u⟩ := (d : Int × (List ByteArray) × Unit)
    have hp := PkS.un_pack h
    subst hp
    exact (elaws_markStringS @laws_markText @laws_markStringS_l2 n x0 x1 k).symm

/-! ### loop.example/g00269/laws.markState -/
theorem claws_markState (n : Nat) : AllOk Try.prog [(65, Klaws_markStringS @laws_markStringS n)] := ⟨oklaws_markStringS n, trivial⟩
@[reducible] def Slaws_markState : PkS := ⟨[.agg [.int .i64, .int .i64, .bool, .int .i64, .whole (200000, 0), .whole (200000, 1)], .one (.int .i64)], [((200000, 0), .arr .str), ((200000, 1), .arr .str)]⟩
@[reducible] def Tlaws_markState : PkS := ⟨[.one (.int .i64), .agg [.int .i64, .int .i64, .bool, .int .i64, .whole (300000, 0), .whole (300000, 1)], .one (.dead)], [((300000, 0), .arr .str), ((300000, 1), .arr .str)]⟩
def Hlaws_markState : List Sh := [.one .any, .agg [.any, .any, .any, .any, (.own .str), (.own .str)], .skip]
def Klaws_markState (g : ∀ {R : Type}, Nat → Int → Int → Bool → Int → Int → (List ByteArray) → (List ByteArray) → (Int → Int → Int → Bool → Int → (List ByteArray) → (List ByteArray) → Option R) → Option R) (n : Nat) : KPs := fun R p k => match (PkS.un Slaws_markState p : Option (Int × Int × Bool × Int × Int × (List ByteArray) × (List ByteArray) × Unit)) with
  | some (x0, x1, x2, x3, x4, x5, x6, _) => g n x0 x1 x2 x3 x4 x5 x6 (fun r0 r1 r2 r3 r4 r5 r6 => k (PkS.pack Tlaws_markState (r0, r1, r2, r3, r4, r5, r6, ())))
  | none => none
theorem elaws_markState (laws_markStringS : ∀ {R : Type}, Nat → Int → (List ByteArray) → (Int → (List ByteArray) → Option R) → Option R) {R : Type} (n : Nat) (x0 : Int) (x1 : Int) (x2 : Bool) (x3 : Int) (x4 : Int) (x5 : List ByteArray) (x6 : List ByteArray) (k : Pk → Option R) : evF tt sig (mkK [(65, Klaws_markStringS @laws_markStringS n)] R) (mkL (mkK [(65, Klaws_markStringS @laws_markStringS n)]) [] R) Try.f42 Hlaws_markState (PkS.pack Slaws_markState (x0, x1, x2, x3, x4, x5, x6, ())) k = (fun (k : Int → Int → Int → Bool → Int → (List ByteArray) → (List ByteArray) → Option R) => (laws_markStringS n x4 x5 fun r1 r2 => (laws_markStringS n r1 x6 fun r3 r4 => k r3 x0 x1 x2 x3 r2 r4))) (fun r0 r1 r2 r3 r4 r5 r6 => k (PkS.pack Tlaws_markState (r0, r1, r2, r3, r4, r5, r6, ()))) := by kernel_rfl
theorem oklaws_markState (n : Nat) : FnOk Try.prog 42 (Klaws_markState @laws_markState n) := by
  refine fn_ok (sig := sig) mixed ttok (mkK_nat (claws_markState n)) (mkK_ok (claws_markState n)) (mkL_nat (mkK_nat (claws_markState n)) (l := []) trivial) (fn := Try.f42) (c := bodyOf Try.f42) (by kernel_rfl) (by kernel_rfl) (by kernel_rfl) (.eq (l := []) (by kernel_rfl) trivial) (shs := Hlaws_markState) (S := Slaws_markState) fun R p k => ?_
  unfold Klaws_markState
  cases h : (PkS.un Slaws_markState p) with
  | none => rfl
  | some d =>
    obtain ⟨x0, x1, x2, x3, x4, x5, x6, u⟩ := (d : Int × Int × Bool × Int × Int × (List ByteArray) × (List ByteArray) × Unit)
    have hp := PkS.un_pack h
    subst hp
    exact (elaws_markState @laws_markStringS n x0 x1 x2 x3 x4 x5 x6 k).symm

/-! ### loop.example/g00269/laws.heldStringS -/
theorem claws_heldStringS (n : Nat) : AllOk Try.prog [(77, Klaws_markText @laws_markText n)] := ⟨oklaws_markText n, trivial⟩
@[reducible] def Slaws_heldStringS_l2 : PkS := ⟨[.one (.ro .str), .one (.int .i64), .one (.int .i64), .one (.dead), .one (.dead)], []⟩
@[reducible] def Tlaws_heldStringS_l2_0 : PkS := ⟨[.one (.int .i64), .one (.dead), .one (.dead)], []⟩
@[reducible] def Tlaws_heldStringS_l2_1 : PkS := ⟨[.one (.int .i64), .one (.dead), .one (.dead)], []⟩
def Dlaws_heldStringS_l2 : LoopD := ⟨22, [0, 1, 5], [.one (.ro .str), .one .any, .one .any, .skip, .skip], fun x => match x with
  | .ret => some ([4], [.one .any, .skip, .skip])
  | .exit 0 => some ([1], [.one .any, .skip, .skip])
  | _ => none⟩
def Plaws_heldStringS_l2 (g : ∀ {R : Type}, Nat → (List ByteArray) → Int → Int → (Int → Option R) → (Int → Option R) → Option R) (n : Nat) : LPs := fun R q kk => match (PkS.un Slaws_heldStringS_l2 q : Option ((List ByteArray) × Int × Int × Unit)) with
  | some (y2_0, y2_1, y2_2, _) => g n y2_0 y2_1 y2_2 (fun r0 => kk .ret (PkS.pack Tlaws_heldStringS_l2_0 (r0, ()))) (fun r0 => kk (.exit 0) (PkS.pack Tlaws_heldStringS_l2_1 (r0, ())))
  | none => none
theorem elaws_heldStringS_l2 (laws_markText : ∀ {R : Type}, Nat → Int → (ByteArray → Option R) → Option R) (laws_heldStringS_l2 : ∀ {R : Type}, Nat → (List ByteArray) → Int → Int → (Int → Option R) → (Int → Option R) → Option R) {R : Type} (n : Nat) (y2_0 : List ByteArray) (y2_1 : Int) (y2_2 : Int) (kk : Ex → Pk → Option R) : Dlaws_heldStringS_l2.step tt sig (mkK [(77, Klaws_markText @laws_markText n)] R) (mkL (mkK [(77, Klaws_markText @laws_markText n)]) [] R) (loopIn 2 (bodyOf Try.f66)) (fun q' => Plaws_heldStringS_l2 @laws_heldStringS_l2 n R q' kk) (PkS.pack Slaws_heldStringS_l2 (y2_0, y2_1, y2_2, ())) kk = (fun (kret : Int → Option R) (kexit0 : Int → Option R) => (bif (decide (y2_2 < (y2_0.length : Int))) then (bif decide (0 ≤ y2_2) then (bif decide (y2_2 < (y2_0.length : Int)) then (laws_markText n y2_1 fun r1 => (bif (!((ByteArray.toList (y2_0.getD (Int.toNat y2_2) ByteArray.empty)) == (ByteArray.toList r1))) then kret (-1) else laws_heldStringS_l2 n y2_0 (IntKind.wrap .i64 (y2_1 + 1)) (IntKind.wrap .i64 (y2_2 + 1)) kret kexit0)) else none) else none) else kexit0 y2_1)) (fun r0 => kk .ret (PkS.pack Tlaws_heldStringS_l2_0 (r0, ()))) (fun r0 => kk (.exit 0) (PkS.pack Tlaws_heldStringS_l2_1 (r0, ()))) := by kernel_rfl
theorem lelaws_heldStringS_l2 : LoopEq tt sig (fun n => mkK [(77, Klaws_markText @laws_markText n)]) (fun n => mkL (mkK [(77, Klaws_markText @laws_markText n)]) []) Dlaws_heldStringS_l2 Slaws_heldStringS_l2 (loopIn 2 (bodyOf Try.f66)) (Plaws_heldStringS_l2 @laws_heldStringS_l2) where
  zero R q kk := by unfold Plaws_heldStringS_l2; cases (PkS.un Slaws_heldStringS_l2 q) <;> rfl
  succ n R q kk := by
    unfold Plaws_heldStringS_l2
    cases h : (PkS.un Slaws_heldStringS_l2 q) with
    | none => rfl
    | some d =>
      obtain ⟨y2_0, y2_1, y2_2, u⟩ := (d : (List ByteArray) × Int × Int × Unit)
      have hp := PkS.un_pack h
      subst hp
      exact (elaws_heldStringS_l2 @laws_markText @laws_heldStringS_l2 n y2_0 y2_1 y2_2 kk).symm
theorem nllaws_heldStringS_l2 : ∀ n, NatLP (Plaws_heldStringS_l2 @laws_heldStringS_l2 n) := lelaws_heldStringS_l2.nat (fun n => mkK_nat (claws_heldStringS n)) fun n => mkL_nat (mkK_nat (claws_heldStringS n)) (l := []) trivial
theorem inlaws_heldStringS_l2 (n : Nat) (R : Type) : LoopsOk Try.prog (mkL (mkK [(77, Klaws_markText @laws_markText n)]) [] R) (loopIn 2 (bodyOf Try.f66)) := .eq (l := []) (by kernel_rfl) trivial
theorem lklaws_heldStringS_l2 (n : Nat) (R : Type) (L0 : LK R) (h0 : ∀ id, firstRegion (loopIn 2 (bodyOf Try.f66)) = some id → L0 id = Dlaws_heldStringS_l2.oracle (mkK [(77, Klaws_markText @laws_markText n)] R) (Plaws_heldStringS_l2 @laws_heldStringS_l2 n R)) : LoopOk Try.prog L0 (loopIn 2 (bodyOf Try.f66)) :=
  lelaws_heldStringS_l2.ok mixed ttok (fun n => mkK_nat (claws_heldStringS n)) (fun n => mkK_ok (claws_heldStringS n)) (fun n => inlaws_heldStringS_l2 n R) (mkK_nat (claws_heldStringS n)) h0
@[reducible] def Slaws_heldStringS : PkS := ⟨[.one (.ro .str), .one (.int .i64)], []⟩
@[reducible] def Tlaws_heldStringS : PkS := ⟨[.one (.int .i64), .one (.dead), .one (.dead)], []⟩
def Hlaws_heldStringS : List Sh := [.one .any, .skip, .skip]
def Klaws_heldStringS (g : ∀ {R : Type}, Nat → (List ByteArray) → Int → (Int → Option R) → Option R) (n : Nat) : KPs := fun R p k => match (PkS.un Slaws_heldStringS p : Option ((List ByteArray) × Int × Unit)) with
  | some (x0, x1, _) => g n x0 x1 (fun r0 => k (PkS.pack Tlaws_heldStringS (r0, ())))
  | none => none
theorem elaws_heldStringS (laws_markText : ∀ {R : Type}, Nat → Int → (ByteArray → Option R) → Option R) (laws_heldStringS_l2 : ∀ {R : Type}, Nat → (List ByteArray) → Int → Int → (Int → Option R) → (Int → Option R) → Option R) {R : Type} (n : Nat) (x0 : List ByteArray) (x1 : Int) (k : Pk → Option R) : evF tt sig (mkK [(77, Klaws_markText @laws_markText n)] R) (mkL (mkK [(77, Klaws_markText @laws_markText n)]) [(2, Dlaws_heldStringS_l2, Plaws_heldStringS_l2 @laws_heldStringS_l2 n)] R) Try.f66 Hlaws_heldStringS (PkS.pack Slaws_heldStringS (x0, x1, ())) k = (fun (k : Int → Option R) => (laws_heldStringS_l2 n x0 x1 0 (fun r2 => k r2) (fun r3 => k r3))) (fun r0 => k (PkS.pack Tlaws_heldStringS (r0, ()))) := by kernel_rfl
theorem oklaws_heldStringS (n : Nat) : FnOk Try.prog 66 (Klaws_heldStringS @laws_heldStringS n) := by
  refine fn_ok (sig := sig) mixed ttok (mkK_nat (claws_heldStringS n)) (mkK_ok (claws_heldStringS n)) (mkL_nat (mkK_nat (claws_heldStringS n)) (l := [(2, Dlaws_heldStringS_l2, Plaws_heldStringS_l2 @laws_heldStringS_l2 n)]) ⟨nllaws_heldStringS_l2 n, trivial⟩) (fn := Try.f66) (c := bodyOf Try.f66) (by kernel_rfl) (by kernel_rfl) (by kernel_rfl) (.eq (l := [loopIn 2 (bodyOf Try.f66)]) (by kernel_rfl) ⟨(lklaws_heldStringS_l2 n _ _ (at_id (i := 2) (by kernel_rfl) rfl)), trivial⟩) (shs := Hlaws_heldStringS) (S := Slaws_heldStringS) fun R p k => ?_
  unfold Klaws_heldStringS
  cases h : (PkS.un Slaws_heldStringS p) with
  | none => rfl
  | some d =>
    obtain ⟨x0, x1, u⟩ := (d : (List ByteArray) × Int × Unit)
    have hp := PkS.un_pack h
    subst hp
    exact (elaws_heldStringS @laws_markText @laws_heldStringS_l2 n x0 x1 k).symm

/-! ### loop.example/g00269/laws.heldState -/
theorem claws_heldState (n : Nat) : AllOk Try.prog [(66, Klaws_heldStringS @laws_heldStringS n)] := ⟨oklaws_heldStringS n, trivial⟩
@[reducible] def Slaws_heldState : PkS := ⟨[.agg [.int .i64, .int .i64, .bool, .int .i64, .ro .str, .ro .str], .one (.int .i64)], []⟩
@[reducible] def Tlaws_heldState : PkS := ⟨[.one (.int .i64), .one (.dead), .one (.dead)], []⟩
def Hlaws_heldState : List Sh := [.one .any, .skip, .skip]
def Klaws_heldState (g : ∀ {R : Type}, Nat → Int → Int → Bool → Int → (List ByteArray) → (List ByteArray) → Int → (Int → Option R) → Option R) (n : Nat) : KPs := fun R p k => match (PkS.un Slaws_heldState p : Option (Int × Int × Bool × Int × (List ByteArray) × (List ByteArray) × Int × Unit)) with
  | some (x0, x1, x2, x3, x4, x5, x6, _) => g n x0 x1 x2 x3 x4 x5 x6 (fun r0 => k (PkS.pack Tlaws_heldState (r0, ())))
  | none => none
theorem elaws_heldState (laws_heldStringS : ∀ {R : Type}, Nat → (List ByteArray) → Int → (Int → Option R) → Option R) {R : Type} (n : Nat) (x0 : Int) (x1 : Int) (x2 : Bool) (x3 : Int) (x4 : List ByteArray) (x5 : List ByteArray) (x6 : Int) (k : Pk → Option R) : evF tt sig (mkK [(66, Klaws_heldStringS @laws_heldStringS n)] R) (mkL (mkK [(66, Klaws_heldStringS @laws_heldStringS n)]) [] R) Try.f43 Hlaws_heldState (PkS.pack Slaws_heldState (x0, x1, x2, x3, x4, x5, x6, ())) k = (fun (k : Int → Option R) => (laws_heldStringS n x4 x6 fun r1 => (bif (decide (r1 < 0)) then k (-1) else (laws_heldStringS n x5 r1 fun r2 => (bif (decide (r2 < 0)) then k (-1) else k r2))))) (fun r0 => k (PkS.pack Tlaws_heldState (r0, ()))) := by kernel_rfl
theorem oklaws_heldState (n : Nat) : FnOk Try.prog 43 (Klaws_heldState @laws_heldState n) := by
  refine fn_ok (sig := sig) mixed ttok (mkK_nat (claws_heldState n)) (mkK_ok (claws_heldState n)) (mkL_nat (mkK_nat (claws_heldState n)) (l := []) trivial) (fn := Try.f43) (c := bodyOf Try.f43) (by kernel_rfl) (by kernel_rfl) (by kernel_rfl) (.eq (l := []) (by kernel_rfl) trivial) (shs := Hlaws_heldState) (S := Slaws_heldState) fun R p k => ?_
  unfold Klaws_heldState
  cases h : (PkS.un Slaws_heldState p) with
  | none => rfl
  | some d =>
    obtain ⟨x0, x1, x2, x3, x4, x5, x6, u⟩ := (d : Int × Int × Bool × Int × (List ByteArray) × (List ByteArray) × Int × Unit)
    have hp := PkS.un_pack h
    subst hp
    exact (elaws_heldState @laws_heldStringS n x0 x1 x2 x3 x4 x5 x6 k).symm

/-! ### loop.example/g00269/laws.FnExactNewState -/
theorem claws_FnExactNewState (n : Nat) : AllOk Try.prog [(39, Kspec_NewState @spec_NewState n), (40, Kimpl_NewState @impl_NewState n), (41, Klaws_eqState @laws_eqState n), (42, Klaws_markState @laws_markState n), (43, Klaws_heldState @laws_heldState n)] := ⟨okspec_NewState n, ⟨okimpl_NewState n, ⟨oklaws_eqState n, ⟨oklaws_markState n, ⟨oklaws_heldState n, trivial⟩⟩⟩⟩⟩
@[reducible] def Slaws_FnExactNewState : PkS := ⟨[], []⟩
@[reducible] def Tlaws_FnExactNewState : PkS := ⟨[.one (.bool)], []⟩
def Hlaws_FnExactNewState : List Sh := [.one .any]
def Klaws_FnExactNewState (g : ∀ {R : Type}, Nat → (Bool → Option R) → Option R) (n : Nat) : KPs := fun R p k => match (PkS.un Slaws_FnExactNewState p : Option (Unit)) with
  | some _ => g n  (fun r0 => k (PkS.pack Tlaws_FnExactNewState (r0, ())))
  | none => none
theorem elaws_FnExactNewState (spec_NewState : ∀ {R : Type}, Nat → (Int → Int → Bool → Int → (List ByteArray) → (List ByteArray) → Option R) → Option R) (impl_NewState : ∀ {R : Type}, Nat → (Int → Int → Bool → Int → (List ByteArray) → (List ByteArray) → Option R) → Option R) (laws_eqState : ∀ {R : Type}, Nat → Int → Int → Bool → Int → (List ByteArray) → (List ByteArray) → Int → Int → Bool → Int → (List ByteArray) → (List ByteArray) → (Bool → Option R) → Option R) (laws_markState : ∀ {R : Type}, Nat → Int → Int → Bool → Int → Int → (List ByteArray) → (List ByteArray) → (Int → Int → Int → Bool → Int → (List ByteArray) → (List ByteArray) → Option R) → Option R) (laws_heldState : ∀ {R : Type}, Nat → Int → Int → Bool → Int → (List ByteArray) → (List ByteArray) → Int → (Int → Option R) → Option R) {R : Type} (n : Nat)  (k : Pk → Option R) : evF tt sig (mkK [(39, Kspec_NewState @spec_NewState n), (40, Kimpl_NewState @impl_NewState n), (41, Klaws_eqState @laws_eqState n), (42, Klaws_markState @laws_markState n), (43, Klaws_heldState @laws_heldState n)] R) (mkL (mkK [(39, Kspec_NewState @spec_NewState n), (40, Kimpl_NewState @impl_NewState n), (41, Klaws_eqState @laws_eqState n), (42, Klaws_markState @laws_markState n), (43, Klaws_heldState @laws_heldState n)]) [] R) Try.f11 Hlaws_FnExactNewState (PkS.pack Slaws_FnExactNewState ()) k = (fun (k : Bool → Option R) => (spec_NewState n fun r1 r2 r3 r4 r5 r6 => (impl_NewState n fun r7 r8 r9 r10 r11 r12 => (laws_eqState n r7 r8 r9 r10 r11 r12 r1 r2 r3 r4 r5 r6 fun r13 => (bif (!r13) then k false else (laws_markState n r7 r8 r9 r10 1 r11 r12 fun r14 r15 r16 r17 r18 r19 r20 => (laws_heldState n r7 r8 r9 r10 r19 r20 1 fun r21 => (bif (decide (r21 < 0)) then k false else (bif (r21 != r14) then k false else (impl_NewState n fun r22 r23 r24 r25 r26 r27 => (laws_eqState n r22 r23 r24 r25 r26 r27 r1 r2 r3 r4 r5 r6 fun r28 => (bif (!r28) then k false else (laws_heldState n r7 r8 r9 r10 r19 r20 1 fun r29 => (bif (decide (r29 < 0)) then k false else (bif (r29 != r14) then k false else k true))))))))))))))) (fun r0 => k (PkS.pack Tlaws_FnExactNewState (r0, ()))) := by kernel_rfl
theorem oklaws_FnExactNewState (n : Nat) : FnOk Try.prog 11 (Klaws_FnExactNewState @laws_FnExactNewState n) := by
  refine fn_ok (sig := sig) mixed ttok (mkK_nat (claws_FnExactNewState n)) (mkK_ok (claws_FnExactNewState n)) (mkL_nat (mkK_nat (claws_FnExactNewState n)) (l := []) trivial) (fn := Try.f11) (c := bodyOf Try.f11) (by kernel_rfl) (by kernel_rfl) (by kernel_rfl) (.eq (l := []) (by kernel_rfl) trivial) (shs := Hlaws_FnExactNewState) (S := Slaws_FnExactNewState) fun R p k => ?_
  unfold Klaws_FnExactNewState
  cases h : (PkS.un Slaws_FnExactNewState p) with
  | none => rfl
  | some d =>
    obtain ⟨⟩ := (d : Unit)
    have hp := PkS.un_pack h
    subst hp
    exact (elaws_FnExactNewState @spec_NewState @impl_NewState @laws_eqState @laws_markState @laws_heldState n  k).symm
end Go.Am.G
