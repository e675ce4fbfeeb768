/- The code of the functions that the law reaches does what the plain functions say. -/
import Derived.Test.YtkmjmhjfadaebaaF7
import Derived.Test.YtkmjmhjfadaebaaAmB
import Derived.KernelRfl
import Derived.Test.YtkmjmhjfadaebaaProg
set_option linter.unusedVariables false
set_option maxRecDepth 100000
namespace Go.Am.G
open Go Go.Am
open Go.Proofs
def tt : TT := [(3, ⟨1, false, (.int .i64), 0, [], [.int .i64 0], 8, true, false, []⟩), (4, ⟨1, false, .bool, 0, [], [.bool false], 1, true, false, []⟩), (29, ⟨5, true, (.pr (.int .i64) (.pr (.int .i64) (.pr (.int .i64) (.pr (.int .i64) (.int .i64))))), 0, [(0, 1, false), (1, 1, false), (2, 1, false), (3, 1, false), (4, 1, false)], [.int .i64 0, .int .i64 0, .int .i64 0, .int .i64 0, .int .i64 0], 40, true, false, [(.int .i64), (.int .i64), (.int .i64), (.int .i64), (.int .i64)]⟩), (31, ⟨5, true, (.pr (.int .i64) (.pr (.int .i64) (.pr (.int .i64) (.pr (.int .i64) (.int .i64))))), 0, [(0, 1, false), (1, 1, false), (2, 1, false), (3, 1, false), (4, 1, false)], [.int .i64 0, .int .i64 0, .int .i64 0, .int .i64 0, .int .i64 0], 40, true, false, [(.int .i64), (.int .i64), (.int .i64), (.int .i64), (.int .i64)]⟩)]
def sig : Sig := sigOf [(7, [.agg [.any, .any, .any, .any, .any], .one .any]), (18, [.agg [.any, .any, .any, .any, .any]]), (19, [.agg [.any, .any, .any, .any, .any]]), (20, [.agg [.any, .any, .any, .any, .any]]), (28, [.agg [.any, .any, .any, .any, .any], .one .any]), (29, [.agg [.any, .any, .any, .any, .any], .one .any]), (53, [.one .any, .one .any, .one .any]), (54, [.one .any, .one .any, .one .any]), (55, [.one .any]), (60, [.box [.any, .any, .any, .any, .any], .one .any])]
theorem ttok : TTok Try.prog tt := .of_chk (by kernel_rfl)
theorem mixed : Try.prog.follows .mixedOrders = true := by kernel_rfl

/-! ### loop.example/g00269/laws.toBreaker -/
theorem claws_toBreaker (n : Nat) : AllOk Try.prog [] := trivial
@[reducible] def Slaws_toBreaker : PkS := ⟨[.agg [.int .i64, .int .i64, .int .i64, .int .i64, .int .i64]], []⟩
@[reducible] def Tlaws_toBreaker : PkS := ⟨[.agg [.int .i64, .int .i64, .int .i64, .int .i64, .int .i64], .one (.dead)], []⟩
def Hlaws_toBreaker : List Sh := [.agg [.any, .any, .any, .any, .any], .skip]
def Klaws_toBreaker (n : Nat) : KPs := fun R p k => match (PkS.un Slaws_toBreaker p : Option (Int × Int × Int × Int × Int × Unit)) with
  | some (x0, x1, x2, x3, x4, _) => laws_toBreaker n x0 x1 x2 x3 x4 (fun r0 r1 r2 r3 r4 => k (PkS.pack Tlaws_toBreaker (r0, r1, r2, r3, r4, ())))
  | none => none
theorem elaws_toBreaker {R : Type} (n : Nat) (x0 : Int) (x1 : Int) (x2 : Int) (x3 : Int) (x4 : Int) (k : Pk → Option R) : evF tt sig (mkK [] R) (mkL (mkK []) [] R) Try.f19 Hlaws_toBreaker (PkS.pack Slaws_toBreaker (x0, x1, x2, x3, x4, ())) k = laws_toBreaker n x0 x1 x2 x3 x4 (fun r0 r1 r2 r3 r4 => k (PkS.pack Tlaws_toBreaker (r0, r1, r2, r3, r4, ()))) := by kernel_rfl
theorem oklaws_toBreaker (n : Nat) : FnOk Try.prog 19 (Klaws_toBreaker n) := by
  refine fn_ok (sig := sig) mixed ttok (mkK_nat (claws_toBreaker n)) (mkK_ok (claws_toBreaker n)) (mkL_nat (mkK_nat (claws_toBreaker n)) (l := []) trivial) (fn := Try.f19) (c := bodyOf Try.f19) (by kernel_rfl) (by kernel_rfl) (by kernel_rfl) (.eq (l := []) (by kernel_rfl) trivial) (shs := Hlaws_toBreaker) (S := Slaws_toBreaker) fun R p k => ?_
  unfold Klaws_toBreaker
  cases h : (PkS.un Slaws_toBreaker p) with
  | none => rfl
  | some d =>
    obtain ⟨x0, x1, x2, x3, x4, u⟩ := (d : Int × Int × Int × Int × Int × Unit)
    have hp := PkS.un_pack h
    subst hp
    exact (elaws_toBreaker n x0 x1 x2 x3 x4 k).symm

/-! ### loop.example/g00269/spec.l1In -/
theorem cspec_l1In (n : Nat) : AllOk Try.prog [] := trivial
@[reducible] def Sspec_l1In : PkS := ⟨[.one (.int .i64), .one (.int .i64), .one (.int .i64)], []⟩
@[reducible] def Tspec_l1In : PkS := ⟨[.one (.bool), .one (.dead), .one (.dead), .one (.dead)], []⟩
def Hspec_l1In : List Sh := [.one .any, .skip, .skip, .skip]
def Kspec_l1In (n : Nat) : KPs := fun R p k => match (PkS.un Sspec_l1In p : Option (Int × Int × Int × Unit)) with
  | some (x0, x1, x2, _) => spec_l1In n x0 x1 x2 (fun r0 => k (PkS.pack Tspec_l1In (r0, ())))
  | none => none
theorem espec_l1In {R : Type} (n : Nat) (x0 : Int) (x1 : Int) (x2 : Int) (k : Pk → Option R) : evF tt sig (mkK [] R) (mkL (mkK []) [] R) Try.f53 Hspec_l1In (PkS.pack Sspec_l1In (x0, x1, x2, ())) k = spec_l1In n x0 x1 x2 (fun r0 => k (PkS.pack Tspec_l1In (r0, ()))) := by kernel_rfl
theorem okspec_l1In (n : Nat) : FnOk Try.prog 53 (Kspec_l1In n) := by
  refine fn_ok (sig := sig) mixed ttok (mkK_nat (cspec_l1In n)) (mkK_ok (cspec_l1In n)) (mkL_nat (mkK_nat (cspec_l1In n)) (l := []) trivial) (fn := Try.f53) (c := bodyOf Try.f53) (by kernel_rfl) (by kernel_rfl) (by kernel_rfl) (.eq (l := []) (by kernel_rfl) trivial) (shs := Hspec_l1In) (S := Sspec_l1In) fun R p k => ?_
  unfold Kspec_l1In
  cases h : (PkS.un Sspec_l1In p) with
  | none => rfl
  | some d =>
    obtain ⟨x0, x1, x2, u⟩ := (d : Int × Int × Int × Unit)
    have hp := PkS.un_pack h
    subst hp
    exact (espec_l1In n x0 x1 x2 k).symm

/-! ### loop.example/g00269/spec.GoodBreaker -/
theorem cspec_GoodBreaker (n : Nat) : AllOk Try.prog [(53, Kspec_l1In n)] := ⟨okspec_l1In n, trivial⟩
@[reducible] def Sspec_GoodBreaker : PkS := ⟨[.agg [.int .i64, .int .i64, .int .i64, .int .i64, .int .i64]], []⟩
@[reducible] def Tspec_GoodBreaker : PkS := ⟨[.one (.bool), .one (.dead)], []⟩
def Hspec_GoodBreaker : List Sh := [.one .any, .skip]
def Kspec_GoodBreaker (n : Nat) : KPs := fun R p k => match (PkS.un Sspec_GoodBreaker p : Option (Int × Int × Int × Int × Int × Unit)) with
  | some (x0, x1, x2, x3, x4, _) => spec_GoodBreaker n x0 x1 x2 x3 x4 (fun r0 => k (PkS.pack Tspec_GoodBreaker (r0, ())))
  | none => none
theorem espec_GoodBreaker {R : Type} (n : Nat) (x0 : Int) (x1 : Int) (x2 : Int) (x3 : Int) (x4 : Int) (k : Pk → Option R) : evF tt sig (mkK [(53, Kspec_l1In n)] R) (mkL (mkK [(53, Kspec_l1In n)]) [] R) Try.f18 Hspec_GoodBreaker (PkS.pack Sspec_GoodBreaker (x0, x1, x2, x3, x4, ())) k = spec_GoodBreaker n x0 x1 x2 x3 x4 (fun r0 => k (PkS.pack Tspec_GoodBreaker (r0, ()))) := by kernel_rfl
theorem okspec_GoodBreaker (n : Nat) : FnOk Try.prog 18 (Kspec_GoodBreaker n) := by
  refine fn_ok (sig := sig) mixed ttok (mkK_nat (cspec_GoodBreaker n)) (mkK_ok (cspec_GoodBreaker n)) (mkL_nat (mkK_nat (cspec_GoodBreaker n)) (l := []) trivial) (fn := Try.f18) (c := bodyOf Try.f18) (by kernel_rfl) (by kernel_rfl) (by kernel_rfl) (.eq (l := []) (by kernel_rfl) trivial) (shs := Hspec_GoodBreaker) (S := Sspec_GoodBreaker) fun R p k => ?_
  unfold Kspec_GoodBreaker
  cases h : (PkS.un Sspec_GoodBreaker p) with
  | none => rfl
  | some d =>
    obtain ⟨x0, x1, x2, x3, x4, u⟩ := (d : Int × Int × Int × Int × Int × Unit)
    have hp := PkS.un_pack h
    subst hp
    exact (espec_GoodBreaker n x0 x1 x2 x3 x4 k).symm

/-! ### loop.example/g00269/spec.AllowsAt -/
theorem cspec_AllowsAt (n : Nat) : AllOk Try.prog [(18, Kspec_GoodBreaker n), (53, Kspec_l1In n)] := ⟨okspec_GoodBreaker n, ⟨okspec_l1In n, trivial⟩⟩
@[reducible] def Sspec_AllowsAt : PkS := ⟨[.agg [.int .i64, .int .i64, .int .i64, .int .i64, .int .i64], .one (.int .i64)], []⟩
@[reducible] def Tspec_AllowsAt : PkS := ⟨[.tup [(false, [.bool]), (false, [.bool])], .one (.dead), .one (.dead)], []⟩
def Hspec_AllowsAt : List Sh := [.tup [(false, [.any]), (false, [.any])], .skip, .skip]
def Kspec_AllowsAt (n : Nat) : KPs := fun R p k => match (PkS.un Sspec_AllowsAt p : Option (Int × Int × Int × Int × Int × Int × Unit)) with
  | some (x0, x1, x2, x3, x4, x5, _) => spec_AllowsAt n x0 x1 x2 x3 x4 x5 (fun r0 r1 => k (PkS.pack Tspec_AllowsAt (r0, r1, ())))
  | none => none
theorem espec_AllowsAt {R : Type} (n : Nat) (x0 : Int) (x1 : Int) (x2 : Int) (x3 : Int) (x4 : Int) (x5 : Int) (k : Pk → Option R) : evF tt sig (mkK [(18, Kspec_GoodBreaker n), (53, Kspec_l1In n)] R) (mkL (mkK [(18, Kspec_GoodBreaker n), (53, Kspec_l1In n)]) [] R) Try.f28 Hspec_AllowsAt (PkS.pack Sspec_AllowsAt (x0, x1, x2, x3, x4, x5, ())) k = spec_AllowsAt n x0 x1 x2 x3 x4 x5 (fun r0 r1 => k (PkS.pack Tspec_AllowsAt (r0, r1, ()))) := by kernel_rfl
theorem okspec_AllowsAt (n : Nat) : FnOk Try.prog 28 (Kspec_AllowsAt n) := by
  refine fn_ok (sig := sig) mixed ttok (mkK_nat (cspec_AllowsAt n)) (mkK_ok (cspec_AllowsAt n)) (mkL_nat (mkK_nat (cspec_AllowsAt n)) (l := []) trivial) (fn := Try.f28) (c := bodyOf Try.f28) (by kernel_rfl) (by kernel_rfl) (by kernel_rfl) (.eq (l := []) (by kernel_rfl) trivial) (shs := Hspec_AllowsAt) (S := Sspec_AllowsAt) fun R p k => ?_
  unfold Kspec_AllowsAt
  cases h : (PkS.un Sspec_AllowsAt p) with
  | none => rfl
  | some d =>
    obtain ⟨x0, x1, x2, x3, x4, x5, u⟩ := (d : Int × Int × Int × Int × Int × Int × Unit)
    have hp := PkS.un_pack h
    subst hp
    exact (espec_AllowsAt n x0 x1 x2 x3 x4 x5 k).symm

/-! ### loop.example/g00269/impl.in -/
theorem cimpl_in (n : Nat) : AllOk Try.prog [] := trivial
@[reducible] def Simpl_in : PkS := ⟨[.one (.int .i64), .one (.int .i64), .one (.int .i64)], []⟩
@[reducible] def Timpl_in : PkS := ⟨[.one (.bool), .one (.dead), .one (.dead), .one (.dead)], []⟩
def Himpl_in : List Sh := [.one .any, .skip, .skip, .skip]
def Kimpl_in (n : Nat) : KPs := fun R p k => match (PkS.un Simpl_in p : Option (Int × Int × Int × Unit)) with
  | some (x0, x1, x2, _) => impl_in n x0 x1 x2 (fun r0 => k (PkS.pack Timpl_in (r0, ())))
  | none => none
theorem eimpl_in {R : Type} (n : Nat) (x0 : Int) (x1 : Int) (x2 : Int) (k : Pk → Option R) : evF tt sig (mkK [] R) (mkL (mkK []) [] R) Try.f54 Himpl_in (PkS.pack Simpl_in (x0, x1, x2, ())) k = impl_in n x0 x1 x2 (fun r0 => k (PkS.pack Timpl_in (r0, ()))) := by kernel_rfl
theorem okimpl_in (n : Nat) : FnOk Try.prog 54 (Kimpl_in n) := by
  refine fn_ok (sig := sig) mixed ttok (mkK_nat (cimpl_in n)) (mkK_ok (cimpl_in n)) (mkL_nat (mkK_nat (cimpl_in n)) (l := []) trivial) (fn := Try.f54) (c := bodyOf Try.f54) (by kernel_rfl) (by kernel_rfl) (by kernel_rfl) (.eq (l := []) (by kernel_rfl) trivial) (shs := Himpl_in) (S := Simpl_in) fun R p k => ?_
  unfold Kimpl_in
  cases h : (PkS.un Simpl_in p) with
  | none => rfl
  | some d =>
    obtain ⟨x0, x1, x2, u⟩ := (d : Int × Int × Int × Unit)
    have hp := PkS.un_pack h
    subst hp
    exact (eimpl_in n x0 x1 x2 k).symm

/-! ### loop.example/g00269/impl.isTime -/
theorem cimpl_isTime (n : Nat) : AllOk Try.prog [(54, Kimpl_in n)] := ⟨okimpl_in n, trivial⟩
@[reducible] def Simpl_isTime : PkS := ⟨[.one (.int .i64)], []⟩
@[reducible] def Timpl_isTime : PkS := ⟨[.one (.bool), .one (.dead)], []⟩
def Himpl_isTime : List Sh := [.one .any, .skip]
def Kimpl_isTime (n : Nat) : KPs := fun R p k => match (PkS.un Simpl_isTime p : Option (Int × Unit)) with
  | some (x0, _) => impl_isTime n x0 (fun r0 => k (PkS.pack Timpl_isTime (r0, ())))
  | none => none
theorem eimpl_isTime {R : Type} (n : Nat) (x0 : Int) (k : Pk → Option R) : evF tt sig (mkK [(54, Kimpl_in n)] R) (mkL (mkK [(54, Kimpl_in n)]) [] R) Try.f55 Himpl_isTime (PkS.pack Simpl_isTime (x0, ())) k = impl_isTime n x0 (fun r0 => k (PkS.pack Timpl_isTime (r0, ()))) := by kernel_rfl
theorem okimpl_isTime (n : Nat) : FnOk Try.prog 55 (Kimpl_isTime n) := by
  refine fn_ok (sig := sig) mixed ttok (mkK_nat (cimpl_isTime n)) (mkK_ok (cimpl_isTime n)) (mkL_nat (mkK_nat (cimpl_isTime n)) (l := []) trivial) (fn := Try.f55) (c := bodyOf Try.f55) (by kernel_rfl) (by kernel_rfl) (by kernel_rfl) (.eq (l := []) (by kernel_rfl) trivial) (shs := Himpl_isTime) (S := Simpl_isTime) fun R p k => ?_
  unfold Kimpl_isTime
  cases h : (PkS.un Simpl_isTime p) with
  | none => rfl
  | some d =>
    obtain ⟨x0, u⟩ := (d : Int × Unit)
    have hp := PkS.un_pack h
    subst hp
    exact (eimpl_isTime n x0 k).symm

/-! ### loop.example/g00269/impl.GoodBreaker -/
theorem cimpl_GoodBreaker (n : Nat) : AllOk Try.prog [(54, Kimpl_in n), (55, Kimpl_isTime n)] := ⟨okimpl_in n, ⟨okimpl_isTime n, trivial⟩⟩
@[reducible] def Simpl_GoodBreaker : PkS := ⟨[.agg [.int .i64, .int .i64, .int .i64, .int .i64, .int .i64]], []⟩
@[reducible] def Timpl_GoodBreaker : PkS := ⟨[.one (.bool), .one (.dead)], []⟩
def Himpl_GoodBreaker : List Sh := [.one .any, .skip]
def Kimpl_GoodBreaker (n : Nat) : KPs := fun R p k => match (PkS.un Simpl_GoodBreaker p : Option (Int × Int × Int × Int × Int × Unit)) with
  | some (x0, x1, x2, x3, x4, _) => impl_GoodBreaker n x0 x1 x2 x3 x4 (fun r0 => k (PkS.pack Timpl_GoodBreaker (r0, ())))
  | none => none
theorem eimpl_GoodBreaker {R : Type} (n : Nat) (x0 : Int) (x1 : Int) (x2 : Int) (x3 : Int) (x4 : Int) (k : Pk → Option R) : evF tt sig (mkK [(54, Kimpl_in n), (55, Kimpl_isTime n)] R) (mkL (mkK [(54, Kimpl_in n), (55, Kimpl_isTime n)]) [] R) Try.f20 Himpl_GoodBreaker (PkS.pack Simpl_GoodBreaker (x0, x1, x2, x3, x4, ())) k = impl_GoodBreaker n x0 x1 x2 x3 x4 (fun r0 => k (PkS.pack Timpl_GoodBreaker (r0, ()))) := by kernel_rfl
theorem okimpl_GoodBreaker (n : Nat) : FnOk Try.prog 20 (Kimpl_GoodBreaker n) := by
  refine fn_ok (sig := sig) mixed ttok (mkK_nat (cimpl_GoodBreaker n)) (mkK_ok (cimpl_GoodBreaker n)) (mkL_nat (mkK_nat (cimpl_GoodBreaker n)) (l := []) trivial) (fn := Try.f20) (c := bodyOf Try.f20) (by kernel_rfl) (by kernel_rfl) (by kernel_rfl) (.eq (l := []) (by kernel_rfl) trivial) (shs := Himpl_GoodBreaker) (S := Simpl_GoodBreaker) fun R p k => ?_
  unfold Kimpl_GoodBreaker
  cases h : (PkS.un Simpl_GoodBreaker p) with
  | none => rfl
  | some d =>
    obtain ⟨x0, x1, x2, x3, x4, u⟩ := (d : Int × Int × Int × Int × Int × Unit)
    have hp := PkS.un_pack h
    subst hp
    exact (eimpl_GoodBreaker n x0 x1 x2 x3 x4 k).symm

/-! ### (*loop.example/g00269/impl.Breaker).allows -/
theorem cimpl_Breaker_allows (n : Nat) : AllOk Try.prog [] := trivial
@[reducible] def Simpl_Breaker_allows : PkS := ⟨[.one (.box (200000, 0) 0), .one (.int .i64)], [((200000, 0), .box [.int .i64, .int .i64, .int .i64, .int .i64, .int .i64])]⟩
@[reducible] def Timpl_Breaker_allows : PkS := ⟨[.one (.bool), .one (.box (300000, 0) 0), .one (.dead)], [((300000, 0), .box [.int .i64, .int .i64, .int .i64, .int .i64, .int .i64])]⟩
def Himpl_Breaker_allows : List Sh := [.one .any, .box [.any, .any, .any, .any, .any], .skip]
def Kimpl_Breaker_allows (n : Nat) : KPs := fun R p k => match (PkS.un Simpl_Breaker_allows p : Option (Int × Int × Int × Int × Int × Int × Unit)) with
  | some (x0, x1, x2, x3, x4, x5, _) => impl_Breaker_allows n x0 x1 x2 x3 x4 x5 (fun r0 r1 r2 r3 r4 r5 => k (PkS.pack Timpl_Breaker_allows (r0, r1, r2, r3, r4, r5, ())))
  | none => none
theorem eimpl_Breaker_allows {R : Type} (n : Nat) (x0 : Int) (x1 : Int) (x2 : Int) (x3 : Int) (x4 : Int) (x5 : Int) (k : Pk → Option R) : evF tt sig (mkK [] R) (mkL (mkK []) [] R) Try.f60 Himpl_Breaker_allows (PkS.pack Simpl_Breaker_allows (x0, x1, x2, x3, x4, x5, ())) k = impl_Breaker_allows n x0 x1 x2 x3 x4 x5 (fun r0 r1 r2 r3 r4 r5 => k (PkS.pack Timpl_Breaker_allows (r0, r1, r2, r3, r4, r5, ()))) := by kernel_rfl
theorem okimpl_Breaker_allows (n : Nat) : FnOk Try.prog 60 (Kimpl_Breaker_allows n) := by
  refine fn_ok (sig := sig) mixed ttok (mkK_nat (cimpl_Breaker_allows n)) (mkK_ok (cimpl_Breaker_allows n)) (mkL_nat (mkK_nat (cimpl_Breaker_allows n)) (l := []) trivial) (fn := Try.f60) (c := bodyOf Try.f60) (by kernel_rfl) (by kernel_rfl) (by kernel_rfl) (.eq (l := []) (by kernel_rfl) trivial) (shs := Himpl_Breaker_allows) (S := Simpl_Breaker_allows) fun R p k => ?_
  unfold Kimpl_Breaker_allows
  cases h : (PkS.un Simpl_Breaker_allows p) with
  | none => rfl
  | some d =>
    obtain ⟨x0, x1, x2, x3, x4, x5, u⟩ := (d : Int × Int × Int × Int × Int × Int × Unit)
    have hp := PkS.un_pack h
    subst hp
    exact (eimpl_Breaker_allows n x0 x1 x2 x3 x4 x5 k).symm

/-! ### loop.example/g00269/impl.AllowsAt -/
theorem cimpl_AllowsAt (n : Nat) : AllOk Try.prog [(20, Kimpl_GoodBreaker n), (55, Kimpl_isTime n), (60, Kimpl_Breaker_allows n)] := ⟨okimpl_GoodBreaker n, ⟨okimpl_isTime n, ⟨okimpl_Breaker_allows n, trivial⟩⟩⟩
@[reducible] def Simpl_AllowsAt : PkS := ⟨[.agg [.int .i64, .int .i64, .int .i64, .int .i64, .int .i64], .one (.int .i64)], []⟩
@[reducible] def Timpl_AllowsAt : PkS := ⟨[.tup [(false, [.bool]), (false, [.bool])], .one (.dead), .one (.dead)], []⟩
def Himpl_AllowsAt : List Sh := [.tup [(false, [.any]), (false, [.any])], .skip, .skip]
def Kimpl_AllowsAt (n : Nat) : KPs := fun R p k => match (PkS.un Simpl_AllowsAt p : Option (Int × Int × Int × Int × Int × Int × Unit)) with
  | some (x0, x1, x2, x3, x4, x5, _) => impl_AllowsAt n x0 x1 x2 x3 x4 x5 (fun r0 r1 => k (PkS.pack Timpl_AllowsAt (r0, r1, ())))
  | none => none
theorem eimpl_AllowsAt {R : Type} (n : Nat) (x0 : Int) (x1 : Int) (x2 : Int) (x3 : Int) (x4 : Int) (x5 : Int) (k : Pk → Option R) : evF tt sig (mkK [(20, Kimpl_GoodBreaker n), (55, Kimpl_isTime n), (60, Kimpl_Breaker_allows n)] R) (mkL (mkK [(20, Kimpl_GoodBreaker n), (55, Kimpl_isTime n), (60, Kimpl_Breaker_allows n)]) [] R) Try.f29 Himpl_AllowsAt (PkS.pack Simpl_AllowsAt (x0, x1, x2, x3, x4, x5, ())) k = impl_AllowsAt n x0 x1 x2 x3 x4 x5 (fun r0 r1 => k (PkS.pack Timpl_AllowsAt (r0, r1, ()))) := by kernel_rfl
theorem okimpl_AllowsAt (n : Nat) : FnOk Try.prog 29 (Kimpl_AllowsAt n) := by
  refine fn_ok (sig := sig) mixed ttok (mkK_nat (cimpl_AllowsAt n)) (mkK_ok (cimpl_AllowsAt n)) (mkL_nat (mkK_nat (cimpl_AllowsAt n)) (l := []) trivial) (fn := Try.f29) (c := bodyOf Try.f29) (by kernel_rfl) (by kernel_rfl) (by kernel_rfl) (.eq (l := []) (by kernel_rfl) trivial) (shs := Himpl_AllowsAt) (S := Simpl_AllowsAt) fun R p k => ?_
  unfold Kimpl_AllowsAt
  cases h : (PkS.un Simpl_AllowsAt p) with
  | none => rfl
  | some d =>
    obtain ⟨x0, x1, x2, x3, x4, x5, u⟩ := (d : Int × Int × Int × Int × Int × Int × Unit)
    have hp := PkS.un_pack h
    subst hp
    exact (eimpl_AllowsAt n x0 x1 x2 x3 x4 x5 k).symm

/-! ### loop.example/g00269/laws.FnExactAllowsAt -/
theorem claws_FnExactAllowsAt (n : Nat) : AllOk Try.prog [(19, Klaws_toBreaker n), (28, Kspec_AllowsAt n), (29, Kimpl_AllowsAt n)] := ⟨oklaws_toBreaker n, ⟨okspec_AllowsAt n, ⟨okimpl_AllowsAt n, trivial⟩⟩⟩
@[reducible] def Slaws_FnExactAllowsAt : PkS := ⟨[.agg [.int .i64, .int .i64, .int .i64, .int .i64, .int .i64], .one (.int .i64)], []⟩
@[reducible] def Tlaws_FnExactAllowsAt : PkS := ⟨[.one (.bool), .one (.dead), .one (.dead)], []⟩
def Hlaws_FnExactAllowsAt : List Sh := [.one .any, .skip, .skip]
def Klaws_FnExactAllowsAt (n : Nat) : KPs := fun R p k => match (PkS.un Slaws_FnExactAllowsAt p : Option (Int × Int × Int × Int × Int × Int × Unit)) with
  | some (x0, x1, x2, x3, x4, x5, _) => laws_FnExactAllowsAt n x0 x1 x2 x3 x4 x5 (fun r0 => k (PkS.pack Tlaws_FnExactAllowsAt (r0, ())))
  | none => none
theorem elaws_FnExactAllowsAt {R : Type} (n : Nat) (x0 : Int) (x1 : Int) (x2 : Int) (x3 : Int) (x4 : Int) (x5 : Int) (k : Pk → Option R) : evF tt sig (mkK [(19, Klaws_toBreaker n), (28, Kspec_AllowsAt n), (29, Kimpl_AllowsAt n)] R) (mkL (mkK [(19, Klaws_toBreaker n), (28, Kspec_AllowsAt n), (29, Kimpl_AllowsAt n)]) [] R) Try.f7 Hlaws_FnExactAllowsAt (PkS.pack Slaws_FnExactAllowsAt (x0, x1, x2, x3, x4, x5, ())) k = laws_FnExactAllowsAt n x0 x1 x2 x3 x4 x5 (fun r0 => k (PkS.pack Tlaws_FnExactAllowsAt (r0, ()))) := by kernel_rfl
theorem oklaws_FnExactAllowsAt (n : Nat) : FnOk Try.prog 7 (Klaws_FnExactAllowsAt n) := by
  refine fn_ok (sig := sig) mixed ttok (mkK_nat (claws_FnExactAllowsAt n)) (mkK_ok (claws_FnExactAllowsAt n)) (mkL_nat (mkK_nat (claws_FnExactAllowsAt n)) (l := []) trivial) (fn := Try.f7) (c := bodyOf Try.f7) (by kernel_rfl) (by kernel_rfl) (by kernel_rfl) (.eq (l := []) (by kernel_rfl) trivial) (shs := Hlaws_FnExactAllowsAt) (S := Slaws_FnExactAllowsAt) fun R p k => ?_
  unfold Klaws_FnExactAllowsAt
  cases h : (PkS.un Slaws_FnExactAllowsAt p) with
  | none => rfl
  | some d =>
    obtain ⟨x0, x1, x2, x3, x4, x5, u⟩ := (d : Int × Int × Int × Int × Int × Int × Unit)
    have hp := PkS.un_pack h
    subst hp
    exact (elaws_FnExactAllowsAt n x0 x1 x2 x3 x4 x5 k).symm
end Go.Am.G
