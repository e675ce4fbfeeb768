/- The law holds for all arguments that the row lets in: the plain law, and the row. -/
import Derived.Test.YtkmjmhjfadaebaaG6
import Derived.Test.YtkmjmhjfadaebaaRows
import Derived.WalkKit
import Derived.ProofKit
import Derived.OpenShut
import Derived.ShutString
import Derived.ChangeOld
import Derived.Carry
import Derived.SizedLaws
set_option linter.unusedVariables false
set_option maxRecDepth 100000
namespace Go.Proofs.Ytkmjmhjfadaebaa.L6
open Go Go.Am Go.Am.G6 Go.ChangeShapes Go.WideShapes Go.ChangeAt Go.RowKit
theorem own : ownKnob Try.prog.godebug = none := by kernel_rfl
theorem laid : laidOutB Try.prog = true := by kernel_rfl
/-- The plain law. -/
def Puref6 : Prop := ∀ (d0 : Kd.den (.int .i64)) (d1 : Kd.den (.int .i64)), wfK (.int .i64) d0 → wfK (.int .i64) d1 → ∃ n, f6 (R := Pk) n d0 d1 (fun b => some (PkS.pack Tf6 (b, ()))) = some (PkS.pack Tf6 (true, ()))
set_option maxRecDepth 100000 in
theorem liftedf6 (pure : Puref6) (os : Os) (started : os.Started) (H : Type) (enc : TypeId × Value → H) :
    ReturnsInHanded {} Try.checked os 6 .any (Rows.fnExactNewBreakerSpec.pre6 enc Try.prog Try.f6 Rows.fnExactNewBreakerRow.domain false) (Rows.fnExactNewBreakerSpec.post enc Try.prog Try.f6 false true false false) := by
  refine returnsInHanded_of_change_sized (C := Try.checked) own started (by kernel_rfl) (fn := Try.f6) (by kernel_rfl)
    (ChangeSpec.witness6 (enc := enc) (C := Try.checked) false ⟨#[], #[.int .i64 0, .int .i64 0], []⟩ 8 (by kernel_rfl) (by kernel_rfl) (by kernel_rfl) (by kernel_rfl)) ?_
  intro W base args ds gs before hval hW hcnd hsz _
  have hW' := hW
  obtain ⟨p, q, hA, hV, rfl, hfz, hnd⟩ := hW
  have hA : DataW.TrodAll enc Try.prog W 0 (fun _ => true) true [3, 3] args.toList ds p := hA
  obtain ⟨v0, vs0, e0, es0, p0, q0, hargs, rfl, rfl, h0, r0⟩ := trodAll_cons hA
  obtain ⟨v1, vs1, e1, es1, p1, q1, rfl, rfl, rfl, h1, r1⟩ := trodAll_cons r0
  obtain ⟨rfl, rfl, rfl⟩ := trodAll_nil r1
  obtain rfl : args = #[v0, v1] := by cases args; simp_all
  obtain ⟨rfl, rfl⟩ := trodVars_none hV
  have k0 := h0
  obtain ⟨fuel0, t0⟩ := h0
  obtain ⟨x0, rfl⟩ := WideShapes.okWide_int (t := 3) (show Try.prog.underlying 3 = some (.int .i64) by kernel_rfl) (hval 0 3 v0 rfl rfl)
  obtain ⟨d0, rd0, wf0⟩ := trod_rd 12 (k := (.int .i64)) (by kernel_rfl) t0
  have lt0 : ∀ x ∈ p0, x.block < W.heap.size := fun x hx => DataW.trod_lt _ _ _ _ t0 x hx
  have k1 := h1
  obtain ⟨fuel1, t1⟩ := h1
  obtain ⟨x1, rfl⟩ := WideShapes.okWide_int (t := 3) (show Try.prog.underlying 3 = some (.int .i64) by kernel_rfl) (hval 1 3 v1 rfl rfl)
  obtain ⟨d1, rd1, wf1⟩ := trod_rd 12 (k := (.int .i64)) (by kernel_rfl) t1
  have lt1 : ∀ x ∈ p1, x.block < W.heap.size := fun x hx => DataW.trod_lt _ _ _ _ t1 x hx
  obtain ⟨n, hn⟩ := pure d0 d1 wf0 wf1
  have he : Kf6 n Pk ⟨[.one (cellOf (.int .i64) d0 0), .one (cellOf (.int .i64) d1 0)], []⟩ some = f6 n d0 d1 (fun b => some (PkS.pack Tf6 (b, ()))) := by kernel_rfl
  refine (law_calls (args := #[.int .i64 x0, .int .i64 x1]) (avs := [.one (cellOf (.int .i64) d0 0), .one (cellOf (.int .i64) d1 0)]) (b := true) (okf6 n) (fn := Try.f6) (c := bodyOf Try.f6) (by kernel_rfl) (by kernel_rfl) (by kernel_rfl) ⟨arg_one rd0, ⟨arg_one rd1, trivial⟩⟩ (he.trans hn)).mono fun e W' ⟨he, bel⟩ => ?_
  subst he
  exact ⟨_, rfl, _, _, _, [], _, [], hW', trodAll_mk1 (shut_bool (t := 4) (by kernel_rfl) _), (trodAll_cons_mk (Below.trod laid (by kernel_rfl) (of_decide_eq_true (by kernel_rfl)) k0 bel lt0) (trodAll_cons_mk (Below.trod laid (by kernel_rfl) (of_decide_eq_true (by kernel_rfl)) k1 bel lt1) trodAll_mk0)), rfl, bel.frame _, fun h => by cases h⟩
theorem overf6 (pure : Puref6) : Rows.fnExactNewBreakerRow.holds Try.pinned (OpenSpec.ofChange Rows.fnExactNewBreakerSpec) :=
  OpenClaim.holds_of_wide 6 Try.f6 rfl rfl rfl rfl rfl rfl rfl ⟨rfl, rfl, rfl, rfl, rfl⟩ rfl rfl rfl rfl rfl (by kernel_rfl) (by kernel_rfl) (by kernel_rfl)
    (of_decide_eq_true (by kernel_rfl)) (by unfold Func.isWrapper; first | (rw [if_pos (by decide +kernel)]; kernel_rfl) | (rw [if_neg (by decide +kernel)]; exact ⟨rfl, rfl⟩))
    (fun os started H enc _ => liftedf6 pure os started H enc)
end Go.Proofs.Ytkmjmhjfadaebaa.L6

set_option linter.unusedVariables false
namespace Go.Proofs.Ytkmjmhjfadaebaa.L6
open Go Go.Am Go.Am.G6
theorem key6 (a b : Int) : f6 (R := Pk) 0 a b (fun b => some (PkS.pack Tf6 (b, ()))) = some (PkS.pack Tf6 (true, ())) := by
  simp only [f6, f25, f53, f26, f20, f54, f55, f27]
  have e1 : (a != a) = false := bne_self_eq_false a
  have e2 : (b != b) = false := bne_self_eq_false b
  rw [e1, e2]
  by_cases h : a ≥ 1
  · have q1 : decide (0 ≤ a) = true := decide_eq_true (by omega)
    have q2 : decide (0 < a) = true := decide_eq_true (by omega)
    rw [q1, q2, decide_eq_true h]
    generalize decide (a ≤ 20) = p2
    generalize decide (b ≥ 1) = p3
    generalize decide (b ≤ 10000) = p4
    cases p2 <;> cases p3 <;> cases p4 <;> rfl
  · rw [decide_eq_false h]; rfl
theorem pure6 : Puref6 := fun a b _ _ => ⟨0, key6 a b⟩
end Go.Proofs.Ytkmjmhjfadaebaa.L6
namespace Go.Proofs.Ytkmjmhjfadaebaa
theorem newBreaker_holds : Rows.FnExactNewBreakerSaid := L6.overf6 L6.pure6
end Go.Proofs.Ytkmjmhjfadaebaa
