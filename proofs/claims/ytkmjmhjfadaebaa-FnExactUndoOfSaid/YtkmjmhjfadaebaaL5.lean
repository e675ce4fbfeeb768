/- The law holds for all arguments that the row lets in: the plain law, and the row. -/
import Derived.Test.YtkmjmhjfadaebaaG5
import Derived.Test.YtkmjmhjfadaebaaRows
import Derived.WalkKit
import Derived.ProofKit
import Derived.OpenShut
import Derived.ShutString
import Derived.ChangeOld
import Derived.Carry
import Derived.SizedLaws
set_option linter.unusedVariables false
set_option maxRecDepth 100000
namespace Go.Proofs.Ytkmjmhjfadaebaa.L5
open Go Go.Am Go.Am.G5 Go.ChangeShapes Go.WideShapes Go.ChangeAt Go.RowKit
theorem own : ownKnob Try.prog.godebug = none := by kernel_rfl
theorem laid : laidOutB Try.prog = true := by kernel_rfl
/-- The plain law. -/
def Puref5 : Prop := ∀ (d0 : Kd.den (.pr (.int .i64) (.pr (.int .i64) (.int .i64)))), wfK (.pr (.int .i64) (.pr (.int .i64) (.int .i64))) d0 → ∃ n, f5 (R := Pk) n d0.1 d0.2.1 d0.2.2 (fun b => some (PkS.pack Tf5 (b, ()))) = some (PkS.pack Tf5 (true, ()))
set_option maxRecDepth 100000 in
theorem liftedf5 (pure : Puref5) (os : Os) (started : os.Started) (H : Type) (enc : TypeId × Value → H) :
    ReturnsInHanded {} Try.checked os 5 .any (Rows.fnExactUndoOfSpec.pre6 enc Try.prog Try.f5 Rows.fnExactUndoOfRow.domain false) (Rows.fnExactUndoOfSpec.post enc Try.prog Try.f5 false true false false) := by
  refine returnsInHanded_of_change_sized (C := Try.checked) own started (by kernel_rfl) (fn := Try.f5) (by kernel_rfl)
    (ChangeSpec.witness6 (enc := enc) (C := Try.checked) false ⟨#[], #[.agg #[.int .i64 0, .int .i64 0, .int .i64 0]], []⟩ 8 (by kernel_rfl) (by kernel_rfl) (by kernel_rfl) (by kernel_rfl)) ?_
  intro W base args ds gs before hval hW hcnd hsz _
  have hW' := hW
  obtain ⟨p, q, hA, hV, rfl, hfz, hnd⟩ := hW
  have hA : DataW.TrodAll enc Try.prog W 0 (fun _ => true) true [35] args.toList ds p := hA
  obtain ⟨v0, vs0, e0, es0, p0, q0, hargs, rfl, rfl, h0, r0⟩ := trodAll_cons hA
  obtain ⟨rfl, rfl, rfl⟩ := trodAll_nil r0
  obtain rfl : args = #[v0] := by cases args; simp_all
  obtain ⟨rfl, rfl⟩ := trodVars_none hV
  have k0 := h0
  obtain ⟨fuel0, t0⟩ := h0
  obtain ⟨c0, rfl⟩ := okWide_agg (P := Try.prog) (t := 35) (by kernel_rfl) (hval 0 35 v0 rfl rfl)
  obtain ⟨d0, rd0, wf0⟩ := trod_rd 12 (k := (.pr (.int .i64) (.pr (.int .i64) (.int .i64)))) (by kernel_rfl) t0
  have lt0 : ∀ x ∈ p0, x.block < W.heap.size := fun x hx => DataW.trod_lt _ _ _ _ t0 x hx
  obtain ⟨n, hn⟩ := pure d0 wf0
  have he : Kf5 n Pk ⟨[.agg (cellsOf (.pr (.int .i64) (.pr (.int .i64) (.int .i64))) d0 0 (Kd.size (.pr (.int .i64) (.pr (.int .i64) (.int .i64)))))], []⟩ some = f5 n d0.1 d0.2.1 d0.2.2 (fun b => some (PkS.pack Tf5 (b, ()))) := by kernel_rfl
  refine (law_calls (args := #[.agg c0]) (avs := [.agg (cellsOf (.pr (.int .i64) (.pr (.int .i64) (.int .i64))) d0 0 (Kd.size (.pr (.int .i64) (.pr (.int .i64) (.int .i64)))))]) (b := true) (okf5 n) (fn := Try.f5) (c := bodyOf Try.f5) (by kernel_rfl) (by kernel_rfl) (by kernel_rfl) ⟨arg_agg rd0, trivial⟩ (he.trans hn)).mono fun e W' ⟨he, bel⟩ => ?_
  subst he
  exact ⟨_, rfl, _, _, _, [], _, [], hW', trodAll_mk1 (shut_bool (t := 4) (by kernel_rfl) _), (trodAll_cons_mk (Below.trod laid (by kernel_rfl) (of_decide_eq_true (by kernel_rfl)) k0 bel lt0) trodAll_mk0), rfl, bel.frame _, fun h => by cases h⟩
theorem overf5 (pure : Puref5) : Rows.fnExactUndoOfRow.holds Try.pinned (OpenSpec.ofChange Rows.fnExactUndoOfSpec) :=
  OpenClaim.holds_of_wide 5 Try.f5 rfl rfl rfl rfl rfl rfl rfl ⟨rfl, rfl, rfl, rfl, rfl⟩ rfl rfl rfl rfl rfl (by kernel_rfl) (by kernel_rfl) (by kernel_rfl)
    (of_decide_eq_true (by kernel_rfl)) (by unfold Func.isWrapper; first | (rw [if_pos (by decide +kernel)]; kernel_rfl) | (rw [if_neg (by decide +kernel)]; exact ⟨rfl, rfl⟩))
    (fun os started H enc _ => liftedf5 pure os started H enc)
end Go.Proofs.Ytkmjmhjfadaebaa.L5

set_option linter.unusedVariables false
namespace Go.Proofs.Ytkmjmhjfadaebaa.L5
open Go Go.Am Go.Am.G5
theorem key5 (a b c : Int) : f5 (R := Pk) 0 a b c (fun b => some (PkS.pack Tf5 (b, ()))) = some (PkS.pack Tf5 (true, ())) := by
  simp only [f5, f22, f21, f53, f56, f57, f54, f58, f59, f23, f24]
  generalize decide (a ≥ 0) = p1
  generalize decide (a ≤ IntKind.wrap .i64 (8 - 1)) = p2
  generalize decide (b ≥ 0) = p3
  generalize decide (b ≤ IntKind.wrap .i64 (8 - 1)) = p4
  generalize (a != b) = p5
  generalize decide (c ≥ 1) = p6
  generalize decide (c ≤ 1000) = p7
  have e1 : (a != a) = false := bne_self_eq_false a
  have e2 : (b != b) = false := bne_self_eq_false b
  have e3 : (c != c) = false := bne_self_eq_false c
  have e4 : ((0 : Int) != 0) = false := rfl
  rw [e1, e2, e3, e4]
  cases p1 <;> cases p2 <;> cases p3 <;> cases p4 <;> cases p5 <;> cases p6 <;> cases p7 <;> rfl
theorem pure5 : Puref5 := fun ⟨a, b, c⟩ _ => ⟨0, key5 a b c⟩
end Go.Proofs.Ytkmjmhjfadaebaa.L5
namespace Go.Proofs.Ytkmjmhjfadaebaa
theorem undoOf_holds : Rows.FnExactUndoOfSaid := L5.overf5 L5.pure5
end Go.Proofs.Ytkmjmhjfadaebaa
