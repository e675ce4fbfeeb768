/- The law holds for all arguments that the row lets in: the plain law, and the row. -/
import Derived.Test.YtkmjmhjfadaebaaG11
import Derived.Test.YtkmjmhjfadaebaaP11
import Derived.Test.YtkmjmhjfadaebaaAmB
import Derived.Test.YtkmjmhjfadaebaaRows
import Derived.WalkKit
import Derived.ProofKit
import Derived.OpenShut
import Derived.ShutString
import Derived.ChangeOld
import Derived.Carry
import Derived.SizedLaws
set_option linter.unusedVariables false
set_option maxRecDepth 100000
namespace Go.Proofs.Ytkmjmhjfadaebaa.L11
open Go Go.Am Go.Am.G Go.ChangeShapes Go.WideShapes Go.ChangeAt Go.RowKit
theorem own : ownKnob Try.prog.godebug = none := by kernel_rfl
theorem laid : laidOutB Try.prog = true := by kernel_rfl
set_option maxRecDepth 100000 in
theorem liftedlaws_FnExactNewState (pure : Plain) (os : Os) (started : os.Started) (H : Type) (enc : TypeId × Value → H) :
    ReturnsInHanded {} Try.checked os 11 .any (Rows.fnExactNewStateSpec.pre6 enc Try.prog Try.f11 Rows.fnExactNewStateRow.domain false) (Rows.fnExactNewStateSpec.post enc Try.prog Try.f11 false true false false) := by
  refine returnsInHanded_of_change_sized (C := Try.checked) own started (by kernel_rfl) (fn := Try.f11) (by kernel_rfl)
    (ChangeSpec.witness6 (enc := enc) (C := Try.checked) false ⟨#[], #[], []⟩ 8 (by kernel_rfl) (by kernel_rfl) (by kernel_rfl) (by kernel_rfl)) ?_
  intro W base args ds gs before hval hW hcnd hsz _
  have hW' := hW
  obtain ⟨p, q, hA, hV, rfl, hfz, hnd⟩ := hW
  have hA : DataW.TrodAll enc Try.prog W 0 (fun _ => true) true [] args.toList ds p := hA
  obtain ⟨hargs, rfl, rfl⟩ := trodAll_nil hA
  obtain rfl : args = #[] := by cases args; simp_all
  obtain ⟨rfl, rfl⟩ := trodVars_none hV
  obtain ⟨n, hn⟩ := pure   Pk (fun b => some (PkS.pack Tlaws_FnExactNewState (b, ())))
  have he : Klaws_FnExactNewState @laws_FnExactNewState n Pk ⟨[], []⟩ some = laws_FnExactNewState n  (fun b => some (PkS.pack Tlaws_FnExactNewState (b, ()))) := by kernel_rfl
  refine (law_calls (args := #[]) (avs := []) (b := true) (oklaws_FnExactNewState n) (fn := Try.f11) (c := bodyOf Try.f11) (by kernel_rfl) (by kernel_rfl) (by kernel_rfl) trivial (he.trans hn)).mono fun e W' ⟨he, bel⟩ => ?_
  subst he
  exact ⟨_, rfl, _, _, _, [], _, [], hW', trodAll_mk1 (shut_bool (t := 4) (by kernel_rfl) _), trodAll_mk0, rfl, bel.frame _, fun h => by cases h⟩
theorem overlaws_FnExactNewState (pure : Plain) : Rows.fnExactNewStateRow.holds Try.pinned (OpenSpec.ofChange Rows.fnExactNewStateSpec) :=
  OpenClaim.holds_of_wide 11 Try.f11 rfl rfl rfl rfl rfl rfl rfl ⟨rfl, rfl, rfl, rfl, rfl⟩ rfl rfl rfl rfl rfl (by kernel_rfl) (by kernel_rfl) (by kernel_rfl)
    (of_decide_eq_true (by kernel_rfl)) (by unfold Func.isWrapper; first | (rw [if_pos (by decide +kernel)]; kernel_rfl) | (rw [if_neg (by decide +kernel)]; exact ⟨rfl, rfl⟩))
    (fun os started H enc _ => liftedlaws_FnExactNewState pure os started H enc)
end Go.Proofs.Ytkmjmhjfadaebaa.L11
namespace Go.Proofs.Ytkmjmhjfadaebaa
theorem fnExactNewState_holds : Rows.FnExactNewStateSaid := L11.overlaws_FnExactNewState Go.Am.G.plain
end Go.Proofs.Ytkmjmhjfadaebaa
